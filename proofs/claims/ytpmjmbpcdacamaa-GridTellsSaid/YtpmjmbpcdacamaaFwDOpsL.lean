/-
append, as an operation: the law.
-/
import Derived.Test.YtpmjmbpcdacamaaFwDOpsK
namespace Go.D
open Go.RowKit

variable {P : Program} {fm : FM}

/-- A list on a row that has just been settled. -/
theorem rel_listOn {G : Gh} {tag n r len cap : Nat} {tk : Tk} {ys : List DV} (f : Nat → Value) (hlen : ys.length = len) (hn : ∀ y ∈ ys, y.leaves.length = n) (hp : (flat ys).all DV.pure = true) (hr : ∀ i, i < len * n → G.ro r i = some (f i))
    (hc : ∀ i (h : i < (flat ys).length), Rel fm G ((flat ys)[i]) (f i)) (hk : tkOk G n tk r 0 len cap) (hl : len ≤ cap) : Rel fm G (.list tag n tk true ys) (.slice (some ⟨r, 0, none⟩) len cap) := by
  subst hlen
  refine .list tag n tk ys r 0 cap f (fun i hi => ?_) hc hp hk hl hn
  rw [Nat.zero_add]
  exact hr i (by rw [← flat_length ys n hn]; exact hi)

theorem one_all {G : Gh} {news : List DV} {N : Array Value} (hN : N.size = news.length) (rN : ∀ i (h : i < news.length), Rel fm G (news[i]) (N.getD i undef)) (hsc : news.all DV.scal = true) : ∀ u ∈ N.toList, u.oneCell' = true := by
  intro u hu
  obtain ⟨j, hj, rfl⟩ := List.getElem_of_mem hu
  have hj' : j < news.length := by rw [← hN]; simpa using hj
  have h1 := rN j hj'
  rw [← getD_toList, List.getD_eq_getElem?_getD, List.getElem?_eq_getElem hj] at h1
  exact scal_one h1 (List.all_eq_true.1 hsc _ (List.getElem_mem hj'))

theorem opsim_append {t u e : TypeId} {n bytes : Nat} {ag : Bool} {zs : List DV} {i : TypeInfo} {x y : X} {xo yo : Operand} {o : Oper} (ho : builtinCall .append [xo, yo] [t, u] o.op) (ht : P.underlying t = some (.slice e)) (hu : appArgOk P u = true)
    (hi : P.info? e = some i) (hn : i.size = n) (hby : i.bytes = bytes) (hz : zeroCellsD P e = some zs) (hzl : zs.length = n) (hag : ag = true ∨ n = 1) (hx : XRel fm x xo) (hy : XRel fm y yo) : OpSimAll P fm (.append n ag bytes x y) o := by
  intro CR G w0 st w fr a v st' hs hf hrun
  simp only [stepD, appendD] at hrun
  have hxv := hx.ev (a := a) hf
  have hyv := hy.ev (a := a) hf
  split at hrun
  · cases hrun
  rename_i m news hnews
  have hnr := news_rel (P := P) hs hyv hnews
  generalize hx0 : a.eval xo = x0 at hxv
  generalize hy0 : a.eval yo = y0 at hyv hnr
  obtain ⟨N, n1, n2, n3⟩ := hnr.cells m w (Nat.le_refl _) (Below.refl _ w)
  obtain ⟨N', d1, d2, d3⟩ := hnr.cells m w.drew (Nat.le_refl _) ((Below.refl _ w).drew)
  have hnl := hnr.length
  obtain ⟨i', z, hi', hzz, hcc⟩ := zeroCellsD_get hz
  rw [hi] at hi'; cases hi'
  obtain ⟨zl, zr⟩ := cvalLs_rel (fm := fm) hcc
  have hzsz : z.cells.size = n := by rw [← hzl, ← zl]; simp
  have fin : ∀ (r : Value) (w' : World), (Builtin.append_ #[t, u] o.type #[x0, y0]).run P w = .ok r w' → (execOp a.eval o).run P w = .ok (.value r) w' := by
    intro r w' h
    obtain ⟨consts, he⟩ := exec_builtin ho a.eval
    rw [he]
    simp only [List.map_cons, List.map_nil, hx0, hy0]
    unfold builtin
    exact andThen_value h
  have none0 : ∀ (p : Option Addr) (l c : Nat), m = 0 → x0 = .slice p l c → l ≤ c → (Builtin.append_ #[t, u] o.type #[x0, y0]).run P w = .ok x0 w := by
    intro p l c hm hp hlc
    subst hm
    have hN0 : N = #[] := by simpa using n2
    rw [hp]
    rw [← hn] at n1
    have := run_append_fit (P := P) (w := w) (w' := w) (ty := o.type) (a := p) (sLen := l) (sCap := c) (m := 0) (x := y0) (news := N) ht hi hu hnr.len (by omega) n1 (by subst hN0; cases p <;> rfl)
    simpa using this
  generalize X.ev fr x = xv at hxv hrun
  split at hrun
  · -- a list
    rename_i tag n' tk nn xs
    have hshape : ∃ p cap, x0 = .slice p xs.length cap ∧ xs.length ≤ cap := by
      cases hxv with
      | nils => exact ⟨none, 0, rfl, Nat.le_refl _⟩
      | list _ _ _ _ r off cap f hr hc hp hk hl hnn => exact ⟨_, cap, rfl, hl⟩
    obtain ⟨p, cap, hxe, hlc⟩ := hshape
    split at hrun
    · rename_i hm
      simp only [Option.some.injEq, Prod.mk.injEq] at hrun
      obtain ⟨rfl, rfl⟩ := hrun
      exact ⟨G, w, x0, _, fin _ _ (none0 p _ _ hm hxe hlc), .inl rfl, Gh.le.refl G, hs, hxv⟩
    rename_i hm
    split at hrun
    · cases hrun
    rename_i hcond
    simp only [not_or, Bool.not_eq_true, Bool.not_eq_false'] at hcond
    obtain ⟨hn0, hnn', hb1, hb2, hpure⟩ := hcond
    have hpure : (news.map DV.demote).all DV.pure = true := by simpa using hpure
    have hn0 : 0 < n := by omega
    have hb1 : (xs.length + m) * bytes ≤ 140737488355328 := by simpa [roomD] using hb1
    have hb2 : xs.length + m ≤ 140737488355328 := by simpa [roomD] using hb2
    have hml : (news.map DV.demote).length = m * n := by simpa using hnl
    -- what the list holds
    have hold : NewsRel P fm G w n xs.length (flat xs) x0 ∧ (∀ y ∈ xs, y.leaves.length = n) ∧ (flat xs).all DV.pure = true := by
      cases hxv with
      | nils => exact ⟨news_rel (P := P) hs (.nils tag n' tk) (by simp [newsD, flat]), fun y hy => by simp at hy, rfl⟩
      | list _ _ _ _ r off cap f hr hc hp hk hl hnn =>
        have : n' = n := by simpa using hnn'
        subst this
        exact ⟨news_rel (P := P) hs (.list tag n' tk xs r off cap f hr hc hp hk hl hnn) (by simp [newsD]), hnn, hp⟩
    obtain ⟨hor, hxn, hxp⟩ := hold
    obtain ⟨O, o1, o2, o3⟩ := hor.cells xs.length w.drew (Nat.le_refl _) ((Below.refl _ w).drew)
    have hfx := flat_length xs n hxn
    have hfc := flat_chunk n ag hag m (news.map DV.demote) hml hpure
    have hlc' := length_chunk n ag m (news.map DV.demote)
    generalize hys : xs ++ chunk n ag m (news.map DV.demote) = ys at hrun
    have hyf : flat ys = flat xs ++ news.map DV.demote := by rw [← hys, flat_append, hfc]
    have hyl : ys.length = xs.length + m := by rw [← hys]; simp [hlc']
    have hyn : ∀ y ∈ ys, y.leaves.length = n := by
      intro y hy
      rw [← hys] at hy
      rcases List.mem_append.1 hy with h | h
      · exact hxn y h
      · exact leaves_chunk n ag hag m _ hml hpure y h
    have hyp : (flat ys).all DV.pure = true := by rw [hyf, List.all_append, hxp, hpure]; rfl
    -- a row laid anew
    have grown : ∀ (t0 s0 : Nat) (toks : List Nat), (∀ s', st.toks[t0]? = some s' → s' < s0) → toks[t0]? = some s0 → (∀ u x, u ≠ t0 → (toks[u]? = some x ↔ st.toks[u]? = some x)) → cap < xs.length + m →
        ∃ G' w' x nx, (execOp a.eval o).run P w = .ok nx w' ∧ nextIs nx x ∧ G.le G' ∧ Sim fm CR G' w0 { st with toks := toks } w' ∧ Rel fm G' (.list st.cur n (.own t0 s0) true ys) x := by
      intro t0 s0 toks h1 h2 h3 hg
      have hge := grownCap_ge w (xs.length + m) cap e
      have hd1 := d1
      rw [← hn] at hd1
      have ho1 := o1
      rw [← hn, hxe] at ho1
      have hr := run_append_more (P := P) (w := w) (u := u) (ty := o.type) (z := z) (a := p) (sLen := xs.length) (sCap := cap) (m := m) (x := y0) (olds := O) (news := N') ht hi hzz hu hnr.len hg (by rw [hby]; omega) (by omega) ho1 hd1
      rw [← hxe] at hr
      have hsz : (O ++ N' ++ Builtin.zeroCells z.cells (grownCap w (xs.length + m) cap e - (xs.length + m))).size = grownCap w (xs.length + m) cap e * n := by
        simp only [Array.size_append, o2, d2, size_zeroCells, hzsz, ← Nat.add_mul]
        congr 1; omega
      obtain ⟨G', g1, g2, g3, g4⟩ := sim_grown hs (t := t0) (s := s0) (n := n) (len := xs.length + m) (cap := grownCap w (xs.length + m) cap e) (toks := toks) (arr := O ++ N' ++ Builtin.zeroCells z.cells (grownCap w (xs.length + m) cap e - (xs.length + m))) (e := e) h1 h2 h3 hn0 hge hsz
      refine ⟨G', _, _, _, fin _ _ hr, .inl rfl, g1, g2, ?_⟩
      refine rel_listOn _ hyl hyn hyp g3 (fun i hi => ?_) ⟨rfl, g4⟩ hge
      have := laid_rel (fm := fm) (G := G') (olds := flat xs) (news := news.map DV.demote) (O := O) (N := N') (Z := Builtin.zeroCells z.cells (grownCap w (xs.length + m) cap e - (xs.length + m))) (by rw [o2, hfx]) (by rw [d2, hml])
        (fun i hi => (o3 i hi (by rw [← hfx]; exact hi)).le g1) (fun i hi => by
          rw [demote_map_get]
          have hi' : i < news.length := by simpa using hi
          exact ((d3 i hi' (by omega)).le g1).demote) i (by rw [← hyf]; exact hi)
      have e1 : (flat ys)[i] = (flat xs ++ news.map DV.demote)[i]'(by rw [← hyf]; exact hi) := by congr 1
      rw [e1]
      exact this
    split at hrun
    · -- nil
      simp only [Option.some.injEq, Prod.mk.injEq] at hrun
      obtain ⟨rfl, rfl⟩ := hrun
      cases hxv
      simp only [Value.slice.injEq] at hxe
      obtain ⟨rfl, _, rfl⟩ := hxe
      exact grown st.toks.length 0 (st.toks ++ [0]) (fun s' h => by simp at h) (by simp) (fun u x hu => by
          constructor
          · intro h; rcases get?_append_cases h with h | h; exact h.2; exact absurd h.1 hu
          · intro h; rw [List.getElem?_append_left (List.getElem?_eq_some_iff.1 h).1]; exact h) (by simp; omega)
    · -- nothing behind it
      simp only [Option.some.injEq, Prod.mk.injEq] at hrun
      obtain ⟨rfl, rfl⟩ := hrun
      have hcap : cap = xs.length := by
        cases hxv with
        | list _ _ _ _ r off cap' f hr hc hp hk hl hnn =>
          simp only [Value.slice.injEq] at hxe
          rw [← hxe.2.2]; exact hk
      exact grown st.toks.length 0 (st.toks ++ [0]) (fun s' h => by simp at h) (by simp) (fun u x hu => by
          constructor
          · intro h; rcases get?_append_cases h with h | h; exact h.2; exact absurd h.1 hu
          · intro h; rw [List.getElem?_append_left (List.getElem?_eq_some_iff.1 h).1]; exact h) (by omega)
    · -- a list of our own
      rename_i t0 s0
      split at hrun
      · rename_i htok
        obtain ⟨htb, ht0⟩ := htok
        simp only [Option.some.injEq, Prod.mk.injEq] at hrun
        obtain ⟨rfl, rfl⟩ := hrun
        have hlt : t0 < st.toks.length := (List.getElem?_eq_some_iff.1 ht0).1
        by_cases hg : cap < xs.length + m
        · exact grown t0 (s0 + 1) (st.toks.set t0 (s0 + 1)) (fun s' h => by rw [ht0] at h; cases h; omega) (by simp [hlt]) (fun u x hu => by rw [List.getElem?_set_ne (fun e => hu e.symm)]) hg
        · cases hxv with
          | list _ _ _ _ r off cap' f hr hc hp hk hl hnn =>
            simp only [Value.slice.injEq] at hxe
            obtain ⟨hpe, _, hce⟩ := hxe
            subst hce; subst hpe
            obtain ⟨hoff, hhist⟩ := hk
            subst hoff
            have : n' = n := by simpa using hnn'
            subst this
            obtain ⟨G', w', g1, g2, g3, g4, g5⟩ := sim_inplace (P := P) hs ht0 htb hhist (m := m) (N := N.toList) (by omega) (by simpa using n2) (one_all (G := G) (news := news) (by rw [n2, hnl]) (fun i hi => n3 i hi (by omega)) hnr.scal)
            have hn1 := n1
            rw [← hn] at hn1
            have hr' := run_append_fit (P := P) (w := w) (w' := w') (ty := o.type) (a := some ⟨r, 0, none⟩) (sLen := xs.length) (sCap := cap') (m := m) (x := y0) (news := N) ht hi hu hnr.len (by omega) hn1 (by
              show (storeCells ((⟨r, 0, none⟩ : Addr).add (xs.length * i.size)) N.toList).run P w = .ok () w'
              rw [Addr.add_lit, Nat.zero_add, hn]; exact g1)
            refine ⟨G', w', _, _, fin _ _ hr', .inl rfl, g2, g3, ?_⟩
            refine rel_listOn (fun j => if j < xs.length * n' then f j else N.getD (j - xs.length * n') undef) hyl hyn hyp (fun j hj => ?_) (fun j hj => ?_) ⟨rfl, g5⟩ (by omega)
            · by_cases ej : j < xs.length * n'
              · rw [if_pos ej]
                have := hr j (by rw [hfx]; exact ej)
                rw [Nat.zero_add] at this
                exact g2.toSub.ro _ _ _ this
              · rw [if_neg ej]
                have := g4 (j - xs.length * n') (by rw [Nat.add_mul] at hj; omega)
                have e2 : xs.length * n' + (j - xs.length * n') = j := by omega
                rw [e2, getD_toList] at this
                exact this
            · have hj' : j < (flat xs ++ news.map DV.demote).length := by rw [← hyf]; exact hj
              have e1 : (flat ys)[j] = (flat xs ++ news.map DV.demote)[j]'hj' := by congr 1
              rw [e1]
              by_cases ej : j < xs.length * n'
              · rw [if_pos ej, List.getElem_append_left (by rw [hfx]; exact ej)]
                exact (hc j _).le g2
              · rw [if_neg ej, List.getElem_append_right (by rw [hfx]; omega), demote_map_get]
                have hj2 : j - (flat xs).length < news.length := by
                  simp only [List.length_append, List.length_map] at hj'; omega
                have ek : j - xs.length * n' = j - (flat xs).length := by rw [hfx]
                rw [ek]
                exact ((n3 (j - (flat xs).length) hj2 (by omega)).le g2).demote
      · cases hrun
    · cases hrun
  · -- a row of the heap
    rename_i n' ag' b off len capx
    cases hxv with
    | hsl _ _ _ _ _ _ r c hmu hcap =>
    have hlc : len ≤ c := by
      cases capx with
      | none => exact hcap.1
      | some k => have := hcap.2; rw [hcap.1]; exact this
    split at hrun
    · rename_i hm
      simp only [Option.some.injEq, Prod.mk.injEq] at hrun
      obtain ⟨rfl, rfl⟩ := hrun
      exact ⟨G, w, _, _, fin _ _ (none0 _ _ _ hm rfl hlc), .inl rfl, Gh.le.refl G, hs, .hsl _ _ _ _ _ _ _ _ hmu hcap⟩
    rename_i hm
    split at hrun
    · rename_i hcond
      obtain ⟨rfl, hn0, hb1, hb2⟩ := hcond
      have hb1 : (len + m) * bytes ≤ 140737488355328 := by simpa [roomD] using hb1
      have hb2 : len + m ≤ 140737488355328 := by simpa [roomD] using hb2
      split at hrun
      · rename_i cap0
        split at hrun
        · rename_i hcond2
          obtain ⟨rfl, hbase⟩ := hcond2
          split at hrun
          · rename_i vs hcell
            split at hrun
            · rename_i hvl
              simp only [Option.some.injEq, Prod.mk.injEq] at hrun
              obtain ⟨rfl, rfl⟩ := hrun
              have hbo : st.heap[b]? = some (.cells .grown vs) := by
                unfold St.cells at hcell
                split at hcell
                · rename_i g' vs' e; simp only [Option.some.injEq, Prod.mk.injEq] at hcell; obtain ⟨rfl, rfl⟩ := hcell; exact e
                · cases hcell
              obtain ⟨r', ob, q1, q2, q3, q4⟩ := hs.obj b _ hbo rfl (hs.np hmu)
              rw [hmu] at q1; cases q1
              obtain ⟨cs, ty, fz, rfl, k1, k2, k3, k4, k5⟩ := q3
              have hro : ∀ i, G.ro r i = none := by
                intro i
                cases er : G.ro r i with
                | none => rfl
                | some v => exact absurd hmu (fun h => hs.roMu r i v b _ er hbo rfl h)
              have htk : ∀ u x y, st.toks[u]? = some x → G.hist u x = some y → y.1 ≠ r := by
                intro u x y hu hy e
                obtain ⟨r', len', cap', n'', cs', ty', h1, h2, h3, h4, h5, h6, h7, h8⟩ := hs.tok u x hu
                rw [hy] at h1; cases h1
                simp only at e
                subst e
                exact h7 b _ hbo rfl hmu
              have hgone := hs.goneAt b (hs.np hmu)
              have hfree : ∀ b' o, (st.heap.set b .gone)[b']? = some o → o.isGone = false → G.mu b' ≠ some r := by
                intro b' o hb' hg e
                rcases getElem?_set_cases _ _ _ _ _ hb' with ⟨rfl, rfl, _⟩ | ⟨e1, e2⟩
                · cases hg
                · exact e1 (hs.muInj _ _ _ _ _ e2 hbo hg rfl e hmu)
              have hset : (st.heap.set b .gone).length = st.heap.length := by simp
              have hscal : (vs ++ news).all DV.scal = true := by rw [List.all_append, k5, hnr.scal]; rfl
              have hcapo := hcap.2
              by_cases hg : c < len + m
              · -- a new row
                have hge := grownCap_ge w (len + m) c e
                have hor := news_rel (P := P) (n := n') (m := len) (news := (vs.drop 0).take (len * n')) hs (.hsl n' ag' b 0 len none r c hmu hcap) (by
                  simp only [newsD, if_true, St.cells, hbo]
                  rw [if_pos (by omega)])
                obtain ⟨O, o1, o2, o3⟩ := hor.cells len w.drew (Nat.le_refl _) ((Below.refl _ w).drew)
                have hvs : (vs.drop 0).take (len * n') = vs := by rw [List.drop_zero, List.take_of_length_le (by omega)]
                rw [hvs] at o3
                have hd1 := d1
                rw [← hn] at hd1 o1
                have hr := run_append_more (P := P) (w := w) (u := u) (ty := o.type) (z := z) (a := some ⟨r, 0, none⟩) (sLen := len) (sCap := c) (m := m) (x := y0) (olds := O) (news := N') ht hi hzz hu hnr.len hg (by rw [hby]; omega) (by omega) o1 hd1
                generalize harr : O ++ N' ++ Builtin.zeroCells z.cells (grownCap w (len + m) c e - (len + m)) = arr at hr
                have hsz : arr.size = grownCap w (len + m) c e * n' := by
                  rw [← harr]
                  simp only [Array.size_append, o2, d2, size_zeroCells, hzsz, ← Nat.add_mul]
                  congr 1; omega
                have hpush := hgone.drew.push (o := .cells .grown (vs ++ news)) (ob := .cells arr e) (grownCap w (len + m) c e * n') ⟨arr, e, (0, 0), rfl, by
                    rw [hsz, List.length_append, ← hvl, hnl, ← Nat.add_mul]; exact Nat.mul_le_mul_right _ hge, by simp [Gh.push, hsz], fun i hi => by
                      have := laid_rel (fm := fm) (G := G) (olds := vs) (news := news) (O := O) (N := N') (Z := Builtin.zeroCells z.cells (grownCap w (len + m) c e - (len + m))) (by rw [o2, hvl]) (by rw [d2, hnl])
                        (fun i hi => o3 i hi (by rw [hvl]; exact hi)) (fun i hi => d3 i hi (by omega)) i hi
                      rw [harr] at this
                      refine this.le ?_
                      have := hgone.muNone
                      exact Gh.le_push this, fun i hi => by simp, hscal⟩ rfl
                have hle : G.le (G.push (st.heap.set b .gone).length w.heap.size (grownCap w (len + m) c e * n')) := Gh.le_push hgone.muNone
                refine ⟨_, _, _, _, fin _ _ hr, .inl rfl, hle, hpush, ?_⟩
                rw [← hset]
                exact .hsl _ _ _ _ _ _ _ _ (by simp [Gh.push]) ⟨hge, by simp [Gh.push]⟩
              · -- in its own row
                have hcn : c * n' ≤ cs.size := by rw [k2]; omega
                have hmul : len * n' + m * n' ≤ cs.size := by
                  rw [← Nat.add_mul]; exact Nat.le_trans (Nat.mul_le_mul_right _ (by omega)) hcn
                have hNl : N.toList.length = m * n' := by simpa using n2
                have hst := run_storeCells_row (P := P) (off := len * n') N.toList 0 cs w q2 (by omega) k4 (one_all (G := G) (news := news) (by rw [n2, hnl]) (fun i hi => n3 i hi (by omega)) hnr.scal)
                rw [Nat.add_zero, setRow_putObj q2] at hst
                have hssz := size_spliceA (cur := cs) (k := len * n') (vs := N.toList) (by omega)
                have hput := hgone.putRow (cs' := spliceA cs (len * n') N.toList) q2 (q4 hbase) hfree hssz (fun i v hv => by rw [hro i] at hv; cases hv)
                have hrow : (w.putObj r (.cells (spliceA cs (len * n') N.toList) ty fz)).heap[r]? = some (.cells (spliceA cs (len * n') N.toList) ty fz) := by rw [putObj_heap w r r _ (get?_lt q2)]; simp
                have hlow : ∀ i, i < vs.length → (spliceA cs (len * n') N.toList).getD i undef = cs.getD i undef := by
                  intro i hi
                  unfold spliceA
                  rw [Array.getD_eq_getD_getElem?, Array.getD_eq_getD_getElem?, List.getElem?_toArray, List.append_assoc, List.getElem?_append_left (by simp; omega), List.getElem?_take, if_pos (by omega)]
                  simp
                have hhigh : ∀ i, i < news.length → (spliceA cs (len * n') N.toList).getD (vs.length + i) undef = N.getD i undef := by
                  intro i hi
                  unfold spliceA
                  have hiN : i < N.toList.length := by omega
                  have e3 : vs.length + i - (cs.toList.take (len * n')).length = i := by simp; omega
                  rw [Array.getD_eq_getD_getElem?, List.getElem?_toArray, List.append_assoc, List.getElem?_append_right (by simp; omega), e3, List.getElem?_append_left hiN, ← getD_toList, List.getD_eq_getElem?_getD]
                have hle : G.le (G.push (st.heap.set b .gone).length r cs.size) := Gh.le_push hgone.muNone
                have hadopt := hput.adopt (o := .cells .grown (vs ++ news)) cs.size hrow (q4 hbase) hfree hro htk ⟨_, ty, fz, rfl, by
                    rw [hssz, List.length_append, ← hvl, hnl]; exact hmul, by simp [Gh.push, hssz], fun i hi => by
                      by_cases ei : i < vs.length
                      · rw [List.getElem_append_left ei, hlow i ei]
                        exact (k3 i ei).le hle
                      · have hi2 : i - vs.length < news.length := by simp only [List.length_append] at hi; omega
                        rw [List.getElem_append_right (by omega)]
                        have e4 : vs.length + (i - vs.length) = i := by omega
                        have := hhigh (i - vs.length) hi2
                        rw [e4] at this
                        rw [this]
                        exact (n3 _ hi2 (by omega)).le hle, by rw [hssz]; exact k4, hscal⟩ rfl
                have hn1 := n1
                rw [← hn] at hn1
                have hr' := run_append_fit (P := P) (w := w) (w' := w.putObj r (.cells (spliceA cs (len * n') N.toList) ty fz)) (ty := o.type) (a := some ⟨r, 0, none⟩) (sLen := len) (sCap := c) (m := m) (x := y0) (news := N) ht hi hu hnr.len (by omega) hn1 (by
                  show (storeCells ((⟨r, 0, none⟩ : Addr).add (len * i.size)) N.toList).run P w = _
                  rw [Addr.add_lit, Nat.zero_add, hn]; exact hst)
                refine ⟨_, _, _, _, fin _ _ hr', .inl rfl, hle, hadopt, ?_⟩
                rw [← hset]
                exact .hsl _ _ _ _ _ _ _ _ (by simp [Gh.push]) ⟨by omega, by simp [Gh.push]; omega⟩
            · cases hrun
          · cases hrun
        · cases hrun
      · rename_i k
        obtain ⟨hck, hlk⟩ := hcap
        subst hck
        split at hrun
        · rename_i g vs hcell
          have hbo : st.heap[b]? = some (.cells g vs) := by
            unfold St.cells at hcell
            split at hcell
            · rename_i g' vs' e; simp only [Option.some.injEq, Prod.mk.injEq] at hcell; obtain ⟨rfl, rfl⟩ := hcell; exact e
            · cases hcell
          split at hrun
          · rename_i hfit
            split at hrun
            · rename_i hc3
              obtain ⟨hbase, hvl, hw⟩ := hc3
              simp only [Option.some.injEq, Prod.mk.injEq] at hrun
              obtain ⟨rfl, rfl⟩ := hrun
              obtain ⟨cur, ty, fz, k1, k2, k3, k4⟩ := sim_splice (P := P) hs hw hbo hbase (k := off + len * n') (ns := news) (xs := N.toList) hvl (by simp [n2, hnl]) (fun i hi => by rw [getD_toList]; exact n3 i hi (by omega)) hnr.scal
                (one_all (G := G) (news := news) (by rw [n2, hnl]) (fun i hi => n3 i hi (by omega)) hnr.scal) hmu
              have hn1 := n1
              rw [← hn] at hn1
              have hr' := run_append_fit (P := P) (w := w) (ty := o.type) (a := some ⟨r, off, none⟩) (sLen := len) (sCap := c) (m := m) (x := y0) (news := N) ht hi hu hnr.len hfit hn1 (by
                show (storeCells ((⟨r, off, none⟩ : Addr).add (len * i.size)) N.toList).run P w = _
                rw [Addr.add_lit, hn]; exact k3)
              exact ⟨G, _, _, _, fin _ _ hr', .inl rfl, Gh.le.refl G, k4, .hsl _ _ _ _ _ _ _ _ hmu ⟨rfl, hfit⟩⟩
            · cases hrun
          · rename_i hfit
            split at hrun
            · rename_i hvl
              simp only [Option.some.injEq, Prod.mk.injEq] at hrun
              obtain ⟨rfl, rfl⟩ := hrun
              have hge := grownCap_ge w (len + m) c e
              have hor := news_rel (P := P) (n := n') (m := len) (news := (vs.drop off).take (len * n')) hs (.hsl n' ag' b off len (some c) r c hmu ⟨rfl, hlk⟩) (by
                simp only [newsD, if_true, hcell]
                rw [if_pos hvl])
              obtain ⟨O, o1, o2, o3⟩ := hor.cells len w.drew (Nat.le_refl _) ((Below.refl _ w).drew)
              have hd1 := d1
              rw [← hn] at hd1 o1
              have hr := run_append_more (P := P) (w := w) (u := u) (ty := o.type) (z := z) (a := some ⟨r, off, none⟩) (sLen := len) (sCap := c) (m := m) (x := y0) (olds := O) (news := N') ht hi hzz hu hnr.len (by omega) (by rw [hby]; omega) (by omega) o1 hd1
              generalize harr : O ++ N' ++ Builtin.zeroCells z.cells (grownCap w (len + m) c e - (len + m)) = arr at hr
              have hsz : arr.size = grownCap w (len + m) c e * n' := by
                rw [← harr]
                simp only [Array.size_append, o2, d2, size_zeroCells, hzsz, ← Nat.add_mul]
                congr 1; omega
              have hol := hor.length
              have hpush := hs.drew.push (o := .cells .grown ((vs.drop off).take (len * n') ++ news)) (ob := .cells arr e) (grownCap w (len + m) c e * n') ⟨arr, e, (0, 0), rfl, by
                  rw [hsz, List.length_append, hol, hnl, ← Nat.add_mul]; exact Nat.mul_le_mul_right _ hge, by simp [Gh.push, hsz], fun i hi => by
                    have := laid_rel (fm := fm) (G := G) (olds := (vs.drop off).take (len * n')) (news := news) (O := O) (N := N') (Z := Builtin.zeroCells z.cells (grownCap w (len + m) c e - (len + m))) (by rw [o2, hol]) (by rw [d2, hnl])
                      (fun i hi => o3 i hi (by rw [← hol]; exact hi)) (fun i hi => d3 i hi (by omega)) i hi
                    rw [harr] at this
                    exact this.le (Gh.le_push hs.muNone), fun i hi => by simp, by rw [List.all_append, hor.scal, hnr.scal]; rfl⟩ rfl
              have hle : G.le (G.push st.heap.length w.heap.size (grownCap w (len + m) c e * n')) := Gh.le_push hs.muNone
              refine ⟨_, _, _, _, fin _ _ hr, .inl rfl, hle, hpush, ?_⟩
              exact .hsl _ _ _ _ _ _ _ _ (by simp [Gh.push]) ⟨hge, by simp [Gh.push]⟩
            · cases hrun
        · cases hrun
    · cases hrun
  · cases hrun

end Go.D
