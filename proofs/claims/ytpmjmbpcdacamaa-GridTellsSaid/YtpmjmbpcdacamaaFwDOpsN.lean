/-
append onto nothing, on the heap; clear.
-/
import Derived.Test.YtpmjmbpcdacamaaFwDOpsM
namespace Go.D
open Go.RowKit

variable {P : Program} {fm : FM}

theorem opsim_appendH {t u e : TypeId} {n bytes : Nat} {ag : Bool} {zs : List DV} {i : TypeInfo} {x y : X} {xo yo : Operand} {o : Oper} (ho : builtinCall .append [xo, yo] [t, u] o.op) (ht : P.underlying t = some (.slice e)) (hu : appArgOk P u = true)
    (hi : P.info? e = some i) (hn : i.size = n) (hby : i.bytes = bytes) (hz : zeroCellsD P e = some zs) (hzl : zs.length = n) (hag : ag = true ∨ n = 1) (hx : XRel fm x xo) (hy : XRel fm y yo) : OpSimAll P fm (.appendH n ag bytes x y) o := by
  intro CR G w0 st w fr a v st' hs hf hrun
  have hall := opsim_append (P := P) (fm := fm) ho ht hu hi hn hby hz hzl hag hx hy CR G w0 st w fr a v st' hs hf
  simp only [stepD, appendHD] at hrun hall
  have hxv := hx.ev (a := a) hf
  have hyv := hy.ev (a := a) hf
  split at hrun
  · rename_i tag n' tk hxe
    rw [hxe] at hxv
    split at hrun
    · rename_i m news hnews
      split at hrun
      · rename_i hm0
        refine hall ?_
        rw [hxe]
        simp only [appendD, hnews, hm0, if_true]
        rw [hxe] at hrun
        exact hrun
      split at hrun
      · rename_i hm00 hcond
        obtain ⟨hn0, hb1, hb2⟩ := hcond
        have hm0 : 0 < m := by omega
        simp only [Option.some.injEq, Prod.mk.injEq] at hrun
        obtain ⟨rfl, rfl⟩ := hrun
        have hb1 : m * bytes ≤ 140737488355328 := by simpa [roomD] using hb1
        have hb2 : m ≤ 140737488355328 := by simpa [roomD] using hb2
        have hnr := news_rel (P := P) hs hyv hnews
        generalize hx0 : a.eval xo = x0 at hxv
        generalize hy0 : a.eval yo = y0 at hyv hnr
        cases hxv
        obtain ⟨N', d1, d2, d3⟩ := hnr.cells m w.drew (Nat.le_refl _) ((Below.refl _ w).drew)
        have hnl := hnr.length
        obtain ⟨i', z, hi', hzz, hcc⟩ := zeroCellsD_get hz
        rw [hi] at hi'; cases hi'
        obtain ⟨zl, zr⟩ := cvalLs_rel (fm := fm) hcc
        have hzsz : z.cells.size = n := by rw [← hzl, ← zl]; simp
        have hd1 := d1
        rw [← hn] at hd1
        have hge := grownCap_ge w (0 + m) 0 e
        have hr := run_append_more (P := P) (w := w) (u := u) (ty := o.type) (z := z) (a := none) (sLen := 0) (sCap := 0) (m := m) (x := y0) (olds := #[]) (news := N') ht hi hzz hu hnr.len (by omega) (by rw [hby, Nat.zero_add]; omega) (by omega) rfl hd1
        generalize harr : (#[] : Array Value) ++ N' ++ Builtin.zeroCells z.cells (grownCap w (0 + m) 0 e - (0 + m)) = arr at hr
        have hsz : arr.size = grownCap w (0 + m) 0 e * n := by
          rw [← harr]
          simp only [Array.size_append, d2, size_zeroCells, hzsz, Array.size_empty]
          rw [Nat.zero_add, ← Nat.add_mul]
          congr 1; omega
        have hpush := hs.drew.push (o := .cells .grown news) (ob := .cells arr e) (grownCap w (0 + m) 0 e * n) ⟨arr, e, (0, 0), rfl, by
            rw [hsz, hnl]; exact Nat.mul_le_mul_right _ (by omega), by simp [Gh.push, hsz], fun i hi => by
              have := laid_rel (fm := fm) (G := G) (olds := []) (news := news) (O := #[]) (N := N') (Z := Builtin.zeroCells z.cells (grownCap w (0 + m) 0 e - (0 + m))) rfl (by rw [d2, hnl])
                (fun i hi => by simp at hi) (fun i hi => d3 i hi (by omega)) i (by simpa using hi)
              rw [harr] at this
              exact this.le (Gh.le_push hs.muNone), fun i hi => by simp, hnr.scal⟩ rfl
        have hle : G.le (G.push st.heap.length w.heap.size (grownCap w (0 + m) 0 e * n)) := Gh.le_push hs.muNone
        refine ⟨_, _, .slice (some ⟨w.heap.size, 0, none⟩) (0 + m) (grownCap w (0 + m) 0 e), _, ?_, .inl rfl, hle, hpush, ?_⟩
        · obtain ⟨consts, he⟩ := exec_builtin ho a.eval
          rw [he]
          simp only [List.map_cons, List.map_nil, hx0, hy0]
          unfold builtin
          exact andThen_value hr
        · rw [show 0 + m = m by omega] at hge ⊢
          exact .hsl _ _ _ _ _ _ _ _ (by simp [Gh.push]) ⟨hge, by simp [Gh.push]⟩
      · cases hrun
    · cases hrun
  · rename_i tag n' hxe
    rw [hxe] at hxv
    split at hrun
    · rename_i m news hnews
      split at hrun
      · rename_i hm0
        refine hall ?_
        rw [hxe]
        simp only [appendD, hnews, hm0, if_true]
        rw [hxe] at hrun
        exact hrun
      split at hrun
      · rename_i hm00 hcond
        obtain ⟨⟨hn0, hnn'⟩, hb1, hb2⟩ := hcond
        have hnn2 := hnn'.symm
        subst hnn2
        have hm0 : 0 < m := by omega
        simp only [Option.some.injEq, Prod.mk.injEq] at hrun
        obtain ⟨rfl, rfl⟩ := hrun
        have hb1 : m * bytes ≤ 140737488355328 := by simpa [roomD] using hb1
        have hb2 : m ≤ 140737488355328 := by simpa [roomD] using hb2
        have hnr := news_rel (P := P) hs hyv hnews
        generalize hx0 : a.eval xo = x0 at hxv
        generalize hy0 : a.eval yo = y0 at hyv hnr
        cases hxv with
        | list _ _ _ _ r off cap f hr0 hc0 hp0 hk0 hl0 hnn0 =>
        have hkc : cap = 0 := hk0
        subst hkc
        obtain ⟨O, ho1, ho2, ho3⟩ := (news_rel (P := P) (n := n) (m := 0) (news := []) hs (.list tag n .tight [] r off 0 f hr0 hc0 hp0 hk0 hl0 hnn0) (by simp [newsD, flat])).cells 0 w.drew (Nat.le_refl _) ((Below.refl _ w).drew)
        obtain rfl : O = #[] := by simpa using ho2
        rw [← hn] at ho1
        simp only [List.length_nil] at ho1
        simp only [List.length_nil] at hx0
        obtain ⟨N', d1, d2, d3⟩ := hnr.cells m w.drew (Nat.le_refl _) ((Below.refl _ w).drew)
        have hnl := hnr.length
        obtain ⟨i', z, hi', hzz, hcc⟩ := zeroCellsD_get hz
        rw [hi] at hi'; cases hi'
        obtain ⟨zl, zr⟩ := cvalLs_rel (fm := fm) hcc
        have hzsz : z.cells.size = n := by rw [← hzl, ← zl]; simp
        have hd1 := d1
        rw [← hn] at hd1
        have hge := grownCap_ge w (0 + m) 0 e
        have hr := run_append_more (P := P) (w := w) (u := u) (ty := o.type) (z := z) (a := some ⟨r, off, none⟩) (sLen := 0) (sCap := 0) (m := m) (x := y0) (olds := #[]) (news := N') ht hi hzz hu hnr.len (by omega) (by rw [hby, Nat.zero_add]; omega) (by omega) ho1 hd1
        generalize harr : (#[] : Array Value) ++ N' ++ Builtin.zeroCells z.cells (grownCap w (0 + m) 0 e - (0 + m)) = arr at hr
        have hsz : arr.size = grownCap w (0 + m) 0 e * n := by
          rw [← harr]
          simp only [Array.size_append, d2, size_zeroCells, hzsz, Array.size_empty]
          rw [Nat.zero_add, ← Nat.add_mul]
          congr 1; omega
        have hpush := hs.drew.push (o := .cells .grown news) (ob := .cells arr e) (grownCap w (0 + m) 0 e * n) ⟨arr, e, (0, 0), rfl, by
            rw [hsz, hnl]; exact Nat.mul_le_mul_right _ (by omega), by simp [Gh.push, hsz], fun i hi => by
              have := laid_rel (fm := fm) (G := G) (olds := []) (news := news) (O := #[]) (N := N') (Z := Builtin.zeroCells z.cells (grownCap w (0 + m) 0 e - (0 + m))) rfl (by rw [d2, hnl])
                (fun i hi => by simp at hi) (fun i hi => d3 i hi (by omega)) i (by simpa using hi)
              rw [harr] at this
              exact this.le (Gh.le_push hs.muNone), fun i hi => by simp, hnr.scal⟩ rfl
        have hle : G.le (G.push st.heap.length w.heap.size (grownCap w (0 + m) 0 e * n)) := Gh.le_push hs.muNone
        refine ⟨_, _, .slice (some ⟨w.heap.size, 0, none⟩) (0 + m) (grownCap w (0 + m) 0 e), _, ?_, .inl rfl, hle, hpush, ?_⟩
        · obtain ⟨consts, he⟩ := exec_builtin ho a.eval
          rw [he]
          simp only [List.map_cons, List.map_nil, hx0, hy0]
          unfold builtin
          exact andThen_value hr
        · rw [show 0 + m = m by omega] at hge ⊢
          exact .hsl _ _ _ _ _ _ _ _ (by simp [Gh.push]) ⟨hge, by simp [Gh.push]⟩
      · cases hrun
    · cases hrun
  · rename_i hxe

    exact hall hrun
  · cases hrun

theorem opsim_clear {t e : TypeId} {n : Nat} {zs : List DV} {i : TypeInfo} {x : X} {xo : Operand} {o : Oper} (ho : builtinCall .clear [xo] [t] o.op) (ht : P.underlying t = some (.slice e)) (hi : P.info? e = some i) (hn : i.size = n) (hz : zeroCellsD P e = some zs) (hzl : zs.length = n)
    (hx : XRel fm x xo) : OpSimAll P fm (.clear n zs x) o := by
  intro CR G w0 st w fr a v st' hs hf hrun
  simp only [stepD, clearD] at hrun
  have hxv := hx.ev (a := a) hf
  have fin : ∀ (w' : World), (Builtin.clear_ #[t] o.type #[a.eval xo]).run P w = .ok (.tuple #[]) w' → (execOp a.eval o).run P w = .ok (.value (.tuple #[])) w' := by
    intro w' h
    obtain ⟨consts, he⟩ := exec_builtin ho a.eval
    rw [he]
    simp only [List.map_cons, List.map_nil]
    unfold builtin
    exact andThen_value h
  have tup : Rel fm G (.tuple []) (.tuple #[]) := .tuple [] #[] rfl (fun i hi => absurd hi (by simp))
  generalize hx0 : a.eval xo = x0 at hxv fin
  split at hrun
  · rename_i hxe
    rw [hxe] at hxv
    simp only [Option.some.injEq, Prod.mk.injEq] at hrun
    obtain ⟨rfl, rfl⟩ := hrun
    cases hxv
    exact ⟨G, w, _, _, fin w (by simp [Builtin.clear_, run_underlying ht]), .inl rfl, Gh.le.refl G, hs, tup⟩
  · rename_i n' ag b off len cap hxe
    rw [hxe] at hxv
    cases hxv with
    | hsl _ _ _ _ _ _ r c hm hcap =>
    split at hrun
    · rename_i hl0
      subst hl0
      simp only [Option.some.injEq, Prod.mk.injEq] at hrun
      obtain ⟨rfl, rfl⟩ := hrun
      exact ⟨G, w, _, _, fin w (by simp [Builtin.clear_, run_underlying ht]), .inl rfl, Gh.le.refl G, hs, tup⟩
    · rename_i hl0
      split at hrun
      · rename_i hc
        obtain ⟨rfl, hbase⟩ := hc
        split at hrun
        · rename_i g vs hcell
          obtain ⟨hcell, hw⟩ := cellsW_get hcell
          split at hrun
          · rename_i hlen
            simp only [Option.some.injEq, Prod.mk.injEq] at hrun
            obtain ⟨rfl, rfl⟩ := hrun
            have hbo : st.heap[b]? = some (.cells g vs) := by
              unfold St.cells at hcell
              split at hcell
              · rename_i g' vs' e; simp only [Option.some.injEq, Prod.mk.injEq] at hcell; obtain ⟨rfl, rfl⟩ := hcell; exact e
              · cases hcell
            obtain ⟨i', z, hi', hzz, hcc⟩ := zeroCellsD_get hz
            rw [hi] at hi'; cases hi'
            obtain ⟨zl, zr⟩ := cvalLs_rel (fm := fm) hcc
            have hscal : (repl zs len).all DV.scal = true := by
              rw [List.all_eq_true]
              intro x hx
              obtain ⟨j, hj, rfl⟩ := List.getElem_of_mem hx
              have hj' := hj
              rw [length_repl] at hj'
              have := getElem?_repl zs len j hj'
              rw [List.getElem?_eq_getElem hj] at this
              exact List.all_eq_true.1 (all_pure_scal (cvalLs_pure hcc)) _ (List.mem_of_getElem? this.symm)
            obtain ⟨s1, s2⟩ := zeros_rel (fm := fm) (G := G) (zs := zs) (z := z.cells) (by simpa using zl) (fun i hi => zr _ i hi) len
            have hzz2 : Builtin.zeroCells z.cells len = (Array.range (len * zs.length)).map (z.cells[· % z.cells.size]!) := by
              unfold Builtin.zeroCells
              have : z.cells.size = zs.length := by rw [← zl]; simp
              rw [this]
            rw [← hzz2] at s1 s2
            obtain ⟨cur, ty, fz, k1, k2, k3, k4⟩ := sim_splice (P := P) hs hw hbo hbase (k := off) (ns := repl zs len) (xs := (Builtin.zeroCells z.cells len).toList) hlen (by simpa using s1) (fun i hi => by rw [getD_toList]; exact s2 i hi) hscal
              (one_all s1 s2 hscal) hm
            refine ⟨G, _, _, _, fin _ ?_, .inl rfl, Gh.le.refl G, k4, tup⟩
            obtain ⟨len', rfl⟩ : ∃ k, len = k + 1 := ⟨len - 1, by omega⟩
            simp [Builtin.clear_, run_underlying ht, run_zero hi hzz, k3]
          · cases hrun
        · cases hrun
      · cases hrun
  · cases hrun

end Go.D
