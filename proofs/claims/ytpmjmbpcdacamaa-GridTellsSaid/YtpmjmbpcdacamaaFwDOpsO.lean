/-
What strings.Builder asks: a variable of a known type, its address by way of unsafe.Pointer; a row of bytes that is frozen at its head.
-/
import Derived.Test.YtpmjmbpcdacamaaFwDOpsN
import Derived.Lib.Builder
import Derived.Lib.UnsafeStr
import Derived.Lib.FrozenHead
namespace Go.D
open Go.RowKit

variable {P : Program} {fm : FM}

theorem opsim_allocT {e : TypeId} {zs : List DV} {o : Oper} (ho : o.op = .alloc e) (hz : zeroCellsD P e = some zs) : OpSimAll P fm (.allocT e zs) o := by
  obtain ⟨i, z, hi, hzz, hc⟩ := zeroCellsD_get hz
  intro CR G w0 st w fr a v st' hs hf hrun
  simp only [stepD, Option.some.injEq, Prod.mk.injEq] at hrun
  obtain ⟨rfl, rfl⟩ := hrun
  obtain ⟨hl, hr⟩ := cvalLs_rel (fm := fm) hc
  have hs' := hs.push (o := .cells (.typed e) zs) (ob := .cells z.cells e) 0 ⟨z.cells, e, (0, 0), rfl, rfl, by simpa using hl, fun i hi => by rw [← getD_toList]; exact hr _ i hi, fun i hi => by simp, all_pure_scal (cvalLs_pure hc)⟩ rfl
  refine ⟨_, _, .pointer (some ⟨w.heap.size, 0, none⟩), _, ?_, .inl rfl, Gh.le_push hs.muNone, hs', .ptr _ _ _ (by simp [Gh.push])⟩
  unfold execOp
  simp only [ho]
  refine andThen_value ?_
  unfold Instr.alloc
  simp only [Sem.run_bind, run_zero hi hzz, Result.andThen_ok]
  rfl

/-- What is known of a variable of a known type. -/
theorem typed_at {CR : Nat → RC → Code → Prop} {G : Gh} {w0 w : World} {st : St} (hs : Sim fm CR G w0 st w) {b r ty : Nat} {vs : List DV} (hb : st.heap[b]? = some (.cells (.typed ty) vs)) (hm : G.mu b = some r) : w.shape? r = some (ty, vs.length) := by
  obtain ⟨r', ob, h1, h2, h3, _⟩ := hs.obj b _ hb rfl (hs.np hm)
  rw [hm] at h1; cases h1
  obtain ⟨cs, t, fz, rfl, rfl, h4, _⟩ := h3
  unfold World.shape?
  rw [h2]
  simp [h4]

theorem convD_get {st : St} {ty n : Nat} {x v : DV} (h : convD st ty n x = some v) : ∃ b vs, x = .ptr b 0 ∧ v = .ptr b 0 ∧ st.heap[b]? = some (.cells (.typed ty) vs) ∧ vs.length = n := by
  unfold convD at h
  split at h
  · rename_i b
    split at h
    · rename_i t vs hb
      split at h
      · rename_i hc
        obtain ⟨rfl, hn⟩ := hc
        injection h with h
        exact ⟨b, vs, rfl, h.symm, hb, hn⟩
      · cases h
    · cases h
  · cases h

theorem opsim_convTo {s d t : TypeId} {j : TypeInfo} {ty n : Nat} {x : X} {xo : Operand} {o : Oper} (ho : o.op = .convert s d xo) (hs0 : P.underlying s = some (.pointer t)) (hd : P.underlying d = some .unsafePointer) (ht : P.info? t = some j) (hj : j.size ≠ 0) (hn : 0 < n)
    (hx : XRel fm x xo) : OpSimAll P fm (.conv ty n x) o := by
  refine opsim_read fun CR G w0 st w fr a v st' hs hf hrun => ?_
  simp only [stepD, Option.map_eq_some_iff] at hrun
  obtain ⟨u, hu, hrun⟩ := hrun
  cases hrun
  obtain ⟨b, vs, e1, rfl, hb, hl⟩ := convD_get hu
  have hxv := hx.ev (a := a) hf
  rw [e1] at hxv
  generalize hx0 : a.eval xo = x0 at hxv
  cases hxv with
  | ptr _ _ r hm =>
    refine ⟨rfl, _, ?_, .ptr _ _ _ hm⟩
    unfold execOp
    simp only [ho, hx0]
    exact andThen_value (Lib.run_to_unsafe w ⟨r, 0, none⟩ hs0 hd ht hj (typed_at hs hb hm) (by show 0 < vs.length; omega))

theorem opsim_convFrom {s d u : TypeId} {j : TypeInfo} {ty n : Nat} {x : X} {xo : Operand} {o : Oper} (ho : o.op = .convert s d xo) (hs0 : P.underlying s = some .unsafePointer) (hd : P.underlying d = some (.pointer u)) (hu0 : P.info? u = some j)
    (hlies : liesAt P P.depth ty (n / P.cellsOf ty) 0 u 1 = true) (hx : XRel fm x xo) : OpSimAll P fm (.conv ty n x) o := by
  refine opsim_read fun CR G w0 st w fr a v st' hs hf hrun => ?_
  simp only [stepD, Option.map_eq_some_iff] at hrun
  obtain ⟨u', hu, hrun⟩ := hrun
  cases hrun
  obtain ⟨b, vs, e1, rfl, hb, hl⟩ := convD_get hu
  have hxv := hx.ev (a := a) hf
  rw [e1] at hxv
  generalize hx0 : a.eval xo = x0 at hxv
  cases hxv with
  | ptr _ _ r hm =>
    refine ⟨rfl, _, ?_, .ptr _ _ _ hm⟩
    unfold execOp
    simp only [ho, hx0]
    exact andThen_value (Lib.run_from_unsafe w ⟨r, 0, none⟩ hs0 hd hu0 (typed_at hs hb hm) (by rw [hl]; exact hlies))

theorem opsim_sldata {t : TypeId} {x : X} {xo : Operand} {o : Oper} (ho : builtinCall .unsafeSliceData [xo] [t] o.op) (hx : XRel fm x xo) : OpSimAll P fm (.sldata x) o := by
  refine opsim_read fun CR G w0 st w fr a v st' hs hf hrun => ?_
  simp only [stepD, Option.map_eq_some_iff] at hrun
  obtain ⟨u, hu, hrun⟩ := hrun
  cases hrun
  have hxv := hx.ev (a := a) hf
  generalize hx0 : a.eval xo = x0 at hxv
  have fin : ∀ (r : Value), (Builtin.unsafeSliceData_ #[t] o.type #[x0]).run P w = .ok r w → (execOp a.eval o).run P w = .ok (.value r) w := by
    intro r h
    obtain ⟨consts, he⟩ := exec_builtin ho a.eval
    rw [he]
    simp only [List.map_cons, List.map_nil, hx0]
    unfold builtin
    exact andThen_value h
  generalize x.ev fr = xv at hu hxv
  unfold sldataD at hu
  split at hu
  · injection hu with hu; subst hu
    cases hxv
    exact ⟨rfl, _, fin _ (Lib.run_unsafeSliceData_nil w _ _ _ _), .nilp⟩
  · split at hu
    · rename_i hl
      injection hu with hu; subst hu
      cases hxv with
      | hsl _ _ _ _ _ _ r c hm hcap =>
        rename_i cap
        have hc : c ≠ 0 := by
          cases cap with
          | none => have := hcap.1; omega
          | some k => have := hcap.2; rw [hcap.1]; omega
        exact ⟨rfl, _, fin _ (Lib.run_unsafeSliceData_row w _ _ _ _ _ hc), .ptr _ _ _ hm⟩
    · cases hu
  · cases hu

theorem bytesOfR_get : ∀ (vs : List DV) (bs : List UInt8), bytesOfR vs = some bs → bs.length = vs.length ∧ ∀ (j : Nat) (x : UInt8), bs[j]? = some x → vs[j]? = some (.int .u8 (x.toNat : Int))
  | [], bs, h => by
    simp only [bytesOfR, Option.some.injEq] at h; subst h
    exact ⟨rfl, fun j x h => by simp at h⟩
  | v :: vs, bs, h => by
    cases v <;> try (simp [bytesOfR] at h; done)
    rename_i k n
    cases k <;> try (simp [bytesOfR] at h; done)
    simp only [bytesOfR] at h
    split at h
    · rename_i hn
      simp only [Option.map_eq_some_iff] at h
      obtain ⟨l, hl, rfl⟩ := h
      obtain ⟨h1, h2⟩ := bytesOfR_get vs l hl
      refine ⟨by simp [h1], fun j x hx => ?_⟩
      cases j with
      | zero =>
        simp only [List.getElem?_cons_zero, Option.some.injEq] at hx ⊢
        subst hx
        have : (UInt8.ofNat n.toNat).toNat = n.toNat := by
          rw [UInt8.toNat_ofNat']; omega
        rw [this]
        congr 1
        omega
      | succ j => simpa using h2 j x (by simpa using hx)
    · cases h

theorem freeze_put {w : World} {r : Nat} {cs : Array Value} {t : TypeId} {lo hi n : Nat} (h : w.heap[r]? = some (.cells cs t (lo, hi))) (hn : n ≠ 0) :
    w.freeze ⟨r, 0, none⟩ n = w.putObj r (.cells cs t (if lo == hi then (0, n) else (min lo 0, max hi n))) := by
  unfold World.freeze World.putObj
  rw [if_neg hn]
  congr 1
  apply Array.ext_getElem?
  intro k
  rw [Array.getElem?_modify, Array.getElem?_setIfInBounds]
  by_cases e : r = k
  · subst e
    have hlt := get?_lt h
    have hv : w.heap[r] = .cells cs t (lo, hi) := (Array.getElem?_eq_some_iff.1 h).2
    simp [hlt, hv]
  · simp [e]

theorem set_same {α : Type} {l : List α} {b : Nat} {x : α} (h : l[b]? = some x) : l.set b x = l := by
  apply List.ext_getElem?
  intro i
  rw [List.getElem?_set]
  by_cases e : b = i
  · subst e
    rw [if_pos rfl, if_pos (List.getElem?_eq_some_iff.1 h).1, h]
  · rw [if_neg e]

theorem opsim_ustr {pt it e : TypeId} {x l : X} {xo lo : Operand} {o : Oper} (ho : builtinCall .unsafeString [xo, lo] [pt, it] o.op) (hp : P.underlying pt = some (.pointer e)) (hc1 : P.cellsOf e = 1) (hx : XRel fm x xo) (hl : XRel fm l lo) : OpSimAll P fm (.ustr e x l) o := by
  intro CR G w0 st w fr a v st' hs hf hrun
  simp only [stepD, Option.map_eq_some_iff] at hrun
  obtain ⟨u, hu, hrun⟩ := hrun
  cases hrun
  have hxv := hx.ev (a := a) hf
  have hlv := hl.ev (a := a) hf
  generalize hx0 : a.eval xo = x0 at hxv
  generalize hl0 : a.eval lo = l0 at hlv
  have fin : ∀ (r : Value) (w' : World), (Builtin.unsafeString_ #[pt, it] o.type #[x0, l0]).run P w = .ok r w' → (execOp a.eval o).run P w = .ok (.value r) w' := by
    intro r w' h
    obtain ⟨consts, he⟩ := exec_builtin ho a.eval
    rw [he]
    simp only [List.map_cons, List.map_nil, hx0, hl0]
    unfold builtin
    exact andThen_value h
  generalize x.ev fr = xv at hu hxv
  generalize l.ev fr = lv at hu hlv
  unfold ustrD at hu
  split at hu
  · split at hu
    · rename_i h0
      subst h0
      injection hu with hu; subst hu
      cases hxv; cases hlv
      exact ⟨G, w, _, _, fin _ _ (Lib.run_unsafeString_none w pt it _ none), .inl rfl, Gh.le.refl G, hs, .str _ _ rfl⟩
    · cases hu
  · rename_i b off n
    cases hxv with
    | ptr _ _ r hm =>
    cases hlv
    split at hu
    · rename_i h0
      subst h0
      injection hu with hu; subst hu
      exact ⟨G, w, _, _, fin _ _ (Lib.run_unsafeString_none w pt it _ (some _)), .inl rfl, Gh.le.refl G, hs, .str _ _ rfl⟩
    · rename_i h0
      split at hu
      · rename_i t vs hcell
        split at hu
        · rename_i hcond
          obtain ⟨rfl, rfl, hbase, hn0, hnl, hroom⟩ := hcond
          simp only [Option.map_eq_some_iff] at hu
          obtain ⟨bs, hbs, rfl⟩ := hu
          have hbo := cells_get hcell
          obtain ⟨r', ob, q1, q2, q3, q4⟩ := hs.obj b _ hbo rfl (hs.np hm)
          rw [hm] at q1; cases q1
          obtain ⟨cs, t, ⟨flo, fhi⟩, rfl, rfl, k1, k2, k3, k4, k5⟩ := q3
          obtain ⟨g1, g2⟩ := bytesOfR_get _ _ hbs
          have hlen : bs.length = n.toNat := by rw [g1]; simp; omega
          have hne : bs ≠ [] := by
            intro e0
            rw [e0] at hlen
            simp at hlen
            omega
          have hcellr : ∀ j x, bs[j]? = some x → w.cell? ((⟨r, 0, none⟩ : Addr).add j) = some (.int .u8 x.toNat) := by
            intro j y hy
            have h1 := g2 j y hy
            have hj : j < bs.length := (List.getElem?_eq_some_iff.1 hy).1
            have hjv : j < vs.length := by omega
            rw [List.getElem?_take, if_pos (by omega)] at h1
            have h2 := k3 j hjv
            rw [(List.getElem?_eq_some_iff.1 h1).2] at h2
            have hjc : j < cs.size := by omega
            rw [Array.getD_eq_getD_getElem?, Array.getElem?_eq_getElem hjc] at h2
            rw [Addr.add_lit, Nat.zero_add]
            simp only [World.cell?, q2]
            rw [Array.getElem?_eq_getElem hjc]
            simp only [Option.getD_some] at h2
            generalize cs[j] = cj at h2
            cases h2
            simp
          have hrd : (roomD : Int) = 140737488355328 := rfl
          rw [hrd] at hroom
          have hrun := Lib.run_unsafeString_row w pt it o.type t hp hc1 r cs.size (by unfold World.shape?; rw [q2]) bs hne (by omega) (by omega) hcellr
          rw [hlen, show ((n.toNat : Nat) : Int) = n by omega] at hrun
          have hfz := freeze_put (n := n.toNat) q2 (by omega)
          rw [hfz] at hrun
          have hput := hs.put (o' := .cells (.frz t) vs) (ob' := .cells cs t (if flo == fhi then (0, n.toNat) else (min flo 0, max fhi n.toNat))) hbo rfl hm hbase
            ⟨cs, t, _, rfl, rfl, k1, k2, k3, by split <;> simp <;> omega, k5⟩ rfl (fun h => by cases h)
          rw [set_same hbo] at hput
          exact ⟨G, _, _, _, fin _ _ hrun, .inl rfl, Gh.le.refl G, hput, .str _ _ rfl⟩
        · cases hu
      · cases hu
  · cases hu

theorem opsim_appendB {t u e : TypeId} {bytes : Nat} {zs : List DV} {i : TypeInfo} {x y : X} {xo yo : Operand} {o : Oper} (ho : builtinCall .append [xo, yo] [t, u] o.op) (ht : P.underlying t = some (.slice e)) (hu : appArgOk P u = true)
    (hi : P.info? e = some i) (hn : i.size = 1) (hby : i.bytes = bytes) (hz : zeroCellsD P e = some zs) (hzl : zs.length = 1) (hx : XRel fm x xo) (hy : XRel fm y yo) : OpSimAll P fm (.appendB e bytes x y) o := by
  intro CR G w0 st w fr a v st' hs hf hrun
  simp only [stepD, appendBD] at hrun
  have hxv := hx.ev (a := a) hf
  have hyv := hy.ev (a := a) hf
  split at hrun
  · cases hrun
  rename_i m news hnews
  have hnr := news_rel (P := P) hs hyv hnews
  generalize hx0 : a.eval xo = x0 at hxv
  generalize hy0 : a.eval yo = y0 at hyv hnr
  obtain ⟨N, n1, n2, n3⟩ := hnr.cells m w (Nat.le_refl _) (Below.refl _ w)
  obtain ⟨N', d1, d2, d3⟩ := hnr.cells m w.drew (Nat.le_refl _) ((Below.refl _ w).drew)
  have hnl := hnr.length
  obtain ⟨i', z, hi', hzz, hcc⟩ := zeroCellsD_get hz
  rw [hi] at hi'; cases hi'
  obtain ⟨zl, zr⟩ := cvalLs_rel (fm := fm) hcc
  have hzsz : z.cells.size = 1 := by rw [← hzl, ← zl]; simp
  have fin : ∀ (r : Value) (w' : World), (Builtin.append_ #[t, u] o.type #[x0, y0]).run P w = .ok r w' → (execOp a.eval o).run P w = .ok (.value r) w' := by
    intro r w' h
    obtain ⟨consts, he⟩ := exec_builtin ho a.eval
    rw [he]
    simp only [List.map_cons, List.map_nil, hx0, hy0]
    unfold builtin
    exact andThen_value h
  have none0 : ∀ (p : Option Addr) (l c : Nat), m = 0 → x0 = .slice p l c → l ≤ c → (Builtin.append_ #[t, u] o.type #[x0, y0]).run P w = .ok x0 w := by
    intro p l c hm hp hlc
    subst hm
    have hN0 : N = #[] := by simpa using n2
    rw [hp]
    rw [← hn] at n1
    have := run_append_fit (P := P) (w := w) (w' := w) (ty := o.type) (a := p) (sLen := l) (sCap := c) (m := 0) (x := y0) (news := N) ht hi hu hnr.len (by omega) n1 (by subst hN0; cases p <;> rfl)
    simpa using this
  generalize X.ev fr x = xv at hxv hrun
  split at hrun
  · -- nothing yet
    rename_i tag n' tk
    cases hxv
    split at hrun
    · rename_i hm
      simp only [Option.some.injEq, Prod.mk.injEq] at hrun
      obtain ⟨rfl, rfl⟩ := hrun
      exact ⟨G, w, _, _, fin _ _ (none0 none 0 0 hm rfl (Nat.le_refl _)), .inl rfl, Gh.le.refl G, hs, .nils _ _ _⟩
    rename_i hm0
    split at hrun
    · rename_i hcond
      obtain ⟨hb1, hb2⟩ := hcond
      simp only [Option.some.injEq, Prod.mk.injEq] at hrun
      obtain ⟨rfl, rfl⟩ := hrun
      have hb1 : m * bytes ≤ 140737488355328 := by simpa [roomD] using hb1
      have hb2 : m ≤ 140737488355328 := by simpa [roomD] using hb2
      have hd1 := d1
      rw [← hn] at hd1
      have hge := grownCap_ge w (0 + m) 0 e
      have hr := run_append_more (P := P) (w := w) (u := u) (ty := o.type) (z := z) (a := none) (sLen := 0) (sCap := 0) (m := m) (x := y0) (olds := #[]) (news := N') ht hi hzz hu hnr.len (by omega) (by rw [hby, Nat.zero_add]; omega) (by omega) rfl hd1
      generalize harr : (#[] : Array Value) ++ N' ++ Builtin.zeroCells z.cells (grownCap w (0 + m) 0 e - (0 + m)) = arr at hr
      have hsz : arr.size = grownCap w (0 + m) 0 e * 1 := by
        rw [← harr]
        simp only [Array.size_append, d2, size_zeroCells, hzsz, Array.size_empty]
        omega
      have hpush := hs.drew.push (o := .cells (.frz e) news) (ob := .cells arr e) (grownCap w (0 + m) 0 e * 1) ⟨arr, e, (0, 0), rfl, rfl, by
          rw [hsz, hnl]; exact Nat.mul_le_mul_right _ (by omega), by simp [Gh.push, hsz], fun i hi => by
            have := laid_rel (fm := fm) (G := G) (olds := []) (news := news) (O := #[]) (N := N') (Z := Builtin.zeroCells z.cells (grownCap w (0 + m) 0 e - (0 + m))) rfl (by rw [d2, hnl])
              (fun i hi => by simp at hi) (fun i hi => d3 i hi (by omega)) i (by simpa using hi)
            rw [harr] at this
            exact this.le (Gh.le_push hs.muNone), Nat.zero_le _, hnr.scal⟩ rfl
      have hle : G.le (G.push st.heap.length w.heap.size (grownCap w (0 + m) 0 e * 1)) := Gh.le_push hs.muNone
      refine ⟨_, _, .slice (some ⟨w.heap.size, 0, none⟩) (0 + m) (grownCap w (0 + m) 0 e), _, fin _ _ hr, .inl rfl, hle, hpush, ?_⟩
      rw [show 0 + m = m by omega] at hge ⊢
      exact .hsl _ _ _ _ _ _ _ _ (by simp [Gh.push]) ⟨hge, by simp [Gh.push]⟩
    · cases hrun
  · -- a row
    rename_i n' ag' b off len
    cases hxv with
    | hsl _ _ _ _ _ _ r c hmu hcap =>
    have hlc : len ≤ c := hcap.1
    split at hrun
    · rename_i hm
      simp only [Option.some.injEq, Prod.mk.injEq] at hrun
      obtain ⟨rfl, rfl⟩ := hrun
      exact ⟨G, w, _, _, fin _ _ (none0 _ _ _ hm rfl hlc), .inl rfl, Gh.le.refl G, hs, .hsl _ _ _ _ _ _ _ _ hmu hcap⟩
    rename_i hm
    split at hrun
    · rename_i hcond
      obtain ⟨rfl, rfl, hbase, hb1, hb2⟩ := hcond
      have hb1 : (len + m) * bytes ≤ 140737488355328 := by simpa [roomD] using hb1
      have hb2 : len + m ≤ 140737488355328 := by simpa [roomD] using hb2
      split at hrun
      · rename_i ty0 vs hcell
        split at hrun
        · rename_i hcond2
          obtain ⟨rfl, hvl⟩ := hcond2
          simp only [Option.some.injEq, Prod.mk.injEq] at hrun
          obtain ⟨rfl, rfl⟩ := hrun
          have hbo := cells_get hcell
          obtain ⟨r', ob, q1, q2, q3, q4⟩ := hs.obj b _ hbo rfl (hs.np hmu)
          rw [hmu] at q1; cases q1
          obtain ⟨cs, ty, fz, rfl, rfl, k1, k2, k3, k4, k5⟩ := q3
          have hro : ∀ i, G.ro r i = none := by
            intro i
            cases er : G.ro r i with
            | none => rfl
            | some v => exact absurd hmu (fun h => hs.roMu r i v b _ er hbo rfl h)
          have htk : ∀ u x y, st.toks[u]? = some x → G.hist u x = some y → y.1 ≠ r := by
            intro u x y hu hy e
            obtain ⟨r', len', cap', n'', cs', ty', h1, h2, h3, h4, h5, h6, h7, h8⟩ := hs.tok u x hu
            rw [hy] at h1; cases h1
            simp only at e
            subst e
            exact h7 b _ hbo rfl hmu
          have hgone := hs.goneAt b (hs.np hmu)
          have hfree : ∀ b' o, (st.heap.set b .gone)[b']? = some o → o.isGone = false → G.mu b' ≠ some r := by
            intro b' o hb' hg e
            rcases getElem?_set_cases _ _ _ _ _ hb' with ⟨rfl, rfl, _⟩ | ⟨e1, e2⟩
            · cases hg
            · exact e1 (hs.muInj _ _ _ _ _ e2 hbo hg rfl e hmu)
          have hset : (st.heap.set b .gone).length = st.heap.length := by simp
          have hscal : (vs ++ news).all DV.scal = true := by rw [List.all_append, k5, hnr.scal]; rfl
          have hcapo := hcap.2
          by_cases hg : c < len + m
          · -- a new row
            have hge := grownCap_ge w (len + m) c ty
            have hor := news_rel (P := P) (n := 1) (m := len) (news := (vs.drop 0).take (len * 1)) hs (.hsl 1 ag' b 0 len none r c hmu hcap) (by
              simp only [newsD, if_true, St.cells, hbo]
              rw [if_pos (by omega)])
            obtain ⟨O, o1, o2, o3⟩ := hor.cells len w.drew (Nat.le_refl _) ((Below.refl _ w).drew)
            have hvs : (vs.drop 0).take (len * 1) = vs := by rw [List.drop_zero, List.take_of_length_le (by omega)]
            rw [hvs] at o3
            have hd1 := d1
            rw [← hn] at hd1 o1
            have hr := run_append_more (P := P) (w := w) (u := u) (ty := o.type) (z := z) (a := some ⟨r, 0, none⟩) (sLen := len) (sCap := c) (m := m) (x := y0) (olds := O) (news := N') ht hi hzz hu hnr.len hg (by rw [hby]; omega) (by omega) o1 hd1
            generalize harr : O ++ N' ++ Builtin.zeroCells z.cells (grownCap w (len + m) c ty - (len + m)) = arr at hr
            have hsz : arr.size = grownCap w (len + m) c ty * 1 := by
              rw [← harr]
              simp only [Array.size_append, o2, d2, size_zeroCells, hzsz]
              omega
            have hpush := hgone.drew.push (o := .cells (.frz ty) (vs ++ news)) (ob := .cells arr ty) (grownCap w (len + m) c ty * 1) ⟨arr, ty, (0, 0), rfl, rfl, by
                rw [hsz, List.length_append, ← hvl, hnl]; omega, by simp [Gh.push, hsz], fun i hi => by
                  have := laid_rel (fm := fm) (G := G) (olds := vs) (news := news) (O := O) (N := N') (Z := Builtin.zeroCells z.cells (grownCap w (len + m) c ty - (len + m))) (by rw [o2, hvl]; omega) (by rw [d2, hnl])
                    (fun i hi => o3 i hi (by omega)) (fun i hi => d3 i hi (by omega)) i hi
                  rw [harr] at this
                  refine this.le ?_
                  have := hgone.muNone
                  exact Gh.le_push this, Nat.zero_le _, hscal⟩ rfl
            have hle : G.le (G.push (st.heap.set b .gone).length w.heap.size (grownCap w (len + m) c ty * 1)) := Gh.le_push hgone.muNone
            refine ⟨_, _, _, _, fin _ _ hr, .inl rfl, hle, hpush, ?_⟩
            rw [← hset]
            exact .hsl _ _ _ _ _ _ _ _ (by simp [Gh.push]) ⟨hge, by simp [Gh.push]⟩
          · -- in its own row
            have hcn : c ≤ cs.size := by rw [k2]; omega
            have hmul : len + m ≤ cs.size := by omega
            have hNl : N.toList.length = m := by simpa using n2
            have hst := run_storeCells_atF P r len ty fz N.toList 0 cs w q2 (by omega) (by omega) (one_all (G := G) (news := news) (by rw [n2, hnl]) (fun i hi => n3 i hi (by omega)) hnr.scal)
            rw [Nat.add_zero, setRow_putObj q2] at hst
            have hsp : (cs.toList.take len ++ N.toList ++ cs.toList.drop (len + N.toList.length)).toArray = spliceA cs len N.toList := rfl
            rw [hsp] at hst
            have hssz := size_spliceA (cur := cs) (k := len) (vs := N.toList) (by omega)
            have hput := hgone.putRow (cs' := spliceA cs len N.toList) q2 (q4 hbase) hfree hssz (fun i v hv => by rw [hro i] at hv; cases hv)
            have hrow : (w.putObj r (.cells (spliceA cs len N.toList) ty fz)).heap[r]? = some (.cells (spliceA cs len N.toList) ty fz) := by rw [putObj_heap w r r _ (get?_lt q2)]; simp
            have hlow : ∀ i, i < vs.length → (spliceA cs len N.toList).getD i undef = cs.getD i undef := by
              intro i hi
              unfold spliceA
              rw [Array.getD_eq_getD_getElem?, Array.getD_eq_getD_getElem?, List.getElem?_toArray, List.append_assoc, List.getElem?_append_left (by simp; omega), List.getElem?_take, if_pos (by omega)]
              simp
            have hhigh : ∀ i, i < news.length → (spliceA cs len N.toList).getD (vs.length + i) undef = N.getD i undef := by
              intro i hi
              unfold spliceA
              have hiN : i < N.toList.length := by omega
              have e3 : vs.length + i - (cs.toList.take len).length = i := by simp; omega
              rw [Array.getD_eq_getD_getElem?, List.getElem?_toArray, List.append_assoc, List.getElem?_append_right (by simp; omega), e3, List.getElem?_append_left hiN, ← getD_toList, List.getD_eq_getElem?_getD]
            have hle : G.le (G.push (st.heap.set b .gone).length r cs.size) := Gh.le_push hgone.muNone
            have hadopt := hput.adopt (o := .cells (.frz ty) (vs ++ news)) cs.size hrow (q4 hbase) hfree hro htk ⟨_, ty, fz, rfl, rfl, by
                rw [hssz, List.length_append, ← hvl, hnl]; omega, by simp [Gh.push, hssz], fun i hi => by
                  by_cases ei : i < vs.length
                  · rw [List.getElem_append_left ei, hlow i ei]
                    exact (k3 i ei).le hle
                  · have hi2 : i - vs.length < news.length := by simp only [List.length_append] at hi; omega
                    rw [List.getElem_append_right (by omega)]
                    have e4 : vs.length + (i - vs.length) = i := by omega
                    have := hhigh (i - vs.length) hi2
                    rw [e4] at this
                    rw [this]
                    exact (n3 _ hi2 (by omega)).le hle, by simp; omega, hscal⟩ rfl
            have hn1 := n1
            rw [← hn] at hn1
            have hr' := run_append_fit (P := P) (w := w) (w' := w.putObj r (.cells (spliceA cs len N.toList) ty fz)) (ty := o.type) (a := some ⟨r, 0, none⟩) (sLen := len) (sCap := c) (m := m) (x := y0) (news := N) ht hi hu hnr.len (by omega) hn1 (by
              show (storeCells ((⟨r, 0, none⟩ : Addr).add (len * i.size)) N.toList).run P w = _
              rw [Addr.add_lit, Nat.zero_add, hn, Nat.mul_one]; exact hst)
            refine ⟨_, _, _, _, fin _ _ hr', .inl rfl, hle, hadopt, ?_⟩
            rw [← hset]
            exact .hsl _ _ _ _ _ _ _ _ (by simp [Gh.push]) ⟨by omega, by simp [Gh.push]; omega⟩
        · cases hrun
      · cases hrun
    · cases hrun
  · cases hrun

theorem opsim_sliceA {t arr e : TypeId} {n len : Nat} {ag : Bool} {i : TypeInfo} {x : X} {xo : Operand} {o : Oper} (ho : o.op = .slice t xo none none none) (ht : P.underlying t = some (.pointer arr)) (ha : P.underlying arr = some (.array len e)) (hi : P.info? e = some i)
    (hx : XRel fm x xo) : OpSimAll P fm (.sliceA n ag len x) o := by
  refine opsim_read fun CR G w0 st w fr a v st' hs hf hrun => ?_
  simp only [stepD] at hrun
  have hxv := hx.ev (a := a) hf
  generalize hx0 : a.eval xo = x0 at hxv
  split at hrun
  · rename_i b off e0
    rw [e0] at hxv
    simp only [Option.some.injEq, Prod.mk.injEq] at hrun
    obtain ⟨rfl, rfl⟩ := hrun
    cases hxv with
    | ptr _ _ r hm =>
      refine ⟨rfl, .slice (some ⟨r, off, none⟩) len len, ?_, .hsl _ _ _ _ _ _ _ _ hm ⟨rfl, Nat.le_refl _⟩⟩
      unfold execOp
      simp only [ho, hx0, Option.map_none]
      refine andThen_value ?_
      unfold Instr.sliceAt Instr.slice
      simp [run_underlying ht, run_underlying ha, asAddr, Instr.sliceBounds, sizeOf, typeInfo, hi, Addr.add]
  · cases hrun

theorem opsim_sliceA2 {t e : TypeId} {n len : Nat} {ag : Bool} {i : TypeInfo} {x : X} {xo : Operand} {o : Oper} (ho : o.op = .slice t xo none none none) (ht : P.underlying t = some (.array len e)) (hi : P.info? e = some i)
    (hx : XRel fm x xo) : OpSimAll P fm (.sliceA n ag len x) o := by
  refine opsim_read fun CR G w0 st w fr a v st' hs hf hrun => ?_
  simp only [stepD] at hrun
  have hxv := hx.ev (a := a) hf
  generalize hx0 : a.eval xo = x0 at hxv
  split at hrun
  · rename_i b off e0
    rw [e0] at hxv
    simp only [Option.some.injEq, Prod.mk.injEq] at hrun
    obtain ⟨rfl, rfl⟩ := hrun
    cases hxv with
    | ptr _ _ r hm =>
      refine ⟨rfl, .slice (some ⟨r, off, none⟩) len len, ?_, .hsl _ _ _ _ _ _ _ _ hm ⟨rfl, Nat.le_refl _⟩⟩
      unfold execOp
      simp only [ho, hx0, Option.map_none]
      refine andThen_value ?_
      unfold Instr.sliceAt Instr.slice
      simp [run_underlying ht, Instr.sureAddr, Instr.sliceBounds, sizeOf, typeInfo, hi, Addr.add]
  · cases hrun

end Go.D
