/-
What append and copy read; bytes and strings; arrays' elements.
-/
import Derived.Test.YtpmjmbpcdacamaaFwDOpsG
import Derived.Laws.IdiomStrings
import Derived.Laws.MakeOwn
namespace Go.D
open Go.RowKit

variable {P : Program} {fm : FM}

theorem opsim_iaddrA {t e : TypeId} {n len : Nat} {i : TypeInfo} {x j : X} {xo jo : Operand} {o : Oper} (ho : o.op = .indexAddr t xo jo) (ht : P.underlying t = some (.array len e)) (hi : P.info? e = some i) (hn : i.size = n) (hx : XRel fm x xo) (hj : XRel fm j jo) : OpSimAll P fm (.iaddrA n len x j) o := by
  refine opsim_read fun CR G w0 st w fr a v st' hs hf hrun => ?_
  simp only [stepD] at hrun
  have hxv := hx.ev (a := a) hf
  have hjv := hj.ev (a := a) hf
  generalize hx0 : a.eval xo = x0 at hxv
  generalize hj0 : a.eval jo = j0 at hjv
  have hsz : (sizeOf e).run P w = .ok n w := by unfold sizeOf typeInfo; simp [hi, hn]
  split at hrun
  · rename_i b off k q hb hq
    rw [hb] at hxv
    rw [hq] at hjv
    split at hrun
    · rename_i hc
      obtain ⟨hc1, hc2⟩ := hc
      simp only [Option.some.injEq, Prod.mk.injEq] at hrun
      obtain ⟨rfl, rfl⟩ := hrun
      cases hjv
      cases hxv with
      | ptr _ _ r hm =>
        refine ⟨rfl, .pointer (some ⟨r, off + q.toNat * n, none⟩), ?_, .ptr b (off + q.toNat * n) r hm⟩
        unfold execOp
        simp only [ho, hx0, hj0]
        refine andThen_value ?_
        unfold Instr.indexAt
        simp [asIntOf, run_underlying ht, hc1, hc2, hsz, Addr.add_lit, Instr.sureAddr]
    · cases hrun
  · rename_i cs k q hb hq
    rw [hb] at hxv
    rw [hq] at hjv
    split at hrun
    · rename_i hc
      obtain ⟨hc1, hc2, hc3⟩ := hc
      simp only [Option.some.injEq, Prod.mk.injEq] at hrun
      obtain ⟨rfl, rfl⟩ := hrun
      cases hjv
      cases hxv with
      | cptr _ r off f hr hcc hp =>
        refine ⟨rfl, .pointer (some ⟨r, off + q.toNat * n, none⟩), ?_, .cptr _ r (off + q.toNat * n) (fun i => f (q.toNat * n + i)) (fun i hi => ?_) (fun i hi => ?_) ?_⟩
        · unfold execOp
          simp only [ho, hx0, hj0]
          refine andThen_value ?_
          unfold Instr.indexAt
          simp [asIntOf, run_underlying ht, hc1, hc2, hsz, Addr.add_lit, Instr.sureAddr]
        · simp only [List.length_drop] at hi
          rw [Nat.add_assoc]; exact hr _ (by omega)
        · simp only [List.length_drop] at hi
          rw [List.getElem_drop]
          exact hcc _ (by omega)
        · rw [List.all_eq_true] at hp ⊢
          exact fun y hy => hp y (List.mem_of_mem_drop hy)
    · cases hrun
  · cases hrun

theorem opsim_indexA {t e : TypeId} {n len : Nat} {ag : Bool} {x j : X} {xo jo : Operand} {o : Oper} (ho : o.op = .index t xo jo) (ht : P.underlying t = some (.array len e)) (hty : TyCells P e n ag) (hx : XRel fm x xo) (hj : XRel fm j jo) : OpSimAll P fm (.indexA n ag len x j) o := by
  refine opsim_read fun CR G w0 st w fr a v st' hs hf hrun => ?_
  simp only [stepD] at hrun
  have hxv := hx.ev (a := a) hf
  have hjv := hj.ev (a := a) hf
  generalize hx0 : a.eval xo = x0 at hxv
  generalize hj0 : a.eval jo = j0 at hjv
  split at hrun
  · rename_i vs k q hb hq
    rw [hb] at hxv
    rw [hq] at hjv
    split at hrun
    · rename_i hc
      obtain ⟨hc1, hc2⟩ := hc
      simp only [Option.map_eq_some_iff] at hrun
      obtain ⟨u, hu, hrun⟩ := hrun
      cases hrun
      cases hjv
      cases hxv with
      | agg _ cs hl hcc =>
        obtain ⟨y, g1, g2⟩ := takeN_cells (P := P) (w := w) hl hcc hu hty
        refine ⟨rfl, y, ?_, g2⟩
        unfold execOp
        simp only [ho, hx0, hj0]
        refine andThen_value ?_
        obtain ⟨⟨d, hd, hag⟩, ⟨i, hi, hsz⟩, h1⟩ := hty
        have hsz : (sizeOf e).run P w = .ok n w := by unfold sizeOf typeInfo; simp [hi, hsz]
        unfold Instr.index
        simp [asIntOf, run_underlying ht, hc1, hc2, hsz, g1]
    · cases hrun
  · cases hrun

/-- Cells read one after the other. -/
theorem run_loadCells_range {w : World} {r off q : Nat} (f : Nat → Value) (h : ∀ i, i < q → w.cell? ⟨r, off + i, none⟩ = some (f i)) : (loadCells ⟨r, off, none⟩ q).run P w = .ok ((List.range q).map f).toArray w :=
  run_loadCells (P := P) w ⟨r, off, none⟩ q f (fun j hj => by rw [Addr.add_lit]; exact h j hj)

/-- The elements that an operand of append or copy brings, here and in the model. -/
structure NewsRel (P : Program) (fm : FM) (G : Gh) (w : World) (n m : Nat) (news : List DV) (x : Value) : Prop where
  len : (Builtin.lenOf x).run P w = .ok m w
  length : news.length = m * n
  scal : news.all DV.scal = true
  cells : ∀ k w', k ≤ m → Below w.heap.size w w' → ∃ vs, (Builtin.firstCells n k x).run P w' = .ok vs w' ∧ vs.size = k * n ∧ (∀ i (h : i < news.length), i < k * n → Rel fm G (news[i]) (vs.getD i undef))

theorem news_rel {CR : Nat → RC → Code → Prop} {G : Gh} {w0 w : World} {st : St} (hs : Sim fm CR G w0 st w) {n m : Nat} {news : List DV} {v : DV} {x : Value} (hv : Rel fm G v x) (h : newsD st n v = some (m, news)) : NewsRel P fm G w n m news x := by
  unfold newsD at h
  split at h
  · rename_i tag n' tk nn xs
    split at h
    · rename_i hnn
      subst hnn
      simp only [Option.some.injEq, Prod.mk.injEq] at h
      obtain ⟨rfl, rfl⟩ := h
      cases hv
      refine ⟨rfl, by simp, rfl, fun k w' hk _ => ⟨#[], rfl, by have h0 : k = 0 := Nat.le_zero.1 hk; subst h0; simp, fun i hi => by simp at hi⟩⟩
    · rename_i hnn
      split at h
      · rename_i hn'
        subst hn'
        simp only [Option.some.injEq, Prod.mk.injEq] at h
        obtain ⟨rfl, rfl⟩ := h
        cases hv with
        | nils => simp at hnn
        | list _ _ _ _ r off cap f hr hc hp hk hl hn =>
          have hfl := flat_length xs n' hn
          refine ⟨rfl, hfl, all_pure_scal hp, fun k w' hk hb => ?_⟩
          have hkn : k * n' ≤ (flat xs).length := by rw [hfl]; exact Nat.mul_le_mul_right _ hk
          have hcell : ∀ i, i < k * n' → w'.cell? ⟨r, off + i, none⟩ = some (f i) := by
            intro i hi
            obtain ⟨cs, t, fz, h1, h2⟩ := hs.ro r (off + i) (f i) (hr i (by omega))
            rw [cell?_cells ((hb.block r (get?_lt h1)).trans h1)]
            exact h2
          refine ⟨_, run_loadCells_range f hcell, by simp, fun i hi hik => ?_⟩
          rw [getD_map_range f _ i hik]
          exact hc i (by omega)
      · cases h
  · rename_i s
    split at h
    · rename_i hn
      subst hn
      simp only [Option.some.injEq, Prod.mk.injEq] at h
      obtain ⟨rfl, rfl⟩ := h
      cases hv with
      | str _ ba hba =>
        subst hba
        have hsz : ba.data.toList.length = ba.size := by rw [Array.length_toList]; rfl
        refine ⟨by rw [hsz]; rfl, by simp, ?_, fun k w' hk _ => ⟨_, rfl, ?_, fun i hi hik => ?_⟩⟩
        · rw [List.all_eq_true]
          intro y hy
          obtain ⟨b, _, rfl⟩ := List.mem_map.1 hy
          rfl
        · have : (ba.extract 0 k).data.size = k := by
            have h1 : (ba.extract 0 k).data.size = (ba.extract 0 k).size := rfl
            rw [h1, ByteArray.size_extract]; omega
          rw [Array.size_map, this, Nat.mul_one]
        · have hi' : i < ba.data.size := by simpa using hi
          have hg : (ba.extract 0 k).data[i]? = some ba.data[i] := by
            rw [ByteArray.data_extract]
            rw [Array.getElem?_extract]
            rw [if_pos (by omega), Nat.zero_add, Array.getElem?_eq_getElem hi']
          have : ((ba.extract 0 k).data.map fun b => Value.int .u8 b.toNat).getD i undef = .int .u8 ba.data[i].toNat := by
            rw [Array.getD_eq_getD_getElem?, Array.getElem?_map, hg]
            rfl
          rw [this]
          simp only [List.getElem_map, Array.getElem_toList]
          exact .int _ _
    · cases h
  · rename_i n' ag b off len cap
    split at h
    · rename_i hn'
      subst hn'
      split at h
      · rename_i g vs hb
        split at h
        · rename_i hle
          simp only [Option.some.injEq, Prod.mk.injEq] at h
          obtain ⟨rfl, rfl⟩ := h
          cases hv with
          | hsl _ _ _ _ _ _ r c hm hcap =>
            have hbo : st.heap[b]? = some (.cells g vs) := by
              unfold St.cells at hb
              split at hb
              · rename_i g' vs' e; simp only [Option.some.injEq, Prod.mk.injEq] at hb; obtain ⟨rfl, rfl⟩ := hb; exact e
              · cases hb
            obtain ⟨r', ob, h1, h2, h3, h4⟩ := hs.obj b _ hbo rfl (hs.np hm)
            rw [hm] at h1; cases h1
            have key : ∃ cs t fz, ob = .cells cs t fz ∧ vs.length ≤ cs.size ∧ (∀ i (h : i < vs.length), Rel fm G (vs[i]) (cs.getD i undef)) ∧ vs.all DV.scal = true := by
              cases g with
              | plain => obtain ⟨cs, t, fz, e, f1, f2, f3, f4⟩ := h3; exact ⟨cs, t, fz, e, by omega, f2, f4⟩
              | typed ty => obtain ⟨cs, t, fz, e, _, f1, f2, f3, f4⟩ := h3; exact ⟨cs, t, fz, e, by omega, f2, f4⟩
              | frz ty => obtain ⟨cs, t, fz, e, _, f1, _, f2, f3, f4⟩ := h3; exact ⟨cs, t, fz, e, f1, f2, f4⟩
              | grown => obtain ⟨cs, t, fz, e, f1, _, f2, f3, f4⟩ := h3; exact ⟨cs, t, fz, e, f1, f2, f4⟩
            obtain ⟨cs, t, fz, rfl, k1, k2, k3⟩ := key
            refine ⟨rfl, by simp; omega, ?_, fun k w' hk hbw => ?_⟩
            · rw [List.all_eq_true] at k3 ⊢
              exact fun y hy => k3 y (List.mem_of_mem_drop (List.mem_of_mem_take hy))
            · have hkn : k * n' ≤ len * n' := Nat.mul_le_mul_right _ hk
              have hcell : ∀ i, i < k * n' → w'.cell? ⟨r, off + i, none⟩ = some (cs.getD (off + i) undef) := by
                intro i hi
                rw [cell?_cells ((hbw.block r (get?_lt h2)).trans h2)]
                rw [Array.getD_eq_getD_getElem?, Array.getElem?_eq_getElem (by omega)]
                rfl
              refine ⟨_, run_loadCells_range _ hcell, by simp, fun i hi hik => ?_⟩
              rw [getD_map_range _ _ i hik]
              have := k2 (off + i) (by omega)
              simpa using this
        · cases h
      · cases h
    · cases h
  · cases h

/-- The bytes of a row of them. -/
theorem bytes_rel {G : Gh} : ∀ (vs : List DV) (l : List UInt8) (xs : List Value), bytesOfD vs = some l → xs.length = vs.length → (∀ i (h : i < vs.length), Rel fm G (vs[i]) (xs.getD i undef)) → ∃ ns : List Int, xs = ns.map (Value.int .u8) ∧ ns.map (fun n => UInt8.ofNat n.toNat) = l
  | [], l, xs, h, hl, _ => by
    simp only [bytesOfD, Option.some.injEq] at h; subst h
    exact ⟨[], by simpa using hl, rfl⟩
  | v :: vs, l, [], _, hl, _ => by simp at hl
  | v :: vs, l, x :: xs, h, hl, hr => by
    unfold bytesOfD at h
    split at h
    · rename_i heq; cases heq
    · rename_i n r heq
      simp only [List.cons.injEq] at heq
      obtain ⟨rfl, rfl⟩ := heq
      simp only [Option.map_eq_some_iff] at h
      obtain ⟨l', h1, rfl⟩ := h
      obtain ⟨ns, e1, e2⟩ := bytes_rel vs l' xs h1 (by simpa using hl) (fun i hi => hr (i + 1) (Nat.succ_lt_succ hi))
      have h0 := hr 0 (by simp)
      simp only [List.getElem_cons_zero, List.getD_cons_zero] at h0
      cases h0
      exact ⟨n :: ns, by simp [e1], by simp [e2]⟩
    · cases h

theorem foldl_push_bytes : ∀ (ns : List Int) (r : ByteArray), ns.foldl (fun r n => r.push (UInt8.ofNat n.toNat)) r = ⟨r.data ++ (ns.map fun n => UInt8.ofNat n.toNat).toArray⟩
  | [], r => by simp
  | n :: ns, r => by
    simp only [List.foldl_cons]
    rw [foldl_push_bytes ns]
    simp [ByteArray.push]

theorem opsim_b2s {s d e : TypeId} {x : X} {xo : Operand} {o : Oper} (ho : o.op = .convert s d xo) (hs0 : P.underlying s = some (.slice e)) (he : P.underlying e = some (.int .u8)) (hd : P.underlying d = some .string) (hx : XRel fm x xo) : OpSimAll P fm (.b2s x) o := by
  refine opsim_read fun CR G w0 st w fr a v st' hs hf hrun => ?_
  simp only [stepD] at hrun
  have hxv := hx.ev (a := a) hf
  split at hrun
  · rename_i m vs hnews
    simp only [Option.map_eq_some_iff] at hrun
    obtain ⟨l, hl, hrun⟩ := hrun
    cases hrun
    split at hnews
    · cases hnews
    rename_i dv hdv hns
    have hnr := news_rel (P := P) hs hxv hnews
    generalize hx0 : a.eval xo = x0 at hxv hnr
    obtain ⟨cs, g1, g2, g3⟩ := hnr.cells m w (Nat.le_refl _) (Below.refl _ w)
    have hlen := hnr.length
    obtain ⟨ns, e1, e2⟩ := bytes_rel (fm := fm) (G := G) vs l cs.toList hl (by simp [g2, hlen]) (fun i hi => by rw [getD_toList]; exact g3 i hi (by omega))
    have ecs : cs = (ns.map (Value.int .u8)).toArray := by rw [← e1]
    have hsl : ∀ (p : Option Addr) (n c : Nat), x0 = .slice p n c → (execOp a.eval o).run P w = .ok (.value (.string ⟨l.toArray⟩)) w := by
      intro p n c hp
      subst hp
      unfold execOp
      simp only [ho, hx0]
      refine andThen_value ?_
      rw [run_convert_bytes_string w s d e p n c hs0 he hd]
      have hnm : n = m := by
        have := hnr.len
        simp only [Builtin.lenOf, Sem.run_pure] at this
        cases this; rfl
      subst hnm
      cases p with
      | none =>
        have h0 : cs = #[] := by
          simp only [Builtin.firstCells, Sem.run_pure] at g1
          cases g1; rfl
        have : ns = [] := by
          rw [h0] at e1
          cases ns with
          | nil => rfl
          | cons _ _ => simp at e1
        subst this
        simp only [List.map_nil] at e2
        subst e2
        rfl
      | some ad =>
        have g1' : (loadCells ad n).run P w = .ok (ns.map (Value.int .u8)).toArray w := by
          simp only [Builtin.firstCells, Nat.mul_one] at g1
          rw [g1, ecs]
        rw [run_bytesToString w ad n c ns g1', foldl_push_bytes, e2]
        simp
    generalize X.ev fr x = dv' at hxv hnews hns
    unfold newsD at hnews
    split at hnews
    · cases hxv with
      | nils => exact ⟨rfl, _, hsl _ _ _ rfl, .str _ _ rfl⟩
      | list => exact ⟨rfl, _, hsl _ _ _ rfl, .str _ _ rfl⟩
    · exact absurd rfl (hns _)
    · cases hxv with
      | hsl => exact ⟨rfl, _, hsl _ _ _ rfl, .str _ _ rfl⟩
    · cases hnews
  · cases hrun

/-- A list of bytes that is laid anew. -/
theorem bytesRow_get (s : ByteArray) (c i : Nat) (h : i < s.data.toList.length) : (bytesRow s c)[i]? = some (.int .u8 (s.data.toList[i]).toNat) := by
  have hi : i < s.data.size := by simpa using h
  unfold bytesRow
  rw [Array.getElem?_append_left (by simpa using hi), Array.getElem?_map, Array.getElem?_eq_getElem hi]
  simp

theorem bytesRow_size (s : ByteArray) (c : Nat) (h : s.size ≤ c) : (bytesRow s c).size = c := by
  have : s.data.size = s.size := rfl
  simp [bytesRow, this]; omega

theorem flat_bytes (s : List UInt8) : flat (s.map fun b => DV.int .u8 b.toNat) = s.map fun b => DV.int .u8 b.toNat := by
  induction s with
  | nil => rfl
  | cons b s ih =>
    show DV.leaves (DV.int .u8 b.toNat) ++ flat (s.map fun b => DV.int .u8 b.toNat) = _
    rw [ih]; rfl

theorem opsim_s2b {s d e : TypeId} {x : X} {xo : Operand} {o : Oper} (ho : o.op = .convert s d xo) (hs0 : P.underlying s = some .string) (hd : P.underlying d = some (.slice e)) (he : P.underlying e = some (.int .u8)) (hx : XRel fm x xo) : OpSimAll P fm (.s2b x) o := by
  intro CR G w0 st w fr a v st' hs hf hrun
  simp only [stepD] at hrun
  have hxv := hx.ev (a := a) hf
  split at hrun
  · rename_i l hl
    rw [hl] at hxv
    simp only [Option.some.injEq, Prod.mk.injEq] at hrun
    obtain ⟨rfl, rfl⟩ := hrun
    generalize hx0 : a.eval xo = x0 at hxv
    cases hxv with
    | str _ ba hba =>
      subst hba
      have hc := run_bytes_of_string (P := P) w s d e ba hs0 hd he
      generalize hcap : grownCap w ba.size 0 e = cap at hc
      have hge : ba.size ≤ cap := by rw [← hcap]; exact grownCap_ge _ _ _ _
      have hsz : ba.data.toList.length = ba.size := by rw [Array.length_toList]; rfl
      have hb : Below w.heap.size w (w.drew.alloc (.cells (bytesRow ba cap) e ((bytesRow ba cap).size, (bytesRow ba cap).size + 1))) := (Below.refl _ w).drew.alloc (Nat.le_refl _) _
      have hnew : (w.drew.alloc (.cells (bytesRow ba cap) e ((bytesRow ba cap).size, (bytesRow ba cap).size + 1))).heap[w.heap.size]? = some (.cells (bytesRow ba cap) e ((bytesRow ba cap).size, (bytesRow ba cap).size + 1)) := World.alloc_heap_new w.drew _
      have hs' := hs.addRo hb hnew ba.size
      have hle := Gh.le_addRo hs (bytesRow ba cap) ba.size
      have hlist := Rel.list (fm := fm) (G := G.addRo w.heap.size (bytesRow ba cap) ba.size) st.cur 1 .no (ba.data.toList.map fun b => DV.int .u8 b.toNat) w.heap.size 0 cap (fun i => (bytesRow ba cap).getD i undef) ?_ ?_ ?_ trivial ?_ ?_
      · have e1 : (ba.data.toList.map fun b => DV.int .u8 b.toNat).length = ba.size := by simp
        rw [e1] at hlist
        refine ⟨_, _, .slice (some ⟨w.heap.size, 0, none⟩) ba.size cap, _, ?_, .inl rfl, hle, hs', hlist⟩
        unfold execOp
        simp only [ho, hx0]
        exact andThen_value hc
      · intro i hi
        rw [flat_bytes] at hi
        have hi' : i < ba.data.toList.length := by simpa using hi
        have hlt : i < ba.size := by omega
        simp [Gh.addRo, hlt, bytesRow_get ba cap i hi', Array.getD_eq_getD_getElem?]
      · intro i hi
        have hi0 := hi
        rw [flat_bytes] at hi
        have hi' : i < ba.data.toList.length := by simpa using hi
        have e1 : (flat (ba.data.toList.map fun b => DV.int .u8 b.toNat))[i] = .int .u8 (ba.data.toList[i]).toNat := by
          apply Option.some.inj
          rw [← List.getElem?_eq_getElem hi0, flat_bytes]
          rw [List.getElem?_map, List.getElem?_eq_getElem hi']; rfl
        rw [e1, Array.getD_eq_getD_getElem?, bytesRow_get ba cap i hi']
        exact .int _ _
      · rw [flat_bytes, List.all_eq_true]
        intro y hy
        obtain ⟨b, _, rfl⟩ := List.mem_map.1 hy
        rfl
      · simpa [hsz] using hge
      · intro y hy
        obtain ⟨b, _, rfl⟩ := List.mem_map.1 hy
        rfl
  · cases hrun

theorem opsim_s2h {s d e : TypeId} {x : X} {xo : Operand} {o : Oper} (ho : o.op = .convert s d xo) (hs0 : P.underlying s = some .string) (hd : P.underlying d = some (.slice e)) (he : P.underlying e = some (.int .u8)) (hx : XRel fm x xo) : OpSimAll P fm (.s2h x) o := by
  intro CR G w0 st w fr a v st' hs hf hrun
  simp only [stepD] at hrun
  have hxv := hx.ev (a := a) hf
  split at hrun
  · rename_i l hl
    rw [hl] at hxv
    simp only [Option.some.injEq, Prod.mk.injEq] at hrun
    obtain ⟨rfl, rfl⟩ := hrun
    generalize hx0 : a.eval xo = x0 at hxv
    cases hxv with
    | str _ ba hba =>
      subst hba
      have hc := run_bytes_of_string (P := P) w s d e ba hs0 hd he
      generalize hcap : grownCap w ba.size 0 e = cap at hc
      have hge : ba.size ≤ cap := by rw [← hcap]; exact grownCap_ge _ _ _ _
      have hsz : ba.data.toList.length = ba.size := by rw [Array.length_toList]; rfl
      have hss := bytesRow_size ba cap hge
      have hs' := hs.drew.push (o := .cells .grown (ba.data.toList.map fun b => DV.int .u8 b.toNat)) (ob := .cells (bytesRow ba cap) e ((bytesRow ba cap).size, (bytesRow ba cap).size + 1)) cap
        ⟨bytesRow ba cap, e, _, rfl, by simpa [hss, hsz] using hge, by simp [Gh.push, hss], fun i hi => by
          have hi' : i < ba.data.toList.length := by simpa using hi
          rw [Array.getD_eq_getD_getElem?, bytesRow_get ba cap i hi']
          simp only [List.getElem_map]
          exact .int _ _, fun i hi => by omega, by
          rw [List.all_eq_true]
          intro y hy
          obtain ⟨b, _, rfl⟩ := List.mem_map.1 hy
          rfl⟩ rfl
      have hle : G.le (G.push st.heap.length w.heap.size cap) := Gh.le_push hs.muNone
      refine ⟨_, _, .slice (some ⟨w.heap.size, 0, none⟩) ba.size cap, _, ?_, .inl rfl, hle, hs', ?_⟩
      · unfold execOp
        simp only [ho, hx0]
        exact andThen_value hc
      · rw [hsz]
        exact .hsl _ _ _ _ _ _ _ _ (by simp [Gh.push]) ⟨hge, by simp [Gh.push]⟩
  · cases hrun

end Go.D
