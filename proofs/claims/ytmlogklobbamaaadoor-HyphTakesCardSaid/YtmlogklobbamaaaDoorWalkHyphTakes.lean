/-
What the law HyphTakes runs through, walked: it tells true of all that its arguments may stand for.
-/
import Derived.Test.YtmlogklobbamaaaDoorFwDArg2
import Derived.Test.YtmlogklobbamaaaDoorWalkHyphTakes0
set_option linter.unusedSimpArgs false
set_option linter.unusedVariables false
set_option linter.unnecessarySimpa false
namespace Go.D.Tab
/-! Lists of texts that are lent -/
theorem at182 : tab 182 = some (.code f182) := by kernel_rfl
theorem at184 : tab 184 = some (.code f184) := by kernel_rfl
theorem at185 : tab 185 = some (.code f185) := by kernel_rfl
theorem at50 : tab 50 = some (.code f50) := by kernel_rfl
def lentM : List UInt8 := [108, 101, 110, 116]
def lentT (l : List (List UInt8)) : List (List UInt8) := l ++ [lentM, lentM, lentM]
theorem tx_el {l : List (List UInt8)} : ∀ y ∈ l.map DV.str, IsEl 1 false y := by
  intro y hy; obtain ⟨c, _, rfl⟩ := List.mem_map.1 hy; exact ⟨rfl, rfl, rfl⟩
theorem tx_flat (l : List (List UInt8)) : flat (l.map DV.str) = l.map DV.str := flat_scal _ tx_el
abbrev Txs (st : St) (l : List (List UInt8)) (v : DV) : Prop := Vw st 1 false (l.map DV.str) v
section
variable {st : St} {l : List (List UInt8)} {v : DV} {H : List HO} {K : List Nat}
theorem txs_len (h : Txs st l v) (st' : St) : lenV st' .slice v = some (.int .i64 l.length, st') := by simpa using Vw.len h st'
theorem txs_at (h : Txs st l v) {i : Nat} (hi : i < l.length) (k : IntKind) (st' : St) : iaddrV st' 1 v (.int k i) = some (elP 1 v i, st') := Vw.iaddr h (by simpa using hi) k st'
theorem txs_load (h : Txs st l v) {i : Nat} {x : List UInt8} (hx : l[i]? = some x) (H : List HO) (K : List Nat) : loadD (pst st H K) 1 false (elP 1 v i) = some (.str x) := Vw.load1 (Vw.inn h H K) tx_el (by simp [hx])
theorem L182_0 (hl : l.length ≤ 1000000) (y0 : DV) : ∀ (m : Nat) (d : List (List UInt8)), l.length ≤ d.length → d.length + m = l.length + 3 →
    ∃ fr, (E tab).C f182L0 [(0, y0), (3, .hsl 1 false (st.heap.length + H.length) 0 (l.length + 3) (some (l.length + 3))), (4, .int .i64 d.length)] (pst st (H ++ [.cells .plain (d.map DV.str ++ List.replicate m (DV.str []))]) K) =
      some (.exit 0, [(0, y0), (3, .hsl 1 false (st.heap.length + H.length) 0 (l.length + 3) (some (l.length + 3)))] ++ fr, pst st (H ++ [.cells .plain ((d ++ List.replicate m lentM).map DV.str)]) K) := by
  intro m
  induction m with
  | zero =>
    intro d h1 h2
    refine ⟨[(4, .int .i64 d.length), (17, .bool false)], ?_⟩
    have h0 : ¬ d.length < l.length + 3 := by omega
    have h0' : ¬ (d.length : Int) < (l.length : Int) + 3 := by omega
    rw [C_turn (L := f182L0) rfl]
    simp [f182B0, h0, h0']
  | succ m ih =>
    intro d h1 h2
    have h0 : d.length < l.length + 3 := by omega
    have h0' : (d.length : Int) < (l.length : Int) + 3 := by omega
    have hw1 : IntKind.i64.wrap ((d.length : Int) + 1) = ((d ++ [lentM]).length : Nat) := by rw [i64w (by omega)]; simp
    obtain ⟨fr, hJ⟩ := ih (d ++ [lentM]) (by simp; omega) (by simp; omega)
    refine ⟨fr, ?_⟩
    have e1 : d ++ [lentM] ++ List.replicate m lentM = d ++ List.replicate (m + 1) lentM := by rw [List.replicate_succ, List.append_assoc]; rfl
    rw [e1] at hJ
    have hs : splice (d.map DV.str ++ List.replicate (m + 1) (DV.str [])) d.length [.str lentM] = (d ++ [lentM]).map DV.str ++ List.replicate m (DV.str []) := by
      rw [splice_one (by simp), List.set_append_right _ _ (by simp)]
      simp [List.replicate_succ]
    have hlen : d.length + 1 ≤ (d.map DV.str ++ List.replicate (m + 1) (DV.str [])).length := by simp
    simp only [List.length_append, List.length_singleton] at hJ hw1
    generalize (d ++ [lentM]).map DV.str ++ List.replicate m (DV.str []) = R at *
    generalize d.map DV.str ++ List.replicate (m + 1) (DV.str []) = R0 at *
    generalize (d ++ List.replicate (m + 1) lentM).map DV.str = R1 at *
    simp only [splice, lentM] at hs
    simp at hJ hs
    rw [C_turn (L := f182L0) rfl]
    simp [f182B0, h0, h0', hw1, hs, hlen, hJ]
theorem lent182 (hv : Txs (pst st H K) l v) (hl : l.length ≤ 1000000) : (E tab).F 182 [v] (pst st H K) = some (.hsl 1 false (st.heap.length + H.length) 0 l.length (some (l.length + 3)), pst st (H ++ [.cells .plain ((lentT l).map DV.str)]) K) := by
  rw [F_go at182 rfl]
  have e0 := fun st' => txs_len hv st'
  have w1 : IntKind.i64.wrap ((l.length : Int) + 3) = l.length + 3 := i64w (by omega)
  obtain ⟨fr, hL⟩ := L182_0 (st := st) (H := H) (K := K) (l := l) hl v 3 l (Nat.le_refl _) rfl
  have er : l ++ List.replicate 3 lentM = lentT l := rfl
  rw [er] at hL
  have b1 : ((l.length : Int) + 3) * 16 ≤ 140737488355328 := by omega
  have b2 : l.length + 3 ≤ 140737488355328 := by omega
  have b3 : (l.length : Int) + 3 ≤ 140737488355328 := by omega
  have b4 : (0 : Int) ≤ (l.length : Int) + 3 := by omega
  have t1 : ((l.length : Int) + 3).toNat = l.length + 3 := by omega
  have hn := fun X : List HO => Vw.news (Vw.app (K' := K) hv X)
  simp only [List.length_map, tx_flat] at hn
  have h2 : (E tab).C (.region f182r2 [0, 3]) [(0, v), (3, .hsl 1 false (st.heap.length + H.length) 0 (l.length + 3) (some (l.length + 3)))] (pst st (H ++ [.cells .plain (List.replicate (l.length + 3) (DV.str []))]) K) =
      some (.normal, [(0, v), (3, .hsl 1 false (st.heap.length + H.length) 0 (l.length + 3) (some (l.length + 3)))], pst st (H ++ [.cells .plain (l.map DV.str ++ List.replicate 3 (DV.str []))]) K) := by
    by_cases hne : l = []
    · subst hne
      have hn0 := hn [.cells .plain (List.replicate 3 (DV.str []))]
      simp at hn0
      simp [copyD, hn0, List.replicate_succ]
    · have hp : 0 < l.length := List.length_pos_iff.2 hne
      have hn0 := hn [.cells .plain (List.replicate (l.length + 3) (DV.str []))]
      have ht : (l.map DV.str).take (l.length * 1) = l.map DV.str := List.take_of_length_le (by simp)
      have hs : splice (List.replicate (l.length + 3) (DV.str [])) 0 (l.map DV.str) = l.map DV.str ++ List.replicate 3 (DV.str []) := by
        simp [splice]
      have hmin : min l.length (l.length + 3) = l.length := by omega
      have hc := pst_copy (st := st) (K := K) (n := 1) (k := H.length) (off := 0) (len := l.length + 3) (ag := false) (c := some (l.length + 3)) (g := .plain) (vs := List.replicate (l.length + 3) (DV.str [])) hn0 (by simp [rowAt]) rfl (by omega) (by simp)
      rw [hmin, ht, hs] at hc
      have hset : (H ++ [HO.cells .plain (List.replicate (l.length + 3) (DV.str []))]).set H.length (.cells .plain (l.map DV.str ++ List.replicate 3 (DV.str []))) = H ++ [.cells .plain (l.map DV.str ++ List.replicate 3 (DV.str []))] := by simp
      rw [hset] at hc
      generalize List.replicate (l.length + 3) (DV.str []) = Z at *
      generalize l.map DV.str ++ List.replicate 3 (DV.str []) = Y at *
      simp [hc]
  have h3 : (E tab).C (.seq (.region f182r3 [0, 3, 4]) (.block 0 f182L0)) [(0, v), (3, .hsl 1 false (st.heap.length + H.length) 0 (l.length + 3) (some (l.length + 3)))] (pst st (H ++ [.cells .plain (l.map DV.str ++ List.replicate 3 (DV.str []))]) K) =
      some (.normal, [(0, v), (3, .hsl 1 false (st.heap.length + H.length) 0 (l.length + 3) (some (l.length + 3)))] ++ fr, pst st (H ++ [.cells .plain ((lentT l).map DV.str)]) K) := by
    generalize l.map DV.str ++ List.replicate 3 (DV.str []) = Y at *
    simp at hL
    simp [e0, hL]
  have h4 : (E tab).C (.region f182r0 [0]) (frame0 [v] 0) (pst st H K) = some (.normal, [(0, v)], pst st H K) := by simp
  have h5 : (E tab).C (.region f182r1 [0, 3]) [(0, v)] (pst st H K) = some (.normal, [(0, v), (3, .hsl 1 false (st.heap.length + H.length) 0 (l.length + 3) (some (l.length + 3)))], pst st (H ++ [.cells .plain (List.replicate (l.length + 3) (DV.str []))]) K) := by
    simp [e0, w1, roomD, b1, b2, b3, b4, t1, repl_one]
  have hsl := slice_hu (n := 1) (b := st.heap.length + H.length) (off := 0) (len := l.length + 3) (c := l.length + 3) (hi := l.length) (ag := false) (k := .i64) (by omega)
  rw [show f182.body = (.seq (.region f182r0 [0]) (.seq (.region f182r1 [0, 3]) (.seq (.region f182r2 [0, 3]) (.seq (.seq (.region f182r3 [0, 3, 4]) (.block 0 f182L0)) (.seq (.region f182r7 [2]) .ret))))) from rfl, C_seq, h4]
  simp only
  rw [C_seq, h5]
  simp only
  rw [C_seq, h2]
  simp only
  rw [C_seq, h3]
  simp [e0, hsl, f182]
theorem L50_0 {u : DV} (hv : Txs st l v) (hu : Txs st l u) (hl : l.length ≤ 140737488355328) (H : List HO) (K : List Nat) : ∀ (r d : List (List UInt8)), l = d ++ r →
    ∃ fr, (E tab).C f50L0 [(0, v), (1, u), (5, .int .i64 d.length)] (pst st H K) = some (.exit 0, fr, pst st H K) := by
  have e0 := fun st' => txs_len hv st'
  intro r
  induction r with
  | nil =>
    intro d hd
    refine ⟨[(0, v), (1, u), (5, .int .i64 l.length), (14, .bool false)], ?_⟩
    rw [C_turn (L := f50L0) rfl]
    simp [f50B0, e0, hd]
  | cons x r ih =>
    intro d hd
    have h0 : d.length < l.length := by simp [hd]
    have hx : l[d.length]? = some x := by simp [hd]
    have hw1 : IntKind.i64.wrap ((d.length : Int) + 1) = ((d ++ [x]).length : Nat) := by rw [i64w (by omega)]; simp
    have e1 := fun st' => txs_at hv h0 .i64 st'
    have e2 := fun H K => txs_load hv hx H K
    have e3 := fun st' => txs_at hu h0 .i64 st'
    have e4 := fun H K => txs_load hu hx H K
    obtain ⟨fr, hJ⟩ := ih (d ++ [x]) (by simp [hd])
    refine ⟨fr, ?_⟩
    simp only [List.length_append, List.length_singleton] at hJ hw1
    simp at hJ
    rw [C_turn (L := f50L0) rfl]
    simp [f50B0, e0, h0, e1, e2, e3, e4, hw1, hJ]
theorem same50 {u : DV} (hv : Txs st l v) (hu : Txs st l u) (hl : l.length ≤ 140737488355328) : (E tab).F 50 [v, u] st = some (.bool true, st) := by
  rw [F_run at50 rfl]
  have e0 := fun st' => txs_len hv st'
  have e1 := fun st' => txs_len hu st'
  obtain ⟨fr, hL⟩ := L50_0 hv hu hl [] [] l [] rfl
  simp at hL
  simp [f50, e0, e1, hL]
/-- A row that was lent, read. -/
theorem lent_viewT {k : Nat} (hr : rowAt H k = some (.plain, (lentT l).map DV.str)) : Txs (pst st H K) l (.hsl 1 false (st.heap.length + k) 0 l.length (some (l.length + 3))) ∧ Txs (pst st H K) (lentT l) (.hsl 1 false (st.heap.length + k) 0 (l.length + 3) (some (l.length + 3))) := by
  have hl : (lentT l).length = l.length + 3 := by simp [lentT]
  have hcell : (pst st H K).cells (st.heap.length + k) = some (.plain, (lentT l).map DV.str) := by rw [pst_cells, hr]
  constructor
  · have h := Vw.hsl (st := pst st H K) (n := 1) (ag := false) (xs := l.map DV.str) (st.heap.length + k) 0 (l.length + 3) .plain _ hcell (by simp [hl]) (by
      simp only [lentT, List.map_append, List.drop_zero, List.length_map, tx_flat, Nat.mul_one]
      rw [List.take_append_of_le_length (by simp), List.take_of_length_le (by simp)]) (by simp)
    simpa using h
  · have h := Vw.hsl (st := pst st H K) (n := 1) (ag := false) (xs := (lentT l).map DV.str) (st.heap.length + k) 0 (l.length + 3) .plain _ hcell (by simp [hl]) (by
      simp only [List.drop_zero, List.length_map, hl, tx_flat, Nat.mul_one]
      exact List.take_of_length_le (by simp [hl])) (by simp [hl])
    simpa [hl] using h
theorem pure182 : isPure tab 182 = false := by rw [isPure_of at182]; rfl
theorem pure50 : isPure tab 50 = true := by rw [isPure_of at50]; rfl
theorem kept184 {b : Nat} {u : DV} (hu : Txs st l u) (hl : l.length ≤ 1000000) (hb : Txs st (lentT l) (.hsl 1 false b 0 (l.length + 3) (some (l.length + 3)))) :
    (E tab).F 184 [.hsl 1 false b 0 l.length (some (l.length + 3)), u] st = some (.bool true, st) := by
  rw [F_run at184 rfl]
  have e0 := fun st' => txs_len hu st'
  have w1 : IntKind.i64.wrap ((l.length : Int) + 3) = ((l.length + 3 : Nat) : Int) := by rw [i64w (by omega)]; simp
  have e1 := lent182 (hu.inn [] []) hl
  simp at e1
  have hl3 : (lentT l).length = l.length + 3 := by simp [lentT]
  have s1 := fun (o : Nat) => slice_hu (n := 1) (b := b) (off := 0) (len := o) (c := l.length + 3) (hi := l.length + 3) (ag := false) (k := .i64) (by omega)
  have s2 := fun (o : Nat) => slice_hu (n := 1) (b := st.heap.length) (off := 0) (len := o) (c := l.length + 3) (hi := l.length + 3) (ag := false) (k := .i64) (by omega)
  have v2 := (lent_viewT (st := st) (H := [.cells .plain ((lentT l).map DV.str)]) (K := []) (k := 0) (l := l) rfl).2
  have e2 := same50 (hb.inn [.cells .plain ((lentT l).map DV.str)] []) v2 (by omega)
  generalize (lentT l).map DV.str = R at *
  simp at e2 w1 s1 s2
  simp [f184, C_dregionN, S_cons, A_cons, K_cons, loudD, pure182, pure50, e0, e1, w1, s1, s2, e2]
/-- All is written over. -/
theorem L185_0 {k n : Nat} (hn : n ≤ 1000000) : ∀ (m i : Nat) (xs : List (List UInt8)) (H : List HO), i + m = n → xs.length = n → (∀ j x, i ≤ j → xs[j]? = some x → x.length ≤ 1000000) → rowAt H k = some (.plain, xs.map DV.str) →
    ∃ (xs' : List (List UInt8)) (fr : Fr), (E tab).C f185L0 [(2, .hsl 1 false (st.heap.length + k) 0 n (some n)), (3, .int .i64 i)] (pst st H K) = some (.exit 0, fr, pst st (H.set k (.cells .plain (xs'.map DV.str))) K) := by
  intro m
  induction m with
  | zero =>
    intro i xs H hi hx hlx hr
    obtain rfl : i = n := by omega
    have hk := rowAt_lt hr
    have hset : H.set k (.cells .plain (xs.map DV.str)) = H := by
      apply List.ext_getElem?
      intro j
      by_cases hj : j = k
      · subst hj
        rw [List.getElem?_set_self hk]
        unfold rowAt at hr
        split at hr
        · rename_i e; simp only [Option.some.injEq, Prod.mk.injEq] at hr; rw [e, hr.1, hr.2]
        · cases hr
      · rw [List.getElem?_set_ne (fun e => hj e.symm)]
    refine ⟨xs, [(2, .hsl 1 false (st.heap.length + k) 0 i (some i)), (3, .int .i64 i), (11, .bool false)], ?_⟩
    rw [hset, C_turn (L := f185L0) rfl]
    simp [f185B0]
  | succ m ih =>
    intro i xs H hi hx hlx hr
    have hin : i < n := by omega
    obtain ⟨x, hxi⟩ : ∃ x, xs[i]? = some x := ⟨xs[i], List.getElem?_eq_getElem (by omega)⟩
    have hxm : x.length ≤ 1000000 := hlx i x (Nat.le_refl _) hxi
    have hk := rowAt_lt hr
    have hw1 : IntKind.i64.wrap ((i : Int) + 1) = ((i + 1 : Nat) : Int) := by rw [i64w (by omega)]; simp
    have hvi : (xs.map DV.str)[i]? = some (.str x) := by simp [hxi]
    have hsp : splice (xs.map DV.str) i [.str (x ++ [33])] = (xs.set i (x ++ [33])).map DV.str := by rw [splice_one (by simp; omega), List.map_set]
    have hle : i + 1 ≤ (xs.map DV.str).length := by simp; omega
    have hroom : x.length + 1 ≤ 4611686018427387904 := by omega
    obtain ⟨xs', fr, hJ⟩ := ih (i + 1) (xs.set i (x ++ [33])) (H.set k (.cells .plain ((xs.set i (x ++ [33])).map DV.str))) (by omega) (by simpa using hx) (fun j y hj hy => by
      rw [List.getElem?_set_ne (by omega)] at hy; exact hlx j y (by omega) hy) (rowAt_set hk _ _)
    refine ⟨xs', fr, ?_⟩
    rw [List.set_set] at hJ
    generalize xs'.map DV.str = W at *
    generalize (xs.set i (x ++ [33])).map DV.str = W1 at *
    generalize xs.map DV.str = VX at *
    simp only [splice] at hsp
    simp at hJ hsp
    rw [C_turn (L := f185L0) rfl]
    simp [f185B0, hin, hr, hvi, hle, hroom, hsp, hw1, hJ]
theorem over185 {k : Nat} (hl : l.length ≤ 100000) (hs : ∀ x ∈ l, x.length ≤ 1000000) (hr : rowAt H k = some (.plain, (lentT l).map DV.str)) :
    ∃ xs' : List (List UInt8), (E tab).F 185 [.hsl 1 false (st.heap.length + k) 0 l.length (some (l.length + 3))] (pst st H K) = some (.tuple [], pst st (H.set k (.cells .plain (xs'.map DV.str))) K) := by
  have hl3 : (lentT l).length = l.length + 3 := by simp [lentT]
  obtain ⟨xs', fr, hL⟩ := L185_0 (st := st) (K := K) (k := k) (n := l.length + 3) (by omega) (l.length + 3) 0 (lentT l) H (by omega) hl3 (fun j x _ hx => by
    have := List.mem_of_getElem? hx
    unfold lentT at this
    rcases List.mem_append.1 this with h | h
    · exact hs x h
    · have : x = lentM := by simpa using h
      rw [this]; simp [lentM]) hr
  refine ⟨xs', ?_⟩
  rw [F_go at185 rfl]
  have hsl := slice_hu (n := 1) (b := st.heap.length + k) (off := 0) (len := l.length) (c := l.length + 3) (hi := l.length + 3) (ag := false) (k := .i64) (by omega)
  simp at hL hsl
  simp [f185, hsl, hL]
end

theorem at198 : tab 198 = some (.code f198) := by kernel_rfl
theorem fmaxi (x y : Nat) : foldD max2D [.int .i64 x, .int .i64 y] = some (.int .i64 (max x y : Nat)) := by
  rcases Nat.lt_or_ge x y with h | h
  · have e : max x y = y := by omega
    simp [foldD, max2D, h, e]
  · have e : max x y = x := by omega
    have h' : ¬ x < y := by omega
    simp [foldD, max2D, h', e]
/-- No two digits side by side. -/
def NC (s : List UInt8) : Prop := ∀ a c c' b, s = a ++ c :: c' :: b → isD c = true → isD c' = true → False
theorem nc_of (s : List UInt8) (h : okP s = true) : NC s := by
  intro a c c' b hs h1 h2
  simp only [okP, Bool.and_eq_true, decide_eq_true_eq, beq_iff_eq] at h
  have h3 := h.2
  rw [scan0] at h3
  cases hk : okAll (okB0 s) 0 s with
  | false => rw [hk] at h3; cases h3
  | true =>
    have hlt : a.length + 1 < s.length := by simp [hs]
    have h4 := (okAll_iff _ _ _).1 hk (a.length + 1) hlt
    have e1 : s[a.length + 1] = c' := by
      have : s[a.length + 1]? = some c' := by simp [hs]
      rw [List.getElem?_eq_getElem hlt] at this; exact Option.some.inj this
    have e2 : s.getD a.length 0 = c := by simp [hs]
    rw [e1] at h4
    simp [okB0, h1, h2] at h4
    rw [List.getD_eq_getElem?_getD] at e2
    rw [e2, h1] at h4
    simp at h4
theorem snoc_ind {α : Type} {P : List α → Prop} (h0 : P []) (h1 : ∀ l a, P l → P (l ++ [a])) : ∀ l, P l := by
  intro l
  have : ∀ r : List α, P r.reverse := by
    intro r
    induction r with
    | nil => exact h0
    | cons a r ih => rw [List.reverse_cons]; exact h1 _ _ ih
  have := this l.reverse
  rwa [List.reverse_reverse] at this
theorem NC.pre {s : List UInt8} {c : UInt8} (h : NC (s ++ [c])) : NC s := fun a x y b hs => h a x y (b ++ [c]) (by rw [hs]; simp)
theorem digs_end : ∀ s : List UInt8, (∀ a c, s = a ++ [c] → isD c = false) → (digs 0 s).getD (letL s).length 0 = 0 := by
  apply snoc_ind
  · intro _; rfl
  · intro s c _ h
    have hc := h s c rfl
    have hl := digs_len s 0
    rw [digs_let s 0 c hc, let_let s c hc, List.length_append, List.length_singleton, List.getD_eq_getElem?_getD, List.getElem?_append_right (by omega)]
    simp [hl]
/-- What digits say, one by one. -/
theorem digs_le (x : Nat) : ∀ s : List UInt8, NC s → ∀ m, ((digs 0 s).getD m 0 ≤ x ↔ ∀ d c r, s = d ++ c :: r → isD c = true → (letL d).length = m → c.toNat - 48 ≤ x) := by
  apply snoc_ind
  · intro _ m
    constructor
    · intro _ d c r h; simp at h
    · intro _; cases m <;> simp [digs]
  · intro s c ih hN m
    have ih := ih hN.pre
    have hl := digs_len s 0
    cases hc : isD c with
    | false =>
      rw [digs_let s 0 c hc]
      constructor
      · intro h d c' r hs h1 h2
        rcases List.eq_nil_or_concat r with rfl | ⟨r', y, rfl⟩
        · have := List.append_inj' hs rfl
          simp only [List.cons.injEq, and_true] at this
          rw [this.2, h1] at hc; cases hc
        · have hs' : s ++ [c] = (d ++ c' :: r') ++ [y] := by rw [hs]; simp
          have := List.append_inj' hs' rfl
          refine (ih m).1 ?_ d c' r' this.1 h1 h2
          have hm : m < (digs 0 s).length := by
            rw [hl, ← h2, this.1]; simp [letL, List.filter_append]; omega
          rw [List.getD_eq_getElem?_getD, List.getElem?_append_left hm, ← List.getD_eq_getElem?_getD] at h
          exact h
      · intro h
        by_cases hm : m < (digs 0 s).length
        · rw [List.getD_eq_getElem?_getD, List.getElem?_append_left hm, ← List.getD_eq_getElem?_getD]
          exact (ih m).2 fun d c' r hs => h d c' (r ++ [c]) (by rw [hs]; simp)
        · rw [List.getD_eq_getElem?_getD, List.getElem?_append_right (by omega)]
          cases m - (digs 0 s).length <;> simp
    | true =>
      rw [digs_dig s 0 c hc]
      have he : (digs 0 s).getD (letL s).length 0 = 0 := by
        apply digs_end
        intro a c' hs
        cases h : isD c' with
        | false => rfl
        | true => exact (hN a c' c [] (by rw [hs]; simp) h hc).elim
      by_cases hm : m = (letL s).length
      · subst hm
        have e : ((digs 0 s).set (letL s).length (c.toNat - 48)).getD (letL s).length 0 = c.toNat - 48 := by
          rw [List.getD_eq_getElem?_getD, List.getElem?_set_self (by omega)]; rfl
        rw [e]
        constructor
        · intro h d c' r hs h1 h2
          rcases List.eq_nil_or_concat r with rfl | ⟨r', y, rfl⟩
          · have := List.append_inj' hs rfl
            simp only [List.cons.injEq, and_true] at this
            rw [← this.2]; exact h
          · have hs' : s ++ [c] = (d ++ c' :: r') ++ [y] := by rw [hs]; simp
            have := List.append_inj' hs' rfl
            exact (ih _).1 (by rw [he]; exact Nat.zero_le _) d c' r' this.1 h1 h2
        · intro h; exact h s c [] rfl hc rfl
      · have e : ((digs 0 s).set (letL s).length (c.toNat - 48)).getD m 0 = (digs 0 s).getD m 0 := by
          rw [List.getD_eq_getElem?_getD, List.getElem?_set_ne (fun e => hm e.symm), ← List.getD_eq_getElem?_getD]
        rw [e, ih m]
        constructor
        · intro h d c' r hs h1 h2
          rcases List.eq_nil_or_concat r with rfl | ⟨r', y, rfl⟩
          · have := List.append_inj' hs rfl
            rw [this.1] at hm; exact absurd h2.symm hm
          · have hs' : s ++ [c] = (d ++ c' :: r') ++ [y] := by rw [hs]; simp
            have := List.append_inj' hs' rfl
            exact h d c' r' this.1 h1 h2
        · intro h d c' r hs; exact h d c' (r ++ [c]) (by rw [hs]; simp)
section
variable {st : St}
theorem L198_0 {K : List Nat} {p : DV} {ps : List (List UInt8)} {s w all l : List UInt8} {i a : Nat} (hp : Txs st ps p) (hi : ps[i]? = some s) (hs : s.length ≤ 16) (hw : w.length ≤ 64) (ha : a ≤ 100) : ∀ (r d : List UInt8) (V : List Nat), s = d ++ r → V.length = w.length + 1 →
    ∃ (V' : List Nat) (x10 x11 : DV) (tl : Fr), (E tab).C f198L0 [(0, p), (1, .str w), (5, .hsl 1 false st.heap.length 0 (w.length + 1) (some (w.length + 1))), (6, .str all), (7, .int .i64 i), (8, .str l), (9, .int .i64 a), (10, .int .i64 ((a : Int) - 1 + (letL d).length)), (11, .int .i64 d.length)] (pst st [.cells .plain (V.map i6)] K) =
      some (.exit 4, [(0, p), (1, .str w), (5, .hsl 1 false st.heap.length 0 (w.length + 1) (some (w.length + 1))), (6, .str all), (7, .int .i64 i), (8, .str l), (9, .int .i64 a)] ++ (10, x10) :: (11, x11) :: tl, pst st [.cells .plain (V'.map i6)] K) ∧ V'.length = w.length + 1 ∧
      ∀ k x, k < w.length + 1 → (V'.getD k 0 ≤ x ↔ V.getD k 0 ≤ x ∧ ∀ d' c r', r = d' ++ c :: r' → isD c = true → a + (letL (d ++ d')).length = k + 1 → c.toNat - 48 ≤ x) := by
  have hil := (List.getElem?_eq_some_iff.1 hi).1
  have e1 := fun st' => txs_at hp hil .i64 st'
  have e2 := fun H K => txs_load hp hi H K
  intro r
  induction r with
  | nil =>
    intro d V hd hV
    obtain rfl : s = d := by simpa using hd
    refine ⟨V, .int .i64 ((a : Int) - 1 + (letL s).length), .int .i64 s.length, [(57, .bool false)], ?_, hV, ?_⟩
    · rw [C_turn (L := f198L0) rfl]
      simp [f198B0, e1, e2]
    · intro k x hk
      constructor
      · intro h; exact ⟨h, fun d' c r' h' => by simp at h'⟩
      · intro h; exact h.1
  | cons c r ih =>
    intro d V hd hV
    have h0 : d.length < s.length := by simp [hd]
    have hc : s[d.length]? = some c := by simp [hd]
    have hw1 : IntKind.i64.wrap ((d.length : Int) + 1) = (d.length : Int) + 1 := by rw [i64w (by omega)]
    have hdl : (letL d).length ≤ d.length := List.length_filter_le _ _
    have hdg := digit199 c
    have hge : s[d.length]'h0 = c := by have := hc; rw [List.getElem?_eq_getElem h0] at this; exact Option.some.inj this
    cases hD : isD c with
    | false =>
      have hll : (letL (d ++ [c])).length = (letL d).length + 1 := by rw [let_let d c hD]; simp
      have hw2 : IntKind.i64.wrap ((a : Int) - 1 + (letL d).length + 1) = (a : Int) - 1 + ((letL (d ++ [c])).length : Nat) := by rw [hll, i64w (by omega)]; omega
      obtain ⟨V', x10, x11, tl, hJ, h1, h2⟩ := ih (d ++ [c]) V (by simp [hd]) hV
      refine ⟨V', x10, x11, tl, ?_, h1, ?_⟩
      · rw [hD] at hdg
        simp only [List.length_append, List.length_singleton] at hJ
        generalize (letL (d ++ [c])).length = z at *
        simp at hJ
        rw [C_turn (L := f198L0) rfl]
        simp [f198B0, e1, e2, h0, hc, hge, hdg, hw2, hw1, hJ]
      · intro k x hk
        rw [h2 k x hk]
        constructor
        · rintro ⟨g1, g2⟩
          refine ⟨g1, fun d' c' r' e g3 g4 => ?_⟩
          cases d' with
          | nil => simp only [List.nil_append, List.cons.injEq] at e; rw [← e.1, hD] at g3; cases g3
          | cons y d' =>
            simp only [List.cons_append, List.cons.injEq] at e
            obtain ⟨rfl, e⟩ := e
            exact g2 d' c' r' e g3 (by rw [List.append_assoc]; exact g4)
        · rintro ⟨g1, g2⟩
          refine ⟨g1, fun d' c' r' e g3 g4 => ?_⟩
          exact g2 (c :: d') c' r' (by rw [e]; rfl) g3 (by rw [List.append_assoc] at g4; exact g4)
    | true =>
      have hll : letL (d ++ [c]) = letL d := let_dig d c hD
      have hcn : 48 ≤ c.toNat ∧ c.toNat ≤ 57 := by simpa [isD] using hD
      have hu8 : IntKind.u8.wrap ((c.toNat : Int) - 48) = ((c.toNat - 48 : Nat) : Int) := by
        have : ((c.toNat : Int) - 48) = ((c.toNat - 48 : Nat) : Int) := by omega
        rw [this, IntWalk.u8_in _ (by omega)]
      have hi8 : IntKind.i64.wrap ((c.toNat - 48 : Nat) : Int) = ((c.toNat - 48 : Nat) : Int) := i64w (by omega)
      -- the rest of the turn, whatever was laid
      have fin : ∀ W : List Nat, W.length = w.length + 1 → (∀ k x, k < w.length + 1 → (W.getD k 0 ≤ x ↔ V.getD k 0 ≤ x ∧ (a + (letL d).length = k + 1 → c.toNat - 48 ≤ x))) →
          ∀ V' : List Nat, V'.length = w.length + 1 → (∀ k x, k < w.length + 1 → (V'.getD k 0 ≤ x ↔ W.getD k 0 ≤ x ∧ ∀ d' c' r', r = d' ++ c' :: r' → isD c' = true → a + (letL (d ++ [c] ++ d')).length = k + 1 → c'.toNat - 48 ≤ x)) →
          ∀ k x, k < w.length + 1 → (V'.getD k 0 ≤ x ↔ V.getD k 0 ≤ x ∧ ∀ d' c' r', c :: r = d' ++ c' :: r' → isD c' = true → a + (letL (d ++ d')).length = k + 1 → c'.toNat - 48 ≤ x) := by
        intro W hW h1 V' hV' h2 k x hk
        rw [h2 k x hk, h1 k x hk]
        constructor
        · rintro ⟨⟨g1, g2⟩, g3⟩
          refine ⟨g1, fun d' c' r' e g4 g5 => ?_⟩
          cases d' with
          | nil =>
            simp only [List.nil_append, List.cons.injEq] at e
            rw [← e.1]; rw [List.append_nil] at g5; exact g2 g5
          | cons y d' =>
            simp only [List.cons_append, List.cons.injEq] at e
            obtain ⟨rfl, e⟩ := e
            exact g3 d' c' r' e g4 (by rw [List.append_assoc]; exact g5)
        · rintro ⟨g1, g2⟩
          refine ⟨⟨g1, fun g5 => g2 [] c r rfl hD (by rw [List.append_nil]; exact g5)⟩, fun d' c' r' e g4 g5 => ?_⟩
          exact g2 (c :: d') c' r' (by rw [e]; rfl) g4 (by rw [List.append_assoc] at g5; exact g5)
      by_cases hz : 1 ≤ a + (letL d).length ∧ a + (letL d).length ≤ w.length + 1
      · obtain ⟨kk, hkk⟩ : ∃ kk : Nat, a + (letL d).length = kk + 1 := ⟨a + (letL d).length - 1, by omega⟩
        have hzk : (a : Int) - 1 + (letL d).length = (kk : Int) := by omega
        have hkw : kk < w.length + 1 := by omega
        have hkw' : kk ≤ w.length := by omega
        have hkw2 : (kk : Int) < (w.length : Int) + 1 := by omega
        obtain ⟨y, hy⟩ : ∃ y, V[kk]? = some y := ⟨V[kk], List.getElem?_eq_getElem (by omega)⟩
        have hvi : (V.map i6)[kk]? = some (.int .i64 y) := by simp [hy, i6]
        have hmx := fmaxi y (c.toNat - 48)
        have hvlt : kk < (V.map i6).length := by simp; omega
        have hsp := splice_one (x := .int .i64 (max y (c.toNat - 48) : Nat)) hvlt
        have hset : (V.map i6).set kk (.int .i64 (max y (c.toNat - 48) : Nat)) = (V.set kk (max y (c.toNat - 48))).map i6 := by rw [List.map_set]; rfl
        rw [hset] at hsp
        have hle : kk + 1 ≤ (V.map i6).length := by omega
        obtain ⟨V', x10, x11, tl, hJ, h1, h2⟩ := ih (d ++ [c]) (V.set kk (max y (c.toNat - 48))) (by simp [hd]) (by simpa using hV)
        refine ⟨V', x10, x11, tl, ?_, h1, fin _ (by simpa using hV) ?_ V' h1 h2⟩
        · rw [hD] at hdg
          rw [hll] at hJ
          rw [hzk] at hJ ⊢
          simp only [List.length_append, List.length_singleton] at hJ
          generalize (V.set kk (max y (c.toNat - 48))).map i6 = W at *
          generalize V.map i6 = VM at *
          generalize c.toNat - 48 = cc at *
          simp only [splice] at hsp
          simp at hJ hsp
          have hge2 : VM[kk] = .int .i64 y := by rw [List.getElem?_eq_getElem hvlt] at hvi; exact Option.some.inj hvi
          rw [C_turn (L := f198L0) rfl]
          simp [f198B0, e1, e2, h0, hc, hge, hdg, hkw, hkw', hkw2, hu8, hi8, hvi, hge2, hvlt, hmx, hle, hsp, hw1, hJ]
        · intro k x hk
          by_cases hkk2 : k = kk
          · subst hkk2
            have e : (V.set k (max y (c.toNat - 48))).getD k 0 = max y (c.toNat - 48) := by rw [List.getD_eq_getElem?_getD, List.getElem?_set_self (by omega)]; rfl
            have e' : V.getD k 0 = y := by rw [List.getD_eq_getElem?_getD, hy]; rfl
            rw [e, e']
            constructor
            · intro h; exact ⟨by omega, fun _ => by omega⟩
            · rintro ⟨g1, g2⟩; have := g2 hkk; omega
          · have e : (V.set kk (max y (c.toNat - 48))).getD k 0 = V.getD k 0 := by rw [List.getD_eq_getElem?_getD, List.getElem?_set_ne (fun e => hkk2 e.symm), ← List.getD_eq_getElem?_getD]
            rw [e]
            constructor
            · intro h; exact ⟨h, fun h' => by omega⟩
            · intro h; exact h.1
      · obtain ⟨V', x10, x11, tl, hJ, h1, h2⟩ := ih (d ++ [c]) V (by simp [hd]) hV
        refine ⟨V', x10, x11, tl, ?_, h1, fin V hV ?_ V' h1 h2⟩
        · rw [hD] at hdg
          rw [hll] at hJ
          simp only [List.length_append, List.length_singleton] at hJ
          generalize hzz : (a : Int) - 1 + (letL d).length = z at *
          simp at hJ
          rw [C_turn (L := f198L0) rfl]
          by_cases h1 : 0 ≤ z
          · have h2 : ¬ z ≤ (w.length : Int) := by omega
            simp [f198B0, e1, e2, h0, hc, hge, hdg, h1, h2, hw1, hJ]
          · simp [f198B0, e1, e2, h0, hc, hge, hdg, h1, hw1, hJ]
        · intro k x hk
          constructor
          · intro h; exact ⟨h, fun h' => by omega⟩
          · intro h; exact h.1
end

theorem pre_take {l L : List UInt8} : l <+: L ↔ L.take l.length = l := by rw [List.prefix_iff_eq_take]; exact eq_comm
section
variable {st : St}
theorem L198_1 {K : List Nat} {p : DV} {ps : List (List UInt8)} {s w all : List UInt8} {i : Nat} (hp : Txs st ps p) (hi : ps[i]? = some s) (hok : okP s = true) (hw : w.length ≤ 64) (hall : all.length = w.length + 2) (hne : letL s ≠ []) : ∀ (n a : Nat) (V : List Nat), a + n = w.length + 3 - (letL s).length → (letL s).length ≤ 16 → (n = 0 → w.length + 2 < a + (letL s).length) → V.length = w.length + 1 →
    ∃ (V' : List Nat) (tl : Fr), (E tab).C f198L1 [(0, p), (1, .str w), (5, .hsl 1 false st.heap.length 0 (w.length + 1) (some (w.length + 1))), (6, .str all), (7, .int .i64 i), (8, .str (letL s)), (9, .int .i64 a)] (pst st [.cells .plain (V.map i6)] K) =
      some (.exit 2, [(0, p), (1, .str w), (5, .hsl 1 false st.heap.length 0 (w.length + 1) (some (w.length + 1))), (6, .str all), (7, .int .i64 i)] ++ tl, pst st [.cells .plain (V'.map i6)] K) ∧ V'.length = w.length + 1 ∧
      ∀ k x, k < w.length + 1 → (V'.getD k 0 ≤ x ↔ V.getD k 0 ≤ x ∧ ∀ a', a ≤ a' → letL s <+: all.drop a' → a' ≤ k + 1 → (digs 0 s).getD (k + 1 - a') 0 ≤ x) := by
  have hsl : s.length ≤ 16 := by simp only [okP, Bool.and_eq_true, decide_eq_true_eq] at hok; exact hok.1.2
  have hlp : 0 < (letL s).length := List.length_pos_iff.2 hne
  intro n
  induction n with
  | zero =>
    intro a V ha hl16 h0 hV
    have hgt := h0 rfl
    have hwz : IntKind.i64.wrap ((a : Int) + (letL s).length) = ((a + (letL s).length : Nat) : Int) := by rw [i64w (by omega)]; simp
    have hc : ¬ (a : Int) + (letL s).length ≤ all.length := by omega
    have hc' : ¬ a + (letL s).length ≤ all.length := by omega
    refine ⟨V, [(8, .str (letL s)), (9, .int .i64 a), (37, .bool false)], ?_, hV, ?_⟩
    · rw [C_turn (L := f198L1) rfl]
      simp at hwz
      simp [f198B1, hwz, hc, hc']
    · intro k x hk
      constructor
      · intro h
        refine ⟨h, fun a' h1 h2 h3 => ?_⟩
        have := h2.length_le
        rw [List.length_drop] at this
        omega
      · intro h; exact h.1
  | succ n ih =>
    intro a V ha hl16 h0 hV
    have hwz : IntKind.i64.wrap ((a : Int) + (letL s).length) = ((a + (letL s).length : Nat) : Int) := by rw [i64w (by omega)]; simp
    have hc' : a + (letL s).length ≤ all.length := by omega
    have hc : (a : Int) + (letL s).length ≤ all.length := by omega
    have hw1 : IntKind.i64.wrap ((a : Int) + 1) = ((a + 1 : Nat) : Int) := by rw [i64w (by omega)]; simp
    have hwm : IntKind.i64.wrap ((a : Int) - 1) = (a : Int) - 1 := by rw [i64w (by omega)]
    have hslice : sliceD true 1 (.str all) (some (.int .i64 a)) (some (.int .i64 ((a : Int) + (letL s).length))) none = some (.str ((all.drop a).take (letL s).length)) := by
      rw [slice_ss (by omega) (by omega) (by omega)]
      congr 3
      omega
    by_cases hpre : letL s <+: all.drop a
    · have ht := pre_take.1 hpre
      obtain ⟨V1, x10, x11, tl1, hI, g1, g2⟩ := L198_0 (K := K) (all := all) (l := letL s) (a := a) hp hi hsl hw (by omega) s [] V rfl hV
      obtain ⟨V', tl, hJ, h1, h2⟩ := ih (a + 1) V1 (by omega) hl16 (fun e => by omega) g1
      refine ⟨V', tl, ?_, h1, ?_⟩
      · rw [ht] at hslice
        simp [letL] at hI
        simp only [letL] at hwz hc hslice hJ ⊢
        generalize (s.filter fun c => !isD c) = L at *
        generalize V1.map i6 = W1 at *
        simp at hwz hJ hw1
        rw [C_turn (L := f198L1) rfl]
        simp [f198B1, hwz, hc, hslice, hwm, hI, hw1, hJ]
      · intro k x hk
        rw [h2 k x hk, g2 k x hk]
        have hN := nc_of s hok
        constructor
        · rintro ⟨⟨q1, q2⟩, q3⟩
          refine ⟨q1, fun a' h3 h4 h5 => ?_⟩
          by_cases e : a' = a
          · subst e
            rw [digs_le x s hN]
            intro d c r hs hd hm
            exact q2 d c r hs hd (by simp only [List.nil_append]; omega)
          · exact q3 a' (by omega) h4 h5
        · rintro ⟨q1, q2⟩
          refine ⟨⟨q1, fun d c r hs hd hm => ?_⟩, fun a' h3 h4 h5 => q2 a' (by omega) h4 h5⟩
          simp only [List.nil_append] at hm
          exact (digs_le x s hN _).1 (q2 a (Nat.le_refl _) hpre (by omega)) d c r hs hd (by omega)
    · have ht : (all.drop a).take (letL s).length ≠ letL s := fun e => hpre (pre_take.2 e)
      obtain ⟨V', tl, hJ, h1, h2⟩ := ih (a + 1) V (by omega) hl16 (fun e => by omega) hV
      refine ⟨V', tl, ?_, h1, ?_⟩
      · generalize (all.drop a).take (letL s).length = T at *
        generalize letL s = L at *
        have htb : (T == L) = false := by rw [beq_eq_false_iff_ne]; exact ht
        simp at hwz hJ hw1
        rw [C_turn (L := f198L1) rfl]
        simp [f198B1, hwz, hc, hslice, htb, hw1, hJ]
      · intro k x hk
        rw [h2 k x hk]
        constructor
        · rintro ⟨q1, q2⟩
          refine ⟨q1, fun a' h3 h4 h5 => ?_⟩
          by_cases e : a' = a
          · subst e; exact absurd h4 hpre
          · exact q2 a' (by omega) h4 h5
        · rintro ⟨q1, q2⟩
          exact ⟨q1, fun a' h3 h4 h5 => q2 a' (by omega) h4 h5⟩
theorem letL_ne {s : List UInt8} (h : okP s = true) : letL s ≠ [] := by
  simp only [okP, Bool.and_eq_true, decide_eq_true_eq, beq_iff_eq] at h
  have h3 := h.2
  rw [scan0] at h3
  cases hk : okAll (okB0 s) 0 s with
  | false => rw [hk] at h3; cases h3
  | true =>
    rw [hk] at h3
    simp only [cond_true, Option.some.injEq] at h3
    obtain ⟨c, hc, hS⟩ := List.any_eq_true.1 h3
    intro he
    have : c ∈ letL s := by
      unfold letL
      rw [List.mem_filter]
      refine ⟨hc, ?_⟩
      simp only [isS, isD, Bool.and_eq_true, decide_eq_true_eq] at hS ⊢
      simp; omega
    rw [he] at this; cases this
theorem L198_2 {K : List Nat} {p : DV} {ps : List (List UInt8)} {w all : List UInt8} (hp : Txs st ps p) (hpl : ps.length ≤ 256) (hok : ps.all okP = true) (hw : w.length ≤ 64) (hall : all.length = w.length + 2) : ∀ (r d : List (List UInt8)) (V : List Nat), ps = d ++ r → V.length = w.length + 1 →
    ∃ (V' : List Nat) (tl : Fr), (E tab).C f198L2 [(0, p), (1, .str w), (5, .hsl 1 false st.heap.length 0 (w.length + 1) (some (w.length + 1))), (6, .str all), (7, .int .i64 d.length)] (pst st [.cells .plain (V.map i6)] K) =
      some (.exit 0, [(0, p), (1, .str w), (5, .hsl 1 false st.heap.length 0 (w.length + 1) (some (w.length + 1)))] ++ tl, pst st [.cells .plain (V'.map i6)] K) ∧ V'.length = w.length + 1 ∧
      ∀ k x, k < w.length + 1 → (V'.getD k 0 ≤ x ↔ V.getD k 0 ≤ x ∧ ∀ s ∈ r, ∀ a, letL s <+: all.drop a → a ≤ k + 1 → (digs 0 s).getD (k + 1 - a) 0 ≤ x) := by
  have e0 := fun st' => txs_len hp st'
  intro r
  induction r with
  | nil =>
    intro d V hd hV
    obtain rfl : ps = d := by simpa using hd
    refine ⟨V, [(6, .str all), (7, .int .i64 ps.length), (23, .bool false)], ?_, hV, ?_⟩
    · rw [C_turn (L := f198L2) rfl]
      simp [f198B2, e0]
    · intro k x hk
      simp
  | cons s r ih =>
    intro d V hd hV
    have h0 : d.length < ps.length := by simp [hd]
    have hi : ps[d.length]? = some s := by simp [hd]
    have hoks : okP s = true := List.all_eq_true.1 hok s (by simp [hd])
    have hsl : s.length ≤ 16 := by simp only [okP, Bool.and_eq_true, decide_eq_true_eq] at hoks; exact hoks.1.2
    have hll : (letL s).length ≤ s.length := List.length_filter_le _ _
    have hw1 : IntKind.i64.wrap ((d.length : Int) + 1) = (d.length : Int) + 1 := by rw [i64w (by omega)]
    have e1 := fun st' => txs_at hp h0 .i64 st'
    have e2 := fun H K => txs_load hp hi H K
    have hlt := letters201 (s := s) (st := pst st [.cells .plain (V.map i6)] K) (by omega)
    obtain ⟨V1, tl1, hI, g1, g2⟩ := L198_1 (K := K) (all := all) hp hi hoks hw hall (letL_ne hoks) (w.length + 3 - (letL s).length) 0 V (by omega) (by omega) (fun e => by omega) hV
    obtain ⟨V', tl, hJ, h1, h2⟩ := ih (d ++ [s]) V1 (by simp [hd]) g1
    refine ⟨V', tl, ?_, h1, ?_⟩
    · simp only [List.length_append, List.length_singleton] at hJ
      generalize V1.map i6 = W1 at *
      generalize V.map i6 = W at *
      simp at hI hJ
      rw [C_turn (L := f198L2) rfl]
      simp [f198B2, e0, h0, e1, e2, hlt, hI, hw1, hJ]
    · intro k x hk
      rw [h2 k x hk, g2 k x hk]
      simp only [Nat.zero_le, true_implies, List.mem_cons, forall_eq_or_imp, and_assoc]
theorem values198 {p : DV} {ps : List (List UInt8)} {w : List UInt8} (hp : Txs st ps p) (hpl : ps.length ≤ 256) (hok : ps.all okP = true) (hw : w.length ≤ 64) :
    ∃ (V : List Nat) (t : Nat), (E tab).F 198 [p, .str w] st = some (.list t 1 .tight true (V.map i6), st) ∧ V.length = w.length + 1 ∧ ∀ k, k < w.length + 1 → V.getD k 0 = valN ps (46 :: (w ++ [46])) (k + 1) := by
  rw [F_run at198 rfl]
  obtain ⟨V, tl, hL, h1, h2⟩ := L198_2 (K := []) (all := 46 :: (w ++ [46])) hp hpl hok hw (by simp) ps [] (List.replicate (w.length + 1) 0) rfl (by simp)
  have hel : ∀ y ∈ V.map i6, IsEl 1 false y := i6_el
  have hfl := flat_scal _ hel
  have hex := ex_row (st := st) (H := [HO.cells .plain (V.map i6)]) (K := []) (k := 0) (n := 1) (ag := false) (g := .plain) (ys := V.map i6) (cap := some (w.length + 1)) (by rw [hfl]; rfl) (by omega) (.inr rfl) hel
  have hif : (if some (w.length + 1) = some (V.map i6).length then Tk.tight else Tk.no) = .tight := by rw [if_pos]; simp [h1]
  rw [hif] at hex
  have hrep : repl [DV.int .i64 0] (w.length + 1) = (List.replicate (w.length + 1) 0).map i6 := by rw [repl_one, List.map_replicate]; rfl
  have hw1 : IntKind.i64.wrap ((w.length : Int) + 1) = ((w.length + 1 : Nat) : Int) := by rw [i64w (by omega)]; simp
  refine ⟨V, st.cur, ?_, h1, ?_⟩
  · have hroom : ((w.length : Int) + 1) * 8 ≤ 140737488355328 := by omega
    have hroom1 : ((w.length : Int) + 1) ≤ 140737488355328 := by omega
    have hroom2 : w.length + 1 ≤ 140737488355328 := by omega
    have hpos : (0 : Int) ≤ (w.length : Int) + 1 := by omega
    have htn : ((w.length : Int) + 1).toNat = w.length + 1 := by omega
    have hstr1 : w.length + 1 ≤ 4611686018427387904 := by omega
    have hstr2 : w.length + 1 + 1 ≤ 4611686018427387904 := by omega
    have hstr0 : w.length ≤ 4611686018427387903 := by omega
    have hstr3 : 1 + w.length ≤ 4611686018427387904 := by omega
    have hlen : (V.map i6).length = w.length + 1 := by simp [h1]
    rw [hlen] at hex
    generalize (List.replicate (w.length + 1) 0).map i6 = Z at *
    generalize V.map i6 = VM at *
    simp at hL hex
    simp [f198, hw1, roomD, hroom, hroom1, hroom2, hpos, htn, hrep, hstr0, hstr1, hstr2, hstr3, hL, hex]
  · intro k hk
    apply eq_of_le
    intro x
    rw [h2 k x hk, valN_le]
    have e : (List.replicate (w.length + 1) 0).getD k 0 = 0 := by simp [List.getD_eq_getElem?_getD, hk]
    rw [e]
    simp only [Nat.zero_le, true_and]
    constructor
    · intro h s hs i _ h4 h5; exact h s hs i h4 h5
    · intro h s hs i h4 h5; exact h s hs i (letL_ne (List.all_eq_true.1 hok s hs)) h4 h5
end

theorem at183 : tab 183 = some (.code f183) := by kernel_rfl
theorem at186 : tab 186 = some (.code f186) := by kernel_rfl
section
variable {st : St} {H : List HO} {K : List Nat} {v w : DV} {ps es : List (List UInt8)}
theorem L183_0 (hv : Txs (pst st H K) ps v) (hps : ps.length ≤ 256) : ∀ (r d : List (List UInt8)), ps = d ++ r →
    ∃ e fr, (E tab).C f183L0 [(0, v), (1, w), (6, .int .i64 d.length)] (pst st H K) = some (e, fr, pst st H K) ∧
      if r.all okP = true then e = .exit 0 ∧ ∃ tl, fr = (0, v) :: (1, w) :: tl else e = .ret ∧ fr = [(4, .nilp), (5, .int .i64 4)] := by
  have e0 := fun st' => txs_len hv st'
  intro r
  induction r with
  | nil =>
    intro d hd
    obtain rfl : ps = d := by simpa using hd
    refine ⟨.exit 0, [(0, v), (1, w), (6, .int .i64 ps.length), (21, .bool false)], ?_, by simp⟩
    rw [C_turn (L := f183L0) rfl]
    simp [f183B0, e0]
  | cons s r ih =>
    intro d hd
    have h0 : d.length < ps.length := by simp [hd]
    have hi : ps[d.length]? = some s := by simp [hd]
    have hw1 : IntKind.i64.wrap ((d.length : Int) + 1) = (d.length : Int) + 1 := by rw [i64w (by omega)]
    have e1 := fun st' => txs_at hv h0 .i64 st'
    have e2 := hv.load1 tx_el (i := d.length) (x := .str s) (by simp [hi])
    have hp := pattern196 (s := s) (st := pst st H K)
    cases hok : okP s with
    | true =>
      rw [hok] at hp
      obtain ⟨e, fr, hJ, hR⟩ := ih (d ++ [s]) (by simp [hd])
      refine ⟨e, fr, ?_, by simpa [hok] using hR⟩
      simp at hJ
      rw [C_turn (L := f183L0) rfl]
      simp [f183B0, e0, h0, e1, e2, hp, hw1, hJ]
    | false =>
      rw [hok] at hp
      refine ⟨.ret, [(4, .nilp), (5, .int .i64 4)], ?_, by simp [hok]⟩
      rw [C_turn (L := f183L0) rfl]
      simp [f183B0, e0, h0, e1, e2, hp]
theorem L183_1 (hw : Txs (pst st H K) es w) (hes : es.length ≤ 256) (hsl : ∀ s ∈ es, s.length ≤ 1000) : ∀ (r d : List (List UInt8)), es = d ++ r →
    ∃ e fr, (E tab).C f183L1 [(0, v), (1, w), (7, .int .i64 d.length)] (pst st H K) = some (e, fr, pst st H K) ∧
      if r.all okE = true then e = .exit 2 ∧ ∃ tl, fr = (0, v) :: (1, w) :: tl else e = .ret ∧ fr = [(4, .nilp), (5, .int .i64 4)] := by
  have e0 := fun st' => txs_len hw st'
  intro r
  induction r with
  | nil =>
    intro d hd
    obtain rfl : es = d := by simpa using hd
    refine ⟨.exit 2, [(0, v), (1, w), (7, .int .i64 es.length), (33, .bool false)], ?_, by simp⟩
    rw [C_turn (L := f183L1) rfl]
    simp [f183B1, e0]
  | cons s r ih =>
    intro d hd
    have h0 : d.length < es.length := by simp [hd]
    have hi : es[d.length]? = some s := by simp [hd]
    have hw1 : IntKind.i64.wrap ((d.length : Int) + 1) = (d.length : Int) + 1 := by rw [i64w (by omega)]
    have e1 := fun st' => txs_at hw h0 .i64 st'
    have e2 := hw.load1 tx_el (i := d.length) (x := .str s) (by simp [hi])
    have hp := exception197 (s := s) (st := pst st H K) (hsl s (by simp [hd]))
    cases hok : okE s with
    | true =>
      rw [hok] at hp
      obtain ⟨e, fr, hJ, hR⟩ := ih (d ++ [s]) (by simp [hd])
      refine ⟨e, fr, ?_, by simpa [hok] using hR⟩
      simp at hJ
      rw [C_turn (L := f183L1) rfl]
      simp [f183B1, e0, h0, e1, e2, hp, hw1, hJ]
    | false =>
      rw [hok] at hp
      refine ⟨.ret, [(4, .nilp), (5, .int .i64 4)], ?_, by simp [hok]⟩
      rw [C_turn (L := f183L1) rfl]
      simp [f183B1, e0, h0, e1, e2, hp]
theorem L183_2 (hw : Txs (pst st H K) es w) (hes : es.length ≤ 256) (hsl : ∀ s ∈ es, s.length ≤ 1000) {s : List UInt8} {d : List (List UInt8)} {q : List (List UInt8)} (hd : es = d ++ s :: q) : ∀ (r c : List (List UInt8)), d = c ++ r →
    ∃ e fr, (E tab).C f183L2 [(0, v), (1, w), (8, .int .i64 d.length), (9, .int .i64 c.length)] (pst st H K) = some (e, fr, pst st H K) ∧
      if bareL s ∈ r.map bareL then e = .ret ∧ fr = [(4, .nilp), (5, .int .i64 7)] else e = .exit 6 ∧ ∃ tl, fr = (0, v) :: (1, w) :: (8, .int .i64 d.length) :: tl := by
  have hds : d.length < es.length := by simp [hd]
  have his : es[d.length]? = some s := by simp [hd]
  have e3 := fun st' => txs_at hw hds .i64 st'
  have e4 := hw.load1 tx_el (i := d.length) (x := .str s) (by simp [his])
  have hb := bare195 (s := s) (st := pst st H K) (by have := hsl s (by simp [hd]); omega)
  intro r
  induction r with
  | nil =>
    intro c hc
    obtain rfl : d = c := by simpa using hc
    refine ⟨.exit 6, [(0, v), (1, w), (8, .int .i64 d.length), (9, .int .i64 d.length), (50, .bool false)], ?_, by simp⟩
    rw [C_turn (L := f183L2) rfl]
    simp [f183B2]
  | cons y r ih =>
    intro c hc
    have h0 : c.length < d.length := by simp [hc]
    have hi : es[c.length]? = some y := by rw [hd, hc]; simp
    have hce : c.length < es.length := (List.getElem?_eq_some_iff.1 hi).1
    have hw1 : IntKind.i64.wrap ((c.length : Int) + 1) = (c.length : Int) + 1 := by rw [i64w (by omega)]
    have e1 := fun st' => txs_at hw hce .i64 st'
    have e2 := hw.load1 tx_el (i := c.length) (x := .str y) (by simp [hi])
    have hby := bare195 (s := y) (st := pst st H K) (by have := hsl y (by rw [hd, hc]; simp); omega)
    by_cases he : bareL s = bareL y
    · refine ⟨.ret, [(4, .nilp), (5, .int .i64 7)], ?_, by simp [he]⟩
      rw [C_turn (L := f183L2) rfl]
      simp [f183B2, h0, e1, e2, e3, e4, hb, hby, he]
    · obtain ⟨e, fr, hJ, hR⟩ := ih (c ++ [y]) (by simp [hc])
      refine ⟨e, fr, ?_, by simpa [he] using hR⟩
      have heb : (bareL s == bareL y) = false := by rw [beq_eq_false_iff_ne]; exact he
      simp at hJ
      rw [C_turn (L := f183L2) rfl]
      simp [f183B2, h0, e1, e2, e3, e4, hb, hby, heb, hw1, hJ]
theorem L183_3 (hw : Txs (pst st H K) es w) (hes : es.length ≤ 256) (hsl : ∀ s ∈ es, s.length ≤ 1000) : ∀ (r d : List (List UInt8)), es = d ++ r → (d.map bareL).Nodup →
    ∃ e fr, (E tab).C f183L3 [(0, v), (1, w), (8, .int .i64 d.length)] (pst st H K) = some (e, fr, pst st H K) ∧
      if (es.map bareL).Nodup then e = .exit 4 ∧ ∃ tl, fr = (0, v) :: (1, w) :: tl else e = .ret ∧ fr = [(4, .nilp), (5, .int .i64 7)] := by
  have e0 := fun st' => txs_len hw st'
  intro r
  induction r with
  | nil =>
    intro d hd hn
    obtain rfl : es = d := by simpa using hd
    refine ⟨.exit 4, [(0, v), (1, w), (8, .int .i64 es.length), (45, .bool false)], ?_, by simp [hn]⟩
    rw [C_turn (L := f183L3) rfl]
    simp [f183B3, e0]
  | cons s r ih =>
    intro d hd hn
    have h0 : d.length < es.length := by simp [hd]
    have hw1 : IntKind.i64.wrap ((d.length : Int) + 1) = (d.length : Int) + 1 := by rw [i64w (by omega)]
    obtain ⟨e, fr, hI, hR⟩ := L183_2 (v := v) hw hes hsl hd d [] rfl
    simp at hI
    by_cases hm : bareL s ∈ d.map bareL
    · rw [if_pos hm] at hR
      obtain ⟨rfl, rfl⟩ := hR
      have hnn : ¬ (es.map bareL).Nodup := by
        rw [hd, List.map_append, List.nodup_append]
        rintro ⟨_, _, h⟩
        exact h _ hm (bareL s) (by simp) rfl
      refine ⟨.ret, [(4, .nilp), (5, .int .i64 7)], ?_, by simp [hnn]⟩
      rw [C_turn (L := f183L3) rfl]
      simp [f183B3, e0, h0, hI]
    · rw [if_neg hm] at hR
      obtain ⟨rfl, tl, rfl⟩ := hR
      obtain ⟨e, fr, hJ, hR⟩ := ih (d ++ [s]) (by simp [hd]) (by rw [List.map_append]; exact (nodup_snoc _ _).2 ⟨hn, hm⟩)
      refine ⟨e, fr, ?_, hR⟩
      simp at hJ
      rw [C_turn (L := f183L3) rfl]
      simp [f183B3, e0, h0, hI, hw1, hJ]
/-- A copy of texts. -/
theorem copy_tx (hv : Txs (pst st H K) ps v) (hl : ps.length ≤ 100000) : ∃ t tk K', appendD (pst st H K) 1 false 16 (.list st.cur 1 .tight true []) v = some (.list t 1 tk true (ps.map DV.str), pst st H K') := by
  have hcong : appendD (pst st H K) 1 false 16 (.list st.cur 1 .tight true []) v = appendD (pst st H K) 1 false 16 (.list st.cur 1 .tight true []) (.list 0 1 .no true (ps.map DV.str)) := by
    have e1 := hv.news
    have e2 : newsD (pst st H K) 1 (.list 0 1 .no true (ps.map DV.str)) = some ((ps.map DV.str).length, flat (ps.map DV.str)) := by simp [newsD]
    unfold appendD
    rw [e1, e2]
  rw [hcong]
  by_cases h : ps.map DV.str = []
  · refine ⟨st.cur, .tight, K, ?_⟩
    rw [app_none (by rw [h]; simp [newsD, flat]), h]
  · have ha := app_new (st := st) (H := H) (K := K) (t := st.cur) (n' := 1) (tk := .tight) (nn := true) (xs := []) (t' := 0) (tk' := .no) (by_ := 16) (.inr ⟨rfl, rfl, rfl⟩) (by omega) h tx_el (by simp [roomD]; omega) (by simp [roomD]; omega)
    exact ⟨_, _, _, ha⟩
/-- The document's hyph on the heap. -/
def RefOk (G : List HO) (b : Nat) (ps es : List (List UInt8)) : Prop := ∃ t tk t' tk', rowAt G b = some (.plain, [.list t 1 tk true (ps.map DV.str), .list t' 1 tk' true (es.map DV.str)])
theorem RefOk.same {G G' : List HO} {b : Nat} (h : RefOk G b ps es) (hs : ∀ j, b ≤ j → j < G.length → G'[j]? = G[j]?) : RefOk G' b ps es := by
  obtain ⟨t, tk, t', tk', h⟩ := h
  exact ⟨t, tk, t', tk', by rw [rowAt_iff, hs _ (Nat.le_refl _) (rowAt_lt h)]; exact rowAt_iff.1 h⟩
theorem new183 (hsl : ∀ s ∈ es, s.length ≤ 1000) (hv : Txs (pst st H K) ps v) (hw : Txs (pst st H K) es w) :
    ∃ X K' hp, (E tab).F 183 [v, w] (pst st H K) = some (.tuple [hp, .int .i64 (errN ps es : Nat)], pst st (H ++ X) K') ∧ (errN ps es = 0 → hp = .ptr (st.heap.length + H.length) 0 ∧ RefOk (H ++ X) H.length ps es) ∧ (errN ps es ≠ 0 → hp = .nilp) := by
  rw [F_go at183 rfl]
  have hlv := fun st' => txs_len hv st'
  have hlw := fun st' => txs_len hw st'
  by_cases h1 : 256 < ps.length
  · have h1' : (256 : Int) < ps.length := by omega
    have he : errN ps es = 3 := by simp [errN, h1]
    refine ⟨[], K, .nilp, ?_, by simp [he], fun _ => rfl⟩
    rw [he]
    simp [f183, hlv, h1']
  by_cases h2 : 64 < es.length
  · have h1' : ¬ (256 : Int) < ps.length := by omega
    have h2' : (64 : Int) < es.length := by omega
    have he : errN ps es = 3 := by simp [errN, h2]
    refine ⟨[], K, .nilp, ?_, by simp [he], fun _ => rfl⟩
    rw [he]
    simp [f183, hlv, hlw, h1', h2']
  have h1' : ¬ (256 : Int) < ps.length := by omega
  have h2' : ¬ (64 : Int) < es.length := by omega
  obtain ⟨e, fr, hL, a8⟩ := L183_0 (w := w) hv (by omega) ps [] rfl
  simp at hL
  by_cases hp : ps.all okP = true
  · rw [if_pos hp] at a8
    obtain ⟨rfl, tl, rfl⟩ := a8
    obtain ⟨e, fr, hL2, c⟩ := L183_1 (v := v) hw (by omega) hsl es [] rfl
    simp at hL2
    by_cases hq : es.all okE = true
    · rw [if_pos hq] at c
      obtain ⟨rfl, tl2, rfl⟩ := c
      obtain ⟨e, fr, hL3, c⟩ := L183_3 (v := v) hw (by omega) hsl es [] rfl (by simp)
      simp at hL3
      by_cases hn : (es.map bareL).Nodup
      · rw [if_pos hn] at c
        obtain ⟨rfl, tl3, rfl⟩ := c
        have he : errN ps es = 0 := by simp only [errN, if_neg (show ¬ (256 < ps.length ∨ 64 < es.length) by omega), hp, hq, and_self, if_true, if_pos hn]
        obtain ⟨t1, tk1, K1, ha1⟩ := copy_tx hv (by omega)
        have hw1 : Txs (pst st H K1) es w := by have := hw.app [] K1; rwa [List.append_nil] at this
        obtain ⟨t2, tk2, K2, ha2⟩ := copy_tx hw1 (by omega)
        refine ⟨[.cells .plain [.list t1 1 tk1 true (ps.map DV.str), .list t2 1 tk2 true (es.map DV.str)]], K2, .ptr (st.heap.length + H.length) 0, ?_, fun _ => ⟨rfl, t1, tk1, t2, tk2, rowAt_app _ _ _ _⟩, by simp [he]⟩
        rw [he]
        simp [f183, hlv, hlw, h1', h2', hL, hL2, hL3, op_lit, repl, chunk, ha1, ha2]
      · rw [if_neg hn] at c
        obtain ⟨rfl, rfl⟩ := c
        have he : errN ps es = 7 := by simp only [errN, if_neg (show ¬ (256 < ps.length ∨ 64 < es.length) by omega), hp, hq, and_self, if_true, if_neg hn]
        refine ⟨[], K, .nilp, ?_, by simp [he], fun _ => rfl⟩
        rw [he]
        simp [f183, hlv, hlw, h1', h2', hL, hL2, hL3]
    · rw [if_neg hq] at c
      obtain ⟨rfl, rfl⟩ := c
      have he : errN ps es = 4 := by rw [errN, if_neg (show ¬ (256 < ps.length ∨ 64 < es.length) by omega), if_neg (fun h => hq h.2)]
      refine ⟨[], K, .nilp, ?_, by simp [he], fun _ => rfl⟩
      rw [he]
      simp [f183, hlv, hlw, h1', h2', hL, hL2]
  · rw [if_neg hp] at a8
    obtain ⟨rfl, rfl⟩ := a8
    have he : errN ps es = 4 := by rw [errN, if_neg (show ¬ (256 < ps.length ∨ 64 < es.length) by omega), if_neg (fun h => hp h.1)]
    refine ⟨[], K, .nilp, ?_, by simp [he], fun _ => rfl⟩
    rw [he]
    simp [f183, hlv, hlw, h1', h2', hL]
end

section
variable {st : St} {G : List HO}
theorem L186_0 {s : List UInt8} (hs : s.length ≤ 1000) : ∀ (r d : List UInt8) (K : List Nat) (v : DV), s = d ++ r → Acc st K 1 ((plc 0 d).map i6) v →
    ∃ K' v' tl, (E tab).C f186L0 [(8, v), (10, .str s), (11, .int .i64 (bareL d).length), (12, .int .i64 d.length)] (pst st G K) = some (.exit 2, (8, v') :: tl, pst st G K') ∧ Acc st K' 1 ((plc 0 s).map i6) v' := by
  intro r
  induction r with
  | nil =>
    intro d K v hd ha
    obtain rfl : s = d := by simpa using hd
    refine ⟨K, v, [(10, .str s), (11, .int .i64 (bareL s).length), (12, .int .i64 s.length), (45, .bool false)], ?_, ha⟩
    rw [C_turn (L := f186L0) rfl]
    simp [f186B0]
  | cons c r ih =>
    intro d K v hd ha
    have h0 : d.length < s.length := by simp [hd]
    have hc : s[d.length]? = some c := by simp [hd]
    have hge : s[d.length]'h0 = c := by have := hc; rw [List.getElem?_eq_getElem h0] at this; exact Option.some.inj this
    have hw1 : IntKind.i64.wrap ((d.length : Int) + 1) = (d.length : Int) + 1 := by rw [i64w (by omega)]
    have hbl := bare_len d
    have hpl := plc_len d 0
    by_cases h : c.toNat = 45
    · have hci : (c.toNat : Int) = 45 := by omega
      have hps := plc_sign d 0 c h
      have hbs := bare_sign d c h
      obtain ⟨v', K', hap, ha'⟩ := acc_app (st := st) (H := G) (by_ := 8) (ag := false) (ys := [i6 (bareL d).length]) (t := st.cur) (tk := .tight) ha (by omega) (by simp) (by intro z hz; simp only [List.mem_singleton] at hz; subst hz; exact ⟨rfl, rfl, rfl⟩) (by simp [roomD]; omega) (by simp [roomD]; omega)
      obtain ⟨K2, v2, tl, hJ, hA⟩ := ih (d ++ [c]) K' v' (by simp [hd]) (by rw [hps]; simpa using ha')
      refine ⟨K2, v2, tl, ?_, hA⟩
      rw [hbs] at hJ
      simp only [List.length_append, List.length_singleton] at hJ
      simp only [i6] at hap
      generalize (bareL d).length = bl at *
      simp at hJ
      rw [C_turn (L := f186L0) rfl]
      simp [f186B0, h0, hc, hge, h, hci, op_lit, repl, chunk, hap, hw1, hJ]
    · have hci : ¬ (c.toNat : Int) = 45 := by omega
      have hps := plc_let d 0 c h
      have hbs := bare_let d c h
      have hw2 : IntKind.i64.wrap (((bareL d).length : Int) + 1) = (((bareL (d ++ [c])).length : Nat) : Int) := by rw [hbs, i64w (by omega)]; simp
      obtain ⟨K2, v2, tl, hJ, hA⟩ := ih (d ++ [c]) K v (by simp [hd]) (by rw [hps]; exact ha)
      refine ⟨K2, v2, tl, ?_, hA⟩
      rw [hbs] at hJ hw2
      simp only [List.length_append, List.length_singleton] at hJ hw2
      generalize (bareL d).length = bl at *
      simp at hJ hw2
      rw [C_turn (L := f186L0) rfl]
      simp [f186B0, h0, hc, hge, h, hci, hw2, hw1, hJ]
theorem L186_1 {K : List Nat} {b t t' : Nat} {tk tk' : Tk} {ps es : List (List UInt8)} {u : List UInt8} (hes : es.length ≤ 256) (hsl : ∀ s ∈ es, s.length ≤ 1000) (hb : rowAt G b = some (.plain, [.list t 1 tk true (ps.map DV.str), .list t' 1 tk' true (es.map DV.str)])) : ∀ (r d : List (List UInt8)), es = d ++ r →
    ∃ e fr K', (E tab).C f186L1 [(0, .ptr (st.heap.length + b) 0), (6, .str u), (8, .list 0 0 .no false []), (9, .int .i64 d.length)] (pst st G K) = some (e, fr, pst st G K') ∧
      match r.find? (fun s => bareL s == u) with
      | none => e = .exit 0 ∧ ∃ tl, fr = (0, .ptr (st.heap.length + b) 0) :: (6, .str u) :: (8, .list 0 0 .no false []) :: tl
      | some s => e = .ret ∧ ∃ v, fr = [(4, v), (5, .int .i64 0)] ∧ Acc st K' 1 ((plc 0 s).map i6) v := by
  intro r
  induction r with
  | nil =>
    intro d hd
    obtain rfl : es = d := by simpa using hd
    refine ⟨.exit 0, [(0, .ptr (st.heap.length + b) 0), (6, .str u), (8, .list 0 0 .no false []), (9, .int .i64 es.length), (28, .bool false)], K, ?_, by simp⟩
    rw [C_turn (L := f186L1) rfl]
    simp [f186B1, hb]
  | cons s r ih =>
    intro d hd
    have h0 : d.length < es.length := by simp [hd]
    have hw1 : IntKind.i64.wrap ((d.length : Int) + 1) = (d.length : Int) + 1 := by rw [i64w (by omega)]
    have hx : (es.map DV.str)[d.length]? = some (.str s) := by simp [hd]
    have hlen : (es.map DV.str).length = es.length := by simp
    have hbr := bare195 (s := s) (st := pst st G K) (by have := hsl s (by simp [hd]); omega)
    generalize hE : es.map DV.str = E0 at *
    have hlt : d.length < E0.length := by omega
    have hge : E0[d.length]'hlt = .str s := by have := hx; rw [List.getElem?_eq_getElem hlt] at this; exact Option.some.inj this
    by_cases he : bareL s = u
    · obtain ⟨K', v', tl, hI, hA⟩ := L186_0 (st := st) (G := G) (s := s) (hsl s (by simp [hd])) s [] K (.list 0 0 .no false []) rfl (.inl ⟨rfl, 0, 0, .no, rfl⟩)
      refine ⟨.ret, [(4, v'), (5, .int .i64 0)], K', ?_, by simp [he, hA]⟩
      simp [bareL] at hI
      rw [C_turn (L := f186L1) rfl]
      simp [f186B1, hb, hlen, h0, hx, hge, hlt, hbr, he, hI]
    · have heb : (bareL s == u) = false := by rw [beq_eq_false_iff_ne]; exact he
      obtain ⟨e, fr, K', hJ, hR⟩ := ih (d ++ [s]) (by simp [hd])
      refine ⟨e, fr, K', ?_, by simpa [heb] using hR⟩
      simp at hJ
      rw [C_turn (L := f186L1) rfl]
      simp [f186B1, hb, hlen, h0, hx, hge, hlt, hbr, heb, hw1, hJ]
theorem L186_2 {n : Nat} {w : List UInt8} {VL : DV} {V : List Nat} {t : Nat} (hw : w.length = n) (hn : n ≤ 64) (hV : V.length = n + 1) (hVL : VL = .list t 1 .tight true (V.map i6)) : ∀ (j k : Nat) (xs : List Nat) (v : DV) (K : List Nat), 2 ≤ k → k + j = n - 4 + 2 → xs.length + j ≤ 100 → Acc st K 1 (xs.map i6) v →
    ∃ v' K' tl, (E tab).C f186L2 [(6, .str w), (8, v), (13, VL), (14, .int .i64 k)] (pst st G K) =
      some (.exit 4, (6, .str w) :: (8, v') :: tl, pst st G K') ∧ Acc st K' 1 ((xs ++ (List.range' k j).filter fun k => V.getD k 0 % 2 == 1).map i6) v' := by
  subst hVL
  intro j
  induction j with
  | zero =>
    intro k xs v K hk hj hx ha
    have hc : ¬ (IntKind.i64.wrap ((k : Int) + 3) ≤ (n : Int)) := by rw [i64w (by omega)]; omega
    refine ⟨v, K, [(13, .list t 1 .tight true (V.map i6)), (14, .int .i64 k), (69, .bool false)], ?_, by simpa using ha⟩
    rw [C_turn (L := f186L2) rfl]
    simp [f186B2, hw, hc]
  | succ j ih =>
    intro k xs v K hk hj hx ha
    have hc : IntKind.i64.wrap ((k : Int) + 3) ≤ (n : Int) := by rw [i64w (by omega)]; omega
    have hw1 : IntKind.i64.wrap ((k : Int) + 1) = ((k + 1 : Nat) : Int) := by rw [i64w (by omega)]; simp
    obtain ⟨y, hy⟩ : ∃ y, V[k]? = some y := ⟨V[k], List.getElem?_eq_getElem (by omega)⟩
    have hyd : V.getD k 0 = y := by simp [hy]
    have hvx : (V.map i6)[k]? = some (.int .i64 y) := by simp [hy, i6]
    have htm : (y : Int).tmod 2 = ((y % 2 : Nat) : Int) := rfl
    generalize V.map i6 = VM at *
    have hlt : k < VM.length := (List.getElem?_eq_some_iff.1 hvx).1
    have hge : VM[k]'hlt = .int .i64 y := by have := hvx; rw [List.getElem?_eq_getElem hlt] at this; exact Option.some.inj this
    rw [List.range'_succ, List.filter_cons, hyd]
    by_cases hodd : y % 2 = 1
    · have hdec : (y : Int) % 2 = 1 := by omega
      obtain ⟨v', K', hap, ha'⟩ := acc_app (st := st) (H := G) (by_ := 8) (ag := false) (ys := [i6 k]) (t := st.cur) (tk := .tight) ha (by omega) (by simp) (by intro z hz; simp only [List.mem_singleton] at hz; subst hz; exact ⟨rfl, rfl, rfl⟩) (by simp [roomD]; omega) (by simp [roomD]; omega)
      obtain ⟨v2, K2, tl, hJ, hA⟩ := ih (k + 1) (xs ++ [k]) v' K' (by omega) (by omega) (by simp; omega) (by simpa using ha')
      refine ⟨v2, K2, tl, ?_, by simpa [hodd] using hA⟩
      simp at hJ
      simp only [i6] at hap
      rw [C_turn (L := f186L2) rfl]
      simp [f186B2, hw, hc, hw1, hlt, hge, hvx, htm, hdec, op_lit, repl, chunk, hap, hJ]
    · have hdec : ¬ (y : Int) % 2 = 1 := by omega
      obtain ⟨v2, K2, tl, hJ, hA⟩ := ih (k + 1) xs v K (by omega) (by omega) (by omega) ha
      refine ⟨v2, K2, tl, ?_, by simpa [hodd] using hA⟩
      simp at hJ
      rw [C_turn (L := f186L2) rfl]
      simp [f186B2, hw, hc, hw1, hlt, hge, hvx, htm, hdec, hJ]
theorem err0 {ps es : List (List UInt8)} (h : errN ps es = 0) : ps.length ≤ 256 ∧ es.length ≤ 64 ∧ ps.all okP = true ∧ es.all okE = true ∧ (es.map bareL).Nodup := by
  unfold errN at h
  split at h
  · cases h
  · split at h
    · split at h
      · rename_i h1 h2 h3; exact ⟨by omega, by omega, h2.1, h2.2, h3⟩
      · cases h
    · cases h
theorem points186 {K : List Nat} {b : Nat} {ps es : List (List UInt8)} (h : RefOk G b ps es) (h0 : errN ps es = 0) (hes : ∀ s ∈ es, s.length ≤ 1000) (w : List UInt8) (hwl : w.length ≤ 4611686018427387903) :
    ∃ v K', (E tab).F 186 [.ptr (st.heap.length + b) 0, .str w] (pst st G K) = some (.tuple [v, .int .i64 (if okW w then 0 else 4 : Nat)], pst st G K') ∧ Lw 1 ((if okW w then points ps es (w.map lowB) else []).map i6) v := by
  rw [F_go at186 rfl]
  obtain ⟨e1, e2, e3, e4, e5⟩ := err0 h0
  obtain ⟨t, tk, t', tk', hb⟩ := h
  have hlo := lower194 (s := w) (st := pst st G K) hwl
  cases hok : okW w with
  | false =>
    refine ⟨.list 0 0 .no false [], K, ?_, by simpa using Lw.list 0 0 .no false (fun h => by cases h) (fun _ => rfl)⟩
    cases hS : allS w with
    | false =>
      rw [hS] at hlo
      simp at hlo
      simp [f186, hlo]
    | true =>
      have hf : (decide (1 ≤ w.length) && decide (w.length ≤ 64)) = false := by simpa [okW, hS] using hok
      rw [hS, hf] at hlo
      simp at hlo
      simp [f186, hlo]
  | true =>
    have hok' := hok
    simp only [okW, Bool.and_eq_true, decide_eq_true_eq] at hok'
    have hS := hok'.1
    have hl64 := hok'.2.2
    have hf : (decide (1 ≤ w.length) && decide (w.length ≤ 64)) = true := by simpa [okW, hS] using hok
    rw [hS, hf] at hlo
    simp only [if_true] at hlo ⊢
    generalize hu : w.map lowB = u at *
    have hul : u.length ≤ 64 := by rw [← hu]; simpa using hl64
    obtain ⟨e, fr, K1, hL, hR⟩ := L186_1 (st := st) (K := K) (u := u) (by omega) hes hb es [] rfl
    simp at hL
    cases hf : es.find? (fun s => bareL s == u) with
    | some s =>
      rw [hf] at hR
      obtain ⟨rfl, v, rfl, hA⟩ := hR
      refine ⟨v, K1, ?_, by simp only [points, hf]; exact acc_lw hA⟩
      simp [f186, hlo, hL]
    | none =>
      rw [hf] at hR
      obtain ⟨rfl, tl, rfl⟩ := hR
      have hp : Txs (pst st G K1) ps (.list t 1 tk true (ps.map DV.str)) := .list _ _ _ _ (fun _ => rfl) (fun h => by cases h)
      obtain ⟨V, tv, hval, hV, hvv⟩ := values198 hp (by omega) e3 hul
      obtain ⟨v', K', tl2, hL2, hA⟩ := L186_2 (st := st) (G := G) (t := tv) rfl hul hV rfl (u.length - 4) 2 [] (.list 0 0 .no false []) K1 (by omega) (by omega) (by simp; omega) (.inl ⟨rfl, 0, 0, .no, rfl⟩)
      have e2' : (List.range' 2 (u.length - 4)).filter (fun k => V.getD k 0 % 2 == 1) = ptsN ps u := by
        unfold ptsN
        apply List.filter_congr
        intro k hk
        rw [List.mem_range'_1] at hk
        rw [hvv k (by omega)]
      rw [List.nil_append, e2'] at hA
      refine ⟨v', K', ?_, by simp only [points, hf]; exact acc_lw hA⟩
      generalize V.map i6 = VM at *
      simp at hL2
      simp [f186, hlo, hL, hb, hval, hL2]
end

theorem at143 : tab 143 = some (.code f143) := by kernel_rfl
theorem at188 : tab 188 = some (.code f188) := by kernel_rfl
theorem at187 : tab 187 = some (.code f187) := by kernel_rfl
theorem at181 : tab 181 = some (.code f181) := by kernel_rfl
theorem plain_err : errN plainP plainE = 0 := by decide +kernel
theorem plain_len : ∀ s ∈ plainE, s.length ≤ 1000 := by decide +kernel
section
variable {st : St}
theorem L187_0 {v u : DV} {l : List Nat} (hv : Lw 1 (l.map i6) v) (hu : Lw 1 (l.map i6) u) (hl : l.length ≤ 140737488355328) (H : List HO) (K : List Nat) : ∀ (r d : List Nat), l = d ++ r →
    ∃ fr, (E tab).C f187L0 [(0, v), (1, u), (5, .int .i64 d.length)] (pst st H K) = some (.exit 0, fr, pst st H K) := by
  have v0 : Vw (pst st H K) 1 false (l.map i6) v := hv.vw
  have u0 : Vw (pst st H K) 1 false (l.map i6) u := hu.vw
  have e0 := v0.len
  simp only [List.length_map] at e0
  intro r
  induction r with
  | nil =>
    intro d hd
    refine ⟨[(0, v), (1, u), (5, .int .i64 l.length), (14, .bool false)], ?_⟩
    rw [C_turn (L := f187L0) rfl]
    simp [f187B0, e0, hd]
  | cons x r ih =>
    intro d hd
    have h0 : d.length < l.length := by simp [hd]
    have hx : (l.map i6)[d.length]? = some (.int .i64 x) := by simp [hd, i6]
    have hw1 : IntKind.i64.wrap ((d.length : Int) + 1) = ((d ++ [x]).length : Nat) := by rw [i64w (by omega)]; simp
    have e1 := fun st' => v0.iaddr (i := d.length) (by simpa using h0) .i64 st'
    have e2 := v0.load1 i6_el hx
    have e3 := fun st' => u0.iaddr (i := d.length) (by simpa using h0) .i64 st'
    have e4 := u0.load1 i6_el hx
    obtain ⟨fr, hJ⟩ := ih (d ++ [x]) (by simp [hd])
    refine ⟨fr, ?_⟩
    simp only [List.length_append, List.length_singleton] at hJ hw1
    simp at hJ
    rw [C_turn (L := f187L0) rfl]
    simp [f187B0, e0, h0, e1, e2, e3, e4, hw1, hJ]
theorem same187 {v u : DV} {l : List Nat} (hv : Lw 1 (l.map i6) v) (hu : Lw 1 (l.map i6) u) (hl : l.length ≤ 140737488355328) : (E tab).F 187 [v, u] st = some (.bool true, st) := by
  rw [F_run at187 rfl]
  have e0 := (hv.vw (st := st) (ag := false)).len
  have e1 := (hu.vw (st := st) (ag := false)).len
  simp only [List.length_map] at e0 e1
  obtain ⟨fr, hL⟩ := L187_0 (st := st) hv hu hl [] [] l [] rfl
  simp at hL
  simp [f187, e0, e1, hL]
/-- Are texts more than are gone through? -/
def longB (l : List (List UInt8)) : Bool := decide (300 < l.length) || l.any fun s => decide (200 < s.length)
theorem L181_0 {v : DV} {l : List (List UInt8)} {H : List HO} {K : List Nat} (hv : Txs (pst st H K) l v) (hl : l.length ≤ 300) : ∀ (r d : List (List UInt8)), l = d ++ r →
    ∃ e fr, (E tab).C f181L0 [(0, v), (3, .int .i64 d.length)] (pst st H K) = some (e, fr, pst st H K) ∧ if (r.any fun s => decide (200 < s.length)) = true then e = .ret ∧ fr = [(2, .bool true)] else e = .exit 0 := by
  have e0 := fun st' => txs_len hv st'
  intro r
  induction r with
  | nil =>
    intro d hd
    obtain rfl : l = d := by simpa using hd
    refine ⟨.exit 0, [(0, v), (3, .int .i64 l.length), (10, .bool false)], ?_, by simp⟩
    rw [C_turn (L := f181L0) rfl]
    simp [f181B0, e0]
  | cons s r ih =>
    intro d hd
    have h0 : d.length < l.length := by simp [hd]
    have hw1 : IntKind.i64.wrap ((d.length : Int) + 1) = (d.length : Int) + 1 := by rw [i64w (by omega)]
    have e1 := fun st' => txs_at hv h0 .i64 st'
    have e2 := hv.load1 tx_el (i := d.length) (x := .str s) (by simp [hd])
    by_cases hs : 200 < s.length
    · have hs' : (200 : Int) < s.length := by omega
      refine ⟨.ret, [(2, .bool true)], ?_, by simp [hs]⟩
      rw [C_turn (L := f181L0) rfl]
      simp [f181B0, e0, h0, e1, e2, hs, hs']
    · have hs' : ¬ (200 : Int) < s.length := by omega
      obtain ⟨e, fr, hJ, hR⟩ := ih (d ++ [s]) (by simp [hd])
      refine ⟨e, fr, ?_, by simpa [hs] using hR⟩
      simp at hJ
      rw [C_turn (L := f181L0) rfl]
      simp [f181B0, e0, h0, e1, e2, hs, hs', hw1, hJ]
theorem long181 {v : DV} {l : List (List UInt8)} (hv : Txs st l v) : (E tab).F 181 [v] st = some (.bool (longB l), st) := by
  rw [F_run at181 rfl]
  have e0 := fun st' => txs_len hv st'
  by_cases h : 300 < l.length
  · have h' : (300 : Int) < l.length := by omega
    simp [f181, e0, h, h', longB]
  · have h' : ¬ (300 : Int) < l.length := by omega
    obtain ⟨e, fr, hL, hR⟩ := L181_0 (hv.inn [] []) (by omega) l [] rfl
    simp at hL
    by_cases ha : (l.any fun s => decide (200 < s.length)) = true
    · rw [if_pos ha] at hR
      obtain ⟨rfl, rfl⟩ := hR
      have e : longB l = true := by simp only [longB, ha, Bool.or_true]
      rw [e]
      simp [f181, e0, h', hL]
    · rw [if_neg ha] at hR
      subst hR
      have e : longB l = false := by simp only [longB, Bool.not_eq_true] at ha ⊢; simp [ha, h]
      rw [e]
      simp [f181, e0, h', hL]
theorem long_no {l : List (List UInt8)} (h : longB l = false) : l.length ≤ 300 ∧ ∀ s ∈ l, s.length ≤ 200 := by
  simp only [longB, Bool.or_eq_false_iff, decide_eq_false_iff_not, Nat.not_lt, List.any_eq_false, decide_eq_true_eq] at h
  exact h
/-- The plain hyph, of both. -/
theorem plain143 (G : List HO) (K : List Nat) : ∃ X, (E tab).F 143 [] (pst st G K) = some (.ptr (st.heap.length + (G.length + 2)) 0, pst st (G ++ X) K) ∧ HypOk st (G ++ X) G.length plainP plainE := by
  rw [F_go at143 rfl]
  have hf := fields_run (pst st G K)
  have hv : Txs (pst st G K) plainP (.list 0 1 .tight true (plainP.map DV.str)) := .list _ _ _ _ (fun _ => rfl) (fun h => by cases h)
  have hw : Txs (pst st G K) plainE (.list st.cur 1 .tight true (plainE.map DV.str)) := .list _ _ _ _ (fun _ => rfl) (fun h => by cases h)
  obtain ⟨X, hp, hn, h0, _⟩ := new147 (K := K) plain_len hv hw
  obtain ⟨rfl, hok⟩ := h0 plain_err
  rw [plain_err] at hn
  refine ⟨X, ?_, hok⟩
  generalize plainP.map DV.str = PL at *
  simp [plainT] at hf
  simp [plainE] at hn
  simp [f143, hf, op_lit, repl, chunk, hn]
theorem plain188 (G : List HO) (K : List Nat) : ∃ X K', (E tab).F 188 [] (pst st G K) = some (.ptr (st.heap.length + G.length) 0, pst st (G ++ X) K') ∧ RefOk (G ++ X) G.length plainP plainE := by
  rw [F_go at188 rfl]
  have hv : Txs (pst st G K) plainP (.list st.cur 1 .tight true (plainP.map DV.str)) := .list _ _ _ _ (fun _ => rfl) (fun h => by cases h)
  have hw : Txs (pst st G K) plainE (.list st.cur 1 .tight true (plainE.map DV.str)) := .list _ _ _ _ (fun _ => rfl) (fun h => by cases h)
  obtain ⟨X, K', hp, hn, h0, _⟩ := new183 (K := K) plain_len hv hw
  obtain ⟨rfl, hok⟩ := h0 plain_err
  rw [plain_err] at hn
  refine ⟨X, K', ?_, hok⟩
  simp [plainE, plainP] at hn
  simp [f188, op_lit, repl, chunk, hn]
end

theorem list_of {α : Type} {f : α → DV} : ∀ {xs : List DV}, (∀ x ∈ xs, ∃ a, x = f a) → ∃ l : List α, xs = l.map f
  | [], _ => ⟨[], rfl⟩
  | x :: r, h => by
    obtain ⟨a, rfl⟩ := h x (List.mem_cons_self ..)
    obtain ⟨l, rfl⟩ := list_of fun y hy => h y (List.mem_cons_of_mem _ hy)
    exact ⟨a :: l, rfl⟩
theorem fit_txs {v : DV} (h : Fit (.list false 16 [.str]) v) (st : St) : ∃ l : List (List UInt8), Txs st l v ∧ l.length ≤ 140737488355328 := by
  obtain ⟨nn, xs, rfl, hnn, hmax, hlen, hxs⟩ := h
  obtain ⟨l, rfl⟩ : ∃ l : List (List UInt8), xs = l.map DV.str := list_of fun x hx => by
    obtain ⟨vs, ⟨_, _, rfl, ⟨s, rfl, _⟩, rfl⟩, rfl⟩ := hxs x hx
    exact ⟨s, rfl⟩
  refine ⟨l, .list _ _ _ _ (fun _ => rfl) hnn, ?_⟩
  unfold reachBytes at hlen; simp at hlen; omega

/-! A pattern with an 8 at one place -/
def p8 (r : List UInt8) (a : Nat) : List UInt8 := r.take a ++ 56 :: r.drop a
theorem isD56 : isD 56 = true := by decide
theorem isS56 : isS 56 = false := by decide
theorem S_noD {c : UInt8} (h : isS c = true) : isD c = false := by
  simp only [isS, isD, Bool.and_eq_true, decide_eq_true_eq] at h ⊢
  simp; omega
theorem p8_len {r : List UInt8} {a : Nat} (ha : a ≤ r.length) : (p8 r a).length = r.length + 1 := by simp [p8]; omega
theorem letL_all {r : List UInt8} (h : r.all isS = true) : letL r = r := by
  unfold letL
  rw [List.filter_eq_self]
  intro c hc
  rw [S_noD (List.all_eq_true.1 h c hc)]; rfl
theorem p8_let {r : List UInt8} {a : Nat} (h : r.all isS = true) : letL (p8 r a) = r := by
  have h1 : ∀ l : List UInt8, (∀ c ∈ l, c ∈ r) → letL l = l := fun l hl => letL_all (List.all_eq_true.2 fun c hc => List.all_eq_true.1 h c (hl c hc))
  have e1 := h1 (r.take a) fun c hc => List.mem_of_mem_take hc
  have e2 := h1 (r.drop a) fun c hc => List.mem_of_mem_drop hc
  unfold p8
  rw [show letL (r.take a ++ 56 :: r.drop a) = letL (r.take a) ++ letL (56 :: r.drop a) by simp [letL, List.filter_append], e1]
  rw [show letL (56 :: r.drop a) = letL (r.drop a) by simp [letL, isD56], e2, List.take_append_drop]
theorem digs_all : ∀ (r : List UInt8) (d : Nat), r.all isS = true → digs d r = d :: List.replicate r.length 0
  | [], d, _ => rfl
  | c :: r, d, h => by
    simp only [List.all_cons, Bool.and_eq_true] at h
    simp only [digs, S_noD h.1, Bool.false_eq_true, if_false, digs_all r 0 h.2, List.length_cons, List.replicate_succ]
theorem digs_p8 : ∀ (l q : List UInt8) (m : Nat), l.all isS = true → q.all isS = true → (digs 0 (l ++ 56 :: q)).getD m 0 = if m = l.length then 8 else 0
  | [], q, m, _, hq => by
    have e : digs 0 ([] ++ 56 :: q) = 8 :: List.replicate q.length 0 := by
      simp only [List.nil_append, digs, isD56, if_true]
      exact digs_all q 8 hq
    rw [e]
    cases m with
    | zero => rfl
    | succ m => simp [List.getD_eq_getElem?_getD, List.getElem?_replicate]; split <;> rfl
  | c :: l, q, m, hl, hq => by
    simp only [List.all_cons, Bool.and_eq_true] at hl
    simp only [List.cons_append, digs, S_noD hl.1, Bool.false_eq_true, if_false]
    cases m with
    | zero => simp
    | succ m => rw [List.getD_cons_succ, digs_p8 l q m hl.2 hq]; simp
theorem all_sub {r l : List UInt8} (h : r.all isS = true) (hl : ∀ c ∈ l, c ∈ r) : l.all isS = true := List.all_eq_true.2 fun c hc => List.all_eq_true.1 h c (hl c hc)
theorem p8_digs {r : List UInt8} {a m : Nat} (h : r.all isS = true) (ha : a ≤ r.length) : (digs 0 (p8 r a)).getD m 0 = if m = a then 8 else 0 := by
  unfold p8
  rw [digs_p8 _ _ m (all_sub h fun c hc => List.mem_of_mem_take hc) (all_sub h fun c hc => List.mem_of_mem_drop hc)]
  simp [Nat.min_eq_left ha]
theorem p8_ok {r : List UInt8} {a : Nat} (h : r.all isS = true) (ha : a ≤ r.length) (hn : r ≠ []) (hl : r.length ≤ 12) : okP (p8 r a) = true := by
  have hlen := p8_len ha
  have hmem : ∀ c ∈ p8 r a, c = 56 ∨ isS c = true := by
    intro c hc
    unfold p8 at hc
    rcases List.mem_append.1 hc with hc | hc
    · exact .inr (List.all_eq_true.1 h c (List.mem_of_mem_take hc))
    · rcases List.mem_cons.1 hc with rfl | hc
      · exact .inl rfl
      · exact .inr (List.all_eq_true.1 h c (List.mem_of_mem_drop hc))
  have hany : (p8 r a).any isS = true := by
    obtain ⟨c, hc⟩ := List.exists_mem_of_ne_nil r hn
    rw [List.any_eq_true]
    refine ⟨c, ?_, List.all_eq_true.1 h c hc⟩
    unfold p8
    rw [← List.take_append_drop a r] at hc
    rcases List.mem_append.1 hc with hc | hc
    · exact List.mem_append_left _ hc
    · exact List.mem_append_right _ (List.mem_cons_of_mem _ hc)
  have hall : okAll (okB0 (p8 r a)) 0 (p8 r a) = true := by
    rw [okAll_iff]
    intro j hj
    rw [Nat.zero_add]
    rcases hmem _ (List.getElem_mem hj) with hc | hc
    · -- the digit: what stands ahead is a letter
      have hdig : j = a := by
        have hcj : (p8 r a)[j]? = some 56 := by rw [List.getElem?_eq_getElem hj, hc]
        have hno : ∀ c, c ∈ r → c = 56 → False := by
          intro c hcr e
          have := List.all_eq_true.1 h c hcr
          rw [e, isS56] at this; cases this
        unfold p8 at hcj
        by_cases hja : j < a
        · exfalso
          rw [List.getElem?_append_left (by simp; omega), List.getElem?_take_of_lt hja] at hcj
          exact hno _ (List.mem_of_getElem? hcj) rfl
        · by_cases hja2 : a < j
          · exfalso
            have hl : (r.take a).length = a := by simp; omega
            have e : j - (r.take a).length = (j - a - 1) + 1 := by omega
            rw [List.getElem?_append_right (by omega), e, List.getElem?_cons_succ] at hcj
            exact hno _ (List.mem_of_mem_drop (List.mem_of_getElem? hcj)) rfl
          · omega
      subst hdig
      rw [hc]
      have hprev : 0 < j → isD ((p8 r j).getD (j - 1) 0) = false := by
        intro hp
        have e : (p8 r j).getD (j - 1) 0 = r[j - 1]'(by omega) := by
          unfold p8
          rw [List.getD_eq_getElem?_getD, List.getElem?_append_left (by simp; omega), List.getElem?_take_of_lt (by omega), List.getElem?_eq_getElem (by omega)]; rfl
        rw [e]
        exact S_noD (List.all_eq_true.1 h _ (List.getElem_mem _))
      by_cases hp : 0 < j
      · simp only [okB0, isS56, isD56, hprev hp]; simp
      · simp only [okB0, isS56, isD56, hp]; simp
    · simp only [okB0, hc, S_noD hc]; simp
  unfold okP
  rw [scan0, hall, hany, hlen]
  simp; omega
theorem digs_seven : ∀ (s : List UInt8) (d : Nat), d ≤ 7 → (∀ c ∈ s, ¬ (56 ≤ c.toNat ∧ c.toNat ≤ 57)) → ∀ x ∈ digs d s, x ≤ 7
  | [], d, hd, _, x, hx => by simp only [digs, List.mem_singleton] at hx; omega
  | c :: r, d, hd, h, x, hx => by
    have hr := fun c hc => h c (List.mem_cons_of_mem _ hc)
    simp only [digs] at hx
    split at hx
    · rename_i hD
      have hc : 48 ≤ c.toNat ∧ c.toNat ≤ 57 := by simpa [isD] using hD
      have := h c (by simp)
      exact digs_seven r _ (by omega) hr x hx
    · rcases List.mem_cons.1 hx with rfl | hx
      · exact hd
      · exact digs_seven r 0 (by omega) hr x hx
theorem val_seven {ps : List (List UInt8)} (h : ∀ s ∈ ps, ∀ c ∈ s, ¬ (56 ≤ c.toNat ∧ c.toNat ≤ 57)) (t : List UInt8) (m : Nat) : valN ps t m ≤ 7 := by
  rw [valN_le]
  intro s hs i _ _ _
  rw [List.getD_eq_getElem?_getD]
  cases e : (digs 0 s)[m - i]? with
  | none => simp
  | some x => exact digs_seven s 0 (by omega) (h s hs) x (List.mem_of_getElem? e)
/-- Does a run of letters not stand where its 8 would take a point away? -/
def apartB (w r : List UInt8) (a x : Nat) : Bool := decide (x < a) || (decide (w.length < x - a + r.length) || !((w.drop (x - a)).take r.length == r))
theorem occ_iff {w r : List UInt8} (hr : r.all isS = true) (hn : r ≠ []) (a x : Nat) : apartB w r a x = false ↔ a ≤ x + 1 ∧ r <+: (46 :: (w ++ [46])).drop (x + 1 - a) := by
  have hlp : 0 < r.length := List.length_pos_iff.2 hn
  have hr46 : ∀ q, ¬ r <+: 46 :: q := by
    intro q hp
    cases r with
    | nil => exact hn rfl
    | cons c r =>
      obtain ⟨rfl, _⟩ := List.cons_prefix_cons.1 hp
      simp only [List.all_cons, Bool.and_eq_true] at hr
      have : isS 46 = false := by decide
      rw [this] at hr; cases hr.1
  constructor
  · intro h
    simp only [apartB, Bool.or_eq_false_iff, decide_eq_false_iff_not, Nat.not_lt, Bool.not_eq_false', beq_iff_eq] at h
    obtain ⟨h1, h2, h3⟩ := h
    refine ⟨by omega, ?_⟩
    have e : x + 1 - a = (x - a) + 1 := by omega
    rw [e, List.drop_succ_cons, List.drop_append_of_le_length (by omega)]
    exact List.IsPrefix.trans (pre_take.2 h3) (List.prefix_append _ _)
  · rintro ⟨h1, h2⟩
    by_cases hz : x + 1 - a = 0
    · rw [hz, List.drop_zero] at h2; exact absurd h2 (hr46 _)
    · have e : x + 1 - a = (x - a) + 1 := by omega
      rw [e, List.drop_succ_cons] at h2
      have hle : x - a + r.length ≤ w.length := by
        have hl := h2.length_le
        rw [List.length_drop, List.length_append, List.length_singleton] at hl
        apply Nat.le_of_not_lt
        intro hgt
        have hlast : x - a + r.length = w.length + 1 := by omega
        -- the last letter would be the point
        have h3 := pre_take.1 h2
        have h4 : r[r.length - 1]? = some 46 := by
          have h6 : r[r.length - 1]? = (((w ++ [46]).drop (x - a)).take r.length)[r.length - 1]? := by rw [h3]
          have : x - a + (r.length - 1) = w.length := by omega
          rw [h6, List.getElem?_take_of_lt (by omega), List.getElem?_drop, this]; simp
        have h5 := List.all_eq_true.1 hr 46 (List.mem_of_getElem? h4)
        have : isS 46 = false := by decide
        rw [this] at h5; cases h5
      rw [List.drop_append_of_le_length (by omega)] at h2
      have h3 := pre_take.1 h2
      rw [List.take_append_of_le_length (by rw [List.length_drop]; omega)] at h3
      simp only [apartB, Bool.or_eq_false_iff, decide_eq_false_iff_not, Nat.not_lt, Bool.not_eq_false', beq_iff_eq]
      exact ⟨by omega, by omega, h3⟩
theorem valN_app (ps : List (List UInt8)) (s t : List UInt8) (m x : Nat) : valN (ps ++ [s]) t m ≤ x ↔ valN ps t m ≤ x ∧ Con [s] t m x := by
  rw [valN_le, valN_le]
  unfold Con
  simp only [List.mem_append, List.mem_singleton]
  constructor
  · intro h; exact ⟨fun s' hs => h s' (.inl hs), fun s' hs => h s' (.inr hs)⟩
  · rintro ⟨h1, h2⟩ s' (hs | hs)
    · exact h1 s' hs
    · exact h2 s' hs
theorem ptsN_eight {ps : List (List UInt8)} (hps : ∀ s ∈ ps, ∀ c ∈ s, ¬ (56 ≤ c.toNat ∧ c.toNat ≤ 57)) {w r : List UInt8} (hr : r.all isS = true) (hn : r ≠ []) {a : Nat} (ha : a ≤ r.length) : ptsN (ps ++ [p8 r a]) w = (ptsN ps w).filter (apartB w r a) := by
  unfold ptsN
  rw [List.filter_filter]
  apply List.filter_congr
  intro k _
  have hl := p8_let (a := a) hr
  cases ho : apartB w r a k with
  | true =>
    have e : valN (ps ++ [p8 r a]) (46 :: (w ++ [46])) (k + 1) = valN ps (46 :: (w ++ [46])) (k + 1) := by
      apply eq_of_le
      intro x
      rw [valN_app]
      constructor
      · intro h; exact h.1
      · intro h
        refine ⟨h, fun s hs i h1 h2 h3 => ?_⟩
        simp only [List.mem_singleton] at hs
        subst hs
        rw [hl] at h2
        rw [p8_digs hr ha]
        split
        · rename_i he
          exfalso
          have hi : i = k + 1 - a := by omega
          have : apartB w r a k = false := (occ_iff hr hn a k).2 ⟨by omega, by rw [← hi]; exact h2⟩
          rw [ho] at this; cases this
        · exact Nat.zero_le _
    rw [e]; rfl
  | false =>
    obtain ⟨h1, h2⟩ := (occ_iff hr hn a k).1 ho
    have e : valN (ps ++ [p8 r a]) (46 :: (w ++ [46])) (k + 1) = 8 := by
      apply eq_of_le
      intro x
      rw [valN_app]
      have h7 := val_seven hps (46 :: (w ++ [46])) (k + 1)
      constructor
      · rintro ⟨_, h⟩
        have := h (p8 r a) (by simp) (k + 1 - a) (by rw [hl]; exact hn) (by rw [hl]; exact h2) (by omega)
        rw [p8_digs hr ha, if_pos (by omega)] at this
        exact this
      · intro h
        refine ⟨by omega, fun s hs i _ _ _ => ?_⟩
        simp only [List.mem_singleton] at hs
        subst hs
        rw [p8_digs hr ha]
        split <;> omega
    rw [e]; rfl

theorem at28 : tab 28 = some (.code f28) := by kernel_rfl
/-- A number below n that any number says. -/
def pickN (x n : Int) : Int := if n < 1 then 0 else if x.tmod n < 0 then x.tmod n + n else x.tmod n
theorem pick_in (x n : Int) (h : 1 ≤ n) : 0 ≤ pickN x n ∧ pickN x n < n := by
  have h1 : -n < x.tmod n ∧ x.tmod n < n := by
    constructor
    · have := Int.lt_tmod_of_pos x (show 0 < n by omega); omega
    · exact Int.tmod_lt_of_pos x (by omega)
  unfold pickN
  rw [if_neg (by omega)]
  split <;> omega

theorem pick28 (x n : Int) (hn : n ≤ 1000000) (st : St) : (E tab).F 28 [.int .i64 x, .int .i64 n] st = some (.int .i64 (pickN x n), st) := by
  rw [F_run at28 rfl]
  by_cases h1 : n < 1
  · simp [f28, h1, pickN]
  · have h0 : ¬ n = 0 := by omega
    have h2 : -n < x.tmod n ∧ x.tmod n < n := by
      constructor
      · have := Int.lt_tmod_of_pos x (show 0 < n by omega); omega
      · exact Int.tmod_lt_of_pos x (by omega)
    have hw : IntKind.i64.wrap (x.tmod n + n) = x.tmod n + n := i64w (by omega)
    by_cases h3 : x.tmod n < 0
    · simp [f28, h1, pickN, h0, h3, hw]
    · simp [f28, h1, pickN, h0, h3]

theorem at180 : tab 180 = some (.code f180) := by kernel_rfl
theorem HypOk.app {st : St} {G X : List HO} {b : Nat} {ps es : List (List UInt8)} (h : HypOk st G b ps es) : HypOk st (G ++ X) b ps es := h.same fun j _ hj => List.getElem?_append_left hj
def hi8 (c : UInt8) : Bool := decide (56 ≤ c.toNat) && decide (c.toNat ≤ 57)
theorem ptsN_len (ps : List (List UInt8)) (w : List UInt8) : (ptsN ps w).length ≤ w.length := by
  unfold ptsN
  have := List.length_filter_le (fun k => valN ps (46 :: (w ++ [46])) (k + 1) % 2 == 1) (List.range' 2 (w.length - 4))
  simp at this
  omega
section
variable {st : St} {H : List HO} {K : List Nat}
theorem L180_0 {v y1 y3 y9 y10 y12 : DV} {ps : List (List UInt8)} {s : List UInt8} {i : Nat} (hv : Txs (pst st H K) ps v) (hi : ps[i]? = some s) (hs : s.length ≤ 200) : ∀ (r d : List UInt8), s = d ++ r →
    ∃ e fr, (E tab).C f180L0 [(0, v), (1, y1), (3, y3), (9, y9), (10, y10), (12, y12), (14, .int .i64 i), (15, .int .i64 d.length)] (pst st H K) = some (e, fr, pst st H K) ∧
      if r.any hi8 = true then e = .ret ∧ fr = [(8, y9)] else e = .exit 2 ∧ ∃ tl, fr = (0, v) :: (1, y1) :: (3, y3) :: (9, y9) :: (10, y10) :: (12, y12) :: (14, .int .i64 i) :: tl := by
  have hil := (List.getElem?_eq_some_iff.1 hi).1
  have e1 := fun st' => txs_at hv hil .i64 st'
  have e2 := hv.load1 tx_el (i := i) (x := .str s) (by simp [hi])
  intro r
  induction r with
  | nil =>
    intro d hd
    obtain rfl : s = d := by simpa using hd
    refine ⟨.exit 2, [(0, v), (1, y1), (3, y3), (9, y9), (10, y10), (12, y12), (14, .int .i64 i), (15, .int .i64 s.length), (71, .bool false)], ?_, by simp⟩
    rw [C_turn (L := f180L0) rfl]
    simp [f180B0, e1, e2]
  | cons c r ih =>
    intro d hd
    have h0 : d.length < s.length := by simp [hd]
    have hc : s[d.length]? = some c := by simp [hd]
    have hge : s[d.length]'h0 = c := by have := hc; rw [List.getElem?_eq_getElem h0] at this; exact Option.some.inj this
    have hw1 : IntKind.i64.wrap ((d.length : Int) + 1) = (d.length : Int) + 1 := by rw [i64w (by omega)]
    obtain ⟨e, fr, hJ, hR⟩ := ih (d ++ [c]) (by simp [hd])
    simp at hJ
    by_cases g1 : 56 ≤ c.toNat
    · have g1' : (56 : Int) ≤ c.toNat := by omega
      by_cases g2 : c.toNat ≤ 57
      · have g2' : (c.toNat : Int) ≤ 57 := by omega
        refine ⟨.ret, [(8, y9)], ?_, by simp [hi8, g1, g2]⟩
        rw [C_turn (L := f180L0) rfl]
        simp [f180B0, e1, e2, h0, hc, hge, g1, g1', g2, g2']
      · have g2' : ¬ (c.toNat : Int) ≤ 57 := by omega
        refine ⟨e, fr, ?_, by simpa [hi8, g1, g2] using hR⟩
        rw [C_turn (L := f180L0) rfl]
        simp [f180B0, e1, e2, h0, hc, hge, g1, g1', g2, g2', hw1, hJ]
    · have g1' : ¬ (56 : Int) ≤ c.toNat := by omega
      refine ⟨e, fr, ?_, by simpa [hi8, g1] using hR⟩
      rw [C_turn (L := f180L0) rfl]
      simp [f180B0, e1, e2, h0, hc, hge, g1, g1', hw1, hJ]
theorem L180_1 {v y1 y3 y9 y10 y12 : DV} {ps : List (List UInt8)} (hv : Txs (pst st H K) ps v) (hps : ps.length ≤ 300) (hs : ∀ s ∈ ps, s.length ≤ 200) : ∀ (r d : List (List UInt8)), ps = d ++ r →
    ∃ e fr, (E tab).C f180L1 [(0, v), (1, y1), (3, y3), (9, y9), (10, y10), (12, y12), (14, .int .i64 d.length)] (pst st H K) = some (e, fr, pst st H K) ∧
      if r.any (·.any hi8) = true then e = .ret ∧ fr = [(8, y9)] else e = .exit 0 ∧ ∃ tl, fr = (0, v) :: (1, y1) :: (3, y3) :: (9, y9) :: (10, y10) :: (12, y12) :: tl := by
  have e0 := fun st' => txs_len hv st'
  intro r
  induction r with
  | nil =>
    intro d hd
    obtain rfl : ps = d := by simpa using hd
    refine ⟨.exit 0, [(0, v), (1, y1), (3, y3), (9, y9), (10, y10), (12, y12), (14, .int .i64 ps.length), (62, .bool false)], ?_, by simp⟩
    rw [C_turn (L := f180L1) rfl]
    simp [f180B1, e0]
  | cons s r ih =>
    intro d hd
    have h0 : d.length < ps.length := by simp [hd]
    have hi : ps[d.length]? = some s := by simp [hd]
    have hw1 : IntKind.i64.wrap ((d.length : Int) + 1) = (d.length : Int) + 1 := by rw [i64w (by omega)]
    obtain ⟨e, fr, hI, hR1⟩ := L180_0 (y1 := y1) (y3 := y3) (y9 := y9) (y10 := y10) (y12 := y12) hv hi (hs s (by simp [hd])) s [] rfl
    simp at hI
    by_cases ha : s.any hi8 = true
    · rw [if_pos ha] at hR1
      obtain ⟨rfl, rfl⟩ := hR1
      refine ⟨.ret, [(8, y9)], ?_, by simp [ha]⟩
      rw [C_turn (L := f180L1) rfl]
      simp [f180B1, e0, h0, hI]
    · rw [if_neg ha] at hR1
      obtain ⟨rfl, tl, rfl⟩ := hR1
      obtain ⟨e, fr, hJ, hR⟩ := ih (d ++ [s]) (by simp [hd])
      simp only [Bool.not_eq_true] at ha
      refine ⟨e, fr, ?_, by simpa [ha] using hR⟩
      simp at hJ
      rw [C_turn (L := f180L1) rfl]
      simp [f180B1, e0, h0, hI, hw1, hJ]
theorem L180_2 {x y9 y22 : DV} {w r : List UInt8} {a : Nat} {xs : List Nat} (hx : Lw 1 (xs.map i6) x) (hxl : xs.length ≤ 1000) (hb : ∀ z ∈ xs, z ≤ 1000) (ha : a ≤ 100) (hr : r.length ≤ 100) (hw : w.length ≤ 100) : ∀ (q d : List Nat) (K : List Nat) (v : DV), xs = d ++ q → Acc st K 1 ((d.filter (apartB w r a)).map i6) v →
    ∃ K' v' tl, (E tab).C f180L2 [(3, .int .i64 a), (9, y9), (10, .str r), (12, .str w), (20, x), (22, y22), (24, v), (25, .int .i64 d.length)] (pst st H K) =
      some (.exit 4, (3, .int .i64 a) :: (9, y9) :: (10, .str r) :: (12, .str w) :: (20, x) :: (22, y22) :: (24, v') :: tl, pst st H K') ∧ Acc st K' 1 ((xs.filter (apartB w r a)).map i6) v' := by
  intro q
  induction q with
  | nil =>
    intro d K v hd hA
    obtain rfl : xs = d := by simpa using hd
    have e0 := (hx.vw (st := pst st H K) (ag := false)).len
    simp only [List.length_map] at e0
    refine ⟨K, v, [(25, .int .i64 xs.length), (149, .bool false)], ?_, hA⟩
    rw [C_turn (L := f180L2) rfl]
    simp [f180B2, e0]
  | cons z q ih =>
    intro d K v hd hA
    have v0 : Vw (pst st H K) 1 false (xs.map i6) x := hx.vw
    have e0 := v0.len
    simp only [List.length_map] at e0
    have h0 : d.length < xs.length := by simp [hd]
    have hz : z ≤ 1000 := hb z (by simp [hd])
    have e1 := fun st' => v0.iaddr (i := d.length) (by simpa using h0) .i64 st'
    have e2 := v0.load1 i6_el (i := d.length) (x := .int .i64 z) (by simp [hd, i6])
    have hw1 : IntKind.i64.wrap ((d.length : Int) + 1) = (d.length : Int) + 1 := by rw [i64w (by omega)]
    have hws : IntKind.i64.wrap ((z : Int) - a) = (z : Int) - a := i64w (by omega)
    have hwz : IntKind.i64.wrap ((z : Int) - a + r.length) = (z : Int) - a + r.length := i64w (by omega)
    have hcase : apartB w r a z = false ∨ apartB w r a z = true := by cases apartB w r a z <;> simp
    have hfl : (d.filter (apartB w r a)).length ≤ d.length := List.length_filter_le _ _
    obtain ⟨v1, K1, hap, hA1⟩ := acc_app (st := st) (H := H) (by_ := 8) (ag := false) (ys := [i6 z]) (t := st.cur) (tk := .tight) hA (by omega) (by simp) (by intro y hy; simp only [List.mem_singleton] at hy; subst hy; exact ⟨rfl, rfl, rfl⟩) (by simp [roomD]; omega) (by simp [roomD]; omega)
    simp only [i6] at hap
    have hT : apartB w r a z = true → ∃ K' v' tl, (E tab).C f180L2 [(3, .int .i64 a), (9, y9), (10, .str r), (12, .str w), (20, x), (22, y22), (24, v1), (25, .int .i64 (d.length + 1 : Nat))] (pst st H K1) =
      some (.exit 4, (3, .int .i64 a) :: (9, y9) :: (10, .str r) :: (12, .str w) :: (20, x) :: (22, y22) :: (24, v') :: tl, pst st H K') ∧ Acc st K' 1 ((xs.filter (apartB w r a)).map i6) v' := by
      intro h
      obtain ⟨K', v', tl, hJ, h2⟩ := ih (d ++ [z]) K1 v1 (by simp [hd]) (by rw [List.filter_append, List.map_append]; simpa [h] using hA1)
      simp only [List.length_append, List.length_singleton] at hJ
      exact ⟨K', v', tl, hJ, h2⟩
    by_cases g1 : z < a
    · have g1' : (z : Int) - a < 0 := by omega
      obtain ⟨K', v', tl, hJ, h2⟩ := hT (by simp [apartB, g1])
      refine ⟨K', v', tl, ?_, h2⟩
      simp at hJ
      rw [C_turn (L := f180L2) rfl]
      simp [f180B2, e0, h0, e1, e2, hws, g1', op_lit, repl, chunk, hap, hw1, hJ]
    · have g1' : ¬ (z : Int) - a < 0 := by omega
      by_cases g2 : w.length < z - a + r.length
      · have g2' : (w.length : Int) < (z : Int) - a + r.length := by omega
        obtain ⟨K', v', tl, hJ, h2⟩ := hT (by simp [apartB, g2])
        refine ⟨K', v', tl, ?_, h2⟩
        simp at hJ
        rw [C_turn (L := f180L2) rfl]
        simp [f180B2, e0, h0, e1, e2, hws, hwz, g1', g2', op_lit, repl, chunk, hap, hw1, hJ]
      · have g2' : ¬ (w.length : Int) < (z : Int) - a + r.length := by omega
        have hsl : sliceD true 1 (.str w) (some (.int .i64 ((z : Int) - a))) (some (.int .i64 ((z : Int) - a + r.length))) none = some (.str ((w.drop (z - a)).take r.length)) := by
          rw [slice_ss (by omega) (by omega) (by omega)]
          have e1 : ((z : Int) - a).toNat = z - a := by omega
          have e2 : ((z : Int) - a + r.length).toNat - (z - a) = r.length := by omega
          rw [e1, e2]
        by_cases g3 : (w.drop (z - a)).take r.length = r
        · obtain ⟨K', v', tl, hJ, h2⟩ := ih (d ++ [z]) K v (by simp [hd]) (by
            have hf : apartB w r a z = false := by simp [apartB, g1, g2, g3]
            rw [List.filter_append, List.map_append]; simpa [hf] using hA)
          refine ⟨K', v', tl, ?_, h2⟩
          rw [g3] at hsl
          simp at hJ
          rw [C_turn (L := f180L2) rfl]
          simp [f180B2, e0, h0, e1, e2, hws, hwz, g1', g2', hsl, hw1, hJ]
        · have g3b : ((w.drop (z - a)).take r.length == r) = false := by rw [beq_eq_false_iff_ne]; exact g3
          obtain ⟨K', v', tl, hJ, h2⟩ := hT (by simp [apartB, g3b])
          refine ⟨K', v', tl, ?_, h2⟩
          generalize (w.drop (z - a)).take r.length = T at *
          simp at hJ
          rw [C_turn (L := f180L2) rfl]
          simp [f180B2, e0, h0, e1, e2, hws, hwz, g1', g2', hsl, g3b, op_lit, repl, chunk, hap, hw1, hJ]
/-- What Lower says, whatever it is. -/
def lowV (s : List UInt8) : List UInt8 := if allS s then s.map lowB else []
theorem low194 (s : List UInt8) (st : St) (hs : s.length ≤ 4611686018427387903) : (E tab).F 194 [.str s] st = some (.tuple [.str (lowV s), .bool (okW s)], st) := by
  rw [lower194 hs]
  unfold lowV okW
  cases allS s <;> simp
theorem two_app {v : DV} {ps : List (List UInt8)} {s : List UInt8} (hv : Txs (pst st H K) ps v) (hl : ps.length ≤ 100000) : ∃ v1 K1 v2 K2, appendD (pst st H K) 1 false 16 (.list st.cur 1 .tight true []) v = some (v1, pst st H K1) ∧
    appendD (pst st H K1) 1 false 16 v1 (.list st.cur 1 .tight true [.str s]) = some (v2, pst st H K2) ∧ Lw 1 ((ps ++ [s]).map DV.str) v2 := by
  have hcong : appendD (pst st H K) 1 false 16 (.list st.cur 1 .tight true []) v = appendD (pst st H K) 1 false 16 (.list st.cur 1 .tight true []) (.list 0 1 .no true (ps.map DV.str)) := by
    have e1 := hv.news
    have e2 : newsD (pst st H K) 1 (.list 0 1 .no true (ps.map DV.str)) = some ((ps.map DV.str).length, flat (ps.map DV.str)) := by simp [newsD]
    unfold appendD
    rw [e1, e2]
  rw [hcong]
  have hs1 : ∀ y ∈ [DV.str s], IsEl 1 false y := by intro y hy; simp only [List.mem_singleton] at hy; subst hy; exact ⟨rfl, rfl, rfl⟩
  by_cases h : ps.map DV.str = []
  · have h2 := app_new (st := st) (H := H) (K := K) (t := st.cur) (n' := 1) (tk := .tight) (nn := true) (xs := []) (t' := st.cur) (tk' := .tight) (by_ := 16) (ys := [.str s]) (.inr ⟨rfl, rfl, rfl⟩) (by omega) (by simp) hs1 (by simp [roomD]) (by simp [roomD])
    refine ⟨_, K, _, _, app_none (by rw [h]; simp [newsD, flat]), h2, ?_⟩
    rw [List.map_append, h]
    exact .list _ _ _ _ (fun _ => rfl) (fun h => by cases h)
  · have h1 := app_new (st := st) (H := H) (K := K) (t := st.cur) (n' := 1) (tk := .tight) (nn := true) (xs := []) (t' := 0) (tk' := .no) (by_ := 16) (.inr ⟨rfl, rfl, rfl⟩) (by omega) h tx_el (by simp [roomD]; omega) (by simp [roomD]; omega)
    have h2 := app_own (st := st) (H := H) (K := K ++ [0]) (k := K.length) (s := 0) (t := st.cur) (t' := st.cur) (tk' := .tight) (by_ := 16) (n := 1) (ag := false) (xs := [] ++ ps.map DV.str) (ys := [.str s]) (by simp) (by omega) (by simp) hs1 (by simp [roomD]; omega) (by simp [roomD]; omega)
    refine ⟨_, _, _, _, h1, h2, ?_⟩
    rw [List.map_append, List.nil_append]
    exact .list _ _ _ _ (fun _ => rfl) (fun h => by cases h)
theorem pure147 : isPure tab 147 = false := by rw [isPure_of at147]; rfl
theorem law180 (st : St) {v : DV} {ps : List (List UInt8)} (hv : Txs st ps v) (wd run : List UInt8) (hwd : wd.length ≤ 4611686018427387903) (hrun : run.length ≤ 4611686018427387903) (at' : Int) : (E tab).F 180 [v, .str wd, .str run, .int .i64 at'] st = some (.bool true, st) := by
  rw [F_run at180 rfl]
  have l1 := long181 (hv.inn [] [])
  have hk := hknown_run
  have e0 := fun st' => txs_len hv st'
  have w1 := fun st => low194 run st hrun
  have w2 := fun st => low194 wd st hwd
  cases b1 : longB ps with
  | true => rw [b1] at l1; simp [f180, hk, l1, w1, w2]
  | false =>
  rw [b1] at l1
  obtain ⟨p1, p2⟩ := long_no b1
  by_cases hpl : 200 < ps.length
  · have hpl' : (200 : Int) < ps.length := by omega
    simp [f180, hk, l1, w1, w2, e0, hpl, hpl']
  have hpl' : ¬ (200 : Int) < ps.length := by omega
  cases b2 : okW run with
  | false => simp [f180, hk, l1, w1, w2, e0, hpl, hpl', b2]
  | true =>
  cases b3 : okW wd with
  | false => simp [f180, hk, l1, w1, w2, e0, hpl, hpl', b2, b3]
  | true =>
  have b2' := b2
  have b3' := b3
  simp only [okW, Bool.and_eq_true, decide_eq_true_eq] at b2' b3'
  have hrv : lowV run = run.map lowB := by unfold lowV; rw [if_pos b2'.1]
  have hwv : lowV wd = wd.map lowB := by unfold lowV; rw [if_pos b3'.1]
  rw [b2, hrv] at w1
  rw [b3, hwv] at w2
  have hrS : (run.map lowB).all isS = true := by rw [List.all_map]; exact b2'.1
  have hrne : run.map lowB ≠ [] := by intro e; have := congrArg List.length e; simp at this; rw [this] at b2'; simp at b2'
  have hwl : (wd.map lowB).length ≤ 64 := by simpa using b3'.2.2
  generalize hu : wd.map lowB = u at *
  generalize hrr : run.map lowB = r at *
  by_cases hr12 : 12 < r.length
  · have hr12' : (12 : Int) < r.length := by omega
    simp [f180, hk, l1, w1, w2, e0, hpl, hpl', hr12, hr12']
  have hr12' : ¬ (12 : Int) < r.length := by omega
  obtain ⟨e, fr, hL1, hR1⟩ := L180_1 (y1 := .str wd) (y3 := .int .i64 at') (y9 := .bool true) (y10 := .str r) (y12 := .str u) (hv.inn [] []) p1 p2 ps [] rfl
  simp at hL1
  by_cases h8 : ps.any (·.any hi8) = true
  · rw [if_pos h8] at hR1
    obtain ⟨rfl, rfl⟩ := hR1
    simp [f180, hk, l1, w1, w2, e0, hpl, hpl', hr12, hr12', hL1]
  rw [if_neg h8] at hR1
  obtain ⟨rfl, tl, rfl⟩ := hR1
  have hps8 : ∀ s ∈ ps, ∀ c ∈ s, ¬ (56 ≤ c.toNat ∧ c.toNat ≤ 57) := by
    intro s hs c hc h
    apply h8
    rw [List.any_eq_true]
    exact ⟨s, hs, List.any_eq_true.2 ⟨c, hc, by simp [hi8, h.1, h.2]⟩⟩
  have hwr : IntKind.i64.wrap ((r.length : Int) + 1) = (r.length : Int) + 1 := i64w (by omega)
  obtain ⟨k1, k2⟩ := pick_in at' ((r.length : Int) + 1) (by omega)
  have hpk := fun st => pick28 at' ((r.length : Int) + 1) (by omega) st
  obtain ⟨a, hka⟩ : ∃ a : Nat, pickN at' ((r.length : Int) + 1) = a := ⟨(pickN at' ((r.length : Int) + 1)).toNat, by omega⟩
  rw [hka] at hpk k1 k2
  have har : a ≤ r.length := by omega
  have hnil : ∀ H K, Txs (pst st H K) [] (.list 0 0 .no false []) := fun H K => .list _ _ _ _ (fun h => by cases h) (fun _ => rfl)
  obtain ⟨X1, h1, n1, z1, nz1⟩ := new147 (st := st) (H := []) (K := []) (es := []) (by simp) (hv.inn [] []) (hnil _ _)
  obtain ⟨v1, K1, v2, K2, ha1, ha2, hv2⟩ := two_app (st := st) (H := [] ++ X1) (K := []) (s := p8 r a) (hv.inn _ _) (by omega)
  obtain ⟨X2, h2, n2, z2, nz2⟩ := new147 (st := st) (H := [] ++ X1) (K := K2) (es := []) (by simp) hv2.vw (hnil _ _)
  have s1 : sliceD true 1 (.str r) none (some (.int .i64 a)) none = some (.str (r.take a)) := by rw [slice_su (by omega) (by omega)]; simp
  have s2 : sliceD true 1 (.str r) (some (.int .i64 a)) none none = some (.str (r.drop a)) := by rw [slice_s (by omega) (by omega)]; simp
  have hp8 : r.take a ++ (56 :: r.drop a) = p8 r a := rfl
  have r1 : (r.take a).length ≤ 4611686018427387903 := by rw [List.length_take]; omega
  have r2 : (r.take a).length + 1 + (r.drop a).length ≤ 4611686018427387904 := by rw [List.length_take, List.length_drop]; omega
  have r3 : (r.take a).length + 1 ≤ 4611686018427387904 := by rw [List.length_take]; omega
  have he2 : errN (ps ++ [p8 r a]) [] = errN ps [] := by
    have h8 : okP (p8 r a) = true := p8_ok hrS har hrne (by omega)
    have hc1 : ¬ (256 < (ps ++ [p8 r a]).length ∨ 64 < ([] : List (List UInt8)).length) := by simp; omega
    have hc2 : ¬ (256 < ps.length ∨ 64 < ([] : List (List UInt8)).length) := by simp; omega
    unfold errN
    rw [if_neg hc1, if_neg hc2]
    simp [List.all_append, h8]
  rw [he2] at n2 z2 nz2
  have hdir : (((r.length : Int) + 1 : Int)) = ((r.length : Int) + 1) := rfl
  generalize hTa : r.take a = TA at *
  generalize hTd : r.drop a = TD at *
  by_cases he : errN ps [] = 0
  · obtain ⟨rfl, ok1⟩ := z1 he
    obtain ⟨rfl, ok2⟩ := z2 he
    obtain ⟨x, X3, K3, c1, ax⟩ := points144 (K := K2) ok1.app (by simp) wd
    obtain ⟨y, X4, K4, c2, ay⟩ := points144 (K := K3) (G := ([] ++ X1 ++ X2) ++ X3) ok2.app (by simp) wd
    rw [b3] at ax ay c1 c2
    simp only [if_true, hu] at ax ay
    have g1 : points ps [] u = ptsN ps u := rfl
    have g2 : points (ps ++ [p8 r a]) [] u = (ptsN ps u).filter (apartB u r a) := ptsN_eight hps8 hrS hrne har
    rw [g1] at ax
    rw [g2] at ay
    have hxl := ptsN_len ps u
    have hfl : ((ptsN ps u).filter (apartB u r a)).length ≤ (ptsN ps u).length := List.length_filter_le _ _
    obtain ⟨K5, v', tl5, hL2, hA⟩ := L180_2 (st := st) (H := (([] ++ X1 ++ X2) ++ X3) ++ X4) (y9 := .bool true) (y22 := y) (w := u) (r := r) (a := a) ax (by omega) (fun z hz => by
      unfold ptsN at hz
      have := List.mem_range'_1.1 (List.mem_filter.1 hz).1
      omega) (by omega) (by omega) (by omega) (ptsN ps u) [] K4 (.list 0 0 .no false []) rfl (acc_nil _ _ _ _ _ _)
    have c3 := fun st' => same187 (st := st') ay (acc_lw hA) (by omega)
    rw [he] at n1 n2
    simp only [List.nil_append, List.length_nil, Nat.zero_add] at n1 n2 c1 c2 ha1 ha2 hL2
    generalize hG5 : ((X1 ++ X2) ++ X3) ++ X4 = G5 at *
    generalize hG4 : (X1 ++ X2) ++ X3 = G4 at *
    generalize hG3 : X1 ++ X2 = G3 at *
    simp at hL2 n1 hwr hpk
    simp [f180, hk, l1, w1, w2, e0, hpl, hpl', hr12, hr12', hL1, hwr, hpk, n1, C_dregionN, S_cons, A_cons, K_cons, loudD, pure147, op_lit, repl, chunk, ha1, s1, s2, r1, r2, r3, hp8, ha2, n2, eqD, c1, c2, hL2, c3]
  · have hx := nz1 he
    have hy := nz2 he
    subst hx
    subst hy
    have hne : ¬ ((errN ps [] : Nat) : Int) = 0 := by omega
    simp only [List.nil_append, List.length_nil, Nat.zero_add] at n1 n2 ha1 ha2
    simp [f180, hk, l1, w1, w2, e0, hpl, hpl', hr12, hr12', hL1, hwr, hpk, n1, C_dregionN, S_cons, A_cons, K_cons, loudD, pure147, op_lit, repl, chunk, ha1, s1, s2, r1, r2, r3, hp8, ha2, n2, eqD, he, hne]
def lawSh : List (Bool × List Sh) := [(false, [.list false 16 [.str]]), (false, [.str]), (false, [.str]), (false, [.int .i64])]
theorem law_run (us : List DV) (hf : FitAll lawSh us) : ∃ st', (E tab).F 180 us st0 = some (.bool true, st') := by
  obtain ⟨_, _, rfl, ⟨v, _, rfl, hv, rfl⟩, _, _, rfl, ⟨_, _, rfl, ⟨w, rfl, hw⟩, rfl⟩, _, _, rfl, ⟨_, _, rfl, ⟨x, rfl, hx⟩, rfl⟩, _, _, rfl, ⟨_, _, rfl, ⟨b, rfl, hb⟩, rfl⟩, rfl⟩ := hf
  obtain ⟨ps, hv, _⟩ := fit_txs hv st0
  refine ⟨st0, ?_⟩
  simp only [elemOf, List.headD_cons, Bool.false_eq_true, if_false]
  exact law180 st0 hv w x (by unfold reachBytes at hw; omega) (by unfold reachBytes at hx; omega) b
end

end Go.D.Tab
