/-
What the law HyphFolds runs through, walked: it tells true of all that its arguments may stand for.
-/
import Derived.Test.YtmlogklobbamaaaDoorFwDArg2
import Derived.Test.YtmlogklobbamaaaDoorWalkHyphFolds0
set_option linter.unusedSimpArgs false
set_option linter.unusedVariables false
set_option linter.unnecessarySimpa false
namespace Go.D.Tab
/-! Lists of texts that are lent -/
theorem at182 : tab 182 = some (.code f182) := by kernel_rfl
theorem at184 : tab 184 = some (.code f184) := by kernel_rfl
theorem at185 : tab 185 = some (.code f185) := by kernel_rfl
theorem at50 : tab 50 = some (.code f50) := by kernel_rfl
def lentM : List UInt8 := [108, 101, 110, 116]
def lentT (l : List (List UInt8)) : List (List UInt8) := l ++ [lentM, lentM, lentM]
theorem tx_el {l : List (List UInt8)} : ∀ y ∈ l.map DV.str, IsEl 1 false y := by
  intro y hy; obtain ⟨c, _, rfl⟩ := List.mem_map.1 hy; exact ⟨rfl, rfl, rfl⟩
theorem tx_flat (l : List (List UInt8)) : flat (l.map DV.str) = l.map DV.str := flat_scal _ tx_el
abbrev Txs (st : St) (l : List (List UInt8)) (v : DV) : Prop := Vw st 1 false (l.map DV.str) v
section
variable {st : St} {l : List (List UInt8)} {v : DV} {H : List HO} {K : List Nat}
theorem txs_len (h : Txs st l v) (st' : St) : lenV st' .slice v = some (.int .i64 l.length, st') := by simpa using Vw.len h st'
theorem txs_at (h : Txs st l v) {i : Nat} (hi : i < l.length) (k : IntKind) (st' : St) : iaddrV st' 1 v (.int k i) = some (elP 1 v i, st') := Vw.iaddr h (by simpa using hi) k st'
theorem txs_load (h : Txs st l v) {i : Nat} {x : List UInt8} (hx : l[i]? = some x) (H : List HO) (K : List Nat) : loadD (pst st H K) 1 false (elP 1 v i) = some (.str x) := Vw.load1 (Vw.inn h H K) tx_el (by simp [hx])
theorem L182_0 (hl : l.length ≤ 1000000) (y0 : DV) : ∀ (m : Nat) (d : List (List UInt8)), l.length ≤ d.length → d.length + m = l.length + 3 →
    ∃ fr, (E tab).C f182L0 [(0, y0), (3, .hsl 1 false (st.heap.length + H.length) 0 (l.length + 3) (some (l.length + 3))), (4, .int .i64 d.length)] (pst st (H ++ [.cells .plain (d.map DV.str ++ List.replicate m (DV.str []))]) K) =
      some (.exit 0, [(0, y0), (3, .hsl 1 false (st.heap.length + H.length) 0 (l.length + 3) (some (l.length + 3)))] ++ fr, pst st (H ++ [.cells .plain ((d ++ List.replicate m lentM).map DV.str)]) K) := by
  intro m
  induction m with
  | zero =>
    intro d h1 h2
    refine ⟨[(4, .int .i64 d.length), (17, .bool false)], ?_⟩
    have h0 : ¬ d.length < l.length + 3 := by omega
    have h0' : ¬ (d.length : Int) < (l.length : Int) + 3 := by omega
    rw [C_turn (L := f182L0) rfl]
    simp [f182B0, h0, h0']
  | succ m ih =>
    intro d h1 h2
    have h0 : d.length < l.length + 3 := by omega
    have h0' : (d.length : Int) < (l.length : Int) + 3 := by omega
    have hw1 : IntKind.i64.wrap ((d.length : Int) + 1) = ((d ++ [lentM]).length : Nat) := by rw [i64w (by omega)]; simp
    obtain ⟨fr, hJ⟩ := ih (d ++ [lentM]) (by simp; omega) (by simp; omega)
    refine ⟨fr, ?_⟩
    have e1 : d ++ [lentM] ++ List.replicate m lentM = d ++ List.replicate (m + 1) lentM := by rw [List.replicate_succ, List.append_assoc]; rfl
    rw [e1] at hJ
    have hs : splice (d.map DV.str ++ List.replicate (m + 1) (DV.str [])) d.length [.str lentM] = (d ++ [lentM]).map DV.str ++ List.replicate m (DV.str []) := by
      rw [splice_one (by simp), List.set_append_right _ _ (by simp)]
      simp [List.replicate_succ]
    have hlen : d.length + 1 ≤ (d.map DV.str ++ List.replicate (m + 1) (DV.str [])).length := by simp
    simp only [List.length_append, List.length_singleton] at hJ hw1
    generalize (d ++ [lentM]).map DV.str ++ List.replicate m (DV.str []) = R at *
    generalize d.map DV.str ++ List.replicate (m + 1) (DV.str []) = R0 at *
    generalize (d ++ List.replicate (m + 1) lentM).map DV.str = R1 at *
    simp only [splice, lentM] at hs
    simp at hJ hs
    rw [C_turn (L := f182L0) rfl]
    simp [f182B0, h0, h0', hw1, hs, hlen, hJ]
theorem lent182 (hv : Txs (pst st H K) l v) (hl : l.length ≤ 1000000) : (E tab).F 182 [v] (pst st H K) = some (.hsl 1 false (st.heap.length + H.length) 0 l.length (some (l.length + 3)), pst st (H ++ [.cells .plain ((lentT l).map DV.str)]) K) := by
  rw [F_go at182 rfl]
  have e0 := fun st' => txs_len hv st'
  have w1 : IntKind.i64.wrap ((l.length : Int) + 3) = l.length + 3 := i64w (by omega)
  obtain ⟨fr, hL⟩ := L182_0 (st := st) (H := H) (K := K) (l := l) hl v 3 l (Nat.le_refl _) rfl
  have er : l ++ List.replicate 3 lentM = lentT l := rfl
  rw [er] at hL
  have b1 : ((l.length : Int) + 3) * 16 ≤ 140737488355328 := by omega
  have b2 : l.length + 3 ≤ 140737488355328 := by omega
  have b3 : (l.length : Int) + 3 ≤ 140737488355328 := by omega
  have b4 : (0 : Int) ≤ (l.length : Int) + 3 := by omega
  have t1 : ((l.length : Int) + 3).toNat = l.length + 3 := by omega
  have hn := fun X : List HO => Vw.news (Vw.app (K' := K) hv X)
  simp only [List.length_map, tx_flat] at hn
  have h2 : (E tab).C (.region f182r2 [0, 3]) [(0, v), (3, .hsl 1 false (st.heap.length + H.length) 0 (l.length + 3) (some (l.length + 3)))] (pst st (H ++ [.cells .plain (List.replicate (l.length + 3) (DV.str []))]) K) =
      some (.normal, [(0, v), (3, .hsl 1 false (st.heap.length + H.length) 0 (l.length + 3) (some (l.length + 3)))], pst st (H ++ [.cells .plain (l.map DV.str ++ List.replicate 3 (DV.str []))]) K) := by
    by_cases hne : l = []
    · subst hne
      have hn0 := hn [.cells .plain (List.replicate 3 (DV.str []))]
      simp at hn0
      simp [copyD, hn0, List.replicate_succ]
    · have hp : 0 < l.length := List.length_pos_iff.2 hne
      have hn0 := hn [.cells .plain (List.replicate (l.length + 3) (DV.str []))]
      have ht : (l.map DV.str).take (l.length * 1) = l.map DV.str := List.take_of_length_le (by simp)
      have hs : splice (List.replicate (l.length + 3) (DV.str [])) 0 (l.map DV.str) = l.map DV.str ++ List.replicate 3 (DV.str []) := by
        simp [splice]
      have hmin : min l.length (l.length + 3) = l.length := by omega
      have hc := pst_copy (st := st) (K := K) (n := 1) (k := H.length) (off := 0) (len := l.length + 3) (ag := false) (c := some (l.length + 3)) (g := .plain) (vs := List.replicate (l.length + 3) (DV.str [])) hn0 (by simp [rowAt]) rfl (by omega) (by simp)
      rw [hmin, ht, hs] at hc
      have hset : (H ++ [HO.cells .plain (List.replicate (l.length + 3) (DV.str []))]).set H.length (.cells .plain (l.map DV.str ++ List.replicate 3 (DV.str []))) = H ++ [.cells .plain (l.map DV.str ++ List.replicate 3 (DV.str []))] := by simp
      rw [hset] at hc
      generalize List.replicate (l.length + 3) (DV.str []) = Z at *
      generalize l.map DV.str ++ List.replicate 3 (DV.str []) = Y at *
      simp [hc]
  have h3 : (E tab).C (.seq (.region f182r3 [0, 3, 4]) (.block 0 f182L0)) [(0, v), (3, .hsl 1 false (st.heap.length + H.length) 0 (l.length + 3) (some (l.length + 3)))] (pst st (H ++ [.cells .plain (l.map DV.str ++ List.replicate 3 (DV.str []))]) K) =
      some (.normal, [(0, v), (3, .hsl 1 false (st.heap.length + H.length) 0 (l.length + 3) (some (l.length + 3)))] ++ fr, pst st (H ++ [.cells .plain ((lentT l).map DV.str)]) K) := by
    generalize l.map DV.str ++ List.replicate 3 (DV.str []) = Y at *
    simp at hL
    simp [e0, hL]
  have h4 : (E tab).C (.region f182r0 [0]) (frame0 [v] 0) (pst st H K) = some (.normal, [(0, v)], pst st H K) := by simp
  have h5 : (E tab).C (.region f182r1 [0, 3]) [(0, v)] (pst st H K) = some (.normal, [(0, v), (3, .hsl 1 false (st.heap.length + H.length) 0 (l.length + 3) (some (l.length + 3)))], pst st (H ++ [.cells .plain (List.replicate (l.length + 3) (DV.str []))]) K) := by
    simp [e0, w1, roomD, b1, b2, b3, b4, t1, repl_one]
  have hsl := slice_hu (n := 1) (b := st.heap.length + H.length) (off := 0) (len := l.length + 3) (c := l.length + 3) (hi := l.length) (ag := false) (k := .i64) (by omega)
  rw [show f182.body = (.seq (.region f182r0 [0]) (.seq (.region f182r1 [0, 3]) (.seq (.region f182r2 [0, 3]) (.seq (.seq (.region f182r3 [0, 3, 4]) (.block 0 f182L0)) (.seq (.region f182r7 [2]) .ret))))) from rfl, C_seq, h4]
  simp only
  rw [C_seq, h5]
  simp only
  rw [C_seq, h2]
  simp only
  rw [C_seq, h3]
  simp [e0, hsl, f182]
theorem L50_0 {u : DV} (hv : Txs st l v) (hu : Txs st l u) (hl : l.length ≤ 140737488355328) (H : List HO) (K : List Nat) : ∀ (r d : List (List UInt8)), l = d ++ r →
    ∃ fr, (E tab).C f50L0 [(0, v), (1, u), (5, .int .i64 d.length)] (pst st H K) = some (.exit 0, fr, pst st H K) := by
  have e0 := fun st' => txs_len hv st'
  intro r
  induction r with
  | nil =>
    intro d hd
    refine ⟨[(0, v), (1, u), (5, .int .i64 l.length), (14, .bool false)], ?_⟩
    rw [C_turn (L := f50L0) rfl]
    simp [f50B0, e0, hd]
  | cons x r ih =>
    intro d hd
    have h0 : d.length < l.length := by simp [hd]
    have hx : l[d.length]? = some x := by simp [hd]
    have hw1 : IntKind.i64.wrap ((d.length : Int) + 1) = ((d ++ [x]).length : Nat) := by rw [i64w (by omega)]; simp
    have e1 := fun st' => txs_at hv h0 .i64 st'
    have e2 := fun H K => txs_load hv hx H K
    have e3 := fun st' => txs_at hu h0 .i64 st'
    have e4 := fun H K => txs_load hu hx H K
    obtain ⟨fr, hJ⟩ := ih (d ++ [x]) (by simp [hd])
    refine ⟨fr, ?_⟩
    simp only [List.length_append, List.length_singleton] at hJ hw1
    simp at hJ
    rw [C_turn (L := f50L0) rfl]
    simp [f50B0, e0, h0, e1, e2, e3, e4, hw1, hJ]
theorem same50 {u : DV} (hv : Txs st l v) (hu : Txs st l u) (hl : l.length ≤ 140737488355328) : (E tab).F 50 [v, u] st = some (.bool true, st) := by
  rw [F_run at50 rfl]
  have e0 := fun st' => txs_len hv st'
  have e1 := fun st' => txs_len hu st'
  obtain ⟨fr, hL⟩ := L50_0 hv hu hl [] [] l [] rfl
  simp at hL
  simp [f50, e0, e1, hL]
/-- A row that was lent, read. -/
theorem lent_viewT {k : Nat} (hr : rowAt H k = some (.plain, (lentT l).map DV.str)) : Txs (pst st H K) l (.hsl 1 false (st.heap.length + k) 0 l.length (some (l.length + 3))) ∧ Txs (pst st H K) (lentT l) (.hsl 1 false (st.heap.length + k) 0 (l.length + 3) (some (l.length + 3))) := by
  have hl : (lentT l).length = l.length + 3 := by simp [lentT]
  have hcell : (pst st H K).cells (st.heap.length + k) = some (.plain, (lentT l).map DV.str) := by rw [pst_cells, hr]
  constructor
  · have h := Vw.hsl (st := pst st H K) (n := 1) (ag := false) (xs := l.map DV.str) (st.heap.length + k) 0 (l.length + 3) .plain _ hcell (by simp [hl]) (by
      simp only [lentT, List.map_append, List.drop_zero, List.length_map, tx_flat, Nat.mul_one]
      rw [List.take_append_of_le_length (by simp), List.take_of_length_le (by simp)]) (by simp)
    simpa using h
  · have h := Vw.hsl (st := pst st H K) (n := 1) (ag := false) (xs := (lentT l).map DV.str) (st.heap.length + k) 0 (l.length + 3) .plain _ hcell (by simp [hl]) (by
      simp only [List.drop_zero, List.length_map, hl, tx_flat, Nat.mul_one]
      exact List.take_of_length_le (by simp [hl])) (by simp [hl])
    simpa [hl] using h
theorem pure182 : isPure tab 182 = false := by rw [isPure_of at182]; rfl
theorem pure50 : isPure tab 50 = true := by rw [isPure_of at50]; rfl
theorem kept184 {b : Nat} {u : DV} (hu : Txs st l u) (hl : l.length ≤ 1000000) (hb : Txs st (lentT l) (.hsl 1 false b 0 (l.length + 3) (some (l.length + 3)))) :
    (E tab).F 184 [.hsl 1 false b 0 l.length (some (l.length + 3)), u] st = some (.bool true, st) := by
  rw [F_run at184 rfl]
  have e0 := fun st' => txs_len hu st'
  have w1 : IntKind.i64.wrap ((l.length : Int) + 3) = ((l.length + 3 : Nat) : Int) := by rw [i64w (by omega)]; simp
  have e1 := lent182 (hu.inn [] []) hl
  simp at e1
  have hl3 : (lentT l).length = l.length + 3 := by simp [lentT]
  have s1 := fun (o : Nat) => slice_hu (n := 1) (b := b) (off := 0) (len := o) (c := l.length + 3) (hi := l.length + 3) (ag := false) (k := .i64) (by omega)
  have s2 := fun (o : Nat) => slice_hu (n := 1) (b := st.heap.length) (off := 0) (len := o) (c := l.length + 3) (hi := l.length + 3) (ag := false) (k := .i64) (by omega)
  have v2 := (lent_viewT (st := st) (H := [.cells .plain ((lentT l).map DV.str)]) (K := []) (k := 0) (l := l) rfl).2
  have e2 := same50 (hb.inn [.cells .plain ((lentT l).map DV.str)] []) v2 (by omega)
  generalize (lentT l).map DV.str = R at *
  simp at e2 w1 s1 s2
  simp [f184, C_dregionN, S_cons, A_cons, K_cons, loudD, pure182, pure50, e0, e1, w1, s1, s2, e2]
/-- All is written over. -/
theorem L185_0 {k n : Nat} (hn : n ≤ 1000000) : ∀ (m i : Nat) (xs : List (List UInt8)) (H : List HO), i + m = n → xs.length = n → (∀ j x, i ≤ j → xs[j]? = some x → x.length ≤ 1000000) → rowAt H k = some (.plain, xs.map DV.str) →
    ∃ (xs' : List (List UInt8)) (fr : Fr), (E tab).C f185L0 [(2, .hsl 1 false (st.heap.length + k) 0 n (some n)), (3, .int .i64 i)] (pst st H K) = some (.exit 0, fr, pst st (H.set k (.cells .plain (xs'.map DV.str))) K) := by
  intro m
  induction m with
  | zero =>
    intro i xs H hi hx hlx hr
    obtain rfl : i = n := by omega
    have hk := rowAt_lt hr
    have hset : H.set k (.cells .plain (xs.map DV.str)) = H := by
      apply List.ext_getElem?
      intro j
      by_cases hj : j = k
      · subst hj
        rw [List.getElem?_set_self hk]
        unfold rowAt at hr
        split at hr
        · rename_i e; simp only [Option.some.injEq, Prod.mk.injEq] at hr; rw [e, hr.1, hr.2]
        · cases hr
      · rw [List.getElem?_set_ne (fun e => hj e.symm)]
    refine ⟨xs, [(2, .hsl 1 false (st.heap.length + k) 0 i (some i)), (3, .int .i64 i), (11, .bool false)], ?_⟩
    rw [hset, C_turn (L := f185L0) rfl]
    simp [f185B0]
  | succ m ih =>
    intro i xs H hi hx hlx hr
    have hin : i < n := by omega
    obtain ⟨x, hxi⟩ : ∃ x, xs[i]? = some x := ⟨xs[i], List.getElem?_eq_getElem (by omega)⟩
    have hxm : x.length ≤ 1000000 := hlx i x (Nat.le_refl _) hxi
    have hk := rowAt_lt hr
    have hw1 : IntKind.i64.wrap ((i : Int) + 1) = ((i + 1 : Nat) : Int) := by rw [i64w (by omega)]; simp
    have hvi : (xs.map DV.str)[i]? = some (.str x) := by simp [hxi]
    have hsp : splice (xs.map DV.str) i [.str (x ++ [33])] = (xs.set i (x ++ [33])).map DV.str := by rw [splice_one (by simp; omega), List.map_set]
    have hle : i + 1 ≤ (xs.map DV.str).length := by simp; omega
    have hroom : x.length + 1 ≤ 4611686018427387904 := by omega
    obtain ⟨xs', fr, hJ⟩ := ih (i + 1) (xs.set i (x ++ [33])) (H.set k (.cells .plain ((xs.set i (x ++ [33])).map DV.str))) (by omega) (by simpa using hx) (fun j y hj hy => by
      rw [List.getElem?_set_ne (by omega)] at hy; exact hlx j y (by omega) hy) (rowAt_set hk _ _)
    refine ⟨xs', fr, ?_⟩
    rw [List.set_set] at hJ
    generalize xs'.map DV.str = W at *
    generalize (xs.set i (x ++ [33])).map DV.str = W1 at *
    generalize xs.map DV.str = VX at *
    simp only [splice] at hsp
    simp at hJ hsp
    rw [C_turn (L := f185L0) rfl]
    simp [f185B0, hin, hr, hvi, hle, hroom, hsp, hw1, hJ]
theorem over185 {k : Nat} (hl : l.length ≤ 100000) (hs : ∀ x ∈ l, x.length ≤ 1000000) (hr : rowAt H k = some (.plain, (lentT l).map DV.str)) :
    ∃ xs' : List (List UInt8), (E tab).F 185 [.hsl 1 false (st.heap.length + k) 0 l.length (some (l.length + 3))] (pst st H K) = some (.tuple [], pst st (H.set k (.cells .plain (xs'.map DV.str))) K) := by
  have hl3 : (lentT l).length = l.length + 3 := by simp [lentT]
  obtain ⟨xs', fr, hL⟩ := L185_0 (st := st) (K := K) (k := k) (n := l.length + 3) (by omega) (l.length + 3) 0 (lentT l) H (by omega) hl3 (fun j x _ hx => by
    have := List.mem_of_getElem? hx
    unfold lentT at this
    rcases List.mem_append.1 this with h | h
    · exact hs x h
    · have : x = lentM := by simpa using h
      rw [this]; simp [lentM]) hr
  refine ⟨xs', ?_⟩
  rw [F_go at185 rfl]
  have hsl := slice_hu (n := 1) (b := st.heap.length + k) (off := 0) (len := l.length) (c := l.length + 3) (hi := l.length + 3) (ag := false) (k := .i64) (by omega)
  simp at hL hsl
  simp [f185, hsl, hL]
end

theorem at198 : tab 198 = some (.code f198) := by kernel_rfl
theorem fmaxi (x y : Nat) : foldD max2D [.int .i64 x, .int .i64 y] = some (.int .i64 (max x y : Nat)) := by
  rcases Nat.lt_or_ge x y with h | h
  · have e : max x y = y := by omega
    simp [foldD, max2D, h, e]
  · have e : max x y = x := by omega
    have h' : ¬ x < y := by omega
    simp [foldD, max2D, h', e]
/-- No two digits side by side. -/
def NC (s : List UInt8) : Prop := ∀ a c c' b, s = a ++ c :: c' :: b → isD c = true → isD c' = true → False
theorem nc_of (s : List UInt8) (h : okP s = true) : NC s := by
  intro a c c' b hs h1 h2
  simp only [okP, Bool.and_eq_true, decide_eq_true_eq, beq_iff_eq] at h
  have h3 := h.2
  rw [scan0] at h3
  cases hk : okAll (okB0 s) 0 s with
  | false => rw [hk] at h3; cases h3
  | true =>
    have hlt : a.length + 1 < s.length := by simp [hs]
    have h4 := (okAll_iff _ _ _).1 hk (a.length + 1) hlt
    have e1 : s[a.length + 1] = c' := by
      have : s[a.length + 1]? = some c' := by simp [hs]
      rw [List.getElem?_eq_getElem hlt] at this; exact Option.some.inj this
    have e2 : s.getD a.length 0 = c := by simp [hs]
    rw [e1] at h4
    simp [okB0, h1, h2] at h4
    rw [List.getD_eq_getElem?_getD] at e2
    rw [e2, h1] at h4
    simp at h4
theorem snoc_ind {α : Type} {P : List α → Prop} (h0 : P []) (h1 : ∀ l a, P l → P (l ++ [a])) : ∀ l, P l := by
  intro l
  have : ∀ r : List α, P r.reverse := by
    intro r
    induction r with
    | nil => exact h0
    | cons a r ih => rw [List.reverse_cons]; exact h1 _ _ ih
  have := this l.reverse
  rwa [List.reverse_reverse] at this
theorem NC.pre {s : List UInt8} {c : UInt8} (h : NC (s ++ [c])) : NC s := fun a x y b hs => h a x y (b ++ [c]) (by rw [hs]; simp)
theorem digs_end : ∀ s : List UInt8, (∀ a c, s = a ++ [c] → isD c = false) → (digs 0 s).getD (letL s).length 0 = 0 := by
  apply snoc_ind
  · intro _; rfl
  · intro s c _ h
    have hc := h s c rfl
    have hl := digs_len s 0
    rw [digs_let s 0 c hc, let_let s c hc, List.length_append, List.length_singleton, List.getD_eq_getElem?_getD, List.getElem?_append_right (by omega)]
    simp [hl]
/-- What digits say, one by one. -/
theorem digs_le (x : Nat) : ∀ s : List UInt8, NC s → ∀ m, ((digs 0 s).getD m 0 ≤ x ↔ ∀ d c r, s = d ++ c :: r → isD c = true → (letL d).length = m → c.toNat - 48 ≤ x) := by
  apply snoc_ind
  · intro _ m
    constructor
    · intro _ d c r h; simp at h
    · intro _; cases m <;> simp [digs]
  · intro s c ih hN m
    have ih := ih hN.pre
    have hl := digs_len s 0
    cases hc : isD c with
    | false =>
      rw [digs_let s 0 c hc]
      constructor
      · intro h d c' r hs h1 h2
        rcases List.eq_nil_or_concat r with rfl | ⟨r', y, rfl⟩
        · have := List.append_inj' hs rfl
          simp only [List.cons.injEq, and_true] at this
          rw [this.2, h1] at hc; cases hc
        · have hs' : s ++ [c] = (d ++ c' :: r') ++ [y] := by rw [hs]; simp
          have := List.append_inj' hs' rfl
          refine (ih m).1 ?_ d c' r' this.1 h1 h2
          have hm : m < (digs 0 s).length := by
            rw [hl, ← h2, this.1]; simp [letL, List.filter_append]; omega
          rw [List.getD_eq_getElem?_getD, List.getElem?_append_left hm, ← List.getD_eq_getElem?_getD] at h
          exact h
      · intro h
        by_cases hm : m < (digs 0 s).length
        · rw [List.getD_eq_getElem?_getD, List.getElem?_append_left hm, ← List.getD_eq_getElem?_getD]
          exact (ih m).2 fun d c' r hs => h d c' (r ++ [c]) (by rw [hs]; simp)
        · rw [List.getD_eq_getElem?_getD, List.getElem?_append_right (by omega)]
          cases m - (digs 0 s).length <;> simp
    | true =>
      rw [digs_dig s 0 c hc]
      have he : (digs 0 s).getD (letL s).length 0 = 0 := by
        apply digs_end
        intro a c' hs
        cases h : isD c' with
        | false => rfl
        | true => exact (hN a c' c [] (by rw [hs]; simp) h hc).elim
      by_cases hm : m = (letL s).length
      · subst hm
        have e : ((digs 0 s).set (letL s).length (c.toNat - 48)).getD (letL s).length 0 = c.toNat - 48 := by
          rw [List.getD_eq_getElem?_getD, List.getElem?_set_self (by omega)]; rfl
        rw [e]
        constructor
        · intro h d c' r hs h1 h2
          rcases List.eq_nil_or_concat r with rfl | ⟨r', y, rfl⟩
          · have := List.append_inj' hs rfl
            simp only [List.cons.injEq, and_true] at this
            rw [← this.2]; exact h
          · have hs' : s ++ [c] = (d ++ c' :: r') ++ [y] := by rw [hs]; simp
            have := List.append_inj' hs' rfl
            exact (ih _).1 (by rw [he]; exact Nat.zero_le _) d c' r' this.1 h1 h2
        · intro h; exact h s c [] rfl hc rfl
      · have e : ((digs 0 s).set (letL s).length (c.toNat - 48)).getD m 0 = (digs 0 s).getD m 0 := by
          rw [List.getD_eq_getElem?_getD, List.getElem?_set_ne (fun e => hm e.symm), ← List.getD_eq_getElem?_getD]
        rw [e, ih m]
        constructor
        · intro h d c' r hs h1 h2
          rcases List.eq_nil_or_concat r with rfl | ⟨r', y, rfl⟩
          · have := List.append_inj' hs rfl
            rw [this.1] at hm; exact absurd h2.symm hm
          · have hs' : s ++ [c] = (d ++ c' :: r') ++ [y] := by rw [hs]; simp
            have := List.append_inj' hs' rfl
            exact h d c' r' this.1 h1 h2
        · intro h d c' r hs; exact h d c' (r ++ [c]) (by rw [hs]; simp)
section
variable {st : St}
theorem L198_0 {K : List Nat} {p : DV} {ps : List (List UInt8)} {s w all l : List UInt8} {i a : Nat} (hp : Txs st ps p) (hi : ps[i]? = some s) (hs : s.length ≤ 16) (hw : w.length ≤ 64) (ha : a ≤ 100) : ∀ (r d : List UInt8) (V : List Nat), s = d ++ r → V.length = w.length + 1 →
    ∃ (V' : List Nat) (x10 x11 : DV) (tl : Fr), (E tab).C f198L0 [(0, p), (1, .str w), (5, .hsl 1 false st.heap.length 0 (w.length + 1) (some (w.length + 1))), (6, .str all), (7, .int .i64 i), (8, .str l), (9, .int .i64 a), (10, .int .i64 ((a : Int) - 1 + (letL d).length)), (11, .int .i64 d.length)] (pst st [.cells .plain (V.map i6)] K) =
      some (.exit 4, [(0, p), (1, .str w), (5, .hsl 1 false st.heap.length 0 (w.length + 1) (some (w.length + 1))), (6, .str all), (7, .int .i64 i), (8, .str l), (9, .int .i64 a)] ++ (10, x10) :: (11, x11) :: tl, pst st [.cells .plain (V'.map i6)] K) ∧ V'.length = w.length + 1 ∧
      ∀ k x, k < w.length + 1 → (V'.getD k 0 ≤ x ↔ V.getD k 0 ≤ x ∧ ∀ d' c r', r = d' ++ c :: r' → isD c = true → a + (letL (d ++ d')).length = k + 1 → c.toNat - 48 ≤ x) := by
  have hil := (List.getElem?_eq_some_iff.1 hi).1
  have e1 := fun st' => txs_at hp hil .i64 st'
  have e2 := fun H K => txs_load hp hi H K
  intro r
  induction r with
  | nil =>
    intro d V hd hV
    obtain rfl : s = d := by simpa using hd
    refine ⟨V, .int .i64 ((a : Int) - 1 + (letL s).length), .int .i64 s.length, [(57, .bool false)], ?_, hV, ?_⟩
    · rw [C_turn (L := f198L0) rfl]
      simp [f198B0, e1, e2]
    · intro k x hk
      constructor
      · intro h; exact ⟨h, fun d' c r' h' => by simp at h'⟩
      · intro h; exact h.1
  | cons c r ih =>
    intro d V hd hV
    have h0 : d.length < s.length := by simp [hd]
    have hc : s[d.length]? = some c := by simp [hd]
    have hw1 : IntKind.i64.wrap ((d.length : Int) + 1) = (d.length : Int) + 1 := by rw [i64w (by omega)]
    have hdl : (letL d).length ≤ d.length := List.length_filter_le _ _
    have hdg := digit199 c
    have hge : s[d.length]'h0 = c := by have := hc; rw [List.getElem?_eq_getElem h0] at this; exact Option.some.inj this
    cases hD : isD c with
    | false =>
      have hll : (letL (d ++ [c])).length = (letL d).length + 1 := by rw [let_let d c hD]; simp
      have hw2 : IntKind.i64.wrap ((a : Int) - 1 + (letL d).length + 1) = (a : Int) - 1 + ((letL (d ++ [c])).length : Nat) := by rw [hll, i64w (by omega)]; omega
      obtain ⟨V', x10, x11, tl, hJ, h1, h2⟩ := ih (d ++ [c]) V (by simp [hd]) hV
      refine ⟨V', x10, x11, tl, ?_, h1, ?_⟩
      · rw [hD] at hdg
        simp only [List.length_append, List.length_singleton] at hJ
        generalize (letL (d ++ [c])).length = z at *
        simp at hJ
        rw [C_turn (L := f198L0) rfl]
        simp [f198B0, e1, e2, h0, hc, hge, hdg, hw2, hw1, hJ]
      · intro k x hk
        rw [h2 k x hk]
        constructor
        · rintro ⟨g1, g2⟩
          refine ⟨g1, fun d' c' r' e g3 g4 => ?_⟩
          cases d' with
          | nil => simp only [List.nil_append, List.cons.injEq] at e; rw [← e.1, hD] at g3; cases g3
          | cons y d' =>
            simp only [List.cons_append, List.cons.injEq] at e
            obtain ⟨rfl, e⟩ := e
            exact g2 d' c' r' e g3 (by rw [List.append_assoc]; exact g4)
        · rintro ⟨g1, g2⟩
          refine ⟨g1, fun d' c' r' e g3 g4 => ?_⟩
          exact g2 (c :: d') c' r' (by rw [e]; rfl) g3 (by rw [List.append_assoc] at g4; exact g4)
    | true =>
      have hll : letL (d ++ [c]) = letL d := let_dig d c hD
      have hcn : 48 ≤ c.toNat ∧ c.toNat ≤ 57 := by simpa [isD] using hD
      have hu8 : IntKind.u8.wrap ((c.toNat : Int) - 48) = ((c.toNat - 48 : Nat) : Int) := by
        have : ((c.toNat : Int) - 48) = ((c.toNat - 48 : Nat) : Int) := by omega
        rw [this, IntWalk.u8_in _ (by omega)]
      have hi8 : IntKind.i64.wrap ((c.toNat - 48 : Nat) : Int) = ((c.toNat - 48 : Nat) : Int) := i64w (by omega)
      -- the rest of the turn, whatever was laid
      have fin : ∀ W : List Nat, W.length = w.length + 1 → (∀ k x, k < w.length + 1 → (W.getD k 0 ≤ x ↔ V.getD k 0 ≤ x ∧ (a + (letL d).length = k + 1 → c.toNat - 48 ≤ x))) →
          ∀ V' : List Nat, V'.length = w.length + 1 → (∀ k x, k < w.length + 1 → (V'.getD k 0 ≤ x ↔ W.getD k 0 ≤ x ∧ ∀ d' c' r', r = d' ++ c' :: r' → isD c' = true → a + (letL (d ++ [c] ++ d')).length = k + 1 → c'.toNat - 48 ≤ x)) →
          ∀ k x, k < w.length + 1 → (V'.getD k 0 ≤ x ↔ V.getD k 0 ≤ x ∧ ∀ d' c' r', c :: r = d' ++ c' :: r' → isD c' = true → a + (letL (d ++ d')).length = k + 1 → c'.toNat - 48 ≤ x) := by
        intro W hW h1 V' hV' h2 k x hk
        rw [h2 k x hk, h1 k x hk]
        constructor
        · rintro ⟨⟨g1, g2⟩, g3⟩
          refine ⟨g1, fun d' c' r' e g4 g5 => ?_⟩
          cases d' with
          | nil =>
            simp only [List.nil_append, List.cons.injEq] at e
            rw [← e.1]; rw [List.append_nil] at g5; exact g2 g5
          | cons y d' =>
            simp only [List.cons_append, List.cons.injEq] at e
            obtain ⟨rfl, e⟩ := e
            exact g3 d' c' r' e g4 (by rw [List.append_assoc]; exact g5)
        · rintro ⟨g1, g2⟩
          refine ⟨⟨g1, fun g5 => g2 [] c r rfl hD (by rw [List.append_nil]; exact g5)⟩, fun d' c' r' e g4 g5 => ?_⟩
          exact g2 (c :: d') c' r' (by rw [e]; rfl) g4 (by rw [List.append_assoc] at g5; exact g5)
      by_cases hz : 1 ≤ a + (letL d).length ∧ a + (letL d).length ≤ w.length + 1
      · obtain ⟨kk, hkk⟩ : ∃ kk : Nat, a + (letL d).length = kk + 1 := ⟨a + (letL d).length - 1, by omega⟩
        have hzk : (a : Int) - 1 + (letL d).length = (kk : Int) := by omega
        have hkw : kk < w.length + 1 := by omega
        have hkw' : kk ≤ w.length := by omega
        have hkw2 : (kk : Int) < (w.length : Int) + 1 := by omega
        obtain ⟨y, hy⟩ : ∃ y, V[kk]? = some y := ⟨V[kk], List.getElem?_eq_getElem (by omega)⟩
        have hvi : (V.map i6)[kk]? = some (.int .i64 y) := by simp [hy, i6]
        have hmx := fmaxi y (c.toNat - 48)
        have hvlt : kk < (V.map i6).length := by simp; omega
        have hsp := splice_one (x := .int .i64 (max y (c.toNat - 48) : Nat)) hvlt
        have hset : (V.map i6).set kk (.int .i64 (max y (c.toNat - 48) : Nat)) = (V.set kk (max y (c.toNat - 48))).map i6 := by rw [List.map_set]; rfl
        rw [hset] at hsp
        have hle : kk + 1 ≤ (V.map i6).length := by omega
        obtain ⟨V', x10, x11, tl, hJ, h1, h2⟩ := ih (d ++ [c]) (V.set kk (max y (c.toNat - 48))) (by simp [hd]) (by simpa using hV)
        refine ⟨V', x10, x11, tl, ?_, h1, fin _ (by simpa using hV) ?_ V' h1 h2⟩
        · rw [hD] at hdg
          rw [hll] at hJ
          rw [hzk] at hJ ⊢
          simp only [List.length_append, List.length_singleton] at hJ
          generalize (V.set kk (max y (c.toNat - 48))).map i6 = W at *
          generalize V.map i6 = VM at *
          generalize c.toNat - 48 = cc at *
          simp only [splice] at hsp
          simp at hJ hsp
          have hge2 : VM[kk] = .int .i64 y := by rw [List.getElem?_eq_getElem hvlt] at hvi; exact Option.some.inj hvi
          rw [C_turn (L := f198L0) rfl]
          simp [f198B0, e1, e2, h0, hc, hge, hdg, hkw, hkw', hkw2, hu8, hi8, hvi, hge2, hvlt, hmx, hle, hsp, hw1, hJ]
        · intro k x hk
          by_cases hkk2 : k = kk
          · subst hkk2
            have e : (V.set k (max y (c.toNat - 48))).getD k 0 = max y (c.toNat - 48) := by rw [List.getD_eq_getElem?_getD, List.getElem?_set_self (by omega)]; rfl
            have e' : V.getD k 0 = y := by rw [List.getD_eq_getElem?_getD, hy]; rfl
            rw [e, e']
            constructor
            · intro h; exact ⟨by omega, fun _ => by omega⟩
            · rintro ⟨g1, g2⟩; have := g2 hkk; omega
          · have e : (V.set kk (max y (c.toNat - 48))).getD k 0 = V.getD k 0 := by rw [List.getD_eq_getElem?_getD, List.getElem?_set_ne (fun e => hkk2 e.symm), ← List.getD_eq_getElem?_getD]
            rw [e]
            constructor
            · intro h; exact ⟨h, fun h' => by omega⟩
            · intro h; exact h.1
      · obtain ⟨V', x10, x11, tl, hJ, h1, h2⟩ := ih (d ++ [c]) V (by simp [hd]) hV
        refine ⟨V', x10, x11, tl, ?_, h1, fin V hV ?_ V' h1 h2⟩
        · rw [hD] at hdg
          rw [hll] at hJ
          simp only [List.length_append, List.length_singleton] at hJ
          generalize hzz : (a : Int) - 1 + (letL d).length = z at *
          simp at hJ
          rw [C_turn (L := f198L0) rfl]
          by_cases h1 : 0 ≤ z
          · have h2 : ¬ z ≤ (w.length : Int) := by omega
            simp [f198B0, e1, e2, h0, hc, hge, hdg, h1, h2, hw1, hJ]
          · simp [f198B0, e1, e2, h0, hc, hge, hdg, h1, hw1, hJ]
        · intro k x hk
          constructor
          · intro h; exact ⟨h, fun h' => by omega⟩
          · intro h; exact h.1
end

theorem pre_take {l L : List UInt8} : l <+: L ↔ L.take l.length = l := by rw [List.prefix_iff_eq_take]; exact eq_comm
section
variable {st : St}
theorem L198_1 {K : List Nat} {p : DV} {ps : List (List UInt8)} {s w all : List UInt8} {i : Nat} (hp : Txs st ps p) (hi : ps[i]? = some s) (hok : okP s = true) (hw : w.length ≤ 64) (hall : all.length = w.length + 2) (hne : letL s ≠ []) : ∀ (n a : Nat) (V : List Nat), a + n = w.length + 3 - (letL s).length → (letL s).length ≤ 16 → (n = 0 → w.length + 2 < a + (letL s).length) → V.length = w.length + 1 →
    ∃ (V' : List Nat) (tl : Fr), (E tab).C f198L1 [(0, p), (1, .str w), (5, .hsl 1 false st.heap.length 0 (w.length + 1) (some (w.length + 1))), (6, .str all), (7, .int .i64 i), (8, .str (letL s)), (9, .int .i64 a)] (pst st [.cells .plain (V.map i6)] K) =
      some (.exit 2, [(0, p), (1, .str w), (5, .hsl 1 false st.heap.length 0 (w.length + 1) (some (w.length + 1))), (6, .str all), (7, .int .i64 i)] ++ tl, pst st [.cells .plain (V'.map i6)] K) ∧ V'.length = w.length + 1 ∧
      ∀ k x, k < w.length + 1 → (V'.getD k 0 ≤ x ↔ V.getD k 0 ≤ x ∧ ∀ a', a ≤ a' → letL s <+: all.drop a' → a' ≤ k + 1 → (digs 0 s).getD (k + 1 - a') 0 ≤ x) := by
  have hsl : s.length ≤ 16 := by simp only [okP, Bool.and_eq_true, decide_eq_true_eq] at hok; exact hok.1.2
  have hlp : 0 < (letL s).length := List.length_pos_iff.2 hne
  intro n
  induction n with
  | zero =>
    intro a V ha hl16 h0 hV
    have hgt := h0 rfl
    have hwz : IntKind.i64.wrap ((a : Int) + (letL s).length) = ((a + (letL s).length : Nat) : Int) := by rw [i64w (by omega)]; simp
    have hc : ¬ (a : Int) + (letL s).length ≤ all.length := by omega
    have hc' : ¬ a + (letL s).length ≤ all.length := by omega
    refine ⟨V, [(8, .str (letL s)), (9, .int .i64 a), (37, .bool false)], ?_, hV, ?_⟩
    · rw [C_turn (L := f198L1) rfl]
      simp at hwz
      simp [f198B1, hwz, hc, hc']
    · intro k x hk
      constructor
      · intro h
        refine ⟨h, fun a' h1 h2 h3 => ?_⟩
        have := h2.length_le
        rw [List.length_drop] at this
        omega
      · intro h; exact h.1
  | succ n ih =>
    intro a V ha hl16 h0 hV
    have hwz : IntKind.i64.wrap ((a : Int) + (letL s).length) = ((a + (letL s).length : Nat) : Int) := by rw [i64w (by omega)]; simp
    have hc' : a + (letL s).length ≤ all.length := by omega
    have hc : (a : Int) + (letL s).length ≤ all.length := by omega
    have hw1 : IntKind.i64.wrap ((a : Int) + 1) = ((a + 1 : Nat) : Int) := by rw [i64w (by omega)]; simp
    have hwm : IntKind.i64.wrap ((a : Int) - 1) = (a : Int) - 1 := by rw [i64w (by omega)]
    have hslice : sliceD true 1 (.str all) (some (.int .i64 a)) (some (.int .i64 ((a : Int) + (letL s).length))) none = some (.str ((all.drop a).take (letL s).length)) := by
      rw [slice_ss (by omega) (by omega) (by omega)]
      congr 3
      omega
    by_cases hpre : letL s <+: all.drop a
    · have ht := pre_take.1 hpre
      obtain ⟨V1, x10, x11, tl1, hI, g1, g2⟩ := L198_0 (K := K) (all := all) (l := letL s) (a := a) hp hi hsl hw (by omega) s [] V rfl hV
      obtain ⟨V', tl, hJ, h1, h2⟩ := ih (a + 1) V1 (by omega) hl16 (fun e => by omega) g1
      refine ⟨V', tl, ?_, h1, ?_⟩
      · rw [ht] at hslice
        simp [letL] at hI
        simp only [letL] at hwz hc hslice hJ ⊢
        generalize (s.filter fun c => !isD c) = L at *
        generalize V1.map i6 = W1 at *
        simp at hwz hJ hw1
        rw [C_turn (L := f198L1) rfl]
        simp [f198B1, hwz, hc, hslice, hwm, hI, hw1, hJ]
      · intro k x hk
        rw [h2 k x hk, g2 k x hk]
        have hN := nc_of s hok
        constructor
        · rintro ⟨⟨q1, q2⟩, q3⟩
          refine ⟨q1, fun a' h3 h4 h5 => ?_⟩
          by_cases e : a' = a
          · subst e
            rw [digs_le x s hN]
            intro d c r hs hd hm
            exact q2 d c r hs hd (by simp only [List.nil_append]; omega)
          · exact q3 a' (by omega) h4 h5
        · rintro ⟨q1, q2⟩
          refine ⟨⟨q1, fun d c r hs hd hm => ?_⟩, fun a' h3 h4 h5 => q2 a' (by omega) h4 h5⟩
          simp only [List.nil_append] at hm
          exact (digs_le x s hN _).1 (q2 a (Nat.le_refl _) hpre (by omega)) d c r hs hd (by omega)
    · have ht : (all.drop a).take (letL s).length ≠ letL s := fun e => hpre (pre_take.2 e)
      obtain ⟨V', tl, hJ, h1, h2⟩ := ih (a + 1) V (by omega) hl16 (fun e => by omega) hV
      refine ⟨V', tl, ?_, h1, ?_⟩
      · generalize (all.drop a).take (letL s).length = T at *
        generalize letL s = L at *
        have htb : (T == L) = false := by rw [beq_eq_false_iff_ne]; exact ht
        simp at hwz hJ hw1
        rw [C_turn (L := f198L1) rfl]
        simp [f198B1, hwz, hc, hslice, htb, hw1, hJ]
      · intro k x hk
        rw [h2 k x hk]
        constructor
        · rintro ⟨q1, q2⟩
          refine ⟨q1, fun a' h3 h4 h5 => ?_⟩
          by_cases e : a' = a
          · subst e; exact absurd h4 hpre
          · exact q2 a' (by omega) h4 h5
        · rintro ⟨q1, q2⟩
          exact ⟨q1, fun a' h3 h4 h5 => q2 a' (by omega) h4 h5⟩
theorem letL_ne {s : List UInt8} (h : okP s = true) : letL s ≠ [] := by
  simp only [okP, Bool.and_eq_true, decide_eq_true_eq, beq_iff_eq] at h
  have h3 := h.2
  rw [scan0] at h3
  cases hk : okAll (okB0 s) 0 s with
  | false => rw [hk] at h3; cases h3
  | true =>
    rw [hk] at h3
    simp only [cond_true, Option.some.injEq] at h3
    obtain ⟨c, hc, hS⟩ := List.any_eq_true.1 h3
    intro he
    have : c ∈ letL s := by
      unfold letL
      rw [List.mem_filter]
      refine ⟨hc, ?_⟩
      simp only [isS, isD, Bool.and_eq_true, decide_eq_true_eq] at hS ⊢
      simp; omega
    rw [he] at this; cases this
theorem L198_2 {K : List Nat} {p : DV} {ps : List (List UInt8)} {w all : List UInt8} (hp : Txs st ps p) (hpl : ps.length ≤ 256) (hok : ps.all okP = true) (hw : w.length ≤ 64) (hall : all.length = w.length + 2) : ∀ (r d : List (List UInt8)) (V : List Nat), ps = d ++ r → V.length = w.length + 1 →
    ∃ (V' : List Nat) (tl : Fr), (E tab).C f198L2 [(0, p), (1, .str w), (5, .hsl 1 false st.heap.length 0 (w.length + 1) (some (w.length + 1))), (6, .str all), (7, .int .i64 d.length)] (pst st [.cells .plain (V.map i6)] K) =
      some (.exit 0, [(0, p), (1, .str w), (5, .hsl 1 false st.heap.length 0 (w.length + 1) (some (w.length + 1)))] ++ tl, pst st [.cells .plain (V'.map i6)] K) ∧ V'.length = w.length + 1 ∧
      ∀ k x, k < w.length + 1 → (V'.getD k 0 ≤ x ↔ V.getD k 0 ≤ x ∧ ∀ s ∈ r, ∀ a, letL s <+: all.drop a → a ≤ k + 1 → (digs 0 s).getD (k + 1 - a) 0 ≤ x) := by
  have e0 := fun st' => txs_len hp st'
  intro r
  induction r with
  | nil =>
    intro d V hd hV
    obtain rfl : ps = d := by simpa using hd
    refine ⟨V, [(6, .str all), (7, .int .i64 ps.length), (23, .bool false)], ?_, hV, ?_⟩
    · rw [C_turn (L := f198L2) rfl]
      simp [f198B2, e0]
    · intro k x hk
      simp
  | cons s r ih =>
    intro d V hd hV
    have h0 : d.length < ps.length := by simp [hd]
    have hi : ps[d.length]? = some s := by simp [hd]
    have hoks : okP s = true := List.all_eq_true.1 hok s (by simp [hd])
    have hsl : s.length ≤ 16 := by simp only [okP, Bool.and_eq_true, decide_eq_true_eq] at hoks; exact hoks.1.2
    have hll : (letL s).length ≤ s.length := List.length_filter_le _ _
    have hw1 : IntKind.i64.wrap ((d.length : Int) + 1) = (d.length : Int) + 1 := by rw [i64w (by omega)]
    have e1 := fun st' => txs_at hp h0 .i64 st'
    have e2 := fun H K => txs_load hp hi H K
    have hlt := letters201 (s := s) (st := pst st [.cells .plain (V.map i6)] K) (by omega)
    obtain ⟨V1, tl1, hI, g1, g2⟩ := L198_1 (K := K) (all := all) hp hi hoks hw hall (letL_ne hoks) (w.length + 3 - (letL s).length) 0 V (by omega) (by omega) (fun e => by omega) hV
    obtain ⟨V', tl, hJ, h1, h2⟩ := ih (d ++ [s]) V1 (by simp [hd]) g1
    refine ⟨V', tl, ?_, h1, ?_⟩
    · simp only [List.length_append, List.length_singleton] at hJ
      generalize V1.map i6 = W1 at *
      generalize V.map i6 = W at *
      simp at hI hJ
      rw [C_turn (L := f198L2) rfl]
      simp [f198B2, e0, h0, e1, e2, hlt, hI, hw1, hJ]
    · intro k x hk
      rw [h2 k x hk, g2 k x hk]
      simp only [Nat.zero_le, true_implies, List.mem_cons, forall_eq_or_imp, and_assoc]
theorem values198 {p : DV} {ps : List (List UInt8)} {w : List UInt8} (hp : Txs st ps p) (hpl : ps.length ≤ 256) (hok : ps.all okP = true) (hw : w.length ≤ 64) :
    ∃ (V : List Nat) (t : Nat), (E tab).F 198 [p, .str w] st = some (.list t 1 .tight true (V.map i6), st) ∧ V.length = w.length + 1 ∧ ∀ k, k < w.length + 1 → V.getD k 0 = valN ps (46 :: (w ++ [46])) (k + 1) := by
  rw [F_run at198 rfl]
  obtain ⟨V, tl, hL, h1, h2⟩ := L198_2 (K := []) (all := 46 :: (w ++ [46])) hp hpl hok hw (by simp) ps [] (List.replicate (w.length + 1) 0) rfl (by simp)
  have hel : ∀ y ∈ V.map i6, IsEl 1 false y := i6_el
  have hfl := flat_scal _ hel
  have hex := ex_row (st := st) (H := [HO.cells .plain (V.map i6)]) (K := []) (k := 0) (n := 1) (ag := false) (g := .plain) (ys := V.map i6) (cap := some (w.length + 1)) (by rw [hfl]; rfl) (by omega) (.inr rfl) hel
  have hif : (if some (w.length + 1) = some (V.map i6).length then Tk.tight else Tk.no) = .tight := by rw [if_pos]; simp [h1]
  rw [hif] at hex
  have hrep : repl [DV.int .i64 0] (w.length + 1) = (List.replicate (w.length + 1) 0).map i6 := by rw [repl_one, List.map_replicate]; rfl
  have hw1 : IntKind.i64.wrap ((w.length : Int) + 1) = ((w.length + 1 : Nat) : Int) := by rw [i64w (by omega)]; simp
  refine ⟨V, st.cur, ?_, h1, ?_⟩
  · have hroom : ((w.length : Int) + 1) * 8 ≤ 140737488355328 := by omega
    have hroom1 : ((w.length : Int) + 1) ≤ 140737488355328 := by omega
    have hroom2 : w.length + 1 ≤ 140737488355328 := by omega
    have hpos : (0 : Int) ≤ (w.length : Int) + 1 := by omega
    have htn : ((w.length : Int) + 1).toNat = w.length + 1 := by omega
    have hstr1 : w.length + 1 ≤ 4611686018427387904 := by omega
    have hstr2 : w.length + 1 + 1 ≤ 4611686018427387904 := by omega
    have hstr0 : w.length ≤ 4611686018427387903 := by omega
    have hstr3 : 1 + w.length ≤ 4611686018427387904 := by omega
    have hlen : (V.map i6).length = w.length + 1 := by simp [h1]
    rw [hlen] at hex
    generalize (List.replicate (w.length + 1) 0).map i6 = Z at *
    generalize V.map i6 = VM at *
    simp at hL hex
    simp [f198, hw1, roomD, hroom, hroom1, hroom2, hpos, htn, hrep, hstr0, hstr1, hstr2, hstr3, hL, hex]
  · intro k hk
    apply eq_of_le
    intro x
    rw [h2 k x hk, valN_le]
    have e : (List.replicate (w.length + 1) 0).getD k 0 = 0 := by simp [List.getD_eq_getElem?_getD, hk]
    rw [e]
    simp only [Nat.zero_le, true_and]
    constructor
    · intro h s hs i _ h4 h5; exact h s hs i h4 h5
    · intro h s hs i h4 h5; exact h s hs i (letL_ne (List.all_eq_true.1 hok s hs)) h4 h5
end

theorem at183 : tab 183 = some (.code f183) := by kernel_rfl
theorem at186 : tab 186 = some (.code f186) := by kernel_rfl
section
variable {st : St} {H : List HO} {K : List Nat} {v w : DV} {ps es : List (List UInt8)}
theorem L183_0 (hv : Txs (pst st H K) ps v) (hps : ps.length ≤ 256) : ∀ (r d : List (List UInt8)), ps = d ++ r →
    ∃ e fr, (E tab).C f183L0 [(0, v), (1, w), (6, .int .i64 d.length)] (pst st H K) = some (e, fr, pst st H K) ∧
      if r.all okP = true then e = .exit 0 ∧ ∃ tl, fr = (0, v) :: (1, w) :: tl else e = .ret ∧ fr = [(4, .nilp), (5, .int .i64 4)] := by
  have e0 := fun st' => txs_len hv st'
  intro r
  induction r with
  | nil =>
    intro d hd
    obtain rfl : ps = d := by simpa using hd
    refine ⟨.exit 0, [(0, v), (1, w), (6, .int .i64 ps.length), (21, .bool false)], ?_, by simp⟩
    rw [C_turn (L := f183L0) rfl]
    simp [f183B0, e0]
  | cons s r ih =>
    intro d hd
    have h0 : d.length < ps.length := by simp [hd]
    have hi : ps[d.length]? = some s := by simp [hd]
    have hw1 : IntKind.i64.wrap ((d.length : Int) + 1) = (d.length : Int) + 1 := by rw [i64w (by omega)]
    have e1 := fun st' => txs_at hv h0 .i64 st'
    have e2 := hv.load1 tx_el (i := d.length) (x := .str s) (by simp [hi])
    have hp := pattern196 (s := s) (st := pst st H K)
    cases hok : okP s with
    | true =>
      rw [hok] at hp
      obtain ⟨e, fr, hJ, hR⟩ := ih (d ++ [s]) (by simp [hd])
      refine ⟨e, fr, ?_, by simpa [hok] using hR⟩
      simp at hJ
      rw [C_turn (L := f183L0) rfl]
      simp [f183B0, e0, h0, e1, e2, hp, hw1, hJ]
    | false =>
      rw [hok] at hp
      refine ⟨.ret, [(4, .nilp), (5, .int .i64 4)], ?_, by simp [hok]⟩
      rw [C_turn (L := f183L0) rfl]
      simp [f183B0, e0, h0, e1, e2, hp]
theorem L183_1 (hw : Txs (pst st H K) es w) (hes : es.length ≤ 256) (hsl : ∀ s ∈ es, s.length ≤ 1000) : ∀ (r d : List (List UInt8)), es = d ++ r →
    ∃ e fr, (E tab).C f183L1 [(0, v), (1, w), (7, .int .i64 d.length)] (pst st H K) = some (e, fr, pst st H K) ∧
      if r.all okE = true then e = .exit 2 ∧ ∃ tl, fr = (0, v) :: (1, w) :: tl else e = .ret ∧ fr = [(4, .nilp), (5, .int .i64 4)] := by
  have e0 := fun st' => txs_len hw st'
  intro r
  induction r with
  | nil =>
    intro d hd
    obtain rfl : es = d := by simpa using hd
    refine ⟨.exit 2, [(0, v), (1, w), (7, .int .i64 es.length), (33, .bool false)], ?_, by simp⟩
    rw [C_turn (L := f183L1) rfl]
    simp [f183B1, e0]
  | cons s r ih =>
    intro d hd
    have h0 : d.length < es.length := by simp [hd]
    have hi : es[d.length]? = some s := by simp [hd]
    have hw1 : IntKind.i64.wrap ((d.length : Int) + 1) = (d.length : Int) + 1 := by rw [i64w (by omega)]
    have e1 := fun st' => txs_at hw h0 .i64 st'
    have e2 := hw.load1 tx_el (i := d.length) (x := .str s) (by simp [hi])
    have hp := exception197 (s := s) (st := pst st H K) (hsl s (by simp [hd]))
    cases hok : okE s with
    | true =>
      rw [hok] at hp
      obtain ⟨e, fr, hJ, hR⟩ := ih (d ++ [s]) (by simp [hd])
      refine ⟨e, fr, ?_, by simpa [hok] using hR⟩
      simp at hJ
      rw [C_turn (L := f183L1) rfl]
      simp [f183B1, e0, h0, e1, e2, hp, hw1, hJ]
    | false =>
      rw [hok] at hp
      refine ⟨.ret, [(4, .nilp), (5, .int .i64 4)], ?_, by simp [hok]⟩
      rw [C_turn (L := f183L1) rfl]
      simp [f183B1, e0, h0, e1, e2, hp]
theorem L183_2 (hw : Txs (pst st H K) es w) (hes : es.length ≤ 256) (hsl : ∀ s ∈ es, s.length ≤ 1000) {s : List UInt8} {d : List (List UInt8)} {q : List (List UInt8)} (hd : es = d ++ s :: q) : ∀ (r c : List (List UInt8)), d = c ++ r →
    ∃ e fr, (E tab).C f183L2 [(0, v), (1, w), (8, .int .i64 d.length), (9, .int .i64 c.length)] (pst st H K) = some (e, fr, pst st H K) ∧
      if bareL s ∈ r.map bareL then e = .ret ∧ fr = [(4, .nilp), (5, .int .i64 7)] else e = .exit 6 ∧ ∃ tl, fr = (0, v) :: (1, w) :: (8, .int .i64 d.length) :: tl := by
  have hds : d.length < es.length := by simp [hd]
  have his : es[d.length]? = some s := by simp [hd]
  have e3 := fun st' => txs_at hw hds .i64 st'
  have e4 := hw.load1 tx_el (i := d.length) (x := .str s) (by simp [his])
  have hb := bare195 (s := s) (st := pst st H K) (by have := hsl s (by simp [hd]); omega)
  intro r
  induction r with
  | nil =>
    intro c hc
    obtain rfl : d = c := by simpa using hc
    refine ⟨.exit 6, [(0, v), (1, w), (8, .int .i64 d.length), (9, .int .i64 d.length), (50, .bool false)], ?_, by simp⟩
    rw [C_turn (L := f183L2) rfl]
    simp [f183B2]
  | cons y r ih =>
    intro c hc
    have h0 : c.length < d.length := by simp [hc]
    have hi : es[c.length]? = some y := by rw [hd, hc]; simp
    have hce : c.length < es.length := (List.getElem?_eq_some_iff.1 hi).1
    have hw1 : IntKind.i64.wrap ((c.length : Int) + 1) = (c.length : Int) + 1 := by rw [i64w (by omega)]
    have e1 := fun st' => txs_at hw hce .i64 st'
    have e2 := hw.load1 tx_el (i := c.length) (x := .str y) (by simp [hi])
    have hby := bare195 (s := y) (st := pst st H K) (by have := hsl y (by rw [hd, hc]; simp); omega)
    by_cases he : bareL s = bareL y
    · refine ⟨.ret, [(4, .nilp), (5, .int .i64 7)], ?_, by simp [he]⟩
      rw [C_turn (L := f183L2) rfl]
      simp [f183B2, h0, e1, e2, e3, e4, hb, hby, he]
    · obtain ⟨e, fr, hJ, hR⟩ := ih (c ++ [y]) (by simp [hc])
      refine ⟨e, fr, ?_, by simpa [he] using hR⟩
      have heb : (bareL s == bareL y) = false := by rw [beq_eq_false_iff_ne]; exact he
      simp at hJ
      rw [C_turn (L := f183L2) rfl]
      simp [f183B2, h0, e1, e2, e3, e4, hb, hby, heb, hw1, hJ]
theorem L183_3 (hw : Txs (pst st H K) es w) (hes : es.length ≤ 256) (hsl : ∀ s ∈ es, s.length ≤ 1000) : ∀ (r d : List (List UInt8)), es = d ++ r → (d.map bareL).Nodup →
    ∃ e fr, (E tab).C f183L3 [(0, v), (1, w), (8, .int .i64 d.length)] (pst st H K) = some (e, fr, pst st H K) ∧
      if (es.map bareL).Nodup then e = .exit 4 ∧ ∃ tl, fr = (0, v) :: (1, w) :: tl else e = .ret ∧ fr = [(4, .nilp), (5, .int .i64 7)] := by
  have e0 := fun st' => txs_len hw st'
  intro r
  induction r with
  | nil =>
    intro d hd hn
    obtain rfl : es = d := by simpa using hd
    refine ⟨.exit 4, [(0, v), (1, w), (8, .int .i64 es.length), (45, .bool false)], ?_, by simp [hn]⟩
    rw [C_turn (L := f183L3) rfl]
    simp [f183B3, e0]
  | cons s r ih =>
    intro d hd hn
    have h0 : d.length < es.length := by simp [hd]
    have hw1 : IntKind.i64.wrap ((d.length : Int) + 1) = (d.length : Int) + 1 := by rw [i64w (by omega)]
    obtain ⟨e, fr, hI, hR⟩ := L183_2 (v := v) hw hes hsl hd d [] rfl
    simp at hI
    by_cases hm : bareL s ∈ d.map bareL
    · rw [if_pos hm] at hR
      obtain ⟨rfl, rfl⟩ := hR
      have hnn : ¬ (es.map bareL).Nodup := by
        rw [hd, List.map_append, List.nodup_append]
        rintro ⟨_, _, h⟩
        exact h _ hm (bareL s) (by simp) rfl
      refine ⟨.ret, [(4, .nilp), (5, .int .i64 7)], ?_, by simp [hnn]⟩
      rw [C_turn (L := f183L3) rfl]
      simp [f183B3, e0, h0, hI]
    · rw [if_neg hm] at hR
      obtain ⟨rfl, tl, rfl⟩ := hR
      obtain ⟨e, fr, hJ, hR⟩ := ih (d ++ [s]) (by simp [hd]) (by rw [List.map_append]; exact (nodup_snoc _ _).2 ⟨hn, hm⟩)
      refine ⟨e, fr, ?_, hR⟩
      simp at hJ
      rw [C_turn (L := f183L3) rfl]
      simp [f183B3, e0, h0, hI, hw1, hJ]
/-- A copy of texts. -/
theorem copy_tx (hv : Txs (pst st H K) ps v) (hl : ps.length ≤ 100000) : ∃ t tk K', appendD (pst st H K) 1 false 16 (.list st.cur 1 .tight true []) v = some (.list t 1 tk true (ps.map DV.str), pst st H K') := by
  have hcong : appendD (pst st H K) 1 false 16 (.list st.cur 1 .tight true []) v = appendD (pst st H K) 1 false 16 (.list st.cur 1 .tight true []) (.list 0 1 .no true (ps.map DV.str)) := by
    have e1 := hv.news
    have e2 : newsD (pst st H K) 1 (.list 0 1 .no true (ps.map DV.str)) = some ((ps.map DV.str).length, flat (ps.map DV.str)) := by simp [newsD]
    unfold appendD
    rw [e1, e2]
  rw [hcong]
  by_cases h : ps.map DV.str = []
  · refine ⟨st.cur, .tight, K, ?_⟩
    rw [app_none (by rw [h]; simp [newsD, flat]), h]
  · have ha := app_new (st := st) (H := H) (K := K) (t := st.cur) (n' := 1) (tk := .tight) (nn := true) (xs := []) (t' := 0) (tk' := .no) (by_ := 16) (.inr ⟨rfl, rfl, rfl⟩) (by omega) h tx_el (by simp [roomD]; omega) (by simp [roomD]; omega)
    exact ⟨_, _, _, ha⟩
/-- The document's hyph on the heap. -/
def RefOk (G : List HO) (b : Nat) (ps es : List (List UInt8)) : Prop := ∃ t tk t' tk', rowAt G b = some (.plain, [.list t 1 tk true (ps.map DV.str), .list t' 1 tk' true (es.map DV.str)])
theorem RefOk.same {G G' : List HO} {b : Nat} (h : RefOk G b ps es) (hs : ∀ j, b ≤ j → j < G.length → G'[j]? = G[j]?) : RefOk G' b ps es := by
  obtain ⟨t, tk, t', tk', h⟩ := h
  exact ⟨t, tk, t', tk', by rw [rowAt_iff, hs _ (Nat.le_refl _) (rowAt_lt h)]; exact rowAt_iff.1 h⟩
theorem new183 (hsl : ∀ s ∈ es, s.length ≤ 1000) (hv : Txs (pst st H K) ps v) (hw : Txs (pst st H K) es w) :
    ∃ X K' hp, (E tab).F 183 [v, w] (pst st H K) = some (.tuple [hp, .int .i64 (errN ps es : Nat)], pst st (H ++ X) K') ∧ (errN ps es = 0 → hp = .ptr (st.heap.length + H.length) 0 ∧ RefOk (H ++ X) H.length ps es) ∧ (errN ps es ≠ 0 → hp = .nilp) := by
  rw [F_go at183 rfl]
  have hlv := fun st' => txs_len hv st'
  have hlw := fun st' => txs_len hw st'
  by_cases h1 : 256 < ps.length
  · have h1' : (256 : Int) < ps.length := by omega
    have he : errN ps es = 3 := by simp [errN, h1]
    refine ⟨[], K, .nilp, ?_, by simp [he], fun _ => rfl⟩
    rw [he]
    simp [f183, hlv, h1']
  by_cases h2 : 64 < es.length
  · have h1' : ¬ (256 : Int) < ps.length := by omega
    have h2' : (64 : Int) < es.length := by omega
    have he : errN ps es = 3 := by simp [errN, h2]
    refine ⟨[], K, .nilp, ?_, by simp [he], fun _ => rfl⟩
    rw [he]
    simp [f183, hlv, hlw, h1', h2']
  have h1' : ¬ (256 : Int) < ps.length := by omega
  have h2' : ¬ (64 : Int) < es.length := by omega
  obtain ⟨e, fr, hL, a8⟩ := L183_0 (w := w) hv (by omega) ps [] rfl
  simp at hL
  by_cases hp : ps.all okP = true
  · rw [if_pos hp] at a8
    obtain ⟨rfl, tl, rfl⟩ := a8
    obtain ⟨e, fr, hL2, c⟩ := L183_1 (v := v) hw (by omega) hsl es [] rfl
    simp at hL2
    by_cases hq : es.all okE = true
    · rw [if_pos hq] at c
      obtain ⟨rfl, tl2, rfl⟩ := c
      obtain ⟨e, fr, hL3, c⟩ := L183_3 (v := v) hw (by omega) hsl es [] rfl (by simp)
      simp at hL3
      by_cases hn : (es.map bareL).Nodup
      · rw [if_pos hn] at c
        obtain ⟨rfl, tl3, rfl⟩ := c
        have he : errN ps es = 0 := by simp only [errN, if_neg (show ¬ (256 < ps.length ∨ 64 < es.length) by omega), hp, hq, and_self, if_true, if_pos hn]
        obtain ⟨t1, tk1, K1, ha1⟩ := copy_tx hv (by omega)
        have hw1 : Txs (pst st H K1) es w := by have := hw.app [] K1; rwa [List.append_nil] at this
        obtain ⟨t2, tk2, K2, ha2⟩ := copy_tx hw1 (by omega)
        refine ⟨[.cells .plain [.list t1 1 tk1 true (ps.map DV.str), .list t2 1 tk2 true (es.map DV.str)]], K2, .ptr (st.heap.length + H.length) 0, ?_, fun _ => ⟨rfl, t1, tk1, t2, tk2, rowAt_app _ _ _ _⟩, by simp [he]⟩
        rw [he]
        simp [f183, hlv, hlw, h1', h2', hL, hL2, hL3, op_lit, repl, chunk, ha1, ha2]
      · rw [if_neg hn] at c
        obtain ⟨rfl, rfl⟩ := c
        have he : errN ps es = 7 := by simp only [errN, if_neg (show ¬ (256 < ps.length ∨ 64 < es.length) by omega), hp, hq, and_self, if_true, if_neg hn]
        refine ⟨[], K, .nilp, ?_, by simp [he], fun _ => rfl⟩
        rw [he]
        simp [f183, hlv, hlw, h1', h2', hL, hL2, hL3]
    · rw [if_neg hq] at c
      obtain ⟨rfl, rfl⟩ := c
      have he : errN ps es = 4 := by rw [errN, if_neg (show ¬ (256 < ps.length ∨ 64 < es.length) by omega), if_neg (fun h => hq h.2)]
      refine ⟨[], K, .nilp, ?_, by simp [he], fun _ => rfl⟩
      rw [he]
      simp [f183, hlv, hlw, h1', h2', hL, hL2]
  · rw [if_neg hp] at a8
    obtain ⟨rfl, rfl⟩ := a8
    have he : errN ps es = 4 := by rw [errN, if_neg (show ¬ (256 < ps.length ∨ 64 < es.length) by omega), if_neg (fun h => hp h.1)]
    refine ⟨[], K, .nilp, ?_, by simp [he], fun _ => rfl⟩
    rw [he]
    simp [f183, hlv, hlw, h1', h2', hL]
end

section
variable {st : St} {G : List HO}
theorem L186_0 {s : List UInt8} (hs : s.length ≤ 1000) : ∀ (r d : List UInt8) (K : List Nat) (v : DV), s = d ++ r → Acc st K 1 ((plc 0 d).map i6) v →
    ∃ K' v' tl, (E tab).C f186L0 [(8, v), (10, .str s), (11, .int .i64 (bareL d).length), (12, .int .i64 d.length)] (pst st G K) = some (.exit 2, (8, v') :: tl, pst st G K') ∧ Acc st K' 1 ((plc 0 s).map i6) v' := by
  intro r
  induction r with
  | nil =>
    intro d K v hd ha
    obtain rfl : s = d := by simpa using hd
    refine ⟨K, v, [(10, .str s), (11, .int .i64 (bareL s).length), (12, .int .i64 s.length), (45, .bool false)], ?_, ha⟩
    rw [C_turn (L := f186L0) rfl]
    simp [f186B0]
  | cons c r ih =>
    intro d K v hd ha
    have h0 : d.length < s.length := by simp [hd]
    have hc : s[d.length]? = some c := by simp [hd]
    have hge : s[d.length]'h0 = c := by have := hc; rw [List.getElem?_eq_getElem h0] at this; exact Option.some.inj this
    have hw1 : IntKind.i64.wrap ((d.length : Int) + 1) = (d.length : Int) + 1 := by rw [i64w (by omega)]
    have hbl := bare_len d
    have hpl := plc_len d 0
    by_cases h : c.toNat = 45
    · have hci : (c.toNat : Int) = 45 := by omega
      have hps := plc_sign d 0 c h
      have hbs := bare_sign d c h
      obtain ⟨v', K', hap, ha'⟩ := acc_app (st := st) (H := G) (by_ := 8) (ag := false) (ys := [i6 (bareL d).length]) (t := st.cur) (tk := .tight) ha (by omega) (by simp) (by intro z hz; simp only [List.mem_singleton] at hz; subst hz; exact ⟨rfl, rfl, rfl⟩) (by simp [roomD]; omega) (by simp [roomD]; omega)
      obtain ⟨K2, v2, tl, hJ, hA⟩ := ih (d ++ [c]) K' v' (by simp [hd]) (by rw [hps]; simpa using ha')
      refine ⟨K2, v2, tl, ?_, hA⟩
      rw [hbs] at hJ
      simp only [List.length_append, List.length_singleton] at hJ
      simp only [i6] at hap
      generalize (bareL d).length = bl at *
      simp at hJ
      rw [C_turn (L := f186L0) rfl]
      simp [f186B0, h0, hc, hge, h, hci, op_lit, repl, chunk, hap, hw1, hJ]
    · have hci : ¬ (c.toNat : Int) = 45 := by omega
      have hps := plc_let d 0 c h
      have hbs := bare_let d c h
      have hw2 : IntKind.i64.wrap (((bareL d).length : Int) + 1) = (((bareL (d ++ [c])).length : Nat) : Int) := by rw [hbs, i64w (by omega)]; simp
      obtain ⟨K2, v2, tl, hJ, hA⟩ := ih (d ++ [c]) K v (by simp [hd]) (by rw [hps]; exact ha)
      refine ⟨K2, v2, tl, ?_, hA⟩
      rw [hbs] at hJ hw2
      simp only [List.length_append, List.length_singleton] at hJ hw2
      generalize (bareL d).length = bl at *
      simp at hJ hw2
      rw [C_turn (L := f186L0) rfl]
      simp [f186B0, h0, hc, hge, h, hci, hw2, hw1, hJ]
theorem L186_1 {K : List Nat} {b t t' : Nat} {tk tk' : Tk} {ps es : List (List UInt8)} {u : List UInt8} (hes : es.length ≤ 256) (hsl : ∀ s ∈ es, s.length ≤ 1000) (hb : rowAt G b = some (.plain, [.list t 1 tk true (ps.map DV.str), .list t' 1 tk' true (es.map DV.str)])) : ∀ (r d : List (List UInt8)), es = d ++ r →
    ∃ e fr K', (E tab).C f186L1 [(0, .ptr (st.heap.length + b) 0), (6, .str u), (8, .list 0 0 .no false []), (9, .int .i64 d.length)] (pst st G K) = some (e, fr, pst st G K') ∧
      match r.find? (fun s => bareL s == u) with
      | none => e = .exit 0 ∧ ∃ tl, fr = (0, .ptr (st.heap.length + b) 0) :: (6, .str u) :: (8, .list 0 0 .no false []) :: tl
      | some s => e = .ret ∧ ∃ v, fr = [(4, v), (5, .int .i64 0)] ∧ Acc st K' 1 ((plc 0 s).map i6) v := by
  intro r
  induction r with
  | nil =>
    intro d hd
    obtain rfl : es = d := by simpa using hd
    refine ⟨.exit 0, [(0, .ptr (st.heap.length + b) 0), (6, .str u), (8, .list 0 0 .no false []), (9, .int .i64 es.length), (28, .bool false)], K, ?_, by simp⟩
    rw [C_turn (L := f186L1) rfl]
    simp [f186B1, hb]
  | cons s r ih =>
    intro d hd
    have h0 : d.length < es.length := by simp [hd]
    have hw1 : IntKind.i64.wrap ((d.length : Int) + 1) = (d.length : Int) + 1 := by rw [i64w (by omega)]
    have hx : (es.map DV.str)[d.length]? = some (.str s) := by simp [hd]
    have hlen : (es.map DV.str).length = es.length := by simp
    have hbr := bare195 (s := s) (st := pst st G K) (by have := hsl s (by simp [hd]); omega)
    generalize hE : es.map DV.str = E0 at *
    have hlt : d.length < E0.length := by omega
    have hge : E0[d.length]'hlt = .str s := by have := hx; rw [List.getElem?_eq_getElem hlt] at this; exact Option.some.inj this
    by_cases he : bareL s = u
    · obtain ⟨K', v', tl, hI, hA⟩ := L186_0 (st := st) (G := G) (s := s) (hsl s (by simp [hd])) s [] K (.list 0 0 .no false []) rfl (.inl ⟨rfl, 0, 0, .no, rfl⟩)
      refine ⟨.ret, [(4, v'), (5, .int .i64 0)], K', ?_, by simp [he, hA]⟩
      simp [bareL] at hI
      rw [C_turn (L := f186L1) rfl]
      simp [f186B1, hb, hlen, h0, hx, hge, hlt, hbr, he, hI]
    · have heb : (bareL s == u) = false := by rw [beq_eq_false_iff_ne]; exact he
      obtain ⟨e, fr, K', hJ, hR⟩ := ih (d ++ [s]) (by simp [hd])
      refine ⟨e, fr, K', ?_, by simpa [heb] using hR⟩
      simp at hJ
      rw [C_turn (L := f186L1) rfl]
      simp [f186B1, hb, hlen, h0, hx, hge, hlt, hbr, heb, hw1, hJ]
theorem L186_2 {n : Nat} {w : List UInt8} {VL : DV} {V : List Nat} {t : Nat} (hw : w.length = n) (hn : n ≤ 64) (hV : V.length = n + 1) (hVL : VL = .list t 1 .tight true (V.map i6)) : ∀ (j k : Nat) (xs : List Nat) (v : DV) (K : List Nat), 2 ≤ k → k + j = n - 4 + 2 → xs.length + j ≤ 100 → Acc st K 1 (xs.map i6) v →
    ∃ v' K' tl, (E tab).C f186L2 [(6, .str w), (8, v), (13, VL), (14, .int .i64 k)] (pst st G K) =
      some (.exit 4, (6, .str w) :: (8, v') :: tl, pst st G K') ∧ Acc st K' 1 ((xs ++ (List.range' k j).filter fun k => V.getD k 0 % 2 == 1).map i6) v' := by
  subst hVL
  intro j
  induction j with
  | zero =>
    intro k xs v K hk hj hx ha
    have hc : ¬ (IntKind.i64.wrap ((k : Int) + 3) ≤ (n : Int)) := by rw [i64w (by omega)]; omega
    refine ⟨v, K, [(13, .list t 1 .tight true (V.map i6)), (14, .int .i64 k), (69, .bool false)], ?_, by simpa using ha⟩
    rw [C_turn (L := f186L2) rfl]
    simp [f186B2, hw, hc]
  | succ j ih =>
    intro k xs v K hk hj hx ha
    have hc : IntKind.i64.wrap ((k : Int) + 3) ≤ (n : Int) := by rw [i64w (by omega)]; omega
    have hw1 : IntKind.i64.wrap ((k : Int) + 1) = ((k + 1 : Nat) : Int) := by rw [i64w (by omega)]; simp
    obtain ⟨y, hy⟩ : ∃ y, V[k]? = some y := ⟨V[k], List.getElem?_eq_getElem (by omega)⟩
    have hyd : V.getD k 0 = y := by simp [hy]
    have hvx : (V.map i6)[k]? = some (.int .i64 y) := by simp [hy, i6]
    have htm : (y : Int).tmod 2 = ((y % 2 : Nat) : Int) := rfl
    generalize V.map i6 = VM at *
    have hlt : k < VM.length := (List.getElem?_eq_some_iff.1 hvx).1
    have hge : VM[k]'hlt = .int .i64 y := by have := hvx; rw [List.getElem?_eq_getElem hlt] at this; exact Option.some.inj this
    rw [List.range'_succ, List.filter_cons, hyd]
    by_cases hodd : y % 2 = 1
    · have hdec : (y : Int) % 2 = 1 := by omega
      obtain ⟨v', K', hap, ha'⟩ := acc_app (st := st) (H := G) (by_ := 8) (ag := false) (ys := [i6 k]) (t := st.cur) (tk := .tight) ha (by omega) (by simp) (by intro z hz; simp only [List.mem_singleton] at hz; subst hz; exact ⟨rfl, rfl, rfl⟩) (by simp [roomD]; omega) (by simp [roomD]; omega)
      obtain ⟨v2, K2, tl, hJ, hA⟩ := ih (k + 1) (xs ++ [k]) v' K' (by omega) (by omega) (by simp; omega) (by simpa using ha')
      refine ⟨v2, K2, tl, ?_, by simpa [hodd] using hA⟩
      simp at hJ
      simp only [i6] at hap
      rw [C_turn (L := f186L2) rfl]
      simp [f186B2, hw, hc, hw1, hlt, hge, hvx, htm, hdec, op_lit, repl, chunk, hap, hJ]
    · have hdec : ¬ (y : Int) % 2 = 1 := by omega
      obtain ⟨v2, K2, tl, hJ, hA⟩ := ih (k + 1) xs v K (by omega) (by omega) (by omega) ha
      refine ⟨v2, K2, tl, ?_, by simpa [hodd] using hA⟩
      simp at hJ
      rw [C_turn (L := f186L2) rfl]
      simp [f186B2, hw, hc, hw1, hlt, hge, hvx, htm, hdec, hJ]
theorem err0 {ps es : List (List UInt8)} (h : errN ps es = 0) : ps.length ≤ 256 ∧ es.length ≤ 64 ∧ ps.all okP = true ∧ es.all okE = true ∧ (es.map bareL).Nodup := by
  unfold errN at h
  split at h
  · cases h
  · split at h
    · split at h
      · rename_i h1 h2 h3; exact ⟨by omega, by omega, h2.1, h2.2, h3⟩
      · cases h
    · cases h
theorem points186 {K : List Nat} {b : Nat} {ps es : List (List UInt8)} (h : RefOk G b ps es) (h0 : errN ps es = 0) (hes : ∀ s ∈ es, s.length ≤ 1000) (w : List UInt8) (hwl : w.length ≤ 4611686018427387903) :
    ∃ v K', (E tab).F 186 [.ptr (st.heap.length + b) 0, .str w] (pst st G K) = some (.tuple [v, .int .i64 (if okW w then 0 else 4 : Nat)], pst st G K') ∧ Lw 1 ((if okW w then points ps es (w.map lowB) else []).map i6) v := by
  rw [F_go at186 rfl]
  obtain ⟨e1, e2, e3, e4, e5⟩ := err0 h0
  obtain ⟨t, tk, t', tk', hb⟩ := h
  have hlo := lower194 (s := w) (st := pst st G K) hwl
  cases hok : okW w with
  | false =>
    refine ⟨.list 0 0 .no false [], K, ?_, by simpa using Lw.list 0 0 .no false (fun h => by cases h) (fun _ => rfl)⟩
    cases hS : allS w with
    | false =>
      rw [hS] at hlo
      simp at hlo
      simp [f186, hlo]
    | true =>
      have hf : (decide (1 ≤ w.length) && decide (w.length ≤ 64)) = false := by simpa [okW, hS] using hok
      rw [hS, hf] at hlo
      simp at hlo
      simp [f186, hlo]
  | true =>
    have hok' := hok
    simp only [okW, Bool.and_eq_true, decide_eq_true_eq] at hok'
    have hS := hok'.1
    have hl64 := hok'.2.2
    have hf : (decide (1 ≤ w.length) && decide (w.length ≤ 64)) = true := by simpa [okW, hS] using hok
    rw [hS, hf] at hlo
    simp only [if_true] at hlo ⊢
    generalize hu : w.map lowB = u at *
    have hul : u.length ≤ 64 := by rw [← hu]; simpa using hl64
    obtain ⟨e, fr, K1, hL, hR⟩ := L186_1 (st := st) (K := K) (u := u) (by omega) hes hb es [] rfl
    simp at hL
    cases hf : es.find? (fun s => bareL s == u) with
    | some s =>
      rw [hf] at hR
      obtain ⟨rfl, v, rfl, hA⟩ := hR
      refine ⟨v, K1, ?_, by simp only [points, hf]; exact acc_lw hA⟩
      simp [f186, hlo, hL]
    | none =>
      rw [hf] at hR
      obtain ⟨rfl, tl, rfl⟩ := hR
      have hp : Txs (pst st G K1) ps (.list t 1 tk true (ps.map DV.str)) := .list _ _ _ _ (fun _ => rfl) (fun h => by cases h)
      obtain ⟨V, tv, hval, hV, hvv⟩ := values198 hp (by omega) e3 hul
      obtain ⟨v', K', tl2, hL2, hA⟩ := L186_2 (st := st) (G := G) (t := tv) rfl hul hV rfl (u.length - 4) 2 [] (.list 0 0 .no false []) K1 (by omega) (by omega) (by simp; omega) (.inl ⟨rfl, 0, 0, .no, rfl⟩)
      have e2' : (List.range' 2 (u.length - 4)).filter (fun k => V.getD k 0 % 2 == 1) = ptsN ps u := by
        unfold ptsN
        apply List.filter_congr
        intro k hk
        rw [List.mem_range'_1] at hk
        rw [hvv k (by omega)]
      rw [List.nil_append, e2'] at hA
      refine ⟨v', K', ?_, by simp only [points, hf]; exact acc_lw hA⟩
      generalize V.map i6 = VM at *
      simp at hL2
      simp [f186, hlo, hL, hb, hval, hL2]
end

theorem at143 : tab 143 = some (.code f143) := by kernel_rfl
theorem at188 : tab 188 = some (.code f188) := by kernel_rfl
theorem at187 : tab 187 = some (.code f187) := by kernel_rfl
theorem at181 : tab 181 = some (.code f181) := by kernel_rfl
theorem plain_err : errN plainP plainE = 0 := by decide +kernel
theorem plain_len : ∀ s ∈ plainE, s.length ≤ 1000 := by decide +kernel
section
variable {st : St}
theorem L187_0 {v u : DV} {l : List Nat} (hv : Lw 1 (l.map i6) v) (hu : Lw 1 (l.map i6) u) (hl : l.length ≤ 140737488355328) (H : List HO) (K : List Nat) : ∀ (r d : List Nat), l = d ++ r →
    ∃ fr, (E tab).C f187L0 [(0, v), (1, u), (5, .int .i64 d.length)] (pst st H K) = some (.exit 0, fr, pst st H K) := by
  have v0 : Vw (pst st H K) 1 false (l.map i6) v := hv.vw
  have u0 : Vw (pst st H K) 1 false (l.map i6) u := hu.vw
  have e0 := v0.len
  simp only [List.length_map] at e0
  intro r
  induction r with
  | nil =>
    intro d hd
    refine ⟨[(0, v), (1, u), (5, .int .i64 l.length), (14, .bool false)], ?_⟩
    rw [C_turn (L := f187L0) rfl]
    simp [f187B0, e0, hd]
  | cons x r ih =>
    intro d hd
    have h0 : d.length < l.length := by simp [hd]
    have hx : (l.map i6)[d.length]? = some (.int .i64 x) := by simp [hd, i6]
    have hw1 : IntKind.i64.wrap ((d.length : Int) + 1) = ((d ++ [x]).length : Nat) := by rw [i64w (by omega)]; simp
    have e1 := fun st' => v0.iaddr (i := d.length) (by simpa using h0) .i64 st'
    have e2 := v0.load1 i6_el hx
    have e3 := fun st' => u0.iaddr (i := d.length) (by simpa using h0) .i64 st'
    have e4 := u0.load1 i6_el hx
    obtain ⟨fr, hJ⟩ := ih (d ++ [x]) (by simp [hd])
    refine ⟨fr, ?_⟩
    simp only [List.length_append, List.length_singleton] at hJ hw1
    simp at hJ
    rw [C_turn (L := f187L0) rfl]
    simp [f187B0, e0, h0, e1, e2, e3, e4, hw1, hJ]
theorem same187 {v u : DV} {l : List Nat} (hv : Lw 1 (l.map i6) v) (hu : Lw 1 (l.map i6) u) (hl : l.length ≤ 140737488355328) : (E tab).F 187 [v, u] st = some (.bool true, st) := by
  rw [F_run at187 rfl]
  have e0 := (hv.vw (st := st) (ag := false)).len
  have e1 := (hu.vw (st := st) (ag := false)).len
  simp only [List.length_map] at e0 e1
  obtain ⟨fr, hL⟩ := L187_0 (st := st) hv hu hl [] [] l [] rfl
  simp at hL
  simp [f187, e0, e1, hL]
/-- Are texts more than are gone through? -/
def longB (l : List (List UInt8)) : Bool := decide (300 < l.length) || l.any fun s => decide (200 < s.length)
theorem L181_0 {v : DV} {l : List (List UInt8)} {H : List HO} {K : List Nat} (hv : Txs (pst st H K) l v) (hl : l.length ≤ 300) : ∀ (r d : List (List UInt8)), l = d ++ r →
    ∃ e fr, (E tab).C f181L0 [(0, v), (3, .int .i64 d.length)] (pst st H K) = some (e, fr, pst st H K) ∧ if (r.any fun s => decide (200 < s.length)) = true then e = .ret ∧ fr = [(2, .bool true)] else e = .exit 0 := by
  have e0 := fun st' => txs_len hv st'
  intro r
  induction r with
  | nil =>
    intro d hd
    obtain rfl : l = d := by simpa using hd
    refine ⟨.exit 0, [(0, v), (3, .int .i64 l.length), (10, .bool false)], ?_, by simp⟩
    rw [C_turn (L := f181L0) rfl]
    simp [f181B0, e0]
  | cons s r ih =>
    intro d hd
    have h0 : d.length < l.length := by simp [hd]
    have hw1 : IntKind.i64.wrap ((d.length : Int) + 1) = (d.length : Int) + 1 := by rw [i64w (by omega)]
    have e1 := fun st' => txs_at hv h0 .i64 st'
    have e2 := hv.load1 tx_el (i := d.length) (x := .str s) (by simp [hd])
    by_cases hs : 200 < s.length
    · have hs' : (200 : Int) < s.length := by omega
      refine ⟨.ret, [(2, .bool true)], ?_, by simp [hs]⟩
      rw [C_turn (L := f181L0) rfl]
      simp [f181B0, e0, h0, e1, e2, hs, hs']
    · have hs' : ¬ (200 : Int) < s.length := by omega
      obtain ⟨e, fr, hJ, hR⟩ := ih (d ++ [s]) (by simp [hd])
      refine ⟨e, fr, ?_, by simpa [hs] using hR⟩
      simp at hJ
      rw [C_turn (L := f181L0) rfl]
      simp [f181B0, e0, h0, e1, e2, hs, hs', hw1, hJ]
theorem long181 {v : DV} {l : List (List UInt8)} (hv : Txs st l v) : (E tab).F 181 [v] st = some (.bool (longB l), st) := by
  rw [F_run at181 rfl]
  have e0 := fun st' => txs_len hv st'
  by_cases h : 300 < l.length
  · have h' : (300 : Int) < l.length := by omega
    simp [f181, e0, h, h', longB]
  · have h' : ¬ (300 : Int) < l.length := by omega
    obtain ⟨e, fr, hL, hR⟩ := L181_0 (hv.inn [] []) (by omega) l [] rfl
    simp at hL
    by_cases ha : (l.any fun s => decide (200 < s.length)) = true
    · rw [if_pos ha] at hR
      obtain ⟨rfl, rfl⟩ := hR
      have e : longB l = true := by simp only [longB, ha, Bool.or_true]
      rw [e]
      simp [f181, e0, h', hL]
    · rw [if_neg ha] at hR
      subst hR
      have e : longB l = false := by simp only [longB, Bool.not_eq_true] at ha ⊢; simp [ha, h]
      rw [e]
      simp [f181, e0, h', hL]
theorem long_no {l : List (List UInt8)} (h : longB l = false) : l.length ≤ 300 ∧ ∀ s ∈ l, s.length ≤ 200 := by
  simp only [longB, Bool.or_eq_false_iff, decide_eq_false_iff_not, Nat.not_lt, List.any_eq_false, decide_eq_true_eq] at h
  exact h
/-- The plain hyph, of both. -/
theorem plain143 (G : List HO) (K : List Nat) : ∃ X, (E tab).F 143 [] (pst st G K) = some (.ptr (st.heap.length + (G.length + 2)) 0, pst st (G ++ X) K) ∧ HypOk st (G ++ X) G.length plainP plainE := by
  rw [F_go at143 rfl]
  have hf := fields_run (pst st G K)
  have hv : Txs (pst st G K) plainP (.list 0 1 .tight true (plainP.map DV.str)) := .list _ _ _ _ (fun _ => rfl) (fun h => by cases h)
  have hw : Txs (pst st G K) plainE (.list st.cur 1 .tight true (plainE.map DV.str)) := .list _ _ _ _ (fun _ => rfl) (fun h => by cases h)
  obtain ⟨X, hp, hn, h0, _⟩ := new147 (K := K) plain_len hv hw
  obtain ⟨rfl, hok⟩ := h0 plain_err
  rw [plain_err] at hn
  refine ⟨X, ?_, hok⟩
  generalize plainP.map DV.str = PL at *
  simp [plainT] at hf
  simp [plainE] at hn
  simp [f143, hf, op_lit, repl, chunk, hn]
theorem plain188 (G : List HO) (K : List Nat) : ∃ X K', (E tab).F 188 [] (pst st G K) = some (.ptr (st.heap.length + G.length) 0, pst st (G ++ X) K') ∧ RefOk (G ++ X) G.length plainP plainE := by
  rw [F_go at188 rfl]
  have hv : Txs (pst st G K) plainP (.list st.cur 1 .tight true (plainP.map DV.str)) := .list _ _ _ _ (fun _ => rfl) (fun h => by cases h)
  have hw : Txs (pst st G K) plainE (.list st.cur 1 .tight true (plainE.map DV.str)) := .list _ _ _ _ (fun _ => rfl) (fun h => by cases h)
  obtain ⟨X, K', hp, hn, h0, _⟩ := new183 (K := K) plain_len hv hw
  obtain ⟨rfl, hok⟩ := h0 plain_err
  rw [plain_err] at hn
  refine ⟨X, K', ?_, hok⟩
  simp [plainE, plainP] at hn
  simp [f188, op_lit, repl, chunk, hn]
end

theorem list_of {α : Type} {f : α → DV} : ∀ {xs : List DV}, (∀ x ∈ xs, ∃ a, x = f a) → ∃ l : List α, xs = l.map f
  | [], _ => ⟨[], rfl⟩
  | x :: r, h => by
    obtain ⟨a, rfl⟩ := h x (List.mem_cons_self ..)
    obtain ⟨l, rfl⟩ := list_of fun y hy => h y (List.mem_cons_of_mem _ hy)
    exact ⟨a :: l, rfl⟩
theorem fit_txs {v : DV} (h : Fit (.list false 16 [.str]) v) (st : St) : ∃ l : List (List UInt8), Txs st l v ∧ l.length ≤ 140737488355328 := by
  obtain ⟨nn, xs, rfl, hnn, hmax, hlen, hxs⟩ := h
  obtain ⟨l, rfl⟩ : ∃ l : List (List UInt8), xs = l.map DV.str := list_of fun x hx => by
    obtain ⟨vs, ⟨_, _, rfl, ⟨s, rfl, _⟩, rfl⟩, rfl⟩ := hxs x hx
    exact ⟨s, rfl⟩
  refine ⟨l, .list _ _ _ _ (fun _ => rfl) hnn, ?_⟩
  unfold reachBytes at hlen; simp at hlen; omega

theorem at193 : tab 193 = some (.code f193) := by kernel_rfl
theorem xor_all : ∀ n : Fin 256, bitsD .xor .u8 (n.val : Int) 32 = some ((UInt8.ofNat (n.val ^^^ 32)).toNat : Int) := by decide +kernel
theorem fold_all : ∀ n : Fin 256, (97 ≤ n.val ∧ n.val ≤ 122 ∨ 65 ≤ n.val ∧ n.val ≤ 90) → lowB (UInt8.ofNat (n.val ^^^ 32)) = lowB (UInt8.ofNat n.val) := by decide +kernel
theorem xor32 (c : UInt8) : ∃ c' : UInt8, bitsD .xor .u8 (c.toNat : Int) 32 = some (c'.toNat : Int) ∧ ((97 ≤ c.toNat ∧ c.toNat ≤ 122 ∨ 65 ≤ c.toNat ∧ c.toNat ≤ 90) → lowB c' = lowB c) := by
  have hc : c.toNat < 256 := c.toNat_lt
  refine ⟨_, xor_all ⟨c.toNat, hc⟩, fun h => ?_⟩
  have := fold_all ⟨c.toNat, hc⟩ h
  simp only [UInt8.ofNat_toNat] at this
  exact this
theorem bytes_u8' : ∀ l : List UInt8, bytesOfD (l.map u8) = some l
  | [] => rfl
  | c :: r => by simp [bytesOfD, u8, bytes_u8' r]
section
variable {st : St}
theorem L193_0 {bits : Int} {n : Nat} (hn : n ≤ 4611686018427387904) : ∀ (m i : Nat) (X : List UInt8), i + m = n → X.length = n →
    ∃ (X' : List UInt8) (tl : Fr), (E tab).C f193L0 [(1, .int .u64 bits), (5, .hsl 1 false st.heap.length 0 n none), (6, .int .i64 i)] (pst st [.cells .grown (X.map u8)] []) =
      some (.exit 0, (1, .int .u64 bits) :: (5, .hsl 1 false st.heap.length 0 n none) :: tl, pst st [.cells .grown (X'.map u8)] []) ∧ X'.length = n ∧ X'.map lowB = X.map lowB := by
  intro m
  induction m with
  | zero =>
    intro i X hi hX
    obtain rfl : i = n := by omega
    refine ⟨X, [(6, .int .i64 i), (13, .bool false)], ?_, hX, rfl⟩
    rw [C_turn (L := f193L0) rfl]
    simp [f193B0]
  | succ m ih =>
    intro i X hi hX
    have hin : i < n := by omega
    obtain ⟨c, hc⟩ : ∃ c, X[i]? = some c := ⟨X[i], List.getElem?_eq_getElem (by omega)⟩
    have hvx : (X.map u8)[i]? = some (.int .u8 c.toNat) := by simp [hc, u8]
    have hw1 : IntKind.i64.wrap ((i : Int) + 1) = ((i + 1 : Nat) : Int) := by rw [i64w (by omega)]; simp
    have htm : (i : Int).tmod 64 = (i : Int) % 64 := Int.tmod_eq_emod_of_nonneg (by omega)
    have hnn : ¬ ((i : Int) % 64 < 0) := by omega
    obtain ⟨z, hz⟩ : ∃ z, binD .shr (.int .u64 bits) (.int .i64 ((i : Int) % 64)) = some (.int .u64 z) := ⟨_, by simp only [binD, shiftD, if_neg hnn]; rfl⟩
    obtain ⟨z2, hz2⟩ : ∃ z2, bitsD .and .u64 z 1 = some z2 := ⟨_, rfl⟩
    obtain ⟨c', hx1, hx2⟩ := xor32 c
    have hlt : i < (X.map u8).length := by simp; omega
    have hsp := splice_one (x := .int .u8 (c'.toNat : Nat)) hlt
    have hset : (X.map u8).set i (.int .u8 (c'.toNat : Nat)) = (X.set i c').map u8 := by rw [List.map_set]; rfl
    rw [hset] at hsp
    have hle : i + 1 ≤ (X.map u8).length := by omega
    obtain ⟨X1, tl1, hJ1, a1, a2⟩ := ih (i + 1) (X.set i c') (by omega) (by simpa using hX)
    obtain ⟨X2, tl2, hJ2, b1, b2⟩ := ih (i + 1) X (by omega) hX
    have hge : (X.map u8)[i]'hlt = .int .u8 c.toNat := by have := hvx; rw [List.getElem?_eq_getElem hlt] at this; exact Option.some.inj this
    by_cases hgo : z2 = 1 ∧ (97 ≤ c.toNat ∧ c.toNat ≤ 122 ∨ 65 ≤ c.toNat ∧ c.toNat ≤ 90)
    · refine ⟨X1, tl1, ?_, a1, ?_⟩
      · obtain ⟨rfl, hg⟩ := hgo
        generalize (X.set i c').map u8 = W at *
        generalize X.map u8 = VM at *
        simp only [splice] at hsp
        simp at hJ1 hsp
        rw [C_turn (L := f193L0) rfl]
        by_cases g1 : 97 ≤ c.toNat
        · have g1' : (97 : Int) ≤ c.toNat := by omega
          by_cases g2 : c.toNat ≤ 122
          · have g2' : (c.toNat : Int) ≤ 122 := by omega
            simp [f193B0, hin, hvx, hge, hlt, htm, hz, hz2, g1, g1', g2, g2', hx1, hle, hsp, hw1, hJ1]
          · omega
        · have g1' : ¬ (97 : Int) ≤ c.toNat := by omega
          have g3 : 65 ≤ c.toNat ∧ c.toNat ≤ 90 := by omega
          have g4 : (65 : Int) ≤ c.toNat := by omega
          have g5 : (c.toNat : Int) ≤ 90 := by omega
          simp [f193B0, hin, hvx, hge, hlt, htm, hz, hz2, g1, g1', g3, g4, g5, hx1, hle, hsp, hw1, hJ1]
      · rw [a2, List.map_set, hx2 hgo.2]
        apply List.ext_getElem?
        intro j
        by_cases hj : j = i
        · subst hj; rw [List.getElem?_set_self (by simp; omega), List.getElem?_map, hc]; rfl
        · rw [List.getElem?_set_ne (fun e => hj e.symm)]
    · refine ⟨X2, tl2, ?_, b1, b2⟩
      generalize X.map u8 = VM at *
      simp at hJ2
      rw [C_turn (L := f193L0) rfl]
      by_cases h1 : z2 = 1
      · by_cases g1 : 97 ≤ c.toNat
        · have g1' : (97 : Int) ≤ c.toNat := by omega
          have g2 : ¬ c.toNat ≤ 122 := by omega
          have g2' : ¬ (c.toNat : Int) ≤ 122 := by omega
          have g3 : ¬ c.toNat ≤ 90 := by omega
          have g3' : ¬ (c.toNat : Int) ≤ 90 := by omega
          have g4 : (65 : Int) ≤ c.toNat := by omega
          have g5 : 65 ≤ c.toNat := by omega
          simp [f193B0, hin, hvx, hge, hlt, htm, hz, hz2, h1, g1, g1', g2, g2', g3, g3', g4, g5, hw1, hJ2]
        · have g1' : ¬ (97 : Int) ≤ c.toNat := by omega
          by_cases g4 : 65 ≤ c.toNat
          · have g4' : (65 : Int) ≤ c.toNat := by omega
            have g3 : ¬ c.toNat ≤ 90 := by omega
            have g3' : ¬ (c.toNat : Int) ≤ 90 := by omega
            simp [f193B0, hin, hvx, hge, hlt, htm, hz, hz2, h1, g1, g1', g3, g3', g4, g4', hw1, hJ2]
          · have g4' : ¬ (65 : Int) ≤ c.toNat := by omega
            simp [f193B0, hin, hvx, hge, hlt, htm, hz, hz2, h1, g1, g1', g4, g4', hw1, hJ2]
      · simp [f193B0, hin, hvx, hge, hlt, htm, hz, hz2, h1, hw1, hJ2]
theorem turned193 (s : List UInt8) (bits : Int) (hs : s.length ≤ 4611686018427387904) : ∃ s' : List UInt8, (E tab).F 193 [.str s, .int .u64 bits] st = some (.str s', st) ∧ s'.map lowB = s.map lowB := by
  rw [F_run at193 rfl]
  obtain ⟨X', tl, hL, h1, h2⟩ := L193_0 (st := st) (bits := bits) hs s.length 0 s (by omega) rfl
  refine ⟨X', ?_, h2⟩
  have hu : (fun b : UInt8 => DV.int .u8 (b.toNat : Int)) = u8 := rfl
  have hb := bytes_u8' X'
  have hxl : (X'.map u8).length = s.length := by simpa using h1
  have hn : newsD (pst st [HO.cells .grown (X'.map u8)] []) 1 (.hsl 1 false st.heap.length 0 s.length none) = some (s.length, X'.map u8) := by
    simp only [newsD, if_true, pst_cells0, rowAt_zero, Nat.mul_one, Nat.zero_add, hxl, Nat.le_refl, List.drop_zero]
    rw [List.take_of_length_le (by omega)]
  generalize X'.map u8 = W at *
  simp at hL
  simp [f193, hu, hL, op_b2s, hn, hb]
end

theorem at179 : tab 179 = some (.code f179) := by kernel_rfl
theorem HypOk.app {st : St} {G X : List HO} {b : Nat} {ps es : List (List UInt8)} (h : HypOk st G b ps es) : HypOk st (G ++ X) b ps es := h.same fun j _ hj => List.getElem?_append_left hj
theorem pts_len (ps es : List (List UInt8)) (w : List UInt8) (h : ∀ s ∈ es, s.length ≤ 1000) : (points ps es w).length ≤ 100000 + w.length := by
  unfold points
  split
  · rename_i s hs
    have := List.mem_of_find?_eq_some hs
    have := plc_len s 0
    have := h s (by assumption)
    omega
  · unfold ptsN
    have := List.length_filter_le (fun k => valN ps (46 :: (w ++ [46])) (k + 1) % 2 == 1) (List.range' 2 (w.length - 4))
    simp at this
    omega
theorem pts_short {ps es : List (List UInt8)} (h : ∀ s ∈ es, s.length ≤ 1000) (w : List UInt8) : (if okW w = true then points ps es (w.map lowB) else []).length ≤ 140737488355328 := by
  split
  · rename_i hok
    simp only [okW, Bool.and_eq_true, decide_eq_true_eq] at hok
    have h1 := hok.2.2
    have := pts_len ps es (w.map lowB) h
    simp only [List.length_map] at this
    omega
  · simp
/-! The order of patterns, and great letters, change nothing -/
theorem errN_rev (ps es : List (List UInt8)) : errN ps.reverse es = errN ps es := by
  have h : ps.reverse.all okP = ps.all okP := by
    rw [Bool.eq_iff_iff, List.all_eq_true, List.all_eq_true]; simp
  unfold errN
  rw [List.length_reverse, h]
theorem valN_rev (ps : List (List UInt8)) (t : List UInt8) (m : Nat) : valN ps.reverse t m = valN ps t m := by
  apply eq_of_le
  intro x
  rw [valN_le, valN_le]
  unfold Con
  simp
theorem points_rev (ps es : List (List UInt8)) (w : List UInt8) : points ps.reverse es w = points ps es w := by
  unfold points ptsN
  simp only [valN_rev]
theorem allS_low (s : List UInt8) : allS s = (s.map lowB).all isS := by
  unfold allS; rw [List.all_map]; rfl
theorem okW_low {s t : List UInt8} (h : s.map lowB = t.map lowB) : okW s = okW t := by
  have hl : s.length = t.length := by simpa using congrArg List.length h
  unfold okW
  rw [allS_low, allS_low, h, hl]
theorem pts_rise (ps : List (List UInt8)) (w : List UInt8) : (ptsN ps w).Pairwise (· < ·) ∧ ∀ x ∈ ptsN ps w, 1 < x ∧ x + 3 ≤ w.length := by
  unfold ptsN
  refine ⟨List.Pairwise.filter _ List.pairwise_lt_range', fun x hx => ?_⟩
  have := List.mem_range'_1.1 (List.mem_filter.1 hx).1
  omega
section
variable {st : St}
theorem L179_0 {v w y2 y3 y9 : DV} {ps : List (List UInt8)} (hv : Txs st ps v) (hps : ps.length ≤ 300) : ∀ (n : Nat) (K : List Nat) (a : DV), n ≤ ps.length → Acc st K 1 ((ps.drop n).reverse.map DV.str) a →
    ∃ K' a' tl, (E tab).C f179L0 [(0, v), (1, w), (2, y2), (3, y3), (9, y9), (10, a), (11, .int .i64 ((n : Int) - 1))] (pst st [] K) = some (.exit 0, [(0, v), (1, w), (2, y2), (3, y3), (9, y9), (10, a')] ++ tl, pst st [] K') ∧ Acc st K' 1 (ps.reverse.map DV.str) a' := by
  intro n
  induction n with
  | zero =>
    intro K a hn ha
    refine ⟨K, a, [(11, .int .i64 ((0 : Nat) - 1 : Int)), (37, .bool false)], ?_, by simpa using ha⟩
    rw [C_turn (L := f179L0) rfl]
    simp [f179B0]
  | succ n ih =>
    intro K a hn ha
    obtain ⟨s, hs⟩ : ∃ s, ps[n]? = some s := ⟨ps[n], List.getElem?_eq_getElem (by omega)⟩
    have e1 := fun st' => txs_at hv (i := n) (by omega) .i64 st'
    have e2 := fun H K => txs_load hv hs H K
    have hz : ((n + 1 : Nat) : Int) - 1 = (n : Int) := by omega
    have hw1 : IntKind.i64.wrap ((n : Int) - 1) = (n : Int) - 1 := by rw [i64w (by omega)]
    have hdr : (ps.drop (n + 1)).reverse.map DV.str ++ [.str s] = (ps.drop n).reverse.map DV.str := by
      have h1 : n < ps.length := by omega
      have h2 : ps[n] = s := by rw [List.getElem?_eq_getElem h1] at hs; exact Option.some.inj hs
      rw [List.drop_eq_getElem_cons h1, h2]; simp
    obtain ⟨v', K', hap, ha'⟩ := acc_app (st := st) (H := []) (by_ := 16) (ag := false) (ys := [.str s]) (t := st.cur) (tk := .tight) ha (by omega) (by simp) (by intro z hz; simp only [List.mem_singleton] at hz; subst hz; exact ⟨rfl, rfl, rfl⟩) (by simp [roomD]; omega) (by simp [roomD]; omega)
    rw [hdr] at ha'
    obtain ⟨K2, a2, tl, hJ, hA⟩ := ih K' v' (by omega) ha'
    refine ⟨K2, a2, tl, ?_, hA⟩
    rw [hz]
    simp at hJ
    rw [C_turn (L := f179L0) rfl]
    simp [f179B0, e1, e2, op_lit, repl, chunk, hap, hw1, hJ]
theorem L179_1 {G : List HO} {K : List Nat} {w y9 x : DV} {wd u : List UInt8} {es : List (List UInt8)} (hw : Txs (pst st G K) es w) (hes : es.length ≤ 300) (hsl : ∀ s ∈ es, s.length ≤ 1000) (b : Bool) : ∀ (r d : List (List UInt8)), es = d ++ r →
    ∃ e fr, (E tab).C f179L1 [(1, w), (2, .str wd), (9, y9), (16, x), (20, .str u), (21, .bool b), (22, .int .i64 d.length)] (pst st G K) = some (e, fr, pst st G K) ∧
      if b = true ∧ (r.find? (fun s => bareL s == u)).isSome = true then e = .ret ∧ fr = [(8, y9)] else e = .exit 2 ∧ ∃ tl, fr = (1, w) :: (2, .str wd) :: (9, y9) :: (16, x) :: tl := by
  have e0 := fun st' => txs_len hw st'
  intro r
  induction r with
  | nil =>
    intro d hd
    obtain rfl : es = d := by simpa using hd
    refine ⟨.exit 2, [(1, w), (2, .str wd), (9, y9), (16, x), (20, .str u), (21, .bool b), (22, .int .i64 es.length), (109, .bool false)], ?_, by simp⟩
    rw [C_turn (L := f179L1) rfl]
    cases b <;> simp [f179B1, e0]
  | cons s r ih =>
    intro d hd
    have h0 : d.length < es.length := by simp [hd]
    have hw1 : IntKind.i64.wrap ((d.length : Int) + 1) = (d.length : Int) + 1 := by rw [i64w (by omega)]
    have e1 := fun st' => txs_at hw h0 .i64 st'
    have e2 := hw.load1 tx_el (i := d.length) (x := .str s) (by simp [hd])
    have hbr := bare195 (s := s) (st := pst st G K) (by have := hsl s (by simp [hd]); omega)
    cases b with
    | false =>
      refine ⟨.exit 2, [(1, w), (2, .str wd), (9, y9), (16, x), (20, .str u), (21, .bool false), (22, .int .i64 d.length), (109, .bool false)], ?_, by simp⟩
      rw [C_turn (L := f179L1) rfl]
      simp [f179B1]
    | true =>
      by_cases he : bareL s = u
      · refine ⟨.ret, [(8, y9)], ?_, by simp [he]⟩
        rw [C_turn (L := f179L1) rfl]
        simp [f179B1, e0, h0, e1, e2, hbr, he]
      · have heb : (bareL s == u) = false := by rw [beq_eq_false_iff_ne]; exact he
        obtain ⟨e, fr, hJ, hR⟩ := ih (d ++ [s]) (by simp [hd])
        refine ⟨e, fr, ?_, by simpa [heb] using hR⟩
        simp at hJ
        rw [C_turn (L := f179L1) rfl]
        simp [f179B1, e0, h0, e1, e2, hbr, heb, hw1, hJ]
theorem L179_2 {G : List HO} {K : List Nat} {y9 x : DV} {wd : List UInt8} {xs : List Nat} (hx : Lw 1 (xs.map i6) x) (hxl : xs.length ≤ 140737488355328) (hw : wd.length ≤ 4611686018427387903) : ∀ (r d : List Nat) (last : Nat), xs = d ++ r → r.Pairwise (· < ·) → (∀ z ∈ r, last < z ∧ z + 3 ≤ wd.length) →
    ∃ tl, (E tab).C f179L2 [(2, .str wd), (9, y9), (16, x), (23, .int .i64 last), (24, .int .i64 d.length)] (pst st G K) = some (.exit 4, (2, .str wd) :: (9, y9) :: tl, pst st G K) := by
  have v0 : Vw (pst st G K) 1 false (xs.map i6) x := hx.vw
  have e0 := v0.len
  simp only [List.length_map] at e0
  intro r
  induction r with
  | nil =>
    intro d last hd hp hb
    obtain rfl : xs = d := by simpa using hd
    refine ⟨[(16, x), (23, .int .i64 last), (24, .int .i64 xs.length), (123, .bool false)], ?_⟩
    rw [C_turn (L := f179L2) rfl]
    simp [f179B2, e0]
  | cons z r ih =>
    intro d last hd hp hb
    have h0 : d.length < xs.length := by simp [hd]
    obtain ⟨g1, g2⟩ := hb z (by simp)
    have hw1 : IntKind.i64.wrap ((d.length : Int) + 1) = (d.length : Int) + 1 := by rw [i64w (by omega)]
    have e1 := fun st' => v0.iaddr (i := d.length) (by simpa using h0) .i64 st'
    have e2 := v0.load1 i6_el (i := d.length) (x := .int .i64 z) (by simp [hd, i6])
    have hz3 : IntKind.i64.wrap ((z : Int) + 3) = (z : Int) + 3 := i64w (by omega)
    have c1 : ¬ (z : Int) ≤ last := by omega
    have c2 : ¬ ((wd.length : Int) < (z : Int) + 3) := by omega
    have c1' : ¬ z ≤ last := by omega
    rw [List.pairwise_cons] at hp
    obtain ⟨tl, hJ⟩ := ih (d ++ [z]) z (by simp [hd]) hp.2 (fun y hy => ⟨hp.1 y hy, (hb y (by simp [hy])).2⟩)
    refine ⟨tl, ?_⟩
    simp at hJ
    rw [C_turn (L := f179L2) rfl]
    simp [f179B2, e0, h0, e1, e2, hz3, c1, c1', c2, hw1, hJ]
theorem law179 (st : St) {v w : DV} {ps es : List (List UInt8)} (hv : Txs st ps v) (hw : Txs st es w) (wd : List UInt8) (hwd : wd.length ≤ 4611686018427387903) (bits : Int) : (E tab).F 179 [v, w, .str wd, .int .u64 bits] st = some (.bool true, st) := by
  rw [F_run at179 rfl]
  have l1 := long181 (hv.inn [] [])
  have l2 := long181 (hw.inn [] [])
  have hk := hknown_run
  cases b1 : longB ps with
  | true => rw [b1] at l1; simp [f179, hk, l1]
  | false =>
  cases b2 : longB es with
  | true => rw [b1] at l1; rw [b2] at l2; simp [f179, hk, l1, l2]
  | false =>
  rw [b1] at l1; rw [b2] at l2
  obtain ⟨p1, p2⟩ := long_no b1
  obtain ⟨q1, q2⟩ := long_no b2
  have esl : ∀ s ∈ es, s.length ≤ 1000 := fun s hs => by have := q2 s hs; omega
  have e0 := fun st' => txs_len hv st'
  have hlw1 : IntKind.i64.wrap ((ps.length : Int) - 1) = (ps.length : Int) - 1 := by rw [i64w (by omega)]
  obtain ⟨K1, a1, tl1, hL0, hA0⟩ := L179_0 (w := w) (y2 := .str wd) (y3 := .int .u64 bits) (y9 := .bool true) hv p1 ps.length [] (.list 0 0 .no false []) (Nat.le_refl _) (by simpa using acc_nil st [] 1 0 0 .no)
  obtain ⟨X1, h1, n1, z1, nz1⟩ := new147 (st := st) (H := []) (K := K1) esl (hv.inn [] K1) (hw.inn [] K1)
  have hback : Txs (pst st ([] ++ X1) K1) ps.reverse a1 := (acc_lw hA0).vw
  obtain ⟨X2, h2, n2, z2, nz2⟩ := new147 (st := st) (H := [] ++ X1) (K := K1) esl hback (hw.inn _ K1)
  rw [errN_rev] at n2 z2 nz2
  by_cases he : errN ps es = 0
  · obtain ⟨rfl, ok1⟩ := z1 he
    obtain ⟨rfl, ok2⟩ := z2 he
    obtain ⟨x, X3, K3, c1, ax⟩ := points144 (K := K1) ok1.app esl wd
    obtain ⟨wd', ht, htl⟩ := turned193 (st := pst st (([] ++ X1 ++ X2) ++ X3) K3) wd bits (by omega)
    obtain ⟨y, X4, K4, c2, ay⟩ := points144 (K := K3) (G := ([] ++ X1 ++ X2) ++ X3) ok2.app esl wd'
    have how : okW wd' = okW wd := okW_low htl
    rw [how, htl, points_rev] at ay
    rw [how] at c2
    have c3 := fun st' => same187 (st := st') ax ay (pts_short esl wd)
    have hlo := lower194 (s := wd) (st := pst st ((([] ++ X1 ++ X2) ++ X3) ++ X4) K4) hwd
    have hgs : pst st (([] ++ X1 ++ X2) ++ X3) K3 = pst st (([] ++ X1 ++ X2) ++ X3) K3 := rfl
    rw [he] at n1 n2
    simp only [List.nil_append, List.length_nil, Nat.zero_add] at n1 n2 c1 c2 ht hlo
    generalize hG5 : ((X1 ++ X2) ++ X3) ++ X4 = G5 at *
    generalize hG4 : (X1 ++ X2) ++ X3 = G4 at *
    generalize hG3 : X1 ++ X2 = G3 at *
    generalize hnn : (if okW wd = true then 0 else 4 : Nat) = nn at *
    cases hok : okW wd with
    | false =>
      rw [hok] at ax
      simp only [Bool.false_eq_true, if_false] at ax
      -- nothing was told
      have hlo2 : ∃ u bb, (E tab).F 194 [.str wd] (pst st G5 K4) = some (.tuple [.str u, .bool bb], pst st G5 K4) ∧ bb = false := by
        rw [hlo]
        by_cases hS : allS wd = true
        · rw [if_pos hS]; exact ⟨_, _, rfl, by simpa [okW, hS] using hok⟩
        · rw [if_neg hS]; exact ⟨_, _, rfl, rfl⟩
      obtain ⟨u, bb, hlo2, rfl⟩ := hlo2
      obtain ⟨e, fr, hL1, hR1⟩ := L179_1 (st := st) (G := G5) (K := K4) (w := w) (y9 := .bool true) (x := x) (wd := wd) (u := u) (hw.inn _ _) q1 esl false es [] rfl
      rw [if_neg (by simp)] at hR1
      obtain ⟨rfl, tl2, rfl⟩ := hR1
      obtain ⟨tl3, hL2⟩ := L179_2 (st := st) (G := G5) (K := K4) (y9 := .bool true) (wd := wd) (xs := []) ax (by simp) hwd [] [] 1 rfl List.Pairwise.nil (by simp)
      simp at hL0 hL1 hL2 n1
      simp [f179, hk, l1, l2, e0, hlw1, hL0, n1, n2, eqD, c1, ht, c2, c3, hlo2, hL1, hL2]
    | true =>
      rw [hok] at ax
      simp only [if_true] at ax
      have hok' := hok
      simp only [okW, Bool.and_eq_true, decide_eq_true_eq] at hok'
      have hdd : (decide (1 ≤ wd.length) && decide (wd.length ≤ 64)) = true := by simp [hok'.2.1, hok'.2.2]
      rw [if_pos hok'.1, hdd] at hlo
      obtain ⟨e, fr, hL1, hR1⟩ := L179_1 (st := st) (G := G5) (K := K4) (w := w) (y9 := .bool true) (x := x) (wd := wd) (u := wd.map lowB) (hw.inn _ _) q1 esl true es [] rfl
      simp at hL0 n1
      cases hf : es.find? (fun s => bareL s == wd.map lowB) with
      | some s =>
        rw [if_pos ⟨rfl, by rw [hf]; rfl⟩] at hR1
        obtain ⟨rfl, rfl⟩ := hR1
        generalize wd.map lowB = u at *
        simp at hL1
        simp [f179, hk, l1, l2, e0, hlw1, hL0, n1, n2, eqD, c1, ht, c2, c3, hlo, hL1]
      | none =>
        rw [if_neg (by rw [hf]; simp)] at hR1
        obtain ⟨rfl, tl2, rfl⟩ := hR1
        have hpt : points ps es (wd.map lowB) = ptsN ps (wd.map lowB) := by simp only [points, hf]
        rw [hpt] at ax
        obtain ⟨r1, r2⟩ := pts_rise ps (wd.map lowB)
        have hxl : (ptsN ps (wd.map lowB)).length ≤ 140737488355328 := by
          have := pts_len ps es (wd.map lowB) esl
          rw [hpt] at this
          simp only [List.length_map] at this
          have := hok'.2.2
          omega
        obtain ⟨tl3, hL2⟩ := L179_2 (st := st) (G := G5) (K := K4) (y9 := .bool true) (wd := wd) ax hxl hwd _ [] 1 rfl r1 (fun z hz => by have := r2 z hz; rwa [List.length_map] at this)
        generalize wd.map lowB = u at *
        simp at hL1 hL2
        simp [f179, hk, l1, l2, e0, hlw1, hL0, n1, n2, eqD, c1, ht, c2, c3, hlo, hL1, hL2]
  · have hx := nz1 he
    have hy := nz2 he
    subst hx
    subst hy
    have hne : ¬ ((errN ps es : Nat) : Int) = 0 := by omega
    simp only [List.nil_append, List.length_nil, Nat.zero_add] at n1 n2
    simp at hL0
    simp [f179, hk, l1, l2, e0, hlw1, hL0, n1, n2, eqD, he, hne]
def lawSh : List (Bool × List Sh) := [(false, [.list false 16 [.str]]), (false, [.list false 16 [.str]]), (false, [.str]), (false, [.int .u64])]
theorem law_run (us : List DV) (hf : FitAll lawSh us) : ∃ st', (E tab).F 179 us st0 = some (.bool true, st') := by
  obtain ⟨_, _, rfl, ⟨v, _, rfl, hv, rfl⟩, _, _, rfl, ⟨w, _, rfl, hw, rfl⟩, _, _, rfl, ⟨_, _, rfl, ⟨x, rfl, hx⟩, rfl⟩, _, _, rfl, ⟨_, _, rfl, ⟨b, rfl, hb⟩, rfl⟩, rfl⟩ := hf
  obtain ⟨ps, hv, _⟩ := fit_txs hv st0
  obtain ⟨es, hw, _⟩ := fit_txs hw st0
  refine ⟨st0, ?_⟩
  simp only [elemOf, List.headD_cons, Bool.false_eq_true, if_false]
  exact law179 st0 hv hw x (by unfold reachBytes at hx; omega) b
end

end Go.D.Tab
