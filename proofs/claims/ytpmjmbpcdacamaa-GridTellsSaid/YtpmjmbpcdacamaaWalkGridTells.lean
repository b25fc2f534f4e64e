/-
What the law GridTells runs through, walked: it tells true of all that its arguments may stand for.
-/
import Derived.Test.YtpmjmbpcdacamaaFwDThaw
import Derived.Test.YtpmjmbpcdacamaaWalkGridTells0
set_option linter.unusedSimpArgs false
set_option linter.unusedVariables false
set_option linter.unnecessarySimpa false
namespace Go.D.Tab

theorem at453 : tab 453 = some (.code f453) := by kernel_rfl

def byOk (c : UInt8) : Bool := decide (32 ≤ c.toNat) && decide (c.toNat ≤ 126)
def celOk (s : List UInt8) : Bool := decide (s.length ≤ 200) && s.all byOk
def gridOk (c : Int) (cells : List (List UInt8)) : Bool := decide (1 ≤ c) && decide (c ≤ 8) && decide (1 ≤ cells.length) && decide (cells.length ≤ 64) && decide ((cells.length : Int) % c = 0) && cells.all celOk
/-- A table in memory: its cells lie where v says. -/
def gcs (c : Int) (v : DV) : List DV := [.int .i64 c, v]

theorem txs_scal {st : St} {l : List (List UInt8)} {v : DV} (h : Txs st l v) : v.scal = true := by cases h <;> rfl

theorem L453_0 (s : List UInt8) (hs : s.length ≤ 200) (c0 : Nat) (x y z : DV) (st : St) : ∀ (r d : List UInt8), s = d ++ r →
    ∃ fr, (E tab).C f453L0 [(35, x), (36, y), (37, z), (45, .list c0 1 .no true (s.map fun b => .int .u8 b.toNat)), (46, .int .i64 s.length), (47, .int .i64 d.length)] st =
      some (if r.all byOk then (.exit 2, [(35, x), (36, y), (37, z)] ++ fr, st) else (.ret, [(2, .int .i64 2)], st)) := by
  intro r
  induction r with
  | nil =>
    intro d hd
    rw [C_turn (L := f453L0) rfl]
    simp [f453B0, hd]
  | cons c r ih =>
    intro d hd
    have h0 : d.length < s.length := by simp [hd]
    have hg : s[d.length] = c := by simp [hd]
    have hw : IntKind.i64.wrap ((d.length : Int) + 1) = ((d ++ [c]).length : Nat) := by rw [i64w (by omega)]; simp
    obtain ⟨fr, hJ⟩ := ih (d ++ [c]) (by simp [hd])
    refine ⟨fr, ?_⟩
    rw [C_turn (L := f453L0) rfl]
    simp only [List.length_append, List.length_singleton] at hJ hw
    by_cases h1 : c.toNat < 32
    · have hb : byOk c = false := by simp [byOk]; omega
      have h1' : (c.toNat : Int) < 32 := by omega
      simp [f453B0, h0, hg, h1, h1', hb]
    · have h1' : ¬ (c.toNat : Int) < 32 := by omega
      by_cases h2 : 126 < c.toNat
      · have hb : byOk c = false := by simp [byOk]; omega
        have h2' : 126 < (c.toNat : Int) := by omega
        simp [f453B0, h0, hg, h1, h1', h2, h2', hb]
      · have hb : byOk c = true := by simp [byOk]; omega
        have h2' : ¬ 126 < (c.toNat : Int) := by omega
        simp [f453B0, h0, hg, h1, h1', h2, h2', hb, hw]
        simpa using hJ

theorem L453_1 (cells : List (List UInt8)) (hl : cells.length ≤ 64) {v : DV} {st : St} (hv : Txs st cells v) (H : List HO) (K : List Nat) : ∀ (r d : List (List UInt8)), cells = d ++ r →
    ∃ fr, (E tab).C f453L1 [(35, v), (36, .int .i64 cells.length), (37, .int .i64 d.length)] (pst st H K) =
      some (if r.all celOk then (.exit 0, fr, pst st H K) else (.ret, [(2, .int .i64 2)], pst st H K)) := by
  intro r
  induction r with
  | nil =>
    intro d hd
    rw [C_turn (L := f453L1) rfl]
    simp [f453B1, hd]
  | cons s r ih =>
    intro d hd
    have h0 : d.length < cells.length := by simp [hd]
    have hg : cells[d.length]? = some s := by simp [hd]
    have a1 := fun st' => txs_at hv h0 .i64 st'
    have a2 := txs_load hv hg H K
    have hw1 : IntKind.i64.wrap ((d.length : Int) + 1) = ((d ++ [s]).length : Nat) := by rw [i64w (by omega)]; simp
    obtain ⟨fr, hJ⟩ := ih (d ++ [s]) (by simp [hd])
    simp only [List.length_append, List.length_singleton] at hJ hw1
    by_cases h2 : 200 < s.length
    · have hb : celOk s = false := by simp [celOk]; omega
      have h2' : (200 : Int) < s.length := by omega
      refine ⟨[], ?_⟩
      rw [C_turn (L := f453L1) rfl]
      simp [f453B1, h0, a1, a2, h2, h2', hb]
    · have h2' : ¬ (200 : Int) < s.length := by omega
      obtain ⟨fr2, hI⟩ := L453_0 s (by omega) (pst st H K).cur v (.int .i64 cells.length) (.int .i64 d.length) (pst st H K) s [] rfl
      simp only [List.length_nil] at hI
      cases hb : s.all byOk with
      | false =>
        have hc : celOk s = false := by simp only [celOk, hb, Bool.and_false]
        rw [hb] at hI
        refine ⟨[], ?_⟩
        rw [C_turn (L := f453L1) rfl]
        simp at hI
        simp [f453B1, h0, a1, a2, h2, h2', hc, hI]
      | true =>
        have hc : celOk s = true := by simp only [celOk, hb, Bool.and_true, decide_eq_true_eq]; omega
        rw [hb] at hI
        refine ⟨fr, ?_⟩
        rw [C_turn (L := f453L1) rfl]
        simp at hI
        simp [f453B1, h0, a1, a2, h2, h2', hc, hI, hw1]
        simpa using hJ

theorem check453 (c : Int) (cells : List (List UInt8)) (hl : cells.length ≤ 140737488355328) {v : DV} {st : St} (hv : Txs st cells v) : (E tab).F 453 [.agg (gcs c v)] st = some (.int .i64 (if gridOk c cells then 0 else 2), st) := by
  rw [F_run at453 rfl]
  have hn := fun st' => txs_len hv st'
  have hsc := txs_scal hv
  by_cases h1 : c < 1
  · have : gridOk c cells = false := by simp [gridOk]; omega
    simp [f453, gcs, hsc, hn, h1, this]
  by_cases h2 : 8 < c
  · have : gridOk c cells = false := by simp [gridOk]; omega
    simp [f453, gcs, hsc, hn, h1, h2, this]
  by_cases h3 : cells = []
  · subst h3
    have : gridOk c [] = false := by simp [gridOk]
    simp at hn
    simp [f453, gcs, hsc, hn, h1, h2, this]
  have hp : 0 < cells.length := List.length_pos_iff.2 h3
  have h3' : ¬ (cells.length : Int) < 1 := by omega
  by_cases h4 : 64 < cells.length
  · have : gridOk c cells = false := by simp [gridOk]; omega
    have h4' : (64 : Int) < cells.length := by omega
    simp [f453, gcs, hsc, hn, h1, h2, h3, h3', h4, h4', this]
  have h4' : ¬ (64 : Int) < cells.length := by omega
  have hc0 : ¬ c = 0 := by omega
  have hm : (cells.length : Int).tmod c = (cells.length : Int) % c := IntWalk.rem_in _ _ (by omega)
  by_cases h5 : (cells.length : Int) % c = 0
  · obtain ⟨fr, hL⟩ := L453_1 cells (by omega) hv [.cells .plain (gcs c v)] [] cells [] rfl
    have hg : gridOk c cells = cells.all celOk := by simp [gridOk, h5]; omega
    simp only [List.length_nil, gcs] at hL
    rw [hg]
    cases ha : cells.all celOk with
    | true =>
      rw [ha] at hL
      simp at hL
      simp [f453, gcs, hsc, hn, h1, h2, h3, h3', h4, h4', hc0, hm, h5, hL]
    | false =>
      rw [ha] at hL
      simp at hL
      simp [f453, gcs, hsc, hn, h1, h2, h3, h3', h4, h4', hc0, hm, h5, hL]
  · have hg : gridOk c cells = false := by simp [gridOk, h5]
    simp [f453, gcs, hsc, hn, h1, h2, h3, h3', h4, h4', hc0, hm, h5, hg]

theorem at455 : tab 455 = some (.code f455) := by kernel_rfl
def iD (n : Int) : DV := .int .i64 n
def sumI : List Int → Int
  | [] => 0
  | x :: r => x + sumI r
theorem sumI_app : ∀ (a b : List Int), sumI (a ++ b) = sumI a + sumI b
  | [], b => by simp [sumI]
  | x :: a, b => by simp only [List.cons_append, sumI, sumI_app a b]; omega
/-- Numbers of no great size. -/
def Sm (l : List Int) : Prop := l.length ≤ 64 ∧ ∀ x ∈ l, 0 ≤ x ∧ x ≤ 100000000
theorem Sm.sum {l : List Int} (h : ∀ x ∈ l, 0 ≤ x ∧ x ≤ 100000000) : 0 ≤ sumI l ∧ sumI l ≤ 100000000 * l.length := by
  induction l with
  | nil => simp [sumI]
  | cons x r ih =>
    have h1 := h x (List.mem_cons_self ..)
    have h2 := ih fun y hy => h y (List.mem_cons_of_mem _ hy)
    simp only [sumI, List.length_cons]
    omega

abbrev Ints (st : St) (l : List Int) (v : DV) : Prop := Vw st 1 false (l.map iD) v
theorem el_iD (l : List Int) : ∀ y ∈ l.map iD, IsEl 1 false y := fun y hy => by obtain ⟨x, _, rfl⟩ := List.mem_map.1 hy; exact ⟨rfl, rfl, rfl⟩
section
variable {st : St} {l : List Int} {v : DV}
theorem ints_len (h : Ints st l v) (st' : St) : lenV st' .slice v = some (.int .i64 l.length, st') := by simpa using Vw.len h st'
theorem ints_at (h : Ints st l v) {i : Nat} (hi : i < l.length) (k : IntKind) (st' : St) : iaddrV st' 1 v (.int k i) = some (elP 1 v i, st') := Vw.iaddr h (by simpa using hi) k st'
theorem ints_load (h : Ints st l v) {i : Nat} {x : Int} (hx : l[i]? = some x) (H : List HO) (K : List Nat) : loadD (pst st H K) 1 false (elP 1 v i) = some (.int .i64 x) := Vw.load1 (Vw.inn h H K) (el_iD l) (by simp [hx, iD])
theorem ints_row {H : List HO} {K : List Nat} {k : Nat} (hr : rowAt H k = some (.plain, l.map iD)) {c : Nat} (hc : c = l.length) : Ints (pst st H K) l (.hsl 1 false (st.heap.length + k) 0 c (some c)) := by
  have hcell : (pst st H K).cells (st.heap.length + k) = some (.plain, l.map iD) := by rw [pst_cells, hr]
  have h := Vw.hsl (st := pst st H K) (n := 1) (ag := false) (xs := l.map iD) (st.heap.length + k) 0 c .plain _ hcell (by simp) (by
    simp only [List.drop_zero, flat_scal _ (el_iD l), Nat.mul_one]
    exact List.take_of_length_le (Nat.le_refl _)) (by simp [hc])
  rw [List.length_map, ← hc] at h
  exact h
theorem L455_0 (hl : Sm l) (hv : Ints st l v) (H : List HO) (K : List Nat) : ∀ (r d : List Int), l = d ++ r →
    ∃ fr, (E tab).C f455L0 [(3, .int .i64 (sumI d)), (6, v), (7, .int .i64 l.length), (8, .int .i64 d.length)] (pst st H K) =
      some (.exit 0, (3, .int .i64 (sumI l)) :: fr, pst st H K) := by
  intro r
  induction r with
  | nil =>
    intro d hd
    rw [C_turn (L := f455L0) rfl]
    simp [f455B0, hd]
  | cons x r ih =>
    intro d hd
    have h0 : d.length < l.length := by simp [hd]
    have hg : l[d.length]? = some x := by simp [hd]
    have a1 := fun st' => ints_at hv h0 .i64 st'
    have a2 := ints_load hv hg H K
    have hl0 := hl.1
    have hw1 : IntKind.i64.wrap ((d.length : Int) + 1) = ((d ++ [x]).length : Nat) := by rw [i64w (by omega)]; simp
    have hs := Sm.sum (l := d ++ [x]) fun y hy => hl.2 y (by rw [hd]; simp at hy ⊢; rcases hy with h | h; exact .inl h; exact .inr (.inl h))
    have he : sumI (d ++ [x]) = sumI d + x := by rw [sumI_app]; simp [sumI]
    have hd64 : (d ++ [x]).length ≤ 64 := by have := congrArg List.length hd; simp at this ⊢; omega
    have hw2 : IntKind.i64.wrap (sumI d + x) = sumI (d ++ [x]) := by rw [he, i64w (by omega)]
    obtain ⟨fr, hJ⟩ := ih (d ++ [x]) (by simp [hd])
    refine ⟨fr, ?_⟩
    simp only [List.length_append, List.length_singleton] at hJ hw1
    simp at hJ
    rw [C_turn (L := f455L0) rfl]
    simp [f455B0, h0, a1, a2, hw1, hw2, hJ]

theorem sum455 (hl : Sm l) (hv : Ints st l v) : (E tab).F 455 [v] st = some (.int .i64 (sumI l), st) := by
  rw [F_run at455 rfl]
  have hn := fun st' => ints_len hv st'
  obtain ⟨fr, hL⟩ := L455_0 hl hv [] [] l [] rfl
  simp [sumI] at hL
  simp [f455, hn, hL]
end

theorem at476 : tab 476 = some (.code f476) := by kernel_rfl
theorem at469 : tab 469 = some (.code f469) := by kernel_rfl
theorem at454 : tab 454 = some (.code f454) := by kernel_rfl

/-- Each n-th of a row, from the first on: how many are left, which comes next. -/
def every (l : List (List UInt8)) (n : Nat) : Nat → Nat → List (List UInt8)
  | 0, _ => []
  | f + 1, i => if h : i < l.length then l[i] :: every l n f (i + n) else []
theorem every_mem (l : List (List UInt8)) (n : Nat) : ∀ f i, ∀ x ∈ every l n f i, x ∈ l
  | 0, i, x, h => by cases h
  | f + 1, i, x, h => by
    unfold every at h
    split at h
    · rcases List.mem_cons.1 h with rfl | h
      · exact List.getElem_mem _
      · exact every_mem l n f _ x h
    · cases h
theorem every_len (l : List (List UInt8)) (n : Nat) : ∀ f i, (every l n f i).length ≤ f
  | 0, i => by simp [every]
  | f + 1, i => by
    unfold every
    split
    · simp; exact every_len l n f _
    · simp
theorem el_str (s : List UInt8) : IsEl 1 false (.str s) := ⟨rfl, rfl, rfl⟩

section
variable {st : St} {H : List HO} {k : Nat}
theorem L476_0 (cells : List (List UInt8)) (hl : cells.length ≤ 64) (n : Nat) (hn : 1 ≤ n ∧ n ≤ 8) {v0 : DV} (hv0 : Txs st cells v0) (hk : rowAt H k = some (.plain, gcs n v0)) (y c7 c8 c3 : DV) : ∀ (f i : Nat) (acc : List (List UInt8)) (v : DV) (K : List Nat), cells.length ≤ i + f → i ≤ 100 → acc.length + f ≤ 200 → Acc st K 1 (acc.map .str) v →
    ∃ v' K' j, Acc st K' 1 ((acc ++ every cells n f i).map .str) v' ∧ (E tab).C f476L0 [(0, y), (1, .ptr (st.heap.length + k) 0), (3, c3), (4, v), (5, .int .i64 i), (7, c7), (8, c8)] (pst st H K) =
      some (.exit 2, [(0, y), (1, .ptr (st.heap.length + k) 0), (3, c3), (4, v'), (5, j), (7, c7), (8, c8), (16, .bool false)], pst st H K') := by
  intro f
  induction f with
  | zero =>
    intro i acc v K h1 h2 h3 hv
    have h0 : ¬ (i : Int) < cells.length := by omega
    have h0' : ¬ i < cells.length := by omega
    refine ⟨v, K, .int .i64 i, by simpa [every] using hv, ?_⟩
    have hn := fun st' => txs_len hv0 st'
    rw [C_turn (L := f476L0) rfl]
    simp [f476B0, hk, gcs, hn, h0, h0']
  | succ f ih =>
    intro i acc v K h1 h2 h3 hv
    by_cases h0 : i < cells.length
    · have hn := fun st' => txs_len hv0 st'
      have a1 := fun st' => txs_at hv0 h0 .i64 st'
      have a2 := txs_load hv0 (List.getElem?_eq_getElem h0) H K
      obtain ⟨v', K', hA, hv'⟩ := acc_app (H := H) (by_ := 16) (ag := false) (tk := .tight) (t := st.cur) (ys := [.str cells[i]]) hv (by omega) (by simp) (fun y hy => by rw [List.mem_singleton] at hy; subst hy; exact el_str _) (by simp [roomD]; omega) (by simp [roomD]; omega)
      obtain ⟨v2, K2, fr, hv2, hJ⟩ := ih (i + n) (acc ++ [cells[i]]) v' K' (by omega) (by omega) (by simp; omega) (by simpa using hv')
      refine ⟨v2, K2, fr, by rw [every, dif_pos h0]; simpa using hv2, ?_⟩
      have w1 : IntKind.i64.wrap ((i : Int) + n) = (i + n : Nat) := by rw [i64w (by omega)]; simp
      simp at hJ
      rw [C_turn (L := f476L0) rfl]
      simp [f476B0, hk, gcs, hn, a1, a2, h0, op_lit, repl, chunk, hA, w1, hJ]
    · have h0' : ¬ (i : Int) < cells.length := by omega
      refine ⟨v, K, .int .i64 i, by simpa [every, h0] using hv, ?_⟩
      have hn := fun st' => txs_len hv0 st'
      rw [C_turn (L := f476L0) rfl]
      simp [f476B0, hk, gcs, hn, h0, h0']

def colOf (cells : List (List UInt8)) (n c : Nat) : List (List UInt8) := every cells n 64 c

theorem L476_1 (cells : List (List UInt8)) (hl : cells.length ≤ 64) (n : Nat) (hn : 1 ≤ n ∧ n ≤ 8) {v0 : DV} (hv0 : Txs st cells v0) (y : DV) (P : Nat → List HO → Prop) (hrow : ∀ c H, P c H → rowAt H k = some (.plain, gcs n v0))
    (step : ∀ c, c < n → ∀ H K v, P c H → Acc st K 1 ((colOf cells n c).map .str) v → ∃ H' K', (E tab).V y [.int .i64 c, v] (pst st H K) = some (.bool true, pst st H' K') ∧ P (c + 1) H') :
    ∀ (m c : Nat) (H : List HO) (K : List Nat), c + m = n → P c H → ∃ H' K' fr, P n H' ∧ (E tab).C f476L1 [(0, y), (1, .ptr (st.heap.length + k) 0), (7, .int .i64 n), (8, .int .i64 c)] (pst st H K) = some (.exit 0, fr, pst st H' K') := by
  intro m
  induction m with
  | zero =>
    intro c H K hc hP
    have e : c = n := by omega
    subst e
    refine ⟨H, K, [(0, y), (1, .ptr (st.heap.length + k) 0), (7, .int .i64 c), (8, .int .i64 c), (9, .bool false)], hP, ?_⟩
    rw [C_turn (L := f476L1) rfl]
    simp [f476B1]
  | succ m ih =>
    intro c H K hc hP
    have hlt : c < n := by omega
    obtain ⟨v, K1, fr1, hv, hL⟩ := L476_0 (st := st) cells hl n hn hv0 (hrow c H hP) y (.int .i64 n) (.int .i64 c) (.int .i64 c) 64 c [] (.list 0 0 .no false []) K (by omega) (by omega) (by simp) (acc_nil st K 1 0 0 .no)
    obtain ⟨H2, K2, hV, hP2⟩ := step c hlt H K1 v hP (by simpa [colOf] using hv)
    obtain ⟨H3, K3, fr, hP3, hJ⟩ := ih (c + 1) H2 K2 (by omega) hP2
    refine ⟨H3, K3, fr, hP3, ?_⟩
    have w1 : IntKind.i64.wrap ((c : Int) + 1) = (c + 1 : Nat) := by rw [i64w (by omega)]; simp
    simp at hJ hL
    rw [C_turn (L := f476L1) rfl]
    simp [f476B1, hlt, hL, hV, w1, hJ]

theorem cols476 (cells : List (List UInt8)) (hl : cells.length ≤ 64) (n : Nat) (hn : 1 ≤ n ∧ n ≤ 8) {v0 : DV} (hv0 : Txs st cells v0) (y : DV) (P : Nat → List HO → Prop) (hrow : ∀ c H, P c H → rowAt H k = some (.plain, gcs n v0))
    (step : ∀ c, c < n → ∀ H K v, P c H → Acc st K 1 ((colOf cells n c).map .str) v → ∃ H' K', (E tab).V y [.int .i64 c, v] (pst st H K) = some (.bool true, pst st H' K') ∧ P (c + 1) H') (H : List HO) (K : List Nat) (hP : P 0 H) :
    ∃ H' K', P n H' ∧ (E tab).F 476 [y, .ptr (st.heap.length + k) 0] (pst st H K) = some (.tuple [], pst st H' K') := by
  obtain ⟨H', K', fr, hP', hJ⟩ := L476_1 cells hl n hn hv0 y P hrow step n 0 H K (by omega) hP
  refine ⟨H', K', hP', ?_⟩
  rw [F_go at476 rfl]
  simp at hJ
  simp [f476, hrow 0 H hP, gcs, hJ]
end

def bothOps (N n : Nat) : List ROper := [
  ⟨some 12, .faddr 0 (.t 1), none⟩,
  ⟨some 13, .load 1 false (.t 12), none⟩,
  ⟨some 14, .got (.hsl 1 false (N + 2) 0 n (some n)) [(.t 13, .int .i64 n), (.t 13, .int .i64 n)], none⟩,
  ⟨some 15, .faddr 0 (.t 1), none⟩,
  ⟨some 16, .load 1 false (.t 15), none⟩,
  ⟨some 17, .got (.hsl 1 false (N + 3) 0 n (some n)) [(.t 16, .int .i64 n), (.t 16, .int .i64 n)], none⟩,
  ⟨some 4, .got (.ptr (N + 4) 0) [], none⟩,
  ⟨some 5, .got (.ptr (N + 5) 0) [], none⟩,
  ⟨none, .store 1 (.t 4) (.t 14), none⟩,
  ⟨none, .store 1 (.t 5) (.t 17), none⟩]
theorem both_head (n : Nat) (hn : 1 ≤ n ∧ n ≤ 8) (v : DV) (x0 : HO) (st : St) :
    (E tab).C (.dregion f454r1 [2, 5, 6, 7] [(4, [1])] [1, 4, 5]) [(1, .ptr (st.heap.length + 1) 0)] (pst st [x0, .cells .plain (gcs n v)] []) =
      some (.normal, [(1, .ptr (st.heap.length + 1) 0), (4, .ptr (st.heap.length + 4) 0), (5, .ptr (st.heap.length + 5) 0)],
        pst st [x0, .cells .plain (gcs n v), .cells .plain (repl [.int .i64 0] n), .cells .plain (repl [.int .i64 0] n), .cells .plain [.hsl 1 false (st.heap.length + 2) 0 n (some n)], .cells .plain [.hsl 1 false (st.heap.length + 3) 0 n (some n)]] []) := by
  have hr : ∀ X, rowAt ([x0, .cells .plain (gcs n v)] ++ X) 1 = some (.plain, gcs n v) := fun X => rfl
  have hb1 : (n : Int) * 8 ≤ 140737488355328 := by omega
  have hb2 : (n : Int) ≤ 140737488355328 := by omega
  have hb3 : n * 8 ≤ 140737488355328 := by omega
  have hb4 : n ≤ 140737488355328 := by omega
  have hp : prepH [(1, .ptr (st.heap.length + 1) 0)] [2, 5, 6, 7] (pst st [x0, .cells .plain (gcs n v)] []) f454r1 = some (pst st [x0, .cells .plain (gcs n v), .cells .plain (repl [.int .i64 0] n), .cells .plain (repl [.int .i64 0] n), .cells .plain [.list 0 0 .no false []], .cells .plain [.list 0 0 .no false []]] [], bothOps st.heap.length n) := by
    simp [prepH, f454r1, qrun, isLoud, loudD, prep, freeD, gcs, roomD, hb1, hb2, hb3, hb4, gotX, bothOps]
  rw [C_dregionP hp]
  simp [S_cons, A_cons, K_cons, loudD, gcs, bothOps]

def leO (s : List UInt8) : Int := lst (cellM s) (cellM s) 0 0 0
def moO (s : List UInt8) : Int := runGo true 0 (cellM s)
def maxL (f : List UInt8 → Int) : List (List UInt8) → Int → Int
  | [], a => a
  | s :: r, a => maxL f r (max a (f s))

theorem eD : iD = fun n => DV.int .i64 n := rfl
structure BoS (N n : Nat) (x0 : HO) (v : DV) (as bs : List Int) (lo : HO) (G : List HO) : Prop where
  r0 : G[0]? = some x0
  r1 : rowAt G 2 = some (.plain, as.map iD)
  r2 : rowAt G 3 = some (.plain, bs.map iD)
  r3 : rowAt G 4 = some (.plain, [.hsl 1 false (N + 2) 0 n (some n)])
  r4 : rowAt G 5 = some (.plain, [.hsl 1 false (N + 3) 0 n (some n)])
  r5 : rowAt G 6 = some (.plain, gcs n v)
  r6 : G[7]? = some lo
  r7 : G.length = 8
  la : as.length = n
  lb : bs.length = n

section
variable {N n : Nat} {x0 : HO} {v : DV} {as bs : List Int} {lo : HO} {G : List HO}
theorem rowAt_ne' {j i : Nat} {o : HO} (h : j ≠ i) : rowAt (G.set i o) j = rowAt G j := by
  unfold rowAt; rw [List.getElem?_set_ne (fun e => h e.symm)]
theorem BoS.set1 (h : BoS N n x0 v as bs lo G) (as' : List Int) (hl : as'.length = n) : BoS N n x0 v as' bs lo (G.set 2 (.cells .plain (as'.map iD))) :=
  ⟨by rw [List.getElem?_set_ne (by omega)]; exact h.r0, rowAt_set (rowAt_lt h.r1) _ _, by rw [rowAt_ne' (by omega)]; exact h.r2, by rw [rowAt_ne' (by omega)]; exact h.r3, by rw [rowAt_ne' (by omega)]; exact h.r4, by rw [rowAt_ne' (by omega)]; exact h.r5, by rw [List.getElem?_set_ne (by omega)]; exact h.r6, by rw [List.length_set]; exact h.r7, hl, h.lb⟩
theorem BoS.set2 (h : BoS N n x0 v as bs lo G) (bs' : List Int) (hl : bs'.length = n) : BoS N n x0 v as bs' lo (G.set 3 (.cells .plain (bs'.map iD))) :=
  ⟨by rw [List.getElem?_set_ne (by omega)]; exact h.r0, by rw [rowAt_ne' (by omega)]; exact h.r1, rowAt_set (rowAt_lt h.r2) _ _, by rw [rowAt_ne' (by omega)]; exact h.r3, by rw [rowAt_ne' (by omega)]; exact h.r4, by rw [rowAt_ne' (by omega)]; exact h.r5, by rw [List.getElem?_set_ne (by omega)]; exact h.r6, by rw [List.length_set]; exact h.r7, h.la, hl⟩
theorem BoS.put (h : BoS N n x0 v as bs lo G) (lo' : HO) : BoS N n x0 v as bs lo' (G.set 7 lo') :=
  ⟨by rw [List.getElem?_set_ne (by omega)]; exact h.r0, by rw [rowAt_ne' (by omega)]; exact h.r1, by rw [rowAt_ne' (by omega)]; exact h.r2, by rw [rowAt_ne' (by omega)]; exact h.r3, by rw [rowAt_ne' (by omega)]; exact h.r4, by rw [rowAt_ne' (by omega)]; exact h.r5, by rw [List.getElem?_set_self (List.getElem?_eq_some_iff.1 h.r6).1], by rw [List.length_set]; exact h.r7, h.la, h.lb⟩
end

section
variable {st : St} {n : Nat} {x0 : HO} {v : DV} {lo : HO}
theorem L454_0 (hn : n ≤ 8) (c : Nat) (hc : c < n) (l : List (List UInt8)) (hl : l.length ≤ 64) (t n1 : Nat) (tk : Tk) (nn : Bool) (h1 : l ≠ [] → n1 = 1) (K : List Nat) : ∀ (r d : List (List UInt8)) (as bs : List Int) (G : List HO), l = d ++ r → BoS st.heap.length n x0 v as bs lo G →
    ∃ G' fr, BoS st.heap.length n x0 v (as.set c (maxL leO r (as.getD c 0))) (bs.set c (maxL moO r (bs.getD c 0))) lo G' ∧ (E tab).C f454L0 [(4, .ptr (st.heap.length + 4) 0), (5, .ptr (st.heap.length + 5) 0), (6, .int .i64 c), (22, .list t n1 tk nn (l.map .str)), (23, .int .i64 l.length), (24, .int .i64 d.length)] (pst st G K) =
      some (.exit 2, [(4, .ptr (st.heap.length + 4) 0), (5, .ptr (st.heap.length + 5) 0), (6, .int .i64 c)] ++ fr, pst st G' K) := by
  intro r
  induction r with
  | nil =>
    intro d as bs G hd hG
    refine ⟨G, [(22, .list t n1 tk nn (l.map .str)), (23, .int .i64 l.length), (24, .int .i64 d.length), (25, .bool false)], ?_, ?_⟩
    · have e1 : as.set c (maxL leO [] (as.getD c 0)) = as := by
        have : c < as.length := by rw [hG.la]; exact hc
        simp [maxL, List.getD, this]
      have e2 : bs.set c (maxL moO [] (bs.getD c 0)) = bs := by
        have : c < bs.length := by rw [hG.lb]; exact hc
        simp [maxL, List.getD, this]
      rw [e1, e2]; exact hG
    · rw [C_turn (L := f454L0) rfl]
      simp [f454B0, hd]
  | cons s r ih =>
    intro d as bs G hd hG
    have hn1 := h1 (by simp [hd])
    have hca : c < as.length := by rw [hG.la]; exact hc
    have hcb : c < bs.length := by rw [hG.lb]; exact hc
    have h0 : d.length < l.length := by simp [hd]
    have hg : l[d.length] = s := by simp [hd]
    have hw1 : IntKind.i64.wrap ((d.length : Int) + 1) = ((d ++ [s]).length : Nat) := by rw [i64w (by omega)]; simp
    have hW := widths470 s
    have hm1 := gmax .i64 as[c] (leO s)
    have hm2 := gmax .i64 bs[c] (moO s)
    have hG2 := (hG.set1 (as.set c (max as[c] (leO s))) (by simpa using hG.la)).set2 (bs.set c (max bs[c] (moO s))) (by simpa using hG.lb)
    obtain ⟨G', fr, hG', hJ⟩ := ih (d ++ [s]) _ _ _ (by simp [hd]) hG2
    refine ⟨G', fr, ?_, ?_⟩
    · simpa [maxL, List.getD, hca, hcb] using hG'
    · simp only [List.length_append, List.length_singleton] at hJ hw1
      simp only [leO, moO] at hm1 hm2 hJ
      rw [hn1] at hJ ⊢
      have hr1 := hG.r1
      have hr2 := hG.r2
      have hr3 := hG.r3
      have hr4 := hG.r4
      have k1 := rowAt_lt hr1
      have k2 := rowAt_lt hr2
      have ea : as[c]? = some as[c] := List.getElem?_eq_getElem hca
      have eb : bs[c]? = some bs[c] := List.getElem?_eq_getElem hcb
      have hla := hG.la
      have hlb := hG.lb
      have hS := hG.set1 (as.set c (max as[c] (lst (cellM s) (cellM s) 0 0 0))) (by simpa using hG.la)
      have s2 := hS.r2
      have s4 := hS.r4
      have k2' := rowAt_lt s2
      have sa := splice_one (vs := as.map iD) (i := c) (x := iD (max as[c] (lst (cellM s) (cellM s) 0 0 0))) (by simpa using hca)
      have sb := splice_one (vs := bs.map iD) (i := c) (x := iD (max bs[c] (runGo true 0 (cellM s)))) (by simpa using hcb)
      rw [C_turn (L := f454L0) rfl]
      simp only [List.map_set, eD, splice] at hr1 hr2 s2 s4 hJ sa sb
      simp only [List.append_assoc, List.cons_append, List.nil_append, List.length_singleton] at sa sb
      simp [f454B0, h0, hg, hW, C_dregionN, S_cons, A_cons, K_cons, loudD, hr1, hr2, hr3, hr4, hc, hm1, hm2, ea, eb, hla, hlb, eD, sa, sb, s2, s4, show c + 1 ≤ n by omega, hw1]
      simpa using hJ
end

/-! Widths of masses that are not kerned -/
def sW : List Mass → Int
  | [] => 0
  | m :: r => m.w + sW r
theorem sW_app : ∀ (a b : List Mass), sW (a ++ b) = sW a + sW b
  | [], b => by simp [sW]
  | x :: a, b => by simp only [List.cons_append, sW, sW_app a b]; omega
theorem runGo_sW : ∀ (l : List Mass) (o : Bool) (n : Int), (∀ m ∈ l, m.e = 0) → runGo o n l = n + sW l
  | [], o, n, _ => by simp [runGo, sW]
  | m :: r, o, n, h => by
    have h1 := h m (List.mem_cons_self ..)
    rw [runGo, runGo_sW r _ _ fun x hx => h x (List.mem_cons_of_mem _ hx), sW, h1]
    split <;> omega
theorem sW_le : ∀ (l : List Mass), l.all okM = true → 0 ≤ sW l ∧ sW l ≤ 4095 * l.length
  | [], _ => by simp [sW]
  | m :: r, h => by
    simp only [List.all_cons, Bool.and_eq_true] at h
    have h1 := sW_le r h.2
    have h2 := h.1
    simp [okM] at h2
    simp only [sW, List.length_cons]
    omega
theorem sW_part (l : List Mass) (h : l.all okM = true) (i k : Nat) : 0 ≤ sW ((l.drop i).take k) ∧ sW ((l.drop i).take k) ≤ sW l := by
  have e : l = l.take i ++ ((l.drop i).take k ++ (l.drop i).drop k) := by rw [List.take_append_drop, List.take_append_drop]
  have hs := congrArg sW e
  rw [sW_app, sW_app] at hs
  have hall := List.all_eq_true.1 h
  have sub : ∀ l' : List Mass, (∀ m ∈ l', m ∈ l) → 0 ≤ sW l' := fun l' hm => (sW_le l' (List.all_eq_true.2 fun m h => hall m (hm m h))).1
  have h1 := sub (l.take i) fun m hm => List.mem_of_mem_take hm
  have h2 := sub ((l.drop i).take k) fun m hm => List.mem_of_mem_drop (List.mem_of_mem_take hm)
  have h3 := sub ((l.drop i).drop k) fun m hm => List.mem_of_mem_drop (List.mem_of_mem_drop hm)
  omega

/-! How wide cells are -/
theorem cell_e (s : List UInt8) : ∀ m ∈ cellM s, m.e = 0 := by
  have hl : ∀ i, (lookAt (cellP s).spans i).e = 0 := by
    intro i
    unfold lookAt cellP
    by_cases h : s = []
    · simp [h, findLook, look0]
    · simp only [h, if_false, findLook]
      split <;> rfl
  have go : ∀ (l : List Clu) (kr : Bool) (bf : UInt8) (ps : Int) (mk : List (List UInt8)), ∀ m ∈ massGo (cellP s) kr bf ps mk l, m.e = 0 := by
    intro l
    induction l with
    | nil => intro kr bf ps mk m h; cases h
    | cons c r ih =>
      intro kr bf ps mk m h
      rcases List.mem_cons.1 h with rfl | h
      · simp [massOf, massE, hl]
      · exact ih _ _ _ _ m h
  unfold cellM massL
  split
  · exact go _ _ _ _ _
  · intro m h; cases h
theorem lst_le (L : List Mass) (h : L.all okM = true) (he : ∀ m ∈ L, m.e = 0) : ∀ (r : List Mass) (k fr : Nat) (a : Int), a ≤ lst L r k fr a ∧ lst L r k fr a ≤ max a (sW L) := by
  have hp : ∀ i n, runGo true 0 ((L.drop i).take n) = sW ((L.drop i).take n) := fun i n => by
    rw [runGo_sW _ _ _ fun m hm => he m (List.mem_of_mem_drop (List.mem_of_mem_take hm))]; omega
  intro r
  induction r with
  | nil =>
    intro k fr a
    have := sW_part L h fr (k - fr)
    unfold lst
    rw [hp]
    omega
  | cons m r ih =>
    intro k fr a
    unfold lst
    split
    · have h1 := ih (k + 1) (k + 1) (max a (runGo true 0 ((L.drop fr).take (k - fr))))
      have := sW_part L h fr (k - fr)
      rw [hp] at h1 ⊢
      omega
    · exact ih (k + 1) fr a
theorem cell_le (s : List UInt8) : 0 ≤ leO s ∧ leO s ≤ moO s ∧ moO s ≤ 16773120 := by
  have hok : (cellM s).all okM = true := massL_ok (cellP s)
  have hl : (cellM s).length ≤ 4096 := massL_len (cellP s)
  have h1 := lst_le (cellM s) hok (cell_e s) (cellM s) 0 0 0
  have h2 := sW_le (cellM s) hok
  have h3 := runGo_sW (cellM s) true 0 (cell_e s)
  unfold leO moO
  omega
theorem maxL_le (f g : List UInt8 → Int) (B : Int) (hf : ∀ s, 0 ≤ f s ∧ f s ≤ g s ∧ g s ≤ B) : ∀ (l : List (List UInt8)) (a b : Int), 0 ≤ a → a ≤ b → b ≤ B → 0 ≤ maxL f l a ∧ maxL f l a ≤ maxL g l b ∧ maxL g l b ≤ B
  | [], a, b, h1, h2, h3 => ⟨h1, h2, h3⟩
  | s :: r, a, b, h1, h2, h3 => by
    have := hf s
    exact maxL_le f g B hf r _ _ (by omega) (by omega) (by omega)
/-- A column's least and greatest width. -/
def leC (cells : List (List UInt8)) (n c : Nat) : Int := maxL leO (colOf cells n c) 0 + 4
def moC (cells : List (List UInt8)) (n c : Nat) : Int := maxL moO (colOf cells n c) 0 + 4
theorem col_le (cells : List (List UInt8)) (n c : Nat) : 4 ≤ leC cells n c ∧ leC cells n c ≤ moC cells n c ∧ moC cells n c ≤ 16773124 := by
  have := maxL_le leO moO 16773120 cell_le (colOf cells n c) 0 0 (by omega) (by omega) (by omega)
  unfold leC moC
  omega

/-- The first c of n numbers, then zeroes. -/
def pre (f : Nat → Int) (n c : Nat) : List Int := (List.range n).map fun i => if i < c then f i else 0
@[simp] theorem pre_len (f : Nat → Int) (n c : Nat) : (pre f n c).length = n := by simp [pre]
theorem pre_get (f : Nat → Int) (n c i : Nat) (h : i < n) : (pre f n c)[i]? = some (if i < c then f i else 0) := by simp [pre, h]
theorem pre_set (f : Nat → Int) (n c : Nat) (h : c < n) : (pre f n c).set c (f c) = pre f n (c + 1) := by
  apply List.ext_getElem?
  intro i
  by_cases hi : i < n
  · by_cases hc : i = c
    · subst hc
      rw [List.getElem?_set_self (by simpa using h), pre_get f n (i + 1) i h, if_pos (by omega)]
    · rw [List.getElem?_set_ne (fun e => hc e.symm), pre_get f n c i hi, pre_get f n (c + 1) i hi]
      by_cases h1 : i < c
      · rw [if_pos h1, if_pos (by omega)]
      · rw [if_neg h1, if_neg (by omega)]
  · have e1 : ((pre f n c).set c (f c))[i]? = none := List.getElem?_eq_none (by simp; omega)
    have e2 : (pre f n (c + 1))[i]? = none := List.getElem?_eq_none (by simp; omega)
    rw [e1, e2]
theorem pre_zero (f : Nat → Int) (n : Nat) : pre f n 0 = List.replicate n 0 := by
  simp [pre, List.map_const']
theorem pre_all (f : Nat → Int) (n : Nat) : pre f n n = (List.range n).map f := by
  apply List.map_congr_left
  intro i hi
  rw [if_pos (List.mem_range.1 hi)]

def f454A : RC := (.seq (.region f454r3 [4, 5, 6, 21]) (.region f454r4 [4, 5, 6, 7]))
def f454K : RC := (.block 1 (.seq (.seq (.region f454r5 [4, 5, 6, 22, 23, 24]) (.block 2 f454L0)) (.seq (.region f454r11 [5, 6]) (.region f454r12 []))))
theorem f454_body : f454.body = (.seq (.region f454r0 [1]) (.seq (.dregion f454r1 [2, 5, 6, 7] [(4, [1])] [1, 4, 5]) (.seq (.seq (.region f454r2 [4, 5, 19]) (.block 0 (.rfunc (.t 19) [20, 21] f454A f454K [4, 5, 19]))) (.seq (.dregion f454r13 [] [] [2, 3]) .ret)))) := rfl
def boFr (N : Nat) : Fr := [(4, .ptr (N + 4) 0), (5, .ptr (N + 5) 0), (19, .fn 476 [] [.ptr (N + 6) 0])]
abbrev boLo (N : Nat) (s : Nat) (q : Option Ex) : HO := .loop (mkLo (boFr N) [20, 21] f454A f454K s q)

section
variable {st : St} {n : Nat} {x0 : HO} {v : DV} {cells : List (List UInt8)}
theorem bo_pad (c : Nat) (hc : c < n) (K : List Nat) (as bs : List Int) (lo : HO) (G : List HO) (hG : BoS st.heap.length n x0 v as bs lo G) (x y : Int) (hx : as[c]? = some x) (hy : bs[c]? = some y) (fr1 : Fr) :
    (E tab).C (.seq (.region f454r11 [5, 6]) (.region f454r12 [])) ((4, .ptr (st.heap.length + 4) 0) :: (5, .ptr (st.heap.length + 5) 0) :: (6, .int .i64 c) :: fr1) (pst st G K) =
      some (.normal, [], pst st ((G.set 2 (.cells .plain ((as.set c (IntKind.i64.wrap (x + 4))).map iD))).set 3 (.cells .plain ((bs.set c (IntKind.i64.wrap (y + 4))).map iD))) K) := by
  have hr1 := hG.r1
  have hr2 := hG.r2
  have hr3 := hG.r3
  have hr4 := hG.r4
  have s1 := hG.set1 (as.set c (IntKind.i64.wrap (x + 4))) (by simpa using hG.la)
  have q2 := s1.r2
  have q4 := s1.r4
  have hla := hG.la
  have hlb := hG.lb
  have sa := splice_one (vs := as.map iD) (i := c) (x := iD (IntKind.i64.wrap (x + 4))) (by simpa [hla] using hc)
  have sb := splice_one (vs := bs.map iD) (i := c) (x := iD (IntKind.i64.wrap (y + 4))) (by simpa [hlb] using hc)
  have hca : c < as.length := by omega
  have hcb : c < bs.length := by omega
  rw [List.getElem?_eq_getElem hca] at hx
  rw [List.getElem?_eq_getElem hcb] at hy
  have hx' := Option.some.inj hx
  have hy' := Option.some.inj hy
  simp only [List.map_set, eD, splice] at *
  simp only [List.append_assoc, List.cons_append, List.nil_append, List.length_singleton] at sa sb
  simp [hr1, hr2, hr3, hr4, hc, q2, q4, hla, hlb, hx', hy', sa, sb, show c + 1 ≤ n by omega]

theorem bo_body {a b c : DV} {t n1 : Nat} {tk : Tk} {nn : Bool} {l : List DV} {X Y1 Y : St} {fr1 fr2 : Fr} (hL : (E tab).C f454L0 [(4, a), (5, b), (6, c), (22, .list t n1 tk nn l), (23, .int .i64 l.length), (24, .int .i64 0)] X = some (.exit 2, fr1, Y1))
    (hP : (E tab).C (.seq (.region f454r11 [5, 6]) (.region f454r12 [])) fr1 Y1 = some (.normal, fr2, Y)) : (E tab).C f454K [(4, a), (5, b), (6, c), (7, .list t n1 tk nn l)] X = some (.normal, fr2, Y) := by
  unfold f454K
  rw [C_block, C_seq]
  have h : (E tab).C (.seq (.region f454r5 [4, 5, 6, 22, 23, 24]) (.block 2 f454L0)) [(4, a), (5, b), (6, c), (7, .list t n1 tk nn l)] X = some (.normal, fr1, Y1) := by simp [hL]
  rw [h]
  simp only [hP]

theorem bo_step (hl : cells.length ≤ 64) (hn : n ≤ 8) (c : Nat) (hc : c < n) (K : List Nat) (u : DV) (G : List HO) (hG : BoS st.heap.length n x0 v (pre (leC cells n) n c) (pre (moC cells n) n c) (boLo st.heap.length 0 none) G)
    (hv : Acc st K 1 ((colOf cells n c).map .str) u) :
    ∃ G', (E tab).V (.yield (st.heap.length + 7)) [.int .i64 c, u] (pst st G K) = some (.bool true, pst st G' K) ∧ BoS st.heap.length n x0 v (pre (leC cells n) n (c + 1)) (pre (moC cells n) n (c + 1)) (boLo st.heap.length 0 none) G' := by
  obtain ⟨t, n1, tk, nn, rfl⟩ := acc_len hv
  have h1 : colOf cells n c ≠ [] → n1 = 1 := by
    intro h
    rcases hv with ⟨h2, _⟩ | ⟨k, s, h2, _⟩
    · rw [List.map_eq_nil_iff] at h2; exact absurd h2 h
    · injection h2
  obtain ⟨G1, fr1, hG1, hL⟩ := L454_0 hn c hc (colOf cells n c) (every_len _ _ _ _) t n1 tk nn h1 K (colOf cells n c) [] _ _ _ rfl (hG.put (boLo st.heap.length 1 none))
  have hb := col_le cells n c
  have e1 : (pre (leC cells n) n c).getD c 0 = 0 := by rw [List.getD_eq_getElem?_getD, pre_get _ _ _ _ hc]; simp
  have e2 : (pre (moC cells n) n c).getD c 0 = 0 := by rw [List.getD_eq_getElem?_getD, pre_get _ _ _ _ hc]; simp
  rw [e1, e2] at hG1
  have w1 : IntKind.i64.wrap (maxL leO (colOf cells n c) 0 + 4) = leC cells n c := i64w (by unfold leC at hb; omega)
  have w2 : IntKind.i64.wrap (maxL moO (colOf cells n c) 0 + 4) = moC cells n c := i64w (by unfold moC at hb; omega)
  have hP := bo_pad c hc K _ _ _ G1 hG1 (maxL leO (colOf cells n c) 0) (maxL moO (colOf cells n c) 0) (by rw [List.getElem?_set_self (by simpa using hc)]) (by rw [List.getElem?_set_self (by simpa using hc)]) fr1
  rw [List.set_set, List.set_set, w1, w2, pre_set _ _ _ hc, pre_set _ _ _ hc] at hP
  have s2 := (hG1.set1 (pre (leC cells n) n (c + 1)) (by simp)).set2 (pre (moC cells n) n (c + 1)) (by simp)
  refine ⟨_, ?_, s2.put (boLo st.heap.length 0 none)⟩
  have hV := V_client (T := tab) (st := st) (H := G) (H1 := G) (K := K) (K1 := K) (K2 := K) (k := 7) (fr := boFr st.heap.length) (params := [20, 21]) (assign := f454A) (body := f454K) (args := [.int .i64 c, .list t n1 tk nn ((colOf cells n c).map .str)])
    (e := .normal) (fr1 := [(4, .ptr (st.heap.length + 4) 0), (5, .ptr (st.heap.length + 5) 0), (6, .int .i64 c), (7, .list t n1 tk nn ((colOf cells n c).map .str))]) hG.r6 rfl (by simp [f454A, boFr]) hG.r6 ?_ s2.r6
  · simpa [yT] using hV
  · exact ⟨[], bo_body (by simpa using hL) hP⟩

theorem both454 (hl : cells.length ≤ 64) (hn : 1 ≤ n ∧ n ≤ 8) (hw : Txs st cells v) : ∃ (x1 x4 x5 x6 x7 : HO) (K' : List Nat), (E tab).F 454 [.agg (gcs n v)] (pst st [x0] []) = some (.tuple [.hsl 1 false (st.heap.length + 2) 0 n (some n), .hsl 1 false (st.heap.length + 3) 0 n (some n)],
    pst st [x0, x1, .cells .plain ((pre (leC cells n) n n).map iD), .cells .plain ((pre (moC cells n) n n).map iD), x4, x5, x6, x7] K') := by
  rw [F_go at454 rfl, f454_body]
  have hsc := txs_scal hw
  have h0 := both_head n hn v x0 st
  have hC := cols476 (st := st) (k := 6) cells hl n hn hw (.yield (st.heap.length + 7)) (fun c G => BoS st.heap.length n x0 v (pre (leC cells n) n c) (pre (moC cells n) n c) (boLo st.heap.length 0 none) G) (fun c G h => h.r5)
    (fun c hc G K v hG hv => by
      obtain ⟨G', h1, h2⟩ := bo_step hl hn.2 c hc K v G hG hv
      exact ⟨G', K, h1, h2⟩)
    [x0, .cells .plain (gcs n v), .cells .plain (repl [.int .i64 0] n), .cells .plain (repl [.int .i64 0] n), .cells .plain [.hsl 1 false (st.heap.length + 2) 0 n (some n)], .cells .plain [.hsl 1 false (st.heap.length + 3) 0 n (some n)], .cells .plain (gcs n v), boLo st.heap.length 0 none] [] (by
      have e : ∀ f, repl [.int .i64 0] n = (pre f n 0).map iD := fun f => by rw [repl_one, pre_zero, List.map_replicate]; rfl
      refine ⟨rfl, ?_, ?_, rfl, rfl, rfl, rfl, rfl, by simp, by simp⟩
      · rw [← e]; rfl
      · rw [← e]; rfl)
  obtain ⟨H', K', hP, hF⟩ := hC
  have hR := C_rfunc_pst (T := tab) (st := st) (H := [x0, .cells .plain (gcs n v), .cells .plain (repl [.int .i64 0] n), .cells .plain (repl [.int .i64 0] n), .cells .plain [.hsl 1 false (st.heap.length + 2) 0 n (some n)], .cells .plain [.hsl 1 false (st.heap.length + 3) 0 n (some n)], .cells .plain (gcs n v)]) (K := [])
    (f := .t 19) (params := [20, 21]) (live := [4, 5, 19]) (assign := f454A) (body := f454K) (fr := boFr st.heap.length) (g := 476) (first := []) (captured := [.ptr (st.heap.length + 6) 0]) (s := 0) (q := none) (v := .tuple []) rfl at476 hF hP.r6 (by omega)
  have hS := hP.put (.loop (mkLo ((boFr st.heap.length).keep [4, 5, 19]) [20, 21] f454A f454K 3 none))
  have hr0 := hS.r0
  have hr1 := hS.r1
  have hr2 := hS.r2
  have hr3 := hS.r3
  have hr4 := hS.r4
  have hr7 := hS.r7
  have hR' := hR
  unfold boLo at hR'
  have hb : (E tab).C (.seq (.region f454r2 [4, 5, 19]) (.block 0 (.rfunc (.t 19) [20, 21] f454A f454K [4, 5, 19]))) [(1, .ptr (st.heap.length + 1) 0), (4, .ptr (st.heap.length + 4) 0), (5, .ptr (st.heap.length + 5) 0)]
      (pst st [x0, .cells .plain (gcs n v), .cells .plain (repl [.int .i64 0] n), .cells .plain (repl [.int .i64 0] n), .cells .plain [.hsl 1 false (st.heap.length + 2) 0 n (some n)], .cells .plain [.hsl 1 false (st.heap.length + 3) 0 n (some n)]] []) = some (.normal, boFr st.heap.length, pst st (H'.set 7 (.loop (mkLo ((boFr st.heap.length).keep [4, 5, 19]) [20, 21] f454A f454K 3 none))) K') := by
    have h1 : (E tab).C (.region f454r2 [4, 5, 19]) [(1, .ptr (st.heap.length + 1) 0), (4, .ptr (st.heap.length + 4) 0), (5, .ptr (st.heap.length + 5) 0)]
      (pst st [x0, .cells .plain (gcs n v), .cells .plain (repl [.int .i64 0] n), .cells .plain (repl [.int .i64 0] n), .cells .plain [.hsl 1 false (st.heap.length + 2) 0 n (some n)], .cells .plain [.hsl 1 false (st.heap.length + 3) 0 n (some n)]] []) = some (.normal, boFr st.heap.length, pst st [x0, .cells .plain (gcs n v), .cells .plain (repl [.int .i64 0] n), .cells .plain (repl [.int .i64 0] n), .cells .plain [.hsl 1 false (st.heap.length + 2) 0 n (some n)], .cells .plain [.hsl 1 false (st.heap.length + 3) 0 n (some n)], .cells .plain (gcs n v)] []) := by
      simp [F_go at469 rfl, f469, gcs, boFr, hsc]
    rw [C_seq, h1]
    simp only [C_block, hR, Option.getD_none]
    rfl
  have h00 : (E tab).C (.region f454r0 [1]) (frame0 [.agg (gcs n v)] 0) (pst st [x0] []) = some (.normal, [(1, .ptr (st.heap.length + 1) 0)], pst st [x0, .cells .plain (gcs n v)] []) := by
    simp [frame0, gcs, hsc]
  rw [C_seq, h00]
  simp only
  rw [C_seq, h0]
  simp only
  rw [C_seq, hb]
  generalize H'.set 7 (.loop (mkLo ((boFr st.heap.length).keep [4, 5, 19]) [20, 21] f454A f454K 3 none)) = H2 at *
  obtain ⟨y0, y1, y2, y3, y4, y5, y6, y7, rfl⟩ : ∃ y0 y1 y2 y3 y4 y5 y6 y7, H2 = [y0, y1, y2, y3, y4, y5, y6, y7] := by
    match H2, hr7 with
    | [y0, y1, y2, y3, y4, y5, y6, y7], _ => exact ⟨y0, y1, y2, y3, y4, y5, y6, y7, rfl⟩
  have row : ∀ {o : HO} {g : CK} {vs : List DV} {G : List HO} {i : Nat}, G[i]? = some o → rowAt G i = some (g, vs) → o = .cells g vs := by
    intro o g vs G i h1 h2
    unfold rowAt at h2
    rw [h1] at h2
    split at h2
    · rename_i e; cases e; simp only [Option.some.injEq, Prod.mk.injEq] at h2; rw [h2.1, h2.2]
    · cases h2
  obtain rfl : y0 = x0 := by simpa using hr0
  obtain rfl := row (i := 2) rfl hr1
  obtain rfl := row (i := 3) rfl hr2
  refine ⟨y1, y4, y5, y6, y7, K', ?_⟩
  simp [boFr, hr3, hr4, f454]
end

theorem at456 : tab 456 = some (.code f456) := by kernel_rfl
theorem at430 : tab 430 = some (.code f430) := by kernel_rfl

/-- What is handed out, of all, by so much of the weights. -/
def shr (a W s : Int) : Int := a * s / W
def shCs (a W s : Int) : List DV := [iD a, iD W, iD (shr a W s), iD s]

section
variable {st : St} {H : List HO} {K : List Nat}
theorem shr_in {a W s : Int} (ha : 0 ≤ a ∧ a ≤ 4095) (hW : 0 < W) (hs : 0 ≤ s ∧ s ≤ 1000000000) : 0 ≤ a * s ∧ a * s ≤ 4095000000000 ∧ 0 ≤ shr a W s ∧ shr a W s ≤ 4095000000000 := by
  have h1 : 0 ≤ a * s := Int.mul_nonneg ha.1 hs.1
  have h2 : a * s ≤ 4095 * 1000000000 := Int.mul_le_mul ha.2 hs.2 hs.1 (by omega)
  have h3 : 0 ≤ shr a W s := Int.ediv_nonneg h1 (by omega)
  have h4 : shr a W s ≤ a * s := Int.ediv_le_self _ h1
  omega

theorem next456 {k : Nat} {a W s x : Int} (hr : rowAt H k = some (.plain, shCs a W s)) (ha : 0 ≤ a ∧ a ≤ 4095) (hW : 0 < W) (hs : 0 ≤ s ∧ s ≤ 1000000000) (hs2 : 0 ≤ s + x ∧ s + x ≤ 1000000000) :
    (E tab).F 456 [.ptr (st.heap.length + k) 0, .int .i64 x] (pst st H K) = some (.int .i64 (shr a W (s + x) - shr a W s), pst st (H.set k (.cells .plain (shCs a W (s + x)))) K) := by
  have hk := rowAt_lt hr
  obtain ⟨b1, b2, b3, b4⟩ := shr_in ha hW hs
  obtain ⟨c1, c2, c3, c4⟩ := shr_in ha hW hs2
  have w1 : IntKind.i64.wrap (s + x) = s + x := i64w (by omega)
  have w2 : IntKind.i64.wrap (a * (s + x)) = a * (s + x) := i64w (by omega)
  have w3 : IntKind.i64.wrap ((a * (s + x)).tdiv W) = shr a W (s + x) := by
    rw [Int.tdiv_eq_ediv_of_nonneg c1]
    exact i64w (by unfold shr at *; omega)
  have w4 : IntKind.i64.wrap (shr a W (s + x) - shr a W s) = shr a W (s + x) - shr a W s := i64w (by omega)
  have w5 : IntKind.i64.wrap (shr a W s + (shr a W (s + x) - shr a W s)) = shr a W (s + x) := by rw [i64w (by omega)]; omega
  have hW0 : ¬ W = 0 := by omega
  rw [F_go at456 rfl]
  simp only [shCs, iD] at hr
  simp [f456, hr, hk, rowAt_set, w1, w2, w3, w4, w5, hW0, shCs, iD]
end

def qT (w n : Int) (c : Nat) : Int := shr w n (c + 1) - shr w n c
def cumD (le mo : Nat → Int) : Nat → Int
  | 0 => 0
  | c + 1 => cumD le mo c + (mo c - le c)
def qF (a W : Int) (le mo : Nat → Int) (c : Nat) : Int := le c + (shr a W (cumD le mo (c + 1)) - shr a W (cumD le mo c))

section
variable {st : St} {K : List Nat}
theorem L430_0 (x0 x1 x2 x3 x4 x5 x6 x7 : HO) (w : Int) (hw : 0 ≤ w ∧ w ≤ 4095) (n : Nat) (hn : 1 ≤ n ∧ n ≤ 8) : ∀ (m c : Nat), c + m = n →
    ∃ fr, (E tab).C f430L0 [(10, .hsl 1 false (st.heap.length + 8) 0 n (some n)), (11, .ptr (st.heap.length + 9) 0), (48, .int .i64 n), (49, .int .i64 c)] (pst st [x0, x1, x2, x3, x4, x5, x6, x7, .cells .plain ((pre (qT w n) n c).map iD), .cells .plain (shCs w n c)] K) =
      some (.exit 0, (10, .hsl 1 false (st.heap.length + 8) 0 n (some n)) :: fr, pst st [x0, x1, x2, x3, x4, x5, x6, x7, .cells .plain ((pre (qT w n) n n).map iD), .cells .plain (shCs w n n)] K) := by
  intro m
  induction m with
  | zero =>
    intro c hc
    obtain rfl : c = n := by omega
    refine ⟨[(11, .ptr (st.heap.length + 9) 0), (48, .int .i64 c), (49, .int .i64 c), (50, .bool false)], ?_⟩
    rw [C_turn (L := f430L0) rfl]
    simp [f430B0]
  | succ m ih =>
    intro c hc
    have hlt : c < n := by omega
    obtain ⟨fr, hJ⟩ := ih (c + 1) (by omega)
    refine ⟨fr, ?_⟩
    have hN := next456 (st := st) (H := [x0, x1, x2, x3, x4, x5, x6, x7, .cells .plain ((pre (qT w n) n c).map iD), .cells .plain (shCs w n c)]) (K := K) (k := 9) (a := w) (W := n) (s := c) (x := 1) rfl hw (by omega) (by omega) (by omega)
    have w1 : IntKind.i64.wrap ((c : Int) + 1) = (c + 1 : Nat) := by rw [i64w (by omega)]; simp
    have hs := splice_one (vs := (pre (qT w n) n c).map iD) (i := c) (x := iD (qT w n c)) (by simpa using hlt)
    have hp := pre_set (qT w n) n c hlt
    rw [← hp] at hJ
    simp only [List.map_set, eD, splice] at hJ hs hN
    simp only [List.append_assoc, List.cons_append, List.nil_append, List.length_singleton, qT] at hs hJ
    simp at hN hJ
    rw [C_turn (L := f430L0) rfl]
    simp [f430B0, hlt, hN, w1, hs, hJ, eD, qT, show c + 1 ≤ n by omega]

theorem cumD_le {le mo : Nat → Int} (hb : ∀ i, 4 ≤ le i ∧ le i ≤ mo i ∧ mo i ≤ 16773124) : ∀ c, 0 ≤ cumD le mo c ∧ cumD le mo c ≤ 16773124 * c
  | 0 => by simp [cumD]
  | c + 1 => by
    have := cumD_le hb c
    have := hb c
    simp only [cumD]
    omega

theorem L430_1 (x0 x1 x4 x5 x6 x7 : HO) {le mo : Nat → Int} (hb : ∀ i, 4 ≤ le i ∧ le i ≤ mo i ∧ mo i ≤ 16773124) (a W : Int) (ha : 0 ≤ a ∧ a ≤ 4095) (hW : 0 < W) (n : Nat) (hn : 1 ≤ n ∧ n ≤ 8) : ∀ (m c : Nat), c + m = n →
    ∃ fr, (E tab).C f430L1 [(8, .hsl 1 false (st.heap.length + 2) 0 n (some n)), (9, .hsl 1 false (st.heap.length + 3) 0 n (some n)), (10, .hsl 1 false (st.heap.length + 8) 0 n (some n)), (13, .ptr (st.heap.length + 9) 0), (69, .int .i64 n), (70, .int .i64 c)] (pst st [x0, x1, .cells .plain ((pre le n n).map iD), .cells .plain ((pre mo n n).map iD), x4, x5, x6, x7, .cells .plain ((pre (qF a W le mo) n c).map iD), .cells .plain (shCs a W (cumD le mo c))] K) =
      some (.exit 2, [(8, .hsl 1 false (st.heap.length + 2) 0 n (some n)), (9, .hsl 1 false (st.heap.length + 3) 0 n (some n)), (10, .hsl 1 false (st.heap.length + 8) 0 n (some n))] ++ fr, pst st [x0, x1, .cells .plain ((pre le n n).map iD), .cells .plain ((pre mo n n).map iD), x4, x5, x6, x7, .cells .plain ((pre (qF a W le mo) n n).map iD), .cells .plain (shCs a W (cumD le mo n))] K) := by
  intro m
  induction m with
  | zero =>
    intro c hc
    obtain rfl : c = n := by omega
    refine ⟨[(13, .ptr (st.heap.length + 9) 0), (69, .int .i64 c), (70, .int .i64 c), (71, .bool false)], ?_⟩
    rw [C_turn (L := f430L1) rfl]
    simp [f430B1]
  | succ m ih =>
    intro c hc
    have hlt : c < n := by omega
    obtain ⟨fr, hJ⟩ := ih (c + 1) (by omega)
    refine ⟨fr, ?_⟩
    have c1 := cumD_le hb c
    have c2 := cumD_le hb (c + 1)
    have hb1 := hb c
    have hN := next456 (st := st) (H := [x0, x1, .cells .plain ((pre le n n).map iD), .cells .plain ((pre mo n n).map iD), x4, x5, x6, x7, .cells .plain ((pre (qF a W le mo) n c).map iD), .cells .plain (shCs a W (cumD le mo c))]) (K := K) (k := 9) (a := a) (W := W) (s := cumD le mo c) (x := mo c - le c) rfl ha hW (by omega) (by simp only [cumD] at c2; omega)
    have hS : cumD le mo c + (mo c - le c) = cumD le mo (c + 1) := rfl
    rw [hS] at hN
    obtain ⟨b1, b2, b3, b4⟩ := shr_in (s := cumD le mo c) ha hW (by omega)
    obtain ⟨d1, d2, d3, d4⟩ := shr_in (s := cumD le mo (c + 1)) ha hW (by omega)
    have w1 : IntKind.i64.wrap ((c : Int) + 1) = (c + 1 : Nat) := by rw [i64w (by omega)]; simp
    have w2 : IntKind.i64.wrap (mo c - le c) = mo c - le c := i64w (by omega)
    have w3 : IntKind.i64.wrap (le c + (shr a W (cumD le mo (c + 1)) - shr a W (cumD le mo c))) = qF a W le mo c := i64w (by omega)
    have hs := splice_one (vs := (pre (qF a W le mo) n c).map iD) (i := c) (x := iD (qF a W le mo c)) (by simpa using hlt)
    have hp := pre_set (qF a W le mo) n c hlt
    have g1 : (pre le n n)[c]? = some (le c) := by rw [pre_get _ _ _ _ hlt, if_pos hlt]
    have g2 : (pre mo n n)[c]? = some (mo c) := by rw [pre_get _ _ _ _ hlt, if_pos hlt]
    rw [List.getElem?_eq_getElem (by simpa using hlt)] at g1 g2
    have g1 := Option.some.inj g1
    have g2 := Option.some.inj g2
    rw [← hp] at hJ
    simp only [List.map_set, eD, splice] at hJ hs hN
    simp only [List.append_assoc, List.cons_append, List.nil_append, List.length_singleton] at hs hJ
    simp at hN hJ
    rw [C_turn (L := f430L1) rfl]
    simp [f430B1, hlt, hN, w1, w2, w3, hs, hJ, eD, g1, g2, C_dregionN, S_cons, A_cons, K_cons, loudD, isPure_of at456, show f456.pureF = false from rfl, show c + 1 ≤ n by omega]

/-- The widths for w: whether the table is tight. -/
def leS (cells : List (List UInt8)) (n : Nat) : Int := sumI (pre (leC cells n) n n)
def moS (cells : List (List UInt8)) (n : Nat) : Int := sumI (pre (moC cells n) n n)
def gridW (cells : List (List UInt8)) (n : Nat) (w : Int) : List Int × Bool :=
  if moS cells n ≤ w then (pre (moC cells n) n n, false)
  else if leS cells n > w then (pre (qT w n) n n, true)
  else (pre (qF (w - leS cells n) (moS cells n - leS cells n) (leC cells n) (moC cells n)) n n, false)

theorem ex_ints {H : List HO} {k n : Nat} {l : List Int} (hr : rowAt H k = some (.plain, l.map iD)) (hn : l.length = n) : exportL st (pst st H K) (.hsl 1 false (st.heap.length + k) 0 n (some n)) = some (.list st.cur 1 .tight true (l.map iD)) := by
  have h := ex_row (st := st) (K := K) (cap := some n) (ys := l.map iD) (by rw [flat_scal _ (el_iD _)]; exact hr) (by omega) (.inr rfl) (el_iD _)
  simp only [List.length_map, hn, if_true] at h
  exact h
theorem pre_sm {f : Nat → Int} (hf : ∀ i, 0 ≤ f i ∧ f i ≤ 16773124) {n : Nat} (hn : n ≤ 8) : Sm (pre f n n) := by
  refine ⟨by simp; omega, fun x hx => ?_⟩
  rw [pre_all] at hx
  obtain ⟨i, _, rfl⟩ := List.mem_map.1 hx
  have := hf i
  omega
theorem grid_n {c : Int} {cells : List (List UInt8)} (h : gridOk c cells = true) : ∃ n : Nat, c = n ∧ 1 ≤ n ∧ n ≤ 8 ∧ cells.length ≤ 64 := by
  simp [gridOk] at h
  exact ⟨c.toNat, by omega, by omega, by omega, by omega⟩

/-- What Widths tells. -/
def wiE (c : Int) (cells : List (List UInt8)) (w : Int) : Int := if gridOk c cells then if 0 ≤ w ∧ w ≤ 4095 then 0 else 5 else 2
theorem widths430r (n : Nat) (cells : List (List UInt8)) (hg : gridOk n cells = true) {v : DV} (hv : Txs st cells v) (w : Int) (hw : 0 ≤ w ∧ w ≤ 4095) :
    ∃ k H K, finS f430.results ((E tab).C f430.body (frame0 [.agg (gcs n v), .int .i64 w] 0) (pst st [] [])) = some (.tuple [.hsl 1 false (st.heap.length + k) 0 n (some n), .bool (gridW cells n w).2, .int .i64 0], pst st H K) ∧ rowAt H k = some (.plain, (gridW cells n w).1.map iD) ∧ (gridW cells n w).1.length = n := by
  obtain ⟨n', e, hn1, hn2, hc⟩ := grid_n hg
  obtain rfl : n = n' := by omega
  have hK := fun H K => check453 n cells (by omega) (hv.inn H K)
  rw [hg] at hK
  have hsc := txs_scal hv
  obtain ⟨x1, x4, x5, x6, x7, K', hB⟩ := both454 (st := st) (x0 := .cells .plain (gcs n v)) hc ⟨hn1, hn2⟩ hv
  have cb := fun i => col_le cells n i
  have hl := pre_sm (f := leC cells n) (n := n) (fun i => by have := cb i; omega) hn2
  have hm := pre_sm (f := moC cells n) (n := n) (fun i => by have := cb i; omega) hn2
  have bl := Sm.sum hl.2
  have bm := Sm.sum hm.2
  simp at bl bm
  have hSl := fun (X : List HO) => sum455 hl (ints_row (st := st) (K := K') (k := 2) (H := [.cells .plain (gcs n v), x1, .cells .plain ((pre (leC cells n) n n).map iD), .cells .plain ((pre (moC cells n) n n).map iD), x4, x5, x6, x7] ++ X) rfl (show n = _ by simp))
  have hSm := fun (X : List HO) => sum455 hm (ints_row (st := st) (K := K') (k := 3) (H := [.cells .plain (gcs n v), x1, .cells .plain ((pre (leC cells n) n n).map iD), .cells .plain ((pre (moC cells n) n n).map iD), x4, x5, x6, x7] ++ X) rfl (show n = _ by simp))
  have hg1 : ¬ w < 0 := by omega
  have hg2 : ¬ 4095 < w := by omega
  have hb1 : (n : Int) * 8 ≤ 140737488355328 := by omega
  have hb2 : n ≤ 140737488355328 := by omega
  have hb3 : (n : Int) ≤ 140737488355328 := by omega
  by_cases h1 : sumI (pre (moC cells n) n n) ≤ w
  · refine ⟨3, [.cells .plain (gcs n v), x1, .cells .plain ((pre (leC cells n) n n).map iD), .cells .plain ((pre (moC cells n) n n).map iD), x4, x5, x6, x7], K', ?_, by simp [gridW, moS, h1, rowAt], by simp [gridW, moS, h1]⟩
    have hSm0 := hSm []
    simp [gcs] at hK hB hSm0
    simp [f430, gcs, hsc, hK, hB, hSm0, hg1, hg2, h1, gridW, moS]
  · by_cases h2 : sumI (pre (leC cells n) n n) > w
    · refine ⟨8, [.cells .plain (gcs n v), x1, .cells .plain ((pre (leC cells n) n n).map iD), .cells .plain ((pre (moC cells n) n n).map iD), x4, x5, x6, x7, .cells .plain ((pre (qT w n) n n).map iD), .cells .plain (shCs w n n)], K', ?_, by simp [gridW, moS, leS, h1, h2, rowAt], by simp [gridW, moS, leS, h1, h2]⟩
      obtain ⟨fr, hL⟩ := L430_0 (st := st) (K := K') (.cells .plain (gcs n v)) x1 (.cells .plain ((pre (leC cells n) n n).map iD)) (.cells .plain ((pre (moC cells n) n n).map iD)) x4 x5 x6 x7 w hw n ⟨hn1, hn2⟩ n 0 (by omega)
      have e0 : shCs w n 0 = [.int .i64 w, .int .i64 n, .int .i64 0, .int .i64 0] := by simp [shCs, shr, iD]
      have e1 : repl [.int .i64 0] n = (pre (qT w n) n 0).map iD := by rw [repl_one, pre_zero, List.map_replicate]; rfl
      simp only [Int.natCast_zero] at hL
      rw [e0] at hL
      have hSm0 := hSm []
      have hSl0 := hSl [.cells .plain ((pre (qT w n) n 0).map iD)]
      simp [gcs] at hK hB hL hSm0 hSl0
      simp [f430, gcs, hsc, hK, hB, hSm0, hSl0, hg1, hg2, h1, h2, gridW, moS, leS, hb1, hb2, hb3, roomD, e1, hL]
    · have hW : 0 < moS cells n - leS cells n := by unfold moS leS; omega
      have hA : 0 ≤ w - leS cells n ∧ w - leS cells n ≤ 4095 := by unfold leS; omega
      obtain ⟨fr, hL⟩ := L430_1 (st := st) (K := K') (.cells .plain (gcs n v)) x1 x4 x5 x6 x7 cb (w - leS cells n) (moS cells n - leS cells n) hA hW n ⟨hn1, hn2⟩ n 0 (by omega)
      have e0 : shCs (w - leS cells n) (moS cells n - leS cells n) (cumD (leC cells n) (moC cells n) 0) = [.int .i64 (w - leS cells n), .int .i64 (moS cells n - leS cells n), .int .i64 0, .int .i64 0] := by simp [shCs, shr, iD, cumD]
      generalize hq : qF (w - leS cells n) (moS cells n - leS cells n) (leC cells n) (moC cells n) = q at *
      have e1 : repl [.int .i64 0] n = (pre q n 0).map iD := by rw [repl_one, pre_zero, List.map_replicate]; rfl
      have w1 : IntKind.i64.wrap (w - sumI (pre (leC cells n) n n)) = w - leS cells n := i64w (by unfold leS at *; omega)
      have w2 : IntKind.i64.wrap (sumI (pre (moC cells n) n n) - sumI (pre (leC cells n) n n)) = moS cells n - leS cells n := i64w (by omega)
      rw [e0] at hL
      have hm1 : ¬ moS cells n ≤ w := h1
      have hm2 : ¬ leS cells n > w := h2
      have hgw : gridW cells n w = (pre q n n, false) := by unfold gridW; rw [if_neg hm1, if_neg hm2, hq]
      refine ⟨8, [.cells .plain (gcs n v), x1, .cells .plain ((pre (leC cells n) n n).map iD), .cells .plain ((pre (moC cells n) n n).map iD), x4, x5, x6, x7, .cells .plain ((pre q n n).map iD), .cells .plain (shCs (w - leS cells n) (moS cells n - leS cells n) (cumD (leC cells n) (moC cells n) n))], K', ?_, by simp [hgw, rowAt], by simp [hgw]⟩
      simp only [Int.natCast_zero] at hL
      have hSm0 := hSm []
      have hSm1 := hSm [.cells .plain ((pre q n 0).map iD)]
      have hSl0 := hSl [.cells .plain ((pre q n 0).map iD)]
      simp [gcs] at hK hB hL hSm0 hSm1 hSl0
      simp [f430, gcs, hsc, hK, hB, hSm0, hSm1, hSl0, hg1, hg2, h1, h2, hgw, hb1, hb2, hb3, roomD, e1, w1, w2, hL]
end

theorem at612 : tab 612 = some (.code f612) := by kernel_rfl
theorem at613 : tab 613 = some (.code f613) := by kernel_rfl
theorem at621 : tab 621 = some (.code f621) := by kernel_rfl
section
variable {st : St}
theorem L612_0 (s : List UInt8) (hs : s.length ≤ 200) (x y z : DV) (st : St) : ∀ (r d : List UInt8), s = d ++ r →
    ∃ fr, (E tab).C f612L0 [(1, x), (3, y), (4, z), (5, .str s), (6, .int .i64 d.length)] st =
      some (if r.all byOk then (.exit 2, [(1, x), (3, y), (4, z)] ++ fr, st) else (.ret, [(2, .int .i64 2)], st)) := by
  intro r
  induction r with
  | nil =>
    intro d hd
    rw [C_turn (L := f612L0) rfl]
    simp [f612B0, hd]
  | cons c r ih =>
    intro d hd
    have h0 : d.length < s.length := by simp [hd]
    have hg : s[d.length] = c := by simp [hd]
    have hw : IntKind.i64.wrap ((d.length : Int) + 1) = ((d ++ [c]).length : Nat) := by rw [i64w (by omega)]; simp
    obtain ⟨fr, hJ⟩ := ih (d ++ [c]) (by simp [hd])
    refine ⟨fr, ?_⟩
    rw [C_turn (L := f612L0) rfl]
    simp only [List.length_append, List.length_singleton] at hJ hw
    by_cases h1 : c.toNat < 32
    · have hb : byOk c = false := by simp [byOk]; omega
      have h1' : (c.toNat : Int) < 32 := by omega
      simp [f612B0, h0, hg, h1, h1', hb]
    · have h1' : ¬ (c.toNat : Int) < 32 := by omega
      by_cases h2 : 126 < c.toNat
      · have hb : byOk c = false := by simp [byOk]; omega
        have h2' : 126 < (c.toNat : Int) := by omega
        simp [f612B0, h0, hg, h1, h1', h2, h2', hb]
      · have hb : byOk c = true := by simp [byOk]; omega
        have h2' : ¬ 126 < (c.toNat : Int) := by omega
        simp [f612B0, h0, hg, h1, h1', h2, h2', hb, hw]
        simpa using hJ

theorem L612_1 (cells : List (List UInt8)) (hl : cells.length ≤ 64) {c : Int} {v : DV} (hv : Txs st cells v) (K : List Nat) : ∀ (r d : List (List UInt8)), cells = d ++ r →
    ∃ fr, (E tab).C f612L1 [(1, .ptr st.heap.length 0), (3, .int .i64 cells.length), (4, .int .i64 d.length)] (pst st [.cells .plain (gcs c v)] K) =
      some (if r.all celOk then (.exit 0, fr, pst st [.cells .plain (gcs c v)] K) else (.ret, [(2, .int .i64 2)], pst st [.cells .plain (gcs c v)] K)) := by
  intro r
  induction r with
  | nil =>
    intro d hd
    rw [C_turn (L := f612L1) rfl]
    simp [f612B1, hd]
  | cons s r ih =>
    intro d hd
    have h0 : d.length < cells.length := by simp [hd]
    have hg : cells[d.length]? = some s := by simp [hd]
    have a1 := fun st' => txs_at hv h0 .i64 st'
    have a2 := txs_load hv hg [.cells .plain (gcs c v)] K
    have hw1 : IntKind.i64.wrap ((d.length : Int) + 1) = ((d ++ [s]).length : Nat) := by rw [i64w (by omega)]; simp
    obtain ⟨fr, hJ⟩ := ih (d ++ [s]) (by simp [hd])
    simp only [List.length_append, List.length_singleton] at hJ hw1
    simp only [gcs] at a2
    by_cases h2 : 200 < s.length
    · have hb : celOk s = false := by simp [celOk]; omega
      have h2' : (200 : Int) < s.length := by omega
      refine ⟨[], ?_⟩
      rw [C_turn (L := f612L1) rfl]
      simp [f612B1, gcs, h0, a1, a2, h2, h2', hb]
    · have h2' : ¬ (200 : Int) < s.length := by omega
      obtain ⟨fr2, hI⟩ := L612_0 s (by omega) (.ptr st.heap.length 0) (.int .i64 cells.length) (.int .i64 d.length) (pst st [.cells .plain (gcs c v)] K) s [] rfl
      simp only [List.length_nil] at hI
      cases hb : s.all byOk with
      | false =>
        have hc : celOk s = false := by simp only [celOk, hb, Bool.and_false]
        rw [hb] at hI
        refine ⟨[], ?_⟩
        rw [C_turn (L := f612L1) rfl]
        simp [gcs] at hI
        simp [f612B1, gcs, h0, a1, a2, h2, h2', hc, hI]
      | true =>
        have hc : celOk s = true := by simp only [celOk, hb, Bool.and_true, decide_eq_true_eq]; omega
        rw [hb] at hI
        refine ⟨fr, ?_⟩
        rw [C_turn (L := f612L1) rfl]
        simp [gcs] at hI hJ
        simp [f612B1, gcs, h0, a1, a2, h2, h2', hc, hI, hw1]
        simpa using hJ

theorem check612 (c : Int) (cells : List (List UInt8)) (hl : cells.length ≤ 140737488355328) {v : DV} {st : St} (hv : Txs st cells v) : (E tab).F 612 [.agg (gcs c v)] st = some (.int .i64 (if gridOk c cells then 0 else 2), st) := by
  rw [F_run at612 rfl]
  have hn := fun st' => txs_len hv st'
  have hsc := txs_scal hv
  by_cases h1 : c < 1
  · have : gridOk c cells = false := by simp [gridOk]; omega
    simp [f612, gcs, hsc, hn, h1, this]
  by_cases h2 : 8 < c
  · have : gridOk c cells = false := by simp [gridOk]; omega
    simp [f612, gcs, hsc, hn, h1, h2, this]
  by_cases h3 : cells = []
  · subst h3
    have : gridOk c [] = false := by simp [gridOk]
    simp at hn
    simp [f612, gcs, hsc, hn, h1, h2, this]
  have hp : 0 < cells.length := List.length_pos_iff.2 h3
  have h3' : ¬ (cells.length : Int) < 1 := by omega
  by_cases h4 : 64 < cells.length
  · have : gridOk c cells = false := by simp [gridOk]; omega
    have h4' : (64 : Int) < cells.length := by omega
    simp [f612, gcs, hsc, hn, h1, h2, h3, h3', h4, h4', this]
  have h4' : ¬ (64 : Int) < cells.length := by omega
  have hc0 : ¬ c = 0 := by omega
  have hm : (cells.length : Int).tmod c = (cells.length : Int) % c := IntWalk.rem_in _ _ (by omega)
  by_cases h5 : (cells.length : Int) % c = 0
  · obtain ⟨fr, hL⟩ := L612_1 cells (by omega) (c := c) hv [] cells [] rfl
    have hg : gridOk c cells = cells.all celOk := by simp [gridOk, h5]; omega
    simp only [List.length_nil, gcs] at hL
    rw [hg]
    cases ha : cells.all celOk with
    | true =>
      rw [ha] at hL
      simp at hL
      simp [f612, gcs, hsc, hn, h1, h2, h3, h3', h4, h4', hc0, hm, h5, hL]
    | false =>
      rw [ha] at hL
      simp at hL
      simp [f612, gcs, hsc, hn, h1, h2, h3, h3', h4, h4', hc0, hm, h5, hL]
  · have hg : gridOk c cells = false := by simp [gridOk, h5]
    simp [f612, gcs, hsc, hn, h1, h2, h3, h3', h4, h4', hc0, hm, h5, hg]

theorem cell613 (s : List UInt8) (st : St) : (E tab).F 613 [.str s] st = some (.agg (paraCs (cellP s) (cellW st s) ⟨0, 0, .no, false⟩), st) := by
  rw [F_run at613 rfl]
  by_cases h : s = []
  · subst h
    simp [f613, paraCs, cellP, cellW, cellPr, Props.cs, LW.dv]
  · have h2 : 0 < s.length := List.length_pos_iff.2 h
    simp [f613, h, h2, paraCs, cellP, cellW, cellPr, Props.cs, LW.dv, Span.dv, Span.cs, op_lit, repl, chunk]

/-! The greatest width of a stretch without blanks, by looking at all -/
def rn (L : List Mass) (a b : Nat) : Int := runGo true 0 ((L.drop a).take (b - a))
def inn (L : List Mass) (a : Nat) : List Mass → Nat → Int → Int
  | [], _, m => m
  | x :: r, b, m => if x.k = 3 then m else inn L a r (b + 1) (max m (rn L a b))
def outt (L : List Mass) : List Mass → Nat → Int → Int
  | [], _, m => m
  | x :: r, a, m => outt L r (a + 1) (inn L a (x :: r) (a + 1) m)
theorem L621_0 (L : List Mass) (hL : L.length ≤ 4096) (hok : L.all okM = true) (w : LW) (hw : w.ok 6 L) (a : Nat) (st : St) : ∀ (r : List Mass) (b : Nat) (m : Int), r = L.drop (b - 1) → a + 1 ≤ b → b ≤ L.length + 1 →
    ∃ fr, (E tab).C f621L0 [(4, .list w.t w.n w.tk w.nn (L.map Mass.dv)), (6, .int .i64 m), (7, .int .i64 a), (8, .int .i64 b)] st =
      some (.exit 2, [(4, .list w.t w.n w.tk w.nn (L.map Mass.dv)), (6, .int .i64 (inn L a r b m)), (7, .int .i64 a)] ++ fr, st) := by
  intro r
  induction r with
  | nil =>
    intro b m hr hab hb
    have hle : ¬ b ≤ L.length := by
      intro h
      have := congrArg List.length hr
      simp at this; omega
    have hle' : ¬ (b : Int) ≤ L.length := by omega
    refine ⟨[(8, .int .i64 b), (35, .bool false)], ?_⟩
    rw [C_turn (L := f621L0) rfl]
    simp [f621B0, inn, hle, hle']
  | cons x r ih =>
    intro b m hr hab hb
    have h6 := hw.n (by intro e; rw [e] at hr; simp at hr)
    have hlt : b - 1 < L.length := by
      have := congrArg List.length hr
      simp at this; omega
    have hle : b ≤ L.length := by omega
    have hg : L[b - 1]? = some x := by
      have := congrArg (fun l => l[0]?) hr
      simpa using this.symm
    have hg' : L[b - 1] = x := by rw [List.getElem?_eq_getElem hlt] at hg; exact Option.some.inj hg
    have w0 : IntKind.i64.wrap ((b : Int) - 1) = ((b - 1 : Nat) : Int) := by rw [i64w (by omega)]; omega
    have w1 : IntKind.i64.wrap ((b : Int) + 1) = ((b + 1 : Nat) : Int) := by rw [i64w (by omega)]; simp
    have hr2 : r = L.drop (b + 1 - 1) := by
      have h1 : L.drop (b - 1 + 1) = (L.drop (b - 1)).drop 1 := by rw [List.drop_drop]
      rw [show b + 1 - 1 = b - 1 + 1 by omega, h1, ← hr]; rfl
    by_cases hk : x.k = 3
    · refine ⟨[(8, .int .i64 b), (35, .bool false)], ?_⟩
      rw [C_turn (L := f621L0) rfl]
      rw [h6]
      simp [f621B0, inn, hle, w0, hlt, hg', Mass.dv, Mass.cs, hk]
    · have h53 := fun st => run53 L hL hok a b (by omega) hle w.t w.n w.tk w.nn hw.n st
      have hm := gmax .i64 m (rn L a b)
      obtain ⟨fr, hJ⟩ := ih (b + 1) (max m (rn L a b)) hr2 (by omega) (by omega)
      refine ⟨fr, ?_⟩
      rw [C_turn (L := f621L0) rfl]
      rw [h6] at h53 hJ ⊢
      rw [show runGo true 0 ((L.drop a).take (b - a)) = rn L a b from rfl] at h53
      simp [Mass.dv, Mass.cs] at h53 hJ
      simp [f621B0, inn, hle, w0, hlt, hg', Mass.dv, Mass.cs, hk, h53, hm, w1, hJ]
theorem L621_1 (L : List Mass) (hL : L.length ≤ 4096) (hok : L.all okM = true) (w : LW) (hw : w.ok 6 L) (st : St) : ∀ (r d : List Mass) (m : Int), L = d ++ r →
    ∃ fr, (E tab).C f621L1 [(4, .list w.t w.n w.tk w.nn (L.map Mass.dv)), (6, .int .i64 m), (7, .int .i64 d.length)] st =
      some (.exit 0, [(4, .list w.t w.n w.tk w.nn (L.map Mass.dv)), (6, .int .i64 (outt L r d.length m))] ++ fr, st) := by
  intro r
  induction r with
  | nil =>
    intro d m hd
    rw [C_turn (L := f621L1) rfl]
    simp [f621B1, outt, hd]
  | cons x r ih =>
    intro d m hd
    have h0 : d.length < L.length := by simp [hd]
    have w1 : IntKind.i64.wrap ((d.length : Int) + 1) = ((d ++ [x]).length : Nat) := by rw [i64w (by omega)]; simp
    have hdr : x :: r = L.drop (d.length + 1 - 1) := by simp [hd]
    obtain ⟨fr1, hI⟩ := L621_0 L hL hok w hw d.length st (x :: r) (d.length + 1) m hdr (Nat.le_refl _) (by omega)
    obtain ⟨fr, hJ⟩ := ih (d ++ [x]) (inn L d.length (x :: r) (d.length + 1) m) (by simp [hd])
    refine ⟨fr, ?_⟩
    simp only [List.length_append, List.length_singleton] at hJ w1
    rw [C_turn (L := f621L1) rfl]
    simp at hI hJ w1
    simp [f621B1, outt, h0, w1, hI, hJ]
theorem sides621 (s : List UInt8) (st : St) : (E tab).F 621 [.str s] st = some (.tuple [.int .i64 (outt (cellM s) (cellM s) 0 0), .int .i64 (moO s)], st) := by
  rw [F_run at621 rfl]
  have hc := cell613 s (pst st [] [])
  obtain ⟨v, h11, w, rfl, hw⟩ := masses11 (cellP s) (cell_small s) (cellW (pst st [] []) s) ⟨0, 0, .no, false⟩ (cellW_ok _ _) ⟨by simp, by simp [cellP]⟩ (pst st [] [])
  have hL := massL_len (cellP s)
  have hok := massL_ok (cellP s)
  have h53 := fun st => run53 (massL (cellP s)) hL hok 0 (massL (cellP s)).length (Nat.zero_le _) (Nat.le_refl _) w.t w.n w.tk w.nn hw.n st
  obtain ⟨fr, hJ⟩ := L621_1 (massL (cellP s)) hL hok w hw (pst st [] []) (massL (cellP s)) [] 0 rfl
  unfold moO cellM
  generalize massL (cellP s) = L at *
  simp at h53 hJ
  simp [f621, hc, h11, h53, hJ]
end

/-! The greatest width of a stretch without blanks: told both ways alike -/
theorem rn_mono {L : List Mass} (h : L.all okM = true) (he : ∀ m ∈ L, m.e = 0) {a a' b' b : Nat} (h1 : a ≤ a') (h2 : a' ≤ b') (h3 : b' ≤ b) : rn L a' b' ≤ rn L a b := by
  have hp : ∀ i n, runGo true 0 ((L.drop i).take n) = sW ((L.drop i).take n) := fun i n => by
    rw [runGo_sW _ _ _ fun m hm => he m (List.mem_of_mem_drop (List.mem_of_mem_take hm))]; omega
  unfold rn
  rw [hp, hp]
  have hall : ((L.drop a).take (b - a)).all okM = true := List.all_eq_true.2 fun m hm => List.all_eq_true.1 h m (List.mem_of_mem_drop (List.mem_of_mem_take hm))
  have := sW_part ((L.drop a).take (b - a)) hall (a' - a) (b' - a')
  have e : (((L.drop a).take (b - a)).drop (a' - a)).take (b' - a') = (L.drop a').take (b' - a') := by
    rw [List.drop_take, List.drop_drop, List.take_take]
    congr 1
    · omega
    · congr 1; omega
  rw [e] at this
  exact this.2
theorem rn_nil (L : List Mass) (a : Nat) : rn L a a = 0 := by simp [rn, runGo]
/-- No blank stands from a to b. -/
def noBl (L : List Mass) (a b : Nat) : Prop := ∀ j m, a ≤ j → j < b → L[j]? = some m → m.k ≠ 3
theorem lst_iff {L : List Mass} (h : L.all okM = true) (he : ∀ m ∈ L, m.e = 0) (X : Int) : ∀ (r : List Mass) (k fr : Nat) (a : Int), r = L.drop k → k ≤ L.length → fr ≤ k → noBl L fr k →
    (lst L r k fr a ≤ X ↔ a ≤ X ∧ ∀ a' b', fr ≤ a' → a' ≤ b' → b' ≤ L.length → noBl L a' b' → rn L a' b' ≤ X) := by
  intro r
  induction r with
  | nil =>
    intro k fr a hr hk hf hn
    have hkl : k = L.length := by have := congrArg List.length hr; simp at this; omega
    unfold lst
    rw [show runGo true 0 ((L.drop fr).take (k - fr)) = rn L fr k from rfl]
    constructor
    · intro hx
      refine ⟨by omega, fun a' b' h1 h2 h3 _ => ?_⟩
      have := rn_mono h he h1 h2 (show b' ≤ k by omega)
      omega
    · rintro ⟨h1, h2⟩
      have := h2 fr k (Nat.le_refl _) hf hk hn
      omega
  | cons x r ih =>
    intro k fr a hr hk hf hn
    have hlt : k < L.length := by have := congrArg List.length hr; simp at this; omega
    have hx : L[k]? = some x := by have := congrArg (fun l => l[0]?) hr; simpa using this.symm
    have hr2 : r = L.drop (k + 1) := by
      have h1 : L.drop (k + 1) = (L.drop k).drop 1 := by rw [List.drop_drop]
      rw [h1, ← hr]; rfl
    unfold lst
    split
    · rename_i hb
      rw [ih (k + 1) (k + 1) _ hr2 hlt (Nat.le_refl _) (fun j m h1 h2 => by omega)]
      rw [show runGo true 0 ((L.drop fr).take (k - fr)) = rn L fr k from rfl]
      constructor
      · rintro ⟨h1, h2⟩
        refine ⟨by omega, fun a' b' g1 g2 g3 g4 => ?_⟩
        by_cases hak : k + 1 ≤ a'
        · exact h2 a' b' hak g2 g3 g4
        · by_cases hbk : b' ≤ k
          · have := rn_mono h he g1 g2 hbk
            omega
          · exact absurd hb (g4 k x (by omega) (by omega) hx)
      · rintro ⟨h1, h2⟩
        have := h2 fr k (Nat.le_refl _) hf hk hn
        exact ⟨by omega, fun a' b' g1 g2 g3 g4 => h2 a' b' (by omega) g2 g3 g4⟩
    · rename_i hb
      exact ih (k + 1) fr a hr2 hlt (by omega) (fun j m h1 h2 h3 => by
        by_cases e : j = k
        · subst e; rw [hx] at h3; cases h3; exact hb
        · exact hn j m h1 (by omega) h3)
theorem inn_iff {L : List Mass} (X : Int) (a : Nat) : ∀ (r : List Mass) (b : Nat) (m : Int), r = L.drop (b - 1) → a + 1 ≤ b → b ≤ L.length + 1 → noBl L a (b - 1) →
    (inn L a r b m ≤ X ↔ m ≤ X ∧ ∀ b', b ≤ b' → b' ≤ L.length → noBl L a b' → rn L a b' ≤ X) := by
  intro r
  induction r with
  | nil =>
    intro b m hr hab hb hn
    have := congrArg List.length hr
    simp at this
    unfold inn
    exact ⟨fun h => ⟨h, fun b' h1 h2 => by omega⟩, fun h => h.1⟩
  | cons x r ih =>
    intro b m hr hab hb hn
    have hlt : b - 1 < L.length := by have := congrArg List.length hr; simp at this; omega
    have hx : L[b - 1]? = some x := by have := congrArg (fun l => l[0]?) hr; simpa using this.symm
    have hr2 : r = L.drop (b + 1 - 1) := by
      have h1 : L.drop (b - 1 + 1) = (L.drop (b - 1)).drop 1 := by rw [List.drop_drop]
      rw [show b + 1 - 1 = b - 1 + 1 by omega, h1, ← hr]; rfl
    unfold inn
    split
    · rename_i hk
      exact ⟨fun h => ⟨h, fun b' h1 h2 h3 => absurd hk (h3 (b - 1) x (by omega) (by omega) hx)⟩, fun h => h.1⟩
    · rename_i hk
      have hn2 : noBl L a (b + 1 - 1) := fun j y h1 h2 h3 => by
        by_cases e : j = b - 1
        · subst e; rw [hx] at h3; cases h3; exact hk
        · exact hn j y h1 (by omega) h3
      rw [ih (b + 1) _ hr2 (by omega) (by omega) hn2]
      constructor
      · rintro ⟨h1, h2⟩
        refine ⟨by omega, fun b' g1 g2 g3 => ?_⟩
        by_cases e : b' = b
        · subst e; omega
        · exact h2 b' (by omega) g2 g3
      · rintro ⟨h1, h2⟩
        have := h2 b (Nat.le_refl _) (by omega) hn2
        exact ⟨by omega, fun b' g1 g2 g3 => h2 b' (by omega) g2 g3⟩
theorem outt_iff {L : List Mass} (X : Int) : ∀ (r : List Mass) (a : Nat) (m : Int), r = L.drop a → a ≤ L.length →
    (outt L r a m ≤ X ↔ m ≤ X ∧ ∀ a' b', a ≤ a' → a' < b' → b' ≤ L.length → noBl L a' b' → rn L a' b' ≤ X) := by
  intro r
  induction r with
  | nil =>
    intro a m hr ha
    have := congrArg List.length hr
    simp at this
    unfold outt
    exact ⟨fun h => ⟨h, fun a' b' h1 h2 h3 => by omega⟩, fun h => h.1⟩
  | cons x r ih =>
    intro a m hr ha
    have hlt : a < L.length := by have := congrArg List.length hr; simp at this; omega
    have hr2 : r = L.drop (a + 1) := by
      have h1 : L.drop (a + 1) = (L.drop a).drop 1 := by rw [List.drop_drop]
      rw [h1, ← hr]; rfl
    unfold outt
    rw [ih (a + 1) _ hr2 hlt, inn_iff X a (x :: r) (a + 1) m (by simpa using hr) (Nat.le_refl _) (by omega) (fun j y h1 h2 => by omega)]
    constructor
    · rintro ⟨⟨h1, h2⟩, h3⟩
      refine ⟨h1, fun a' b' g1 g2 g3 g4 => ?_⟩
      by_cases e : a' = a
      · subst e; exact h2 b' g2 g3 g4
      · exact h3 a' b' (by omega) g2 g3 g4
    · rintro ⟨h1, h2⟩
      exact ⟨⟨h1, fun b' g1 g2 g3 => h2 a b' (Nat.le_refl _) g1 g2 g3⟩, fun a' b' g1 g2 g3 g4 => h2 a' b' (by omega) g2 g3 g4⟩
theorem sides_eq (s : List UInt8) : outt (cellM s) (cellM s) 0 0 = leO s := by
  have hok : (cellM s).all okM = true := massL_ok (cellP s)
  have key : ∀ X, outt (cellM s) (cellM s) 0 0 ≤ X ↔ leO s ≤ X := by
    intro X
    rw [outt_iff (L := cellM s) X (cellM s) 0 0 rfl (Nat.zero_le _)]
    unfold leO
    rw [lst_iff hok (cell_e s) X (cellM s) 0 0 0 rfl (Nat.zero_le _) (Nat.le_refl _) (fun j m h1 h2 => by omega)]
    constructor
    · rintro ⟨h1, h2⟩
      refine ⟨h1, fun a' b' g1 g2 g3 g4 => ?_⟩
      by_cases e : a' = b'
      · subst e; rw [rn_nil]; exact h1
      · exact h2 a' b' g1 (by omega) g3 g4
    · rintro ⟨h1, h2⟩
      exact ⟨h1, fun a' b' g1 g2 g3 g4 => h2 a' b' g1 (by omega) g3 g4⟩
  have h1 := (key (leO s)).2 (Int.le_refl _)
  have h2 := (key (outt (cellM s) (cellM s) 0 0)).1 (Int.le_refl _)
  omega

/-! Columns, cell by cell -/
def fold (f : List UInt8 → Int) (n : Nat) : List (List UInt8) → Nat → List Int → List Int
  | [], _, as => as
  | s :: r, i, as => fold f n r (i + 1) (as.set (i % n) (max (as.getD (i % n) 0) (f s + 4)))
def mxi (f : List UInt8 → Int) (n c : Nat) : List (List UInt8) → Nat → Int → Int
  | [], _, m => m
  | s :: r, i, m => mxi f n c r (i + 1) (if i % n = c then max m (f s + 4) else m)
theorem fold_len (f : List UInt8 → Int) (n : Nat) : ∀ (r : List (List UInt8)) (i : Nat) (as : List Int), (fold f n r i as).length = as.length
  | [], _, _ => rfl
  | s :: r, i, as => by rw [fold, fold_len f n r]; simp
theorem fold_at (f : List UInt8 → Int) (n c : Nat) : ∀ (r : List (List UInt8)) (i : Nat) (as : List Int) (x : Int), as[c]? = some x → (fold f n r i as)[c]? = some (mxi f n c r i x)
  | [], _, _, _, h => h
  | s :: r, i, as, x, h => by
    rw [fold, mxi]
    apply fold_at f n c r
    by_cases e : i % n = c
    · rw [if_pos e, e, List.getElem?_set_self (List.getElem?_eq_some_iff.1 h).1, List.getD_eq_getElem?_getD, h]; rfl
    · rw [if_neg e, List.getElem?_set_ne e]; exact h
def mxE (f : List UInt8 → Int) : List (List UInt8) → Int → Int
  | [], m => m
  | s :: r, m => mxE f r (max m (f s + 4))
theorem mxi_every (f : List UInt8 → Int) (cells : List (List UInt8)) (n c : Nat) (hn : 0 < n) : ∀ (r : List (List UInt8)) (i j fu : Nat) (m : Int), r = cells.drop i → i ≤ j → j < i + n → j % n = c → cells.length ≤ j + fu →
    mxi f n c r i m = mxE f (every cells n fu j) m := by
  intro r
  induction r with
  | nil =>
    intro i j fu m hr h1 h2 h3 h4
    have hl : cells.length ≤ i := by have := congrArg List.length hr; simp at this; omega
    cases fu with
    | zero => rfl
    | succ fu =>
      unfold every
      rw [dif_neg (by omega)]; rfl
  | cons s r ih =>
    intro i j fu m hr h1 h2 h3 h4
    have hlt : i < cells.length := by have := congrArg List.length hr; simp at this; omega
    have hs : cells[i]? = some s := by have := congrArg (fun l => l[0]?) hr; simpa using this.symm
    have hr2 : r = cells.drop (i + 1) := by
      have h1 : cells.drop (i + 1) = (cells.drop i).drop 1 := by rw [List.drop_drop]
      rw [h1, ← hr]; rfl
    rw [mxi]
    by_cases e : j = i
    · subst e
      rw [if_pos h3]
      obtain ⟨fu, rfl⟩ : ∃ k, fu = k + 1 := ⟨fu - 1, by omega⟩
      rw [every, dif_pos hlt, mxE]
      rw [show cells[j] = s from by rw [List.getElem?_eq_getElem hlt] at hs; exact Option.some.inj hs]
      exact ih (j + 1) (j + n) fu _ hr2 (by omega) (by omega) (by rw [Nat.add_mod_right]; exact h3) (by omega)
    · have hne : i % n ≠ c := by
        intro h
        rw [← h3] at h
        have a1 := Nat.div_add_mod i n
        have a2 := Nat.div_add_mod j n
        have a3 : i / n ≤ j / n := Nat.div_le_div_right (by omega)
        have a4 : ¬ i / n < j / n := by
          intro h5
          have : n * (i / n + 1) ≤ n * (j / n) := Nat.mul_le_mul_left _ h5
          rw [Nat.mul_add] at this
          omega
        have a5 : i / n = j / n := by omega
        rw [a5] at a1
        omega
      rw [if_neg hne]
      exact ih (i + 1) j fu m hr2 (by omega) (by omega) h3 h4
theorem mxE_max (f : List UInt8 → Int) : ∀ (l : List (List UInt8)) (m : Int), mxE f l (m + 4) = maxL f l m + 4
  | [], m => rfl
  | s :: r, m => by rw [mxE, maxL, show max (m + 4) (f s + 4) = max m (f s) + 4 by omega, mxE_max f r]
theorem fold_cols (f : List UInt8 → Int) (hf : ∀ s, 0 ≤ f s) (cells : List (List UInt8)) (n : Nat) (hn : 1 ≤ n ∧ n ≤ 8) (hl : n ≤ cells.length ∧ cells.length ≤ 64) :
    fold f n cells 0 (List.replicate n 0) = pre (fun c => maxL f (colOf cells n c) 0 + 4) n n := by
  apply List.ext_getElem?
  intro c
  by_cases hc : c < n
  · rw [fold_at f n c cells 0 _ 0 (by simp [hc]), pre_get _ _ _ _ hc, if_pos hc, mxi_every f cells n c (by omega) cells 0 c 64 0 rfl (Nat.zero_le _) (by omega) (Nat.mod_eq_of_lt hc) (by omega)]
    unfold colOf
    rw [every, dif_pos (show c < cells.length by omega), mxE, maxL]
    have h1 := hf cells[c]
    rw [show max 0 (f cells[c] + 4) = max 0 (f cells[c]) + 4 by omega, mxE_max]
  · rw [List.getElem?_eq_none (by rw [fold_len]; simp; omega), List.getElem?_eq_none (by simp; omega)]
theorem grid_len {n : Nat} {cells : List (List UInt8)} (h : gridOk n cells = true) : n ≤ cells.length := by
  simp [gridOk] at h
  have h1 : (n : Int) ∣ cells.length := Int.dvd_of_emod_eq_zero h.1.2
  have := Int.le_of_dvd (by omega) h1
  omega

theorem at619 : tab 619 = some (.code f619) := by kernel_rfl
theorem at620 : tab 620 = some (.code f620) := by kernel_rfl
section
variable {st : St}
def colOps (N n : Nat) : List ROper := [
  ⟨some 10, .faddr 0 (.t 1), none⟩,
  ⟨some 11, .load 1 false (.t 10), none⟩,
  ⟨some 12, .got (.hsl 1 false (N + 1) 0 n (some n)) [(.t 11, .int .i64 n), (.t 11, .int .i64 n)], none⟩,
  ⟨some 13, .faddr 0 (.t 1), none⟩,
  ⟨some 14, .load 1 false (.t 13), none⟩,
  ⟨some 15, .got (.hsl 1 false (N + 2) 0 n (some n)) [(.t 14, .int .i64 n), (.t 14, .int .i64 n)], none⟩,
  ⟨some 4, .mv (.t 12), none⟩,
  ⟨some 5, .mv (.t 15), none⟩]
theorem cols_head (n : Nat) (hn : 1 ≤ n ∧ n ≤ 8) (v : DV) (st : St) :
    (E tab).C (.dregion f619r1 [2, 5] [] [1, 4, 5]) [(1, .ptr st.heap.length 0)] (pst st [.cells .plain (gcs n v)] []) =
      some (.normal, [(1, .ptr st.heap.length 0), (4, .hsl 1 false (st.heap.length + 1) 0 n (some n)), (5, .hsl 1 false (st.heap.length + 2) 0 n (some n))],
        pst st [.cells .plain (gcs n v), .cells .plain (repl [.int .i64 0] n), .cells .plain (repl [.int .i64 0] n)] []) := by
  have hb1 : (n : Int) * 8 ≤ 140737488355328 := by omega
  have hb2 : (n : Int) ≤ 140737488355328 := by omega
  have hb3 : n * 8 ≤ 140737488355328 := by omega
  have hb4 : n ≤ 140737488355328 := by omega
  have hp : prepH [(1, .ptr st.heap.length 0)] [2, 5] (pst st [.cells .plain (gcs n v)] []) f619r1 = some (pst st [.cells .plain (gcs n v), .cells .plain (repl [.int .i64 0] n), .cells .plain (repl [.int .i64 0] n)] [], colOps st.heap.length n) := by
    simp [prepH, f619r1, qrun, isLoud, loudD, prep, freeD, gcs, roomD, hb1, hb2, hb3, hb4, gotX, colOps]
  rw [C_dregionP hp]
  simp [S_cons, A_cons, K_cons, loudD, gcs, colOps]
theorem L619_0 {cells : List (List UInt8)} (hl : cells.length ≤ 64) {n : Nat} (hn : 1 ≤ n ∧ n ≤ 8) {v : DV} (hv : Txs st cells v) : ∀ (r d : List (List UInt8)) (as bs : List Int), cells = d ++ r → as.length = n → bs.length = n → (∀ x ∈ as, 0 ≤ x ∧ x ≤ 100000000) → (∀ x ∈ bs, 0 ≤ x ∧ x ≤ 100000000) →
    ∃ fr, (E tab).C f619L0 [(1, .ptr st.heap.length 0), (4, .hsl 1 false (st.heap.length + 1) 0 n (some n)), (5, .hsl 1 false (st.heap.length + 2) 0 n (some n)), (6, .int .i64 d.length)] (pst st [.cells .plain (gcs n v), .cells .plain (as.map iD), .cells .plain (bs.map iD)] []) =
      some (.exit 0, [(1, .ptr st.heap.length 0), (4, .hsl 1 false (st.heap.length + 1) 0 n (some n)), (5, .hsl 1 false (st.heap.length + 2) 0 n (some n))] ++ fr, pst st [.cells .plain (gcs n v), .cells .plain ((fold leO n r d.length as).map iD), .cells .plain ((fold moO n r d.length bs).map iD)] []) := by
  have hlen := fun st' => txs_len hv st'
  intro r
  induction r with
  | nil =>
    intro d as bs hd _ _ _ _
    refine ⟨[(6, .int .i64 d.length), (20, .bool false)], ?_⟩
    rw [C_turn (L := f619L0) rfl]
    simp [f619B0, gcs, hlen, hd, fold]
  | cons s r ih =>
    intro d as bs hd ha hb hla hlb
    have h0 : d.length < cells.length := by simp [hd]
    have hg : cells[d.length]? = some s := by simp [hd]
    have a1 := fun st' => txs_at hv h0 .i64 st'
    have a2 := fun H K => txs_load hv hg H K
    have hw1 : IntKind.i64.wrap ((d.length : Int) + 1) = ((d ++ [s]).length : Nat) := by rw [i64w (by omega)]; simp
    have hS := sides621 s
    rw [sides_eq] at hS
    have hcb := cell_le s
    have hc : d.length % n < n := Nat.mod_lt _ (by omega)
    have hmod : (d.length : Int).tmod n = ((d.length % n : Nat) : Int) := by
      rw [Int.tmod_eq_emod_of_nonneg (by omega)]; omega
    have hw2 : IntKind.i64.wrap (((d.length % n : Nat) : Int)) = ((d.length % n : Nat) : Int) := i64w (by omega)
    have hn0 : ¬ (n : Int) = 0 := by omega
    have hn0' : ¬ n = 0 := by omega
    generalize hcc : d.length % n = c at *
    have hca : c < as.length := by omega
    have hcb' : c < bs.length := by omega
    have ea : as[c]? = some as[c] := List.getElem?_eq_getElem hca
    have eb : bs[c]? = some bs[c] := List.getElem?_eq_getElem hcb'
    have w3 : IntKind.i64.wrap (leO s + 4) = leO s + 4 := i64w (by omega)
    have w4 : IntKind.i64.wrap (moO s + 4) = moO s + 4 := i64w (by omega)
    have hm1 := gmax .i64 as[c] (leO s + 4)
    have hm2 := gmax .i64 bs[c] (moO s + 4)
    have hba := hla as[c] (List.getElem_mem _)
    have hbb := hlb bs[c] (List.getElem_mem _)
    obtain ⟨fr, hJ⟩ := ih (d ++ [s]) (as.set c (max as[c] (leO s + 4))) (bs.set c (max bs[c] (moO s + 4))) (by simp [hd]) (by simpa using ha) (by simpa using hb)
      (fun x hx => by rcases List.mem_or_eq_of_mem_set hx with h | rfl; exact hla x h; omega)
      (fun x hx => by rcases List.mem_or_eq_of_mem_set hx with h | rfl; exact hlb x h; omega)
    refine ⟨fr, ?_⟩
    have g1 : as.getD c 0 = as[c] := by rw [List.getD_eq_getElem?_getD, ea]; rfl
    have g2 : bs.getD c 0 = bs[c] := by rw [List.getD_eq_getElem?_getD, eb]; rfl
    have ef : ∀ (f : List UInt8 → Int) (l : List Int), fold f n (s :: r) d.length l = fold f n r (d.length + 1) (l.set c (max (l.getD c 0) (f s + 4))) := fun f l => by rw [fold, hcc]
    rw [ef, ef, g1, g2]
    have sa := splice_one (vs := as.map iD) (i := c) (x := iD (max as[c] (leO s + 4))) (by simpa using hca)
    have sb := splice_one (vs := bs.map iD) (i := c) (x := iD (max bs[c] (moO s + 4))) (by simpa using hcb')
    simp only [List.length_append, List.length_singleton] at hJ hw1
    simp only [List.map_set, eD, splice, gcs] at hJ sa sb a2 ⊢
    simp only [List.append_assoc, List.cons_append, List.nil_append, List.length_singleton] at sa sb
    simp at hJ
    rw [C_turn (L := f619L0) rfl]
    simp [f619B0, hlen, h0, a1, a2, hS, hmod, hw2, hn0, hn0', hc, ha, hb, hca, hcb', ea, eb, w3, w4, hm1, hm2, sa, sb, hw1, eD, show c + 1 ≤ n by omega]
    simpa using hJ
theorem columns619 {cells : List (List UInt8)} {n : Nat} (hg : gridOk n cells = true) {v : DV} (hv : Txs st cells v) :
    (E tab).F 619 [.agg (gcs n v)] st = some (.tuple [.list st.cur 1 .tight true ((pre (leC cells n) n n).map iD), .list st.cur 1 .tight true ((pre (moC cells n) n n).map iD)], st) := by
  obtain ⟨n', e, hn1, hn2, hc⟩ := grid_n hg
  obtain rfl : n = n' := by omega
  have hge := grid_len hg
  have hsc := txs_scal hv
  have h0 := cols_head n ⟨hn1, hn2⟩ v st
  obtain ⟨fr, hL⟩ := L619_0 hc ⟨hn1, hn2⟩ hv cells [] (List.replicate n 0) (List.replicate n 0) rfl (by simp) (by simp) (fun x hx => by have := List.eq_of_mem_replicate hx; omega) (fun x hx => by have := List.eq_of_mem_replicate hx; omega)
  have e1 := fold_cols leO (fun s => (cell_le s).1) cells n ⟨hn1, hn2⟩ ⟨hge, hc⟩
  have e2 := fold_cols moO (fun s => by have := cell_le s; omega) cells n ⟨hn1, hn2⟩ ⟨hge, hc⟩
  rw [show (fun c => maxL leO (colOf cells n c) 0 + 4) = leC cells n from rfl] at e1
  rw [show (fun c => maxL moO (colOf cells n c) 0 + 4) = moC cells n from rfl] at e2
  simp only [List.length_nil] at hL
  rw [e1, e2] at hL
  have er : (List.replicate n (0 : Int)).map iD = repl [.int .i64 0] n := by rw [repl_one, List.map_replicate]; rfl
  rw [er] at hL
  have x1 := ex_row (st := st) (K := []) (k := 1) (H := [.cells .plain (gcs n v), .cells .plain ((pre (leC cells n) n n).map iD), .cells .plain ((pre (moC cells n) n n).map iD)]) (cap := some n) (ys := (pre (leC cells n) n n).map iD) (by rw [flat_scal _ (el_iD _)]; rfl) (by omega) (.inr rfl) (el_iD _)
  have x2 := ex_row (st := st) (K := []) (k := 2) (H := [.cells .plain (gcs n v), .cells .plain ((pre (leC cells n) n n).map iD), .cells .plain ((pre (moC cells n) n n).map iD)]) (cap := some n) (ys := (pre (moC cells n) n n).map iD) (by rw [flat_scal _ (el_iD _)]; rfl) (by omega) (.inr rfl) (el_iD _)
  simp only [List.length_map, pre_len, if_true] at x1 x2
  rw [F_run at619 rfl]
  rw [show f619.body = (.seq (.region f619r0 [1]) (.seq (.dregion f619r1 [2, 5] [] [1, 4, 5]) (.seq (.seq (.region f619r2 [1, 4, 5, 6]) (.block 0 f619L0)) (.seq (.region f619r9 [2, 3]) .ret)))) from rfl]
  have h00 : (E tab).C (.region f619r0 [1]) (frame0 [.agg (gcs n v)] 0) (pst st [] []) = some (.normal, [(1, .ptr st.heap.length 0)], pst st [.cells .plain (gcs n v)] []) := by
    simp [frame0, gcs, hsc]
  rw [C_seq, h00]
  simp only
  rw [C_seq, h0]
  generalize repl [DV.int .i64 0] n = Z at *
  simp at hL
  simp [hL, f619, x1, x2]
theorem L620_0 (l : List Int) (hl : Sm l) (t n : Nat) (tk : Tk) (nn : Bool) (hn : l ≠ [] → n = 1) (k : Nat) (hk : k ≤ l.length) (st : St) : ∀ (m i : Nat), i + m = k →
    ∃ fr, (E tab).C f620L0 [(0, .list t n tk nn (l.map iD)), (1, .int .i64 k), (5, .int .i64 (sumI (l.take i))), (6, .int .i64 i)] st =
      some (.exit 0, [(0, .list t n tk nn (l.map iD)), (1, .int .i64 k), (5, .int .i64 (sumI (l.take k)))] ++ fr, st) := by
  intro m
  induction m with
  | zero =>
    intro i hi
    obtain rfl : i = k := by omega
    refine ⟨[(6, .int .i64 i), (9, .bool false)], ?_⟩
    rw [C_turn (L := f620L0) rfl]
    simp [f620B0]
  | succ m ih =>
    intro i hi
    have hlt : i < k := by omega
    have hil : i < l.length := by omega
    have h1 := hn (by intro e; rw [e] at hil; cases hil)
    obtain ⟨fr, hJ⟩ := ih (i + 1) (by omega)
    have hl0 := hl.1
    have w1 : IntKind.i64.wrap ((i : Int) + 1) = (i + 1 : Nat) := by rw [i64w (by omega)]; simp
    have et : sumI (l.take (i + 1)) = sumI (l.take i) + l[i] := by rw [List.take_add_one, List.getElem?_eq_getElem hil, sumI_app]; simp [sumI]
    have hs := Sm.sum (l := l.take (i + 1)) fun y hy => hl.2 y (List.mem_of_mem_take hy)
    have hle : (l.take (i + 1)).length ≤ 64 := by simp; omega
    have w2 : IntKind.i64.wrap (sumI (l.take i) + l[i]) = sumI (l.take (i + 1)) := by rw [et, i64w (by omega)]
    refine ⟨fr, ?_⟩
    rw [C_turn (L := f620L0) rfl]
    rw [h1] at hJ ⊢
    simp [iD] at hJ
    simp [f620B0, hlt, hil, iD, w1, w2, hJ]
theorem sum620 (l : List Int) (hl : Sm l) (t n : Nat) (tk : Tk) (nn : Bool) (hn : l ≠ [] → n = 1) (k : Nat) (hk : k ≤ l.length) (st : St) : (E tab).F 620 [.list t n tk nn (l.map iD), .int .i64 k] st = some (.int .i64 (sumI (l.take k)), st) := by
  rw [F_run at620 rfl]
  obtain ⟨fr, hL⟩ := L620_0 l hl t n tk nn hn k hk (pst st [] []) k 0 (by omega)
  simp [sumI] at hL
  simp [f620, hL]
end

theorem at608 : tab 608 = some (.code f608) := by kernel_rfl
theorem at610 : tab 610 = some (.code f610) := by kernel_rfl
theorem at611 : tab 611 = some (.code f611) := by kernel_rfl
theorem sumI_pre (f : Nat → Int) : ∀ n, sumI (pre f (n + 1) (n + 1)) = sumI (pre f n n) + f n := by
  intro n
  rw [pre_all, pre_all, List.range_succ, List.map_append, sumI_app]
  simp [sumI]
theorem cumD_sum (le mo : Nat → Int) : ∀ n, cumD le mo n = sumI (pre mo n n) - sumI (pre le n n)
  | 0 => rfl
  | n + 1 => by rw [cumD, cumD_sum le mo n, sumI_pre, sumI_pre]; omega
theorem take_pre (f : Nat → Int) {k n : Nat} (h : k ≤ n) : (pre f n n).take k = pre f k k := by
  rw [pre_all, pre_all, ← List.map_take, List.take_range, Nat.min_eq_left h]
/-- The widths up to the k-th. -/
def upT (w n : Int) (k : Nat) : Int := shr w n k
def upF (a W : Int) (le mo : Nat → Int) (k : Nat) : Int := sumI (pre le k k) + shr a W (cumD le mo k)
theorem qT_up (w n : Int) (c : Nat) : qT w n c = upT w n (c + 1) - upT w n c := by unfold qT upT; rw [Int.natCast_succ]
theorem qF_up (a W : Int) (le mo : Nat → Int) (c : Nat) : qF a W le mo c = upF a W le mo (c + 1) - upF a W le mo c := by
  unfold qF upF
  rw [sumI_pre]; omega
section
variable {st : St} {x0 : HO}
theorem L611_T (w : Int) (hw : 0 ≤ w ∧ w ≤ 4095) (n : Nat) (hn : 1 ≤ n ∧ n ≤ 8) (A B : DV) : ∀ (m k : Nat) (u : DV) (K : List Nat), k + m = n → Acc st K 1 ((pre (qT w n) k k).map iD) u →
    ∃ u' K' fr, Acc st K' 1 ((pre (qT w n) n n).map iD) u' ∧ (E tab).C f611L0 [(1, .int .i64 w), (8, A), (9, B), (10, .int .i64 n), (11, .bool true), (12, u), (13, .int .i64 (upT w n k)), (14, .int .i64 ((k + 1 : Nat) : Int))] (pst st [x0] K) =
      some (.exit 0, [(1, .int .i64 w), (8, A), (9, B), (10, .int .i64 n), (11, .bool true), (12, u')] ++ fr, pst st [x0] K') := by
  intro m
  induction m with
  | zero =>
    intro k u K hk hu
    obtain rfl : k = n := by omega
    have h0 : ¬ (k : Int) + 1 ≤ k := by omega
    refine ⟨u, K, [(13, .int .i64 (upT w k k)), (14, .int .i64 ((k : Int) + 1)), (47, .bool false)], hu, ?_⟩
    rw [C_turn (L := f611L0) rfl]
    simp [f611B0, h0]
  | succ m ih =>
    intro k u K hk hu
    have hlt : k + 1 ≤ n := by omega
    have h0 : (k : Int) + 1 ≤ n := by omega
    obtain ⟨b1, b2, b3, b4⟩ := shr_in (W := n) (s := ((k + 1 : Nat) : Int)) hw (by omega) (by omega)
    obtain ⟨d1, d2, d3, d4⟩ := shr_in (W := n) (s := (k : Int)) hw (by omega) (by omega)
    have w1 : IntKind.i64.wrap ((k : Int) + 1 + 1) = ((k + 1 + 1 : Nat) : Int) := by rw [i64w (by omega)]; simp
    have w2 : IntKind.i64.wrap (w * ((k : Int) + 1)) = w * ((k : Int) + 1) := i64w (by simp at b1 b2; omega)
    have w3 : IntKind.i64.wrap ((w * ((k : Int) + 1)).tdiv n) = upT w n (k + 1) := by
      rw [Int.tdiv_eq_ediv_of_nonneg (by simpa using b1)]
      unfold upT shr
      exact i64w (by unfold shr at b3 b4; simp at b3 b4 ⊢; omega)
    have w4 : IntKind.i64.wrap (upT w n (k + 1) - upT w n k) = qT w n k := by rw [qT_up]; exact i64w (by unfold upT; omega)
    have hn0 : ¬ (n : Int) = 0 := by omega
    have hn0' : ¬ n = 0 := by omega
    have e1 : (pre (qT w n) (k + 1) (k + 1)).map iD = (pre (qT w n) k k).map iD ++ [iD (qT w n k)] := by
      rw [pre_all, pre_all, List.range_succ, List.map_append, List.map_append]; rfl
    obtain ⟨v', K', hA, hv'⟩ := acc_app (H := [x0]) (by_ := 8) (ag := false) (tk := .tight) (t := st.cur) (ys := [iD (qT w n k)]) hu (by omega) (by simp) (fun y hy => by rw [List.mem_singleton] at hy; subst hy; exact ⟨rfl, rfl, rfl⟩) (by simp [roomD]; omega) (by simp [roomD]; omega)
    rw [← e1] at hv'
    obtain ⟨u2, K2, fr, hu2, hJ⟩ := ih (k + 1) v' K' (by omega) hv'
    refine ⟨u2, K2, fr, hu2, ?_⟩
    simp only [iD] at hA
    simp at hJ w1
    rw [C_turn (L := f611L0) rfl]
    simp [f611B0, hlt, h0, w1, w2, w3, w4, hn0, hn0', op_lit, repl, chunk, hA, hJ]
theorem L611_F {le mo : Nat → Int} (hb : ∀ i, 4 ≤ le i ∧ le i ≤ mo i ∧ mo i ≤ 16773124) (w : Int) (hw : 0 ≤ w ∧ w ≤ 4095) (n : Nat) (hn : 1 ≤ n ∧ n ≤ 8) (hl : sumI (pre le n n) ≤ w) (hm : w < sumI (pre mo n n)) (t1 t2 : Nat) : ∀ (m k : Nat) (u : DV) (K : List Nat), k + m = n → Acc st K 1 ((pre (qF (w - sumI (pre le n n)) (sumI (pre mo n n) - sumI (pre le n n)) le mo) k k).map iD) u →
    ∃ u' K' fr, Acc st K' 1 ((pre (qF (w - sumI (pre le n n)) (sumI (pre mo n n) - sumI (pre le n n)) le mo) n n).map iD) u' ∧ (E tab).C f611L0 [(1, .int .i64 w), (8, .list t1 1 .tight true ((pre le n n).map iD)), (9, .list t2 1 .tight true ((pre mo n n).map iD)), (10, .int .i64 n), (11, .bool false), (12, u), (13, .int .i64 (upF (w - sumI (pre le n n)) (sumI (pre mo n n) - sumI (pre le n n)) le mo k)), (14, .int .i64 ((k + 1 : Nat) : Int))] (pst st [x0] K) =
      some (.exit 0, [(1, .int .i64 w), (8, .list t1 1 .tight true ((pre le n n).map iD)), (9, .list t2 1 .tight true ((pre mo n n).map iD)), (10, .int .i64 n), (11, .bool false), (12, u')] ++ fr, pst st [x0] K') := by
  have sl := pre_sm (f := le) (n := n) (fun i => by have := hb i; omega) hn.2
  have sm := pre_sm (f := mo) (n := n) (fun i => by have := hb i; omega) hn.2
  have bl := fun k (hk : k ≤ 8) => Sm.sum (pre_sm (f := le) (n := k) (fun i => by have := hb i; omega) hk).2
  have bm := fun k (hk : k ≤ 8) => Sm.sum (pre_sm (f := mo) (n := k) (fun i => by have := hb i; omega) hk).2
  simp only [pre_len] at bl bm
  intro m
  induction m with
  | zero =>
    intro k u K hk hu
    obtain rfl : k = n := by omega
    have h0 : ¬ (k : Int) + 1 ≤ k := by omega
    refine ⟨u, K, [(13, .int .i64 (upF (w - sumI (pre le k k)) (sumI (pre mo k k) - sumI (pre le k k)) le mo k)), (14, .int .i64 ((k : Int) + 1)), (47, .bool false)], hu, ?_⟩
    rw [C_turn (L := f611L0) rfl]
    simp [f611B0, h0]
  | succ m ih =>
    intro k u K hk hu
    have hlt : k + 1 ≤ n := by omega
    have h0 : (k : Int) + 1 ≤ n := by omega
    have q1 := fun st => sum620 _ sl t1 1 .tight true (fun _ => rfl) (k + 1) (by simpa using hlt) st
    have q2 := fun st => sum620 _ sm t2 1 .tight true (fun _ => rfl) (k + 1) (by simpa using hlt) st
    have q3 := fun st => sum620 _ sl t1 1 .tight true (fun _ => rfl) n (by simp) st
    have q4 := fun st => sum620 _ sm t2 1 .tight true (fun _ => rfl) n (by simp) st
    rw [take_pre _ hlt] at q1 q2
    rw [take_pre _ (Nat.le_refl n)] at q3 q4
    have c1 := cumD_le hb (k + 1)
    have c2 := cumD_sum le mo (k + 1)
    have c3 := cumD_le hb k
    have bl0 := bl n hn.2
    have bm0 := bm n hn.2
    have bl1 := bl (k + 1) (by omega)
    have bm1 := bm (k + 1) (by omega)
    have bl2 := bl k (by omega)
    generalize hSl : sumI (pre le n n) = Sl at *
    generalize hSm : sumI (pre mo n n) = Sv at *
    have hA0 : 0 ≤ w - Sl ∧ w - Sl ≤ 4095 := by omega
    have hW0 : 0 < Sv - Sl := by omega
    obtain ⟨b1, b2, b3, b4⟩ := shr_in (s := cumD le mo (k + 1)) hA0 hW0 (by omega)
    obtain ⟨d1, d2, d3, d4⟩ := shr_in (s := cumD le mo k) hA0 hW0 (by omega)
    have w1 : IntKind.i64.wrap ((k : Int) + 1 + 1) = ((k + 1 + 1 : Nat) : Int) := by rw [i64w (by omega)]; simp
    have w2 : IntKind.i64.wrap (w - Sl) = w - Sl := i64w (by omega)
    have w3 : IntKind.i64.wrap (sumI (pre mo (k + 1) (k + 1)) - sumI (pre le (k + 1) (k + 1))) = cumD le mo (k + 1) := by rw [c2]; exact i64w (by omega)
    have w4 : IntKind.i64.wrap ((w - Sl) * cumD le mo (k + 1)) = (w - Sl) * cumD le mo (k + 1) := i64w (by omega)
    have w5 : IntKind.i64.wrap (Sv - Sl) = Sv - Sl := i64w (by omega)
    have w6 : IntKind.i64.wrap (((w - Sl) * cumD le mo (k + 1)).tdiv (Sv - Sl)) = shr (w - Sl) (Sv - Sl) (cumD le mo (k + 1)) := by
      rw [Int.tdiv_eq_ediv_of_nonneg b1]
      exact i64w (by unfold shr at *; omega)
    have w7 : IntKind.i64.wrap (sumI (pre le (k + 1) (k + 1)) + shr (w - Sl) (Sv - Sl) (cumD le mo (k + 1))) = upF (w - Sl) (Sv - Sl) le mo (k + 1) := i64w (by omega)
    have w8 : IntKind.i64.wrap (upF (w - Sl) (Sv - Sl) le mo (k + 1) - upF (w - Sl) (Sv - Sl) le mo k) = qF (w - Sl) (Sv - Sl) le mo k := by rw [qF_up]; exact i64w (by unfold upF; omega)
    have hn0 : ¬ Sv - Sl = 0 := by omega
    generalize hq : qF (w - Sl) (Sv - Sl) le mo = q at *
    have e1 : (pre q (k + 1) (k + 1)).map iD = (pre q k k).map iD ++ [iD (q k)] := by
      rw [pre_all, pre_all, List.range_succ, List.map_append, List.map_append]; rfl
    obtain ⟨v', K', hA, hv'⟩ := acc_app (H := [x0]) (by_ := 8) (ag := false) (tk := .tight) (t := st.cur) (ys := [iD (q k)]) hu (by omega) (by simp) (fun y hy => by rw [List.mem_singleton] at hy; subst hy; exact ⟨rfl, rfl, rfl⟩) (by simp [roomD]; omega) (by simp [roomD]; omega)
    rw [← e1] at hv'
    obtain ⟨u2, K2, fr, hu2, hJ⟩ := ih (k + 1) v' K' (by omega) hv'
    refine ⟨u2, K2, fr, hu2, ?_⟩
    simp only [iD] at hA
    generalize (pre le n n).map iD = LE at *
    generalize (pre mo n n).map iD = MO at *
    simp at hJ w1 q1 q2 q3 q4
    rw [C_turn (L := f611L0) rfl]
    simp [f611B0, hlt, h0, q1, q2, q3, q4, w1, w2, w3, w4, w5, w6, w7, w8, hn0, op_lit, repl, chunk, hA, hJ]
theorem widths611 (n : Nat) (cells : List (List UInt8)) (hg : gridOk n cells = true) {v : DV} (hv : Txs st cells v) (w : Int) (hw : 0 ≤ w ∧ w ≤ 4095) :
    ∃ t tk, (E tab).F 611 [.agg (gcs n v), .int .i64 w] st = some (.tuple [.list t 1 tk true ((gridW cells n w).1.map iD), .bool (gridW cells n w).2, .int .i64 0], st) := by
  obtain ⟨n', e, hn1, hn2, hc⟩ := grid_n hg
  obtain rfl : n = n' := by omega
  rw [F_run at611 rfl]
  have hK := fun H K => check612 n cells (by omega) (hv.inn H K)
  rw [hg] at hK
  have hsc := txs_scal hv
  have hC := fun H K => columns619 (st := pst st H K) hg (hv.inn H K)
  have cb := fun i => col_le cells n i
  have hl := pre_sm (f := leC cells n) (n := n) (fun i => by have := cb i; omega) hn2
  have hm := pre_sm (f := moC cells n) (n := n) (fun i => by have := cb i; omega) hn2
  have bl := Sm.sum hl.2
  have bm := Sm.sum hm.2
  simp at bl bm
  have hSl := fun t st => sum620 _ hl t 1 .tight true (fun _ => rfl) n (by simp) st
  have hSm := fun t st => sum620 _ hm t 1 .tight true (fun _ => rfl) n (by simp) st
  rw [take_pre _ (Nat.le_refl n)] at hSl hSm
  have hg1 : ¬ w < 0 := by omega
  have hg2 : ¬ 4095 < w := by omega
  simp only [gcs] at hC hK
  simp at hK
  by_cases h1 : sumI (pre (moC cells n) n n) ≤ w
  · refine ⟨st.cur, .tight, ?_⟩
    simp [f611, gcs, hsc, hK, hC, hSm, hg1, hg2, h1, gridW, moS]
  · by_cases h2 : sumI (pre (leC cells n) n n) > w
    · obtain ⟨u', K', fr, hu, hL⟩ := L611_T (st := st) (x0 := .cells .plain (gcs n v)) w hw n ⟨hn1, hn2⟩ (.list st.cur 1 .tight true ((pre (leC cells n) n n).map iD)) (.list st.cur 1 .tight true ((pre (moC cells n) n n).map iD)) n 0 (.list 0 0 .no false []) [] (by omega) (acc_nil _ _ _ _ _ _)
      have e0 : upT w n 0 = 0 := by simp [upT, shr]
      have hgw : gridW cells n w = (pre (qT w n) n n, true) := by unfold gridW; rw [if_neg (show ¬ moS cells n ≤ w from h1), if_pos (show leS cells n > w from h2)]
      obtain ⟨t9, n9, tk9, nn9, e9, g2, g3, g4⟩ := acc_ex (st' := pst st [.cells .plain (gcs n v)] K') hu
      obtain ⟨t8, n8, tk8, nn8, rfl⟩ := acc_len hu
      have hne : (pre (qT w n) n n).map iD ≠ [] := by intro e; have := congrArg List.length e; simp at this; omega
      have hnn : nn9 = true := by cases nn9 with | true => rfl | false => exact absurd (g2 rfl) hne
      have hn9 := g3 hnn
      subst hnn; subst hn9
      refine ⟨t9, tk9, ?_⟩
      rw [hgw]
      rw [e0] at hL
      simp [gcs] at hL e9
      simp [f611, gcs, hsc, hK, hC, hSm, hSl, hg1, hg2, h1, h2, hL, e9]
    · obtain ⟨u', K', fr, hu, hL⟩ := L611_F (st := st) (x0 := .cells .plain (gcs n v)) cb w hw n ⟨hn1, hn2⟩ (by omega) (by omega) st.cur st.cur n 0 (.list 0 0 .no false []) [] (by omega) (acc_nil _ _ _ _ _ _)
      have e0 : upF (w - sumI (pre (leC cells n) n n)) (sumI (pre (moC cells n) n n) - sumI (pre (leC cells n) n n)) (leC cells n) (moC cells n) 0 = 0 := by simp [upF, shr, cumD, pre, sumI]
      have hgw : gridW cells n w = (pre (qF (w - leS cells n) (moS cells n - leS cells n) (leC cells n) (moC cells n)) n n, false) := by unfold gridW; rw [if_neg (show ¬ moS cells n ≤ w from h1), if_neg (show ¬ leS cells n > w from h2)]
      rw [hgw]
      simp only [leS, moS]
      obtain ⟨t9, n9, tk9, nn9, e9, g2, g3, g4⟩ := acc_ex (st' := pst st [.cells .plain (gcs n v)] K') hu
      obtain ⟨t8, n8, tk8, nn8, rfl⟩ := acc_len hu
      rw [e0] at hL
      generalize qF (w - sumI (pre (leC cells n) n n)) (sumI (pre (moC cells n) n n) - sumI (pre (leC cells n) n n)) (leC cells n) (moC cells n) = q at *
      have hne : (pre q n n).map iD ≠ [] := by intro e; have := congrArg List.length e; simp at this; omega
      have hnn : nn9 = true := by cases nn9 with | true => rfl | false => exact absurd (g2 rfl) hne
      have hn9 := g3 hnn
      subst hnn; subst hn9
      refine ⟨t9, tk9, ?_⟩
      simp [gcs] at hL e9
      simp [f611, gcs, hsc, hK, hC, hSm, hSl, hg1, hg2, h1, h2, hL, e9]
theorem bad608 {c : Int} {cells : List (List UInt8)} (hl : cells.length ≤ 140737488355328) {v : DV} (hv : Txs st cells v) (hg : gridOk c cells = false) :
    (E tab).F 608 [.agg (gcs c v)] st = some (.tuple [.list 0 0 .no false [], .int .i64 2], st) ∧ (E tab).F 610 [.agg (gcs c v)] st = some (.tuple [.list 0 0 .no false [], .int .i64 2], st) ∧ ∀ w, (E tab).F 611 [.agg (gcs c v), .int .i64 w] st = some (.tuple [.list 0 0 .no false [], .bool false, .int .i64 2], st) := by
  have hK := fun H K => check612 c cells hl (hv.inn H K)
  rw [hg] at hK
  have hsc := txs_scal hv
  simp [gcs] at hK
  refine ⟨?_, ?_, fun w => ?_⟩
  · rw [F_run at608 rfl]; simp [f608, gcs, hsc, hK]
  · rw [F_run at610 rfl]; simp [f610, gcs, hsc, hK]
  · rw [F_run at611 rfl]; simp [f611, gcs, hsc, hK]
theorem bad611 {n : Nat} {cells : List (List UInt8)} {v : DV} (hv : Txs st cells v) (hg : gridOk n cells = true) (w : Int) (hw : ¬ (0 ≤ w ∧ w ≤ 4095)) : (E tab).F 611 [.agg (gcs n v), .int .i64 w] st = some (.tuple [.list 0 0 .no false [], .bool false, .int .i64 5], st) := by
  obtain ⟨n', e, hn1, hn2, hc⟩ := grid_n hg
  have hK := fun H K => check612 n cells (by omega) (hv.inn H K)
  rw [hg] at hK
  have hsc := txs_scal hv
  simp [gcs] at hK
  rw [F_run at611 rfl]
  by_cases h1 : w < 0
  · simp [f611, gcs, hsc, hK, h1]
  · have h2 : 4095 < w := by omega
    simp [f611, gcs, hsc, hK, h1, h2]
theorem ref608 {n : Nat} {cells : List (List UInt8)} {v : DV} (hv : Txs st cells v) (hg : gridOk n cells = true) : ∃ t, (E tab).F 608 [.agg (gcs n v)] st = some (.tuple [.list t 1 .tight true ((pre (leC cells n) n n).map iD), .int .i64 0], st) := by
  obtain ⟨n', e, hn1, hn2, hc⟩ := grid_n hg
  have hK := fun H K => check612 n cells (by omega) (hv.inn H K)
  rw [hg] at hK
  have hsc := txs_scal hv
  have hC := fun H K => columns619 (st := pst st H K) hg (hv.inn H K)
  simp only [gcs] at hC hK
  simp at hK
  refine ⟨st.cur, ?_⟩
  rw [F_run at608 rfl]
  simp [f608, gcs, hsc, hK, hC]
theorem ref610 {n : Nat} {cells : List (List UInt8)} {v : DV} (hv : Txs st cells v) (hg : gridOk n cells = true) : ∃ t, (E tab).F 610 [.agg (gcs n v)] st = some (.tuple [.list t 1 .tight true ((pre (moC cells n) n n).map iD), .int .i64 0], st) := by
  obtain ⟨n', e, hn1, hn2, hc⟩ := grid_n hg
  have hK := fun H K => check612 n cells (by omega) (hv.inn H K)
  rw [hg] at hK
  have hsc := txs_scal hv
  have hC := fun H K => columns619 (st := pst st H K) hg (hv.inn H K)
  simp only [gcs] at hC hK
  simp at hK
  refine ⟨st.cur, ?_⟩
  rw [F_run at610 rfl]
  simp [f610, gcs, hsc, hK, hC]
end

theorem melt_fin {T : Tab} {g : Nat} {f : RFunc} (h : T g = some (.code f)) (hp : f.pureF = true) {ag : Bool} {args : List DV} {st : St} {v : DV} {st2 : St} (hf : finS f.results ((E T).C f.body (frame0 args 0) (pst st [] [])) = some (v, st2)) : meltP T g ag args st = meltT ag st st2 v := by
  unfold meltP
  rw [h]
  simp only [hp, if_true, enter_pst]
  rcases hC : (E T).C f.body (frame0 args 0) (pst st [] []) with _ | ⟨e, fr, st'⟩
  · rw [hC] at hf; cases hf
  · rw [hC] at hf
    cases e with
    | exit n => cases hf
    | ret => simp only [finS, Option.map_eq_some_iff, Prod.mk.injEq] at hf; obtain ⟨a, h1, rfl, rfl⟩ := hf; simp only [h1]
    | normal => simp only [finS, Option.map_eq_some_iff, Prod.mk.injEq] at hf; obtain ⟨a, h1, rfl, rfl⟩ := hf; simp only [h1]
theorem fin_finS (st : St) (rs : List RRes) (x : Option (Ex × Fr × St)) {v : DV} {st2 : St} (h : finS rs x = some (v, st2)) : fin st rs x = (exportT st st2 v).map fun v' => (v', st) := by
  rcases x with _ | ⟨e, fr, st'⟩
  · cases h
  · cases e with
    | exit n => cases h
    | ret => simp only [finS, Option.map_eq_some_iff, Prod.mk.injEq] at h; obtain ⟨a, h1, rfl, rfl⟩ := h; simp only [fin, h1]
    | normal => simp only [finS, Option.map_eq_some_iff, Prod.mk.injEq] at h; obtain ⟨a, h1, rfl, rfl⟩ := h; simp only [fin, h1]
theorem F_primT {T : Tab} {g : Nat} {p : List DV → St → Option (DV × St)} {args : List DV} {st : St} (h : T g = some (.prim p)) : (E T).F g args st = p args st := by
  rw [EF]
  simp only [callFR, h]
theorem at607 : tab 607 = some (.code f607) := by kernel_rfl
theorem at609 : tab 609 = some (.code f609) := by kernel_rfl
theorem at614 : tab 614 = some (.code f614) := by kernel_rfl
def thawn : List (Nat × Nat × Bool) := [(100430, 430, false), (100609, 609, false)]
theorem thaw_new : ∀ x ∈ thawn, tab x.1 = none := by
  intro x hx
  simp only [thawn, List.mem_cons, List.not_mem_nil, or_false] at hx
  rcases hx with rfl | rfl <;> kernel_rfl
noncomputable def ltab : Tab := withMelt tab thawn
theorem thaw_ext : TabExt tab ltab := withMelt_ext thawn thaw_new
theorem lat430 : ltab 100430 = some (.prim (meltP tab 430 false)) := rfl
theorem lat609 : ltab 100609 = some (.prim (meltP tab 609 false)) := rfl

/-! What the functions tell, of any table -/
def chE (c : Int) (cells : List (List UInt8)) : Int := if gridOk c cells then 0 else 2
def leL (c : Int) (cells : List (List UInt8)) : List Int := if gridOk c cells then pre (leC cells c.toNat) c.toNat c.toNat else []
def moL (c : Int) (cells : List (List UInt8)) : List Int := if gridOk c cells then pre (moC cells c.toNat) c.toNat c.toNat else []
def wiL (c : Int) (cells : List (List UInt8)) (w : Int) : List Int := if wiE c cells w = 0 then (gridW cells c.toNat w).1 else []
def wiT (c : Int) (cells : List (List UInt8)) (w : Int) : Bool := if wiE c cells w = 0 then (gridW cells c.toNat w).2 else false
/-- A list that was just made, its caller's own: where, and the row that it brought. -/
def Own (st : St) (k : Nat) (l : List Int) (v : DV) (X : List HO) : Prop :=
  (l = [] ∧ v = .list 0 0 .no false [] ∧ X = []) ∨ (v = .hsl 1 false (st.heap.length + k) 0 l.length (some l.length) ∧ X = [.cells .plain (l.map iD)])
section
variable {st : St} {c : Int} {cells : List (List UInt8)} {v : DV} {w : Int}
theorem nilL {l : List Int} (h : l = []) : Lw 1 (l.map iD) (.list 0 0 .no false []) := by subst h; exact .list _ _ _ _ (fun h => by cases h) (fun _ => rfl)
theorem tightL (l : List Int) (t : Nat) (tk : Tk) : Lw 1 (l.map iD) (.list t 1 tk true (l.map iD)) := .list _ _ _ _ (fun _ => rfl) (fun h => by cases h)
theorem case_n (h : gridOk c cells = true) : ∃ n : Nat, c = n ∧ gridOk n cells = true := by
  obtain ⟨n, e, _⟩ := grid_n h
  exact ⟨n, e, by rw [← e]; exact h⟩
theorem u453 (hl : cells.length ≤ 140737488355328) (hv : Txs st cells v) : (E tab).F 453 [.agg (gcs c v)] st = some (.int .i64 (chE c cells), st) := check453 c cells hl hv
theorem u612 (hl : cells.length ≤ 140737488355328) (hv : Txs st cells v) : (E tab).F 612 [.agg (gcs c v)] st = some (.int .i64 (chE c cells), st) := check612 c cells hl hv
theorem u608 (hl : cells.length ≤ 140737488355328) (hv : Txs st cells v) : ∃ v', (E tab).F 608 [.agg (gcs c v)] st = some (.tuple [v', .int .i64 (chE c cells)], st) ∧ Lw 1 ((leL c cells).map iD) v' := by
  cases hg : gridOk c cells with
  | false => exact ⟨_, by rw [(bad608 hl hv hg).1]; simp [chE, hg], nilL (by simp [leL, hg])⟩
  | true =>
    obtain ⟨n, rfl, hg2⟩ := case_n hg
    obtain ⟨t, h⟩ := ref608 hv hg2
    exact ⟨.list t 1 .tight true ((pre (leC cells n) n n).map iD), by rw [h]; simp [chE, hg], by simp only [leL, hg, if_true, Int.toNat_natCast]; exact tightL _ _ _⟩
theorem u610 (hl : cells.length ≤ 140737488355328) (hv : Txs st cells v) : ∃ v', (E tab).F 610 [.agg (gcs c v)] st = some (.tuple [v', .int .i64 (chE c cells)], st) ∧ Lw 1 ((moL c cells).map iD) v' := by
  cases hg : gridOk c cells with
  | false => exact ⟨_, by rw [(bad608 hl hv hg).2.1]; simp [chE, hg], nilL (by simp [moL, hg])⟩
  | true =>
    obtain ⟨n, rfl, hg2⟩ := case_n hg
    obtain ⟨t, h⟩ := ref610 hv hg2
    exact ⟨.list t 1 .tight true ((pre (moC cells n) n n).map iD), by rw [h]; simp [chE, hg], by simp only [moL, hg, if_true, Int.toNat_natCast]; exact tightL _ _ _⟩
theorem u611 (hl : cells.length ≤ 140737488355328) (hv : Txs st cells v) : ∃ v', (E tab).F 611 [.agg (gcs c v), .int .i64 w] st = some (.tuple [v', .bool (wiT c cells w), .int .i64 (wiE c cells w)], st) ∧ Lw 1 ((wiL c cells w).map iD) v' := by
  cases hg : gridOk c cells with
  | false => exact ⟨_, by rw [(bad608 hl hv hg).2.2]; simp [wiT, wiE, hg], nilL (by simp [wiL, wiE, hg])⟩
  | true =>
    obtain ⟨n, rfl, hg2⟩ := case_n hg
    by_cases hw : 0 ≤ w ∧ w ≤ 4095
    · obtain ⟨t, tk, h⟩ := widths611 n cells hg2 hv w hw
      exact ⟨.list t 1 tk true ((gridW cells n w).1.map iD), by rw [h]; simp [wiT, wiE, hg, hw], by simp only [wiL, wiE, hg, hw, and_self, if_true, Int.toNat_natCast]; exact tightL _ _ _⟩
    · exact ⟨_, by rw [bad611 hv hg2 w hw]; simp [wiT, wiE, hg, hw], nilL (by simp [wiL, wiE, hg, hw])⟩
theorem r607 (hl : cells.length ≤ 140737488355328) (hv : Txs st cells v) : ∃ v', (E tab).F 607 [.agg (gcs c v)] st = some (.tuple [v', .int .i64 (chE c cells)], st) ∧ Lw 1 ((leL c cells).map iD) v' := by
  have hsc := txs_scal hv
  have hK := fun H K => check453 c cells hl (hv.inn H K)
  cases hg : gridOk c cells with
  | false =>
    rw [hg] at hK
    simp [gcs] at hK
    refine ⟨.list 0 0 .no false [], ?_, nilL (by simp [leL, hg])⟩
    rw [F_run at607 rfl]
    simp [f607, gcs, hsc, hK, chE, hg]
  | true =>
    rw [hg] at hK
    obtain ⟨n, e, hn1, hn2, hc⟩ := grid_n hg
    subst e
    obtain ⟨x1, x4, x5, x6, x7, K', hB⟩ := both454 (st := st) (x0 := .cells .plain (gcs n v)) hc ⟨hn1, hn2⟩ hv
    have x1' := ex_row (st := st) (K := K') (k := 2) (H := [.cells .plain (gcs n v), x1, .cells .plain ((pre (leC cells n) n n).map iD), .cells .plain ((pre (moC cells n) n n).map iD), x4, x5, x6, x7]) (cap := some n) (ys := (pre (leC cells n) n n).map iD) (by rw [flat_scal _ (el_iD _)]; rfl) (by omega) (.inr rfl) (el_iD _)
    simp only [List.length_map, pre_len, if_true] at x1'
    refine ⟨.list st.cur 1 .tight true ((pre (leC cells n) n n).map iD), ?_, by simp only [leL, hg, if_true, Int.toNat_natCast]; exact tightL _ _ _⟩
    simp [gcs] at hK hB x1'
    rw [F_run at607 rfl]
    simp [f607, gcs, hsc, hK, hB, chE, hg, x1']
theorem meltT_nil {st2 : St} {r : List DV} (h : r.all DV.bareLeaf = true) : meltT false st st2 (.tuple (.list 0 0 .no false [] :: r)) = some (.tuple (.list 0 0 .no false [] :: r), st) := by
  simp only [meltT, h, if_true, meltV]
  rfl
theorem bare_iD (l : List Int) : (l.map iD).all DV.bareLeaf = true := by
  rw [List.all_map]; exact List.all_eq_true.2 fun _ _ => rfl
theorem meltT_row {H : List HO} {K : List Nat} {k n : Nat} {l : List Int} (hr : rowAt H k = some (.plain, l.map iD)) (hn : n = l.length) {r : List DV} (h : r.all DV.bareLeaf = true) :
    meltT false st (pst st H K) (.tuple (.hsl 1 false (st.heap.length + k) 0 n (some n) :: r)) = some (.tuple (.hsl 1 false st.heap.length 0 l.length (some l.length) :: r), st.push (.cells .plain (l.map iD))) := by
  subst hn
  have h1 : meltV false st (pst st H K) (.hsl 1 false (st.heap.length + k) 0 l.length (some l.length)) = some (.hsl 1 false st.heap.length 0 l.length (some l.length), st.push (.cells .plain (l.map iD))) := by
    simp only [meltV, pst_cellsAt hr, bare_iD, true_and, List.length_map, Nat.mul_one, Nat.le_refl]
    rw [if_pos (Nat.le_add_right _ _)]
  simp only [meltT, h, if_true, h1]
  rfl
theorem m609 (hl : cells.length ≤ 140737488355328) {H : List HO} {K : List Nat} (hv : Txs (pst st H K) cells v) : ∃ v' X, (E ltab).F 100609 [.agg (gcs c v)] (pst st H K) = some (.tuple [v', .int .i64 (chE c cells)], pst st (H ++ X) K) ∧ Own st H.length (moL c cells) v' X := by
  have hsc := txs_scal hv
  have hK := fun H' K' => check453 c cells hl (hv.inn H' K')
  rw [F_primT lat609]
  cases hg : gridOk c cells with
  | false =>
    rw [hg] at hK
    simp [gcs] at hK
    refine ⟨.list 0 0 .no false [], [], ?_, .inl ⟨by simp [moL, hg], rfl, rfl⟩⟩
    have hr : finS f609.results ((E tab).C f609.body (frame0 [.agg (gcs c v)] 0) (pst (pst st H K) [] [])) = some (.tuple [.list 0 0 .no false [], .int .i64 2], pst (pst st H K) [.cells .plain (gcs c v)] []) := by
      generalize pst st H K = S at *
      simp [f609, gcs, hsc, hK]
    rw [melt_fin at609 rfl hr, meltT_nil rfl]
    simp [chE, hg]
  | true =>
    rw [hg] at hK
    obtain ⟨n, e, hn1, hn2, hc⟩ := grid_n hg
    subst e
    obtain ⟨x1, x4, x5, x6, x7, K', hB⟩ := both454 (st := pst st H K) (x0 := .cells .plain (gcs n v)) hc ⟨hn1, hn2⟩ hv
    have hr : finS f609.results ((E tab).C f609.body (frame0 [.agg (gcs n v)] 0) (pst (pst st H K) [] [])) = some (.tuple [.hsl 1 false ((pst st H K).heap.length + 3) 0 n (some n), .int .i64 0], pst (pst st H K) [.cells .plain (gcs n v), x1, .cells .plain ((pre (leC cells n) n n).map iD), .cells .plain ((pre (moC cells n) n n).map iD), x4, x5, x6, x7] K') := by
      generalize pst st H K = S at *
      simp [gcs] at hK hB
      simp [f609, gcs, hsc, hK, hB]
    refine ⟨.hsl 1 false (st.heap.length + H.length) 0 n (some n), [.cells .plain ((pre (moC cells n) n n).map iD)], ?_, .inr ⟨by simp [moL, hg], by simp [moL, hg]⟩⟩
    rw [melt_fin at609 rfl hr, meltT_row (k := 3) (l := pre (moC cells n) n n) rfl (by simp) rfl]
    rw [pst_push]
    simp [chE, hg]
theorem bad430 (hl : cells.length ≤ 140737488355328) (hv : Txs st cells v) (h : wiE c cells w ≠ 0) : ∃ H K, finS f430.results ((E tab).C f430.body (frame0 [.agg (gcs c v), .int .i64 w] 0) (pst st [] [])) = some (.tuple [.list 0 0 .no false [], .bool false, .int .i64 (wiE c cells w)], pst st H K) := by
  have hsc := txs_scal hv
  have hK := fun H' K' => check453 c cells hl (hv.inn H' K')
  refine ⟨[.cells .plain (gcs c v)], [], ?_⟩
  cases hg : gridOk c cells with
  | false =>
    rw [hg] at hK
    simp [gcs] at hK
    simp [f430, gcs, hsc, hK, wiE, hg]
  | true =>
    rw [hg] at hK
    simp [gcs] at hK
    by_cases h1 : w < 0
    · have h3 : ¬ (0 ≤ w ∧ w ≤ 4095) := by omega
      simp [f430, gcs, hsc, hK, wiE, hg, h1, h3]
    · have h2 : 4095 < w := by
        apply Classical.byContradiction
        intro h4
        exact h (by simp [wiE, hg, show 0 ≤ w ∧ w ≤ 4095 by omega])
      have h3 : ¬ (0 ≤ w ∧ w ≤ 4095) := by omega
      simp [f430, gcs, hsc, hK, wiE, hg, h1, h2, h3]
theorem wiE_zero (h : wiE c cells w = 0) : gridOk c cells = true ∧ 0 ≤ w ∧ w ≤ 4095 := by
  unfold wiE at h
  split at h
  · rename_i h1
    split at h
    · rename_i h2; exact ⟨h1, h2⟩
    · omega
  · omega
theorem m430 (hl : cells.length ≤ 140737488355328) {H : List HO} {K : List Nat} (hv : Txs (pst st H K) cells v) : ∃ v' X, (E ltab).F 100430 [.agg (gcs c v), .int .i64 w] (pst st H K) = some (.tuple [v', .bool (wiT c cells w), .int .i64 (wiE c cells w)], pst st (H ++ X) K) ∧ Own st H.length (wiL c cells w) v' X := by
  rw [F_primT lat430]
  by_cases h : wiE c cells w = 0
  · obtain ⟨hg, hw⟩ := wiE_zero h
    obtain ⟨n, rfl, hg2⟩ := case_n hg
    obtain ⟨k, H', K', hr, hrow, hlen⟩ := widths430r n cells hg2 hv w hw
    have e1 : wiL (n : Int) cells w = (gridW cells n w).1 := by simp [wiL, h]
    have e2 : wiT (n : Int) cells w = (gridW cells n w).2 := by simp [wiT, h]
    refine ⟨.hsl 1 false (st.heap.length + H.length) 0 (gridW cells n w).1.length (some (gridW cells n w).1.length), [.cells .plain ((gridW cells n w).1.map iD)], ?_, .inr ⟨by rw [e1], by rw [e1]⟩⟩
    rw [melt_fin at430 rfl hr, meltT_row hrow hlen.symm rfl, e2, h, pst_push]
    simp
  · obtain ⟨H', K', hr⟩ := bad430 (w := w) hl hv h
    refine ⟨.list 0 0 .no false [], [], ?_, .inl ⟨by simp [wiL, h], rfl, rfl⟩⟩
    rw [melt_fin at430 rfl hr, meltT_nil rfl]
    simp [wiT, h]
theorem u430 (hl : cells.length ≤ 140737488355328) (hv : Txs st cells v) : ∃ v', (E tab).F 430 [.agg (gcs c v), .int .i64 w] st = some (.tuple [v', .bool (wiT c cells w), .int .i64 (wiE c cells w)], st) ∧ Lw 1 ((wiL c cells w).map iD) v' := by
  by_cases h : wiE c cells w = 0
  · obtain ⟨hg, hw⟩ := wiE_zero h
    obtain ⟨n, rfl, hg2⟩ := case_n hg
    obtain ⟨hn, hn1, hn2, hc⟩ := grid_n hg2
    obtain ⟨k, H', K', hr, hrow, hlen⟩ := widths430r n cells hg2 hv w hw
    have e1 : wiL (n : Int) cells w = (gridW cells n w).1 := by simp [wiL, h]
    have e2 : wiT (n : Int) cells w = (gridW cells n w).2 := by simp [wiT, h]
    have x1 := ex_row (st := st) (K := K') (k := k) (H := H') (cap := some n) (ys := (gridW cells n w).1.map iD) (by rw [flat_scal _ (el_iD _)]; exact hrow) (by omega) (.inr rfl) (el_iD _)
    rw [List.length_map, hlen, if_pos rfl] at x1
    refine ⟨.list st.cur 1 .tight true ((gridW cells n w).1.map iD), ?_, by rw [e1]; exact tightL _ _ _⟩
    rw [F_run at430 rfl, fin_finS _ _ _ hr, e2, h]
    simp [x1]
  · obtain ⟨H', K', hr⟩ := bad430 (w := w) hl hv h
    refine ⟨.list 0 0 .no false [], ?_, nilL (by simp [wiL, h])⟩
    rw [F_run at430 rfl, fin_finS _ _ _ hr]
    simp [wiT, h]
theorem Own.view {k : Nat} {l : List Int} {v : DV} {X : List HO} {H : List HO} (h : Own st k l v X) (hk : k = H.length) (Y : List HO) (K : List Nat) : Ints (pst st (H ++ (X ++ Y)) K) l v := by
  rcases h with ⟨rfl, rfl, rfl⟩ | ⟨rfl, rfl⟩
  · exact .list _ _ _ _ (fun h => by cases h) (fun _ => rfl)
  · exact ints_row (by rw [hk]; exact rowAt_app _ _ _ _) rfl
end

/-! Two paragraphs are alike -/
theorem at15 : tab 15 = some (.code f15) := by kernel_rfl
theorem at49 : tab 49 = some (.code f49) := by kernel_rfl
theorem L49_0 (l : List Span) (hl : (l.length : Int) ≤ 9223372036854775806) (w u : LW) (hw : l ≠ [] → w.n = 4) (hu : l ≠ [] → u.n = 4) (st : St) : ∀ (r d : List Span), l = d ++ r →
    (E tab).C f49L0 [(0, .list w.t w.n w.tk w.nn (l.map Span.dv)), (1, .list u.t u.n u.tk u.nn (l.map Span.dv)), (5, .int .i64 d.length)] st =
      some (.exit 0, [(0, .list w.t w.n w.tk w.nn (l.map Span.dv)), (1, .list u.t u.n u.tk u.nn (l.map Span.dv)), (5, .int .i64 l.length), (14, .bool false)], st) := by
  intro r
  induction r with
  | nil =>
    intro d hd
    rw [C_turn (L := f49L0) rfl]
    simp [f49B0, hd]
  | cons m r ih =>
    intro d hd
    have w4 := hw (by simp [hd])
    have u4 := hu (by simp [hd])
    have h0 : d.length < l.length := by simp [hd]
    have hw : IntKind.i64.wrap ((d.length : Int) + 1) = ((d ++ [m]).length : Nat) := by rw [i64w (by omega)]; simp
    have hg : l[d.length] = m := by simp [hd]
    rw [C_turn (L := f49L0) rfl]
    have hJ := ih (d ++ [m]) (by simp [hd])
    simp [w4, u4] at hJ ⊢
    simp [f49B0, h0, hg, hw, Span.cs, eqD, leavesEq, scalEq, hJ]

theorem same49 (l : List Span) (hl : (l.length : Int) ≤ 9223372036854775806) (w u : LW) (hw : l ≠ [] → w.n = 4) (hu : l ≠ [] → u.n = 4) (st : St) :
    (E tab).F 49 [.list w.t w.n w.tk w.nn (l.map Span.dv), .list u.t u.n u.tk u.nn (l.map Span.dv)] st = some (.bool true, st) := by
  rw [F_run at49 rfl]
  have h := L49_0 l hl w u hw hu (pst st [] []) l [] rfl
  simp at h
  simp [f49, h]

theorem L50p_0 (l : List (List UInt8)) (hl : (l.length : Int) ≤ 9223372036854775806) (w u : LW) (hw : l ≠ [] → w.n = 1) (hu : l ≠ [] → u.n = 1) (st : St) : ∀ (r d : List (List UInt8)), l = d ++ r →
    (E tab).C f50L0 [(0, .list w.t w.n w.tk w.nn (l.map .str)), (1, .list u.t u.n u.tk u.nn (l.map .str)), (5, .int .i64 d.length)] st =
      some (.exit 0, [(0, .list w.t w.n w.tk w.nn (l.map .str)), (1, .list u.t u.n u.tk u.nn (l.map .str)), (5, .int .i64 l.length), (14, .bool false)], st) := by
  intro r
  induction r with
  | nil =>
    intro d hd
    rw [C_turn (L := f50L0) rfl]
    simp [f50B0, hd]
  | cons m r ih =>
    intro d hd
    have w4 := hw (by simp [hd])
    have u4 := hu (by simp [hd])
    have h0 : d.length < l.length := by simp [hd]
    have hw : IntKind.i64.wrap ((d.length : Int) + 1) = ((d ++ [m]).length : Nat) := by rw [i64w (by omega)]; simp
    have hg : l[d.length] = m := by simp [hd]
    rw [C_turn (L := f50L0) rfl]
    have hJ := ih (d ++ [m]) (by simp [hd])
    simp [w4, u4] at hJ ⊢
    simp [f50B0, h0, hg, hw, eqD, leavesEq, scalEq, hJ]

theorem same50p (l : List (List UInt8)) (hl : (l.length : Int) ≤ 9223372036854775806) (w u : LW) (hw : l ≠ [] → w.n = 1) (hu : l ≠ [] → u.n = 1) (st : St) :
    (E tab).F 50 [.list w.t w.n w.tk w.nn (l.map .str), .list u.t u.n u.tk u.nn (l.map .str)] st = some (.bool true, st) := by
  rw [F_run at50 rfl]
  have h := L50p_0 l hl w u hw hu (pst st [] []) l [] rfl
  simp at h
  simp [f50, h]

theorem propsEq (c : Props) : leavesEq [.int, .int, .int, .int, .int, .int, .int, .int, .int, .int, .int, .int, .int, .int, .int, .int, .int] c.cs c.cs = some true := by
  simp [Props.cs, leavesEq, scalEq]

theorem same15 (p : Para) (w u w' u' : LW) (hw : w.ok 4 p.spans) (hu : u.ok 1 p.marks) (hw' : w'.ok 4 p.spans) (hu' : u'.ok 1 p.marks) (h1 : p.spans.length ≤ 5000) (h2 : p.marks.length ≤ 5000) (st : St) :
    (E tab).F 15 [.agg (paraCs p w u), .agg (paraCs p w' u')] st = some (.bool true, st) := by
  rw [F_run at15 rfl]
  have h49 := fun st => same49 p.spans (by omega) w w' hw.n hw'.n st
  have h50 := fun st => same50p p.marks (by omega) u u' hu.n hu'.n st
  simp [f15, h49, h50, eqD, propsEq]

theorem at187 : tab 187 = some (.code f187) := by kernel_rfl
theorem at606 : tab 606 = some (.code f606) := by kernel_rfl
theorem at603 : tab 603 = some (.code f603) := by kernel_rfl
theorem lat603 : ltab 603 = some (.code f603) := by
  refine (withMelt_none fun x hx => ?_).trans at603
  simp only [thawn, List.mem_cons, List.not_mem_nil, or_false] at hx
  rcases hx with rfl | rfl <;> decide
section
variable {st : St} {H : List HO} {K : List Nat}
theorem set_back {k : Nat} {xs : List Int} (hr : rowAt H k = some (.plain, xs.map iD)) : H.set k (.cells .plain (xs.map iD)) = H := by
  have hk := rowAt_lt hr
  apply List.ext_getElem?
  intro j
  by_cases hj : j = k
  · subst hj
    rw [List.getElem?_set_self hk]
    unfold rowAt at hr
    split at hr
    · rename_i e; simp only [Option.some.injEq, Prod.mk.injEq] at hr; rw [e, hr.1, hr.2]
    · cases hr
  · rw [List.getElem?_set_ne (fun e => hj e.symm)]
theorem L614_0 {k n : Nat} (hn : n ≤ 1000000) : ∀ (m i : Nat) (xs : List Int) (H : List HO), i + m = n → xs.length = n → rowAt H k = some (.plain, xs.map iD) →
    ∃ (xs' : List Int) (fr : Fr), (E tab).C f614L0 [(2, .hsl 1 false (st.heap.length + k) 0 n (some n)), (3, .int .i64 i)] (pst st H K) = some (.exit 0, fr, pst st (H.set k (.cells .plain (xs'.map iD))) K) := by
  intro m
  induction m with
  | zero =>
    intro i xs H hi hx hr
    obtain rfl : i = n := by omega
    refine ⟨xs, [(2, .hsl 1 false (st.heap.length + k) 0 i (some i)), (3, .int .i64 i), (11, .bool false)], ?_⟩
    rw [set_back hr, C_turn (L := f614L0) rfl]
    simp [f614B0]
  | succ m ih =>
    intro i xs H hi hx hr
    have hin : i < n := by omega
    obtain ⟨x, hxi⟩ : ∃ x, xs[i]? = some x := ⟨xs[i], List.getElem?_eq_getElem (by omega)⟩
    have hk := rowAt_lt hr
    have hw1 : IntKind.i64.wrap ((i : Int) + 1) = ((i + 1 : Nat) : Int) := by rw [i64w (by omega)]; simp
    have hvi : (xs.map iD)[i]? = some (.int .i64 x) := by simp [hxi, iD]
    obtain ⟨z, hz⟩ : ∃ z, binD .xor (.int .i64 x) (.int .i64 1) = some (.int .i64 z) := ⟨_, rfl⟩
    have hsp : splice (xs.map iD) i [.int .i64 z] = (xs.set i z).map iD := by rw [splice_one (by simp; omega), List.map_set]; rfl
    have hle : i + 1 ≤ (xs.map iD).length := by simp; omega
    obtain ⟨xs', fr, hJ⟩ := ih (i + 1) (xs.set i z) (H.set k (.cells .plain ((xs.set i z).map iD))) (by omega) (by simpa using hx) (rowAt_set hk _ _)
    refine ⟨xs', fr, ?_⟩
    rw [List.set_set] at hJ
    generalize xs'.map iD = W at *
    generalize (xs.set i z).map iD = W1 at *
    generalize xs.map iD = VX at *
    simp only [splice] at hsp
    simp at hJ hsp
    rw [C_turn (L := f614L0) rfl]
    simp [f614B0, hin, hr, hvi, hle, hz, hsp, hw1, hJ]
theorem Own.over {k : Nat} {l : List Int} {v : DV} {X : List HO} (h : Own st k l v X) (hk : k = H.length) (hl : l.length ≤ 64) (Y : List HO) :
    ∃ X', (E tab).F 614 [v] (pst st (H ++ (X ++ Y)) K) = some (.tuple [], pst st (H ++ (X' ++ Y)) K) ∧ X'.length = X.length := by
  rcases h with ⟨rfl, rfl, rfl⟩ | ⟨rfl, rfl⟩
  · refine ⟨[], ?_, rfl⟩
    have hL : ∀ t n tk S, (E tab).C f614L0 [(2, .list t n tk false []), (3, .int .i64 0)] S = some (.exit 0, [(2, .list t n tk false []), (3, .int .i64 0), (11, .bool false)], S) := fun t n tk S => by
      rw [C_turn (L := f614L0) rfl]
      simp [f614B0]
    obtain ⟨t, n, tk, hs⟩ : ∃ t n tk, sliceD false 1 (.list 0 0 .no false []) none (some (.int .i64 0)) none = some (.list t n tk false []) := ⟨_, _, _, rfl⟩
    rw [F_go at614 rfl]
    simp [f614, hs, hL]
  · subst hk
    obtain ⟨xs', fr, hL⟩ := L614_0 (st := st) (K := K) (k := H.length) (n := l.length) (by omega) l.length 0 l (H ++ ([.cells .plain (l.map iD)] ++ Y)) (by omega) rfl (rowAt_app _ _ _ _)
    refine ⟨[.cells .plain (xs'.map iD)], ?_, rfl⟩
    have hset : (H ++ ([HO.cells .plain (l.map iD)] ++ Y)).set H.length (.cells .plain (xs'.map iD)) = H ++ ([.cells .plain (xs'.map iD)] ++ Y) := by simp
    rw [hset] at hL
    have hsl := slice_hu (n := 1) (b := st.heap.length + H.length) (off := 0) (len := l.length) (c := l.length) (hi := l.length) (ag := false) (k := .i64) (Nat.le_refl _)
    rw [F_go at614 rfl]
    simp at hL hsl
    simp [f614, hsl, hL]
theorem L187_0 {v u : DV} {l : List Int} (hv : Ints st l v) (hu : Ints st l u) (hl : l.length ≤ 1000000) (H : List HO) (K : List Nat) : ∀ (r d : List Int), l = d ++ r →
    ∃ fr, (E tab).C f187L0 [(0, v), (1, u), (5, .int .i64 d.length)] (pst st H K) = some (.exit 0, fr, pst st H K) := by
  have e0 := fun st' => ints_len hv st'
  intro r
  induction r with
  | nil =>
    intro d hd
    refine ⟨[(0, v), (1, u), (5, .int .i64 l.length), (14, .bool false)], ?_⟩
    rw [C_turn (L := f187L0) rfl]
    simp [f187B0, e0, hd]
  | cons x r ih =>
    intro d hd
    have h0 : d.length < l.length := by simp [hd]
    have hx : l[d.length]? = some x := by simp [hd]
    have hw1 : IntKind.i64.wrap ((d.length : Int) + 1) = ((d ++ [x]).length : Nat) := by rw [i64w (by omega)]; simp
    have e1 := fun st' => ints_at hv h0 .i64 st'
    have e2 := ints_load hv hx H K
    have e3 := fun st' => ints_at hu h0 .i64 st'
    have e4 := ints_load hu hx H K
    obtain ⟨fr, hJ⟩ := ih (d ++ [x]) (by simp [hd])
    refine ⟨fr, ?_⟩
    simp only [List.length_append, List.length_singleton] at hJ hw1
    simp at hJ
    rw [C_turn (L := f187L0) rfl]
    simp [f187B0, e0, h0, e1, e2, e3, e4, hw1, hJ]
theorem same187 {v u : DV} {l : List Int} (hv : Ints st l v) (hu : Ints st l u) (hl : l.length ≤ 1000000) : (E tab).F 187 [v, u] st = some (.bool true, st) := by
  rw [F_run at187 rfl]
  have e0 := fun st' => ints_len hv st'
  have e1 := fun st' => ints_len hu st'
  obtain ⟨fr, hL⟩ := L187_0 hv hu hl [] [] l [] rfl
  simp at hL
  simp [f187, e0, e1, hL]
/-- The table that is lent. -/
theorem lent606 {c : Int} {l : List (List UInt8)} {v : DV} (hv : Txs (pst st H K) l v) (hl : l.length ≤ 1000000) : (E tab).F 606 [.agg (gcs c v)] (pst st H K) =
    some (.agg (gcs c (.hsl 1 false (st.heap.length + (H.length + 2)) 0 l.length (some (l.length + 3)))), pst st (H ++ [.cells .plain (gcs c v), .cells .plain (gcs c (.hsl 1 false (st.heap.length + (H.length + 2)) 0 l.length (some (l.length + 3)))), .cells .plain ((lentT l).map DV.str)]) K) := by
  have hsc := txs_scal hv
  have h2 := lent182 (H := H ++ [.cells .plain (gcs c v), .cells .plain [.int .i64 0, .list 0 0 .no false []]]) (K := K) (hv.app _ K) hl
  rw [F_go at606 rfl]
  generalize (lentT l).map DV.str = LT at *
  simp [gcs] at h2
  simp [f606, gcs, hsc, C_dregionN, S_cons, A_cons, K_cons, loudD, pure182, h2]
end

def shGrid : List Sh := [.int .i64, .list false 16 [.str]]
theorem fit_grid {vs : List DV} (h : Fits shGrid vs) : ∃ (c : Int) (cells : List (List UInt8)) (t : Nat) (tk : Tk) (nn : Bool), vs = gcs c (.list t 1 tk nn (cells.map .str)) ∧ (nn = false → cells = []) ∧ cells.length ≤ 140737488355328 ∧ ∀ s ∈ cells, s.length ≤ reachBytes := by
  obtain ⟨_, _, rfl, ⟨c, rfl, _⟩, _, _, rfl, ⟨nn, xs, rfl, hnn, _, hlen, hxs⟩, rfl⟩ := h
  obtain ⟨l, rfl, hm⟩ : ∃ l : List (List UInt8), xs = l.map .str ∧ ∀ m ∈ l, m.length ≤ reachBytes := list_of2 fun x hx => by
    obtain ⟨vs, h1, rfl⟩ := hxs x hx
    obtain ⟨_, _, rfl, ⟨m, rfl, hm⟩, rfl⟩ := h1
    exact ⟨m, rfl, hm⟩
  refine ⟨c, l, 0, .no, nn, rfl, fun e => by simpa using hnn e, ?_, hm⟩
  unfold reachBytes at hlen; simp at hlen; omega
def lawSh : List (Bool × List Sh) := [(true, shGrid), (false, [.int .i64]), (false, [.str])]
section
variable {st : St}
theorem L603_0 (cells : List (List UInt8)) (hl : cells.length ≤ 100) {c : Int} {v : DV} (hv : Txs st cells v) (w : Int) (tx : List UInt8) : ∀ (r d : List (List UInt8)), cells = d ++ r →
    ∃ fr, (E ltab).C f603L0 [(1, .int .i64 w), (2, .str tx), (3, .ptr st.heap.length 0), (7, .int .i64 d.length)] (pst st [.cells .plain (gcs c v)] []) =
      some (if r.all (fun s => decide (s.length ≤ 300)) then (.exit 0, (1, .int .i64 w) :: (2, .str tx) :: (3, .ptr st.heap.length 0) :: fr, pst st [.cells .plain (gcs c v)] []) else (.ret, [(6, .bool true)], pst st [.cells .plain (gcs c v)] [])) := by
  have hn := fun st' => txs_len hv st'
  intro r
  induction r with
  | nil =>
    intro d hd
    rw [C_turn (L := f603L0) rfl]
    simp [f603B0, gcs, hn, hd]
  | cons s r ih =>
    intro d hd
    have h0 : d.length < cells.length := by simp [hd]
    have hg : cells[d.length]? = some s := by simp [hd]
    have a1 := fun st' => txs_at hv h0 .i64 st'
    have a2 := txs_load hv hg [.cells .plain (gcs c v)] []
    have hw1 : IntKind.i64.wrap ((d.length : Int) + 1) = ((d ++ [s]).length : Nat) := by rw [i64w (by omega)]; simp
    obtain ⟨fr, hJ⟩ := ih (d ++ [s]) (by simp [hd])
    simp only [List.length_append, List.length_singleton] at hJ hw1
    simp only [gcs] at a2
    by_cases h2 : 300 < s.length
    · have h2' : (300 : Int) < s.length := by omega
      have hb : decide (s.length ≤ 300) = false := by simp; omega
      refine ⟨[], ?_⟩
      rw [C_turn (L := f603L0) rfl]
      simp [f603B0, gcs, hn, h0, a1, a2, h2, h2', hb]
    · have h2' : ¬ (300 : Int) < s.length := by omega
      have hb : decide (s.length ≤ 300) = true := by simp; omega
      refine ⟨fr, ?_⟩
      rw [C_turn (L := f603L0) rfl]
      simp only [List.all_cons, hb, Bool.true_and]
      rw [← hJ]
      simp [f603B0, gcs, hn, h0, a1, a2, h2, h2', hw1]
def t3c : RC := (.seq (.region f603r8 [1, 2, 3, 8]) (.seq (.region f603r9 [1, 2, 3, 8, 9, 10]) (.seq (.region f603r10 [1, 2, 3, 8, 9, 10, 11, 12]) (.seq (.region f603r11 [1, 2, 3, 8, 9, 10, 11, 12, 13, 14]) (.seq (.region f603r12 [1, 2, 3, 8, 9, 10, 11, 12, 13, 14, 15, 16]) (.seq (.region f603r13 [1, 2, 3, 8, 9, 10, 11, 12, 13, 14, 15, 16, 17, 18, 19]) (.seq (.region f603r14 [1, 2, 3, 8, 9, 10, 11, 12, 13, 14, 15, 16, 17, 18, 19, 20, 21, 22]) (.seq (.seq (.dregion f603r15 [] [] [1, 3, 8, 13, 17, 20, 135]) (.cond (.t 135) (.seq (.region f603r16 [6]) .ret) .skip)) (.seq (.region f603r17 [1, 3, 8, 13, 20]) (.seq (.region f603r18 [1, 3, 8, 20]) (.seq (.region f603r19 [3, 8, 20, 23]) (.seq (.region f603r20 [6]) .ret))))))))))))
theorem f603c : f603 = ⟨[.t 6], (.seq (.region f603r0 [1, 2, 3]) (.seq (.seq (.region f603r1 [1, 2, 3, 34]) (.cond (.t 34) (.seq (.region f603r2 [6]) .ret) .skip)) (.seq (.seq (.region f603r3 [1, 2, 3, 7]) (.block 0 f603L0)) t3c))), true⟩ := rfl
theorem leL_len {c : Int} {cells : List (List UInt8)} : (leL c cells).length ≤ 64 := by
  unfold leL
  split
  · rename_i h; obtain ⟨n, rfl, _, h2, _⟩ := grid_n h; simp; omega
  · simp
theorem moL_len {c : Int} {cells : List (List UInt8)} : (moL c cells).length ≤ 64 := by
  unfold moL
  split
  · rename_i h; obtain ⟨n, rfl, _, h2, _⟩ := grid_n h; simp; omega
  · simp
theorem wiL_len {c : Int} {cells : List (List UInt8)} {w : Int} : (wiL c cells w).length ≤ 64 := by
  unfold wiL
  split
  · rename_i h
    obtain ⟨n, rfl, _, h2, _⟩ := grid_n (wiE_zero h).1
    simp only [Int.toNat_natCast]
    unfold gridW
    split
    · simp; omega
    · split <;> simp <;> omega
  · simp
theorem cell15 (s : List UInt8) (st1 st2 st : St) : (E tab).F 15 [.agg (paraCs (cellP s) (cellW st1 s) ⟨0, 0, .no, false⟩), .agg (paraCs (cellP s) (cellW st2 s) ⟨0, 0, .no, false⟩)] st = some (.bool true, st) := by
  have hn : LW.ok (⟨0, 0, .no, false⟩ : LW) 1 (cellP s).marks := ⟨by simp, by simp [cellP]⟩
  exact same15 (cellP s) _ _ _ _ (cellW_ok st1 s) hn (cellW_ok st2 s) hn (by unfold cellP; split <;> simp) (by simp [cellP]) st
set_option maxHeartbeats 4000000 in
theorem t3_run {c w : Int} {cells : List (List UInt8)} {tx : List UInt8} {v0 : DV} (hl : cells.length ≤ 100) (hv0 : Txs st0 cells v0) (fr : Fr) : ∃ fr' H' K', (E ltab).C t3c ((1, .int .i64 w) :: (2, .str tx) :: (3, .ptr st0.heap.length 0) :: fr) (pst st0 [.cells .plain (gcs c v0)] []) = some (.ret, (6, .bool true) :: fr', pst st0 H' K') := by
  have hl2 : cells.length ≤ 140737488355328 := by omega
  have hsc0 := txs_scal hv0
  have h606 := lent606 (st := st0) (H := [.cells .plain (gcs c v0)]) (K := []) (c := c) (hv0.inn _ _) (by omega)
  obtain ⟨vL, hvL⟩ : ∃ vL, vL = DV.hsl 1 false (st0.heap.length + 3) 0 cells.length (some (cells.length + 3)) := ⟨_, rfl⟩
  simp only [List.length_singleton, show 1 + 2 = 3 from rfl, ← hvL] at h606
  have hV : ∀ (X : List HO) (K : List Nat), Txs (pst st0 ([.cells .plain (gcs c v0), .cells .plain (gcs c v0), .cells .plain (gcs c vL), .cells .plain ((lentT cells).map DV.str), .cells .plain (gcs c vL)] ++ X) K) cells vL := fun X K => by
    rw [hvL]; exact (lent_viewT (k := 3) rfl).1
  have hkept : ∀ X, (E tab).F 184 [vL, v0] (pst st0 ([.cells .plain (gcs c v0), .cells .plain (gcs c v0), .cells .plain (gcs c vL), .cells .plain ((lentT cells).map DV.str), .cells .plain (gcs c vL)] ++ X) []) = some (.bool true, pst st0 ([.cells .plain (gcs c v0), .cells .plain (gcs c v0), .cells .plain (gcs c vL), .cells .plain ((lentT cells).map DV.str), .cells .plain (gcs c vL)] ++ X) []) := fun X => by
    have hvL' := hvL
    generalize gcs c vL = R at *
    rw [hvL']
    exact kept184 (hv0.inn _ _) (by omega) (lent_viewT (k := 3) rfl).2
  have hscL := txs_scal (hV [] [])
  clear hvL
  generalize hLT : (lentT cells).map DV.str = LT at *
  obtain ⟨H4, hH4⟩ : ∃ H4, H4 = [HO.cells .plain (gcs c v0), .cells .plain (gcs c v0), .cells .plain (gcs c vL), .cells .plain LT, .cells .plain (gcs c vL)] := ⟨_, rfl⟩
  rw [← hH4] at hV hkept
  have hV0 := hV [] []
  rw [List.append_nil] at hV0
  obtain ⟨va, h607, la⟩ := r607 (c := c) (st := pst st0 H4 []) hl2 hV0
  obtain ⟨vb, h608, lb⟩ := u608 (c := c) (st := pst st0 H4 []) hl2 (hv0.inn _ _)
  obtain ⟨vc, Xc, h609, oc⟩ := m609 (c := c) (st := st0) (H := H4) (K := []) hl2 hV0
  obtain ⟨vd, h610, ld⟩ := u610 (c := c) (st := pst st0 (H4 ++ Xc) []) hl2 (hv0.inn _ _)
  obtain ⟨vi, Xi, h430, oi⟩ := m430 (c := c) (w := w) (st := st0) (H := H4 ++ Xc) (K := []) hl2 (hV _ _)
  obtain ⟨vl, h611, ll⟩ := u611 (c := c) (w := w) (st := pst st0 (H4 ++ (Xc ++ Xi)) []) hl2 (hv0.inn _ _)
  have s1 := same187 (st := pst st0 (H4 ++ (Xc ++ Xi)) []) la.vw lb.vw (by have := leL_len (c := c) (cells := cells); omega)
  have s2 := same187 (st := pst st0 (H4 ++ (Xc ++ Xi)) []) (oc.view rfl Xi []) ld.vw (by have := moL_len (c := c) (cells := cells); omega)
  have oiv := oi.view rfl [] []
  rw [List.append_nil, List.append_assoc] at oiv
  have s3 := same187 (st := pst st0 (H4 ++ (Xc ++ Xi)) []) oiv ll.vw (by have := wiL_len (c := c) (cells := cells) (w := w); omega)
  have h453 := u453 (c := c) (st := pst st0 (H4 ++ (Xc ++ Xi)) []) hl2 (hV _ _)
  have h612 := u612 (c := c) (st := pst st0 (H4 ++ (Xc ++ Xi)) []) hl2 (hv0.inn _ _)
  obtain ⟨Xi', o1, _⟩ := oi.over (K := []) rfl wiL_len []
  obtain ⟨Xc', o2, _⟩ := oc.over (K := []) rfl moL_len Xi'
  rw [List.append_nil, List.append_nil, List.append_assoc, List.append_assoc] at o1
  obtain ⟨vo, h430b, lo⟩ := u430 (c := c) (w := w) (st := pst st0 (H4 ++ (Xc' ++ Xi')) []) hl2 (hV _ _)
  have s4 := same187 (st := pst st0 (H4 ++ (Xc' ++ Xi')) []) lo.vw ll.vw (by have := wiL_len (c := c) (cells := cells) (w := w); omega)
  have hkept := hkept (Xc' ++ Xi')
  have h458 := cell458 tx (pst st0 (H4 ++ (Xc ++ Xi)) [])
  have h613 := cell613 tx (pst st0 (H4 ++ (Xc ++ Xi)) [])
  have h15 := cell15 tx (pst st0 (H4 ++ (Xc ++ Xi)) []) (pst st0 (H4 ++ (Xc ++ Xi)) []) (pst st0 (H4 ++ (Xc ++ Xi)) [])
  have h615 := known_run (pst st0 (H4 ++ (Xc' ++ Xi')) [])
  rw [List.append_assoc] at h430
  have h606 := ext_F thaw_ext h606
  have h607 := ext_F thaw_ext h607
  have h608 := ext_F thaw_ext h608
  have h610 := ext_F thaw_ext h610
  have h611 := ext_F thaw_ext h611
  have h453 := ext_F thaw_ext h453
  have h612 := ext_F thaw_ext h612
  have h430b := ext_F thaw_ext h430b
  have h458 := ext_F thaw_ext h458
  have h613 := ext_F thaw_ext h613
  have h15 := ext_F thaw_ext h15
  have h615 := ext_F thaw_ext h615
  have hkept := ext_F thaw_ext hkept
  have s1 := ext_F thaw_ext s1
  have s2 := ext_F thaw_ext s2
  have s3 := ext_F thaw_ext s3
  have s4 := ext_F thaw_ext s4
  have o1 := ext_F thaw_ext o1
  have o2 := ext_F thaw_ext o2
  clear la lb oc ld oi ll lo oiv hV hV0
  generalize paraCs (cellP tx) (cellW (pst st0 (H4 ++ (Xc ++ Xi)) []) tx) ⟨0, 0, .no, false⟩ = PC at *
  subst hH4
  refine ⟨[], [.cells .plain (gcs c v0), .cells .plain (gcs c v0), .cells .plain (gcs c vL), .cells .plain LT, .cells .plain (gcs c vL)] ++ (Xc' ++ Xi'), [], ?_⟩
  simp only [gcs] at *
  simp at h606 h607 h608 h609 h610 h430 h611 h453 h612 h430b h458 h613 h15 h615 hkept s1 s2 s3 s4 o1 o2
  unfold t3c
  simp [hsc0, hscL, h606, h607, h608, h609, h610, h430, h611, h453, h612, h430b, h458, h613, h15, h615, hkept, s1, s2, s3, s4, o1, o2, eqD]
theorem law_run (us : List DV) (hf : FitAll lawSh us) : ∃ st', (E ltab).F 603 us st0 = some (.bool true, st') := by
  obtain ⟨_, _, rfl, hp, _, _, rfl, ⟨_, _, rfl, ⟨w, rfl, hw⟩, rfl⟩, _, _, rfl, ⟨_, _, rfl, ⟨tx, rfl, hx⟩, rfl⟩, rfl⟩ := hf
  obtain ⟨c, cells, t, tk, nn, rfl, hnn, hcl, _⟩ := fit_grid hp
  refine ⟨st0, ?_⟩
  rw [F_run lat603 rfl]
  simp only [elemOf, List.headD_cons, Bool.false_eq_true, if_false, if_true]
  rw [f603c]
  obtain ⟨v0, hv0e⟩ : ∃ v0, v0 = DV.list t 1 tk nn (cells.map .str) := ⟨_, rfl⟩
  have hv0 : Txs st0 cells v0 := by rw [hv0e]; exact .list _ _ _ _ (fun _ => rfl) (fun e => by rw [hnn e]; rfl)
  rw [← hv0e]
  clear hv0e
  have hsc := txs_scal hv0
  have hn := fun st' => txs_len hv0 st'
  by_cases h100 : 100 < cells.length
  · have h100' : (100 : Int) < cells.length := by omega
    simp [gcs, hsc, hn, h100, h100']
  have h100' : ¬ (100 : Int) < cells.length := by omega
  by_cases h300 : 300 < tx.length
  · have h300' : (300 : Int) < tx.length := by omega
    simp [gcs, hsc, hn, h100, h100', h300, h300']
  have h300' : ¬ (300 : Int) < tx.length := by omega
  obtain ⟨fr, hL⟩ := L603_0 (st := st0) cells (by omega) (c := c) hv0 w tx cells [] rfl
  simp only [List.length_nil] at hL
  cases ha : cells.all (fun s => decide (s.length ≤ 300)) with
  | false =>
    rw [ha] at hL
    simp [gcs] at hL
    simp [gcs, hsc, hn, h100, h100', h300, h300', hL]
  | true =>
    rw [ha] at hL
    obtain ⟨fr', H', K', h3⟩ := t3_run (c := c) (w := w) (tx := tx) (show cells.length ≤ 100 by omega) hv0 fr
    simp [gcs] at hL h3
    simp [gcs, hsc, hn, h100, h100', h300, h300', hL, h3]
end

end Go.D.Tab
