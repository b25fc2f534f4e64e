/-
What the law NoteSplits runs through, walked: it tells true of all that its arguments may stand for.
-/
import Derived.Test.YtkddchgeiiahdaaGreatDoorTab
import Derived.Test.YtkddchgeiiahdaaGreatDoorFwDOver
import Derived.Test.YtkddchgeiiahdaaGreatDoorFwDX
import Derived.KernelRfl
import Derived.Test.YtkddchgeiiahdaaGreatDoorFwDArg2
set_option linter.unusedSimpArgs false
set_option linter.unusedVariables false
set_option linter.unnecessarySimpa false
namespace Go.D.Tab
def trueP : List DV → Option DV
  | [] => some (.bool true)
  | _ => none

theorem trueP_ran {g : Nat} (h : ∃ n, tells tree.get n g [] st0 (.bool true) = true) : ∀ as v, trueP as = some v → Ran tree.get g as v := by
  intro as v e
  obtain ⟨n, h⟩ := h
  cases as with
  | nil => cases e; exact ran_of rfl rfl h
  | cons a r => cases e

theorem nknown_runs : tells tree.get 1000000 365 [] st0 (.bool true) = true := by kernel_rfl

def known : List (Nat × (List DV → Option DV)) := [(365, trueP)]
def tab : Tab := over tree.get known

theorem known_ran : ∀ x ∈ known, ∀ as v, x.2 as = some v → Ran tree.get x.1 as v := by
  intro x hx
  simp only [known, List.mem_cons, List.not_mem_nil, or_false] at hx
  rcases hx with rfl
  · exact trueP_ran ⟨_, nknown_runs⟩

theorem known_pure : ∀ x ∈ known, isPure tree.get x.1 = true := by
  intro x hx
  simp only [known, List.mem_cons, List.not_mem_nil, or_false] at hx
  rcases hx with rfl; kernel_rfl

theorem at365 : tab 365 = some (.pprim trueP) := by kernel_rfl
theorem nknown_run (st : St) : (E tab).F 365 [] st = some (.bool true, st) := F_prim at365 rfl

@[simp] theorem nat_not_neg (n : Nat) : ¬ ((n : Int) < 0) := by omega
/-! Rows among many -/
theorem rowAt_lt {H : List HO} {k : Nat} {x : CK × List DV} (h : rowAt H k = some x) : k < H.length := by
  unfold rowAt at h
  split at h
  · rename_i e; exact (List.getElem?_eq_some_iff.1 e).1
  · cases h
theorem rowAt_left {H X : List HO} {k : Nat} (h : k < H.length) : rowAt (H ++ X) k = rowAt H k := by
  unfold rowAt
  rw [List.getElem?_append_left h]
theorem rowAt_set {H : List HO} {k : Nat} (h : k < H.length) (g : CK) (vs : List DV) : rowAt (H.set k (.cells g vs)) k = some (g, vs) := by
  unfold rowAt
  rw [List.getElem?_set_self h]
theorem set_left {H X : List HO} {k : Nat} (h : k < H.length) (o : HO) : (H ++ X).set k o = H.set k o ++ X := List.set_append_left _ _ h
theorem row_at {H : List HO} {k : Nat} {g : CK} {vs : List DV} (h : rowAt H k = some (g, vs)) (X : List HO) : rowAt (H ++ X) k = some (g, vs) := by
  rw [rowAt_left (rowAt_lt h), h]

theorem rowAt_setl {H : List HO} {k : Nat} (h : k < H.length) (g : CK) (vs : List DV) (X : List HO) : rowAt (H.set k (.cells g vs) ++ X) k = some (g, vs) := by
  rw [rowAt_left (by simpa using h), rowAt_set h]
theorem set_setl {H : List HO} {k : Nat} (h : k < H.length) (o o' : HO) (X : List HO) : (H.set k o ++ X).set k o' = H.set k o' ++ X := by
  rw [set_left (by simpa using h), List.set_set]
theorem rowAt_right {H X : List HO} (j : Nat) : rowAt (H ++ X) (H.length + j) = rowAt X j := by
  unfold rowAt
  rw [app_at]
theorem set_right {H X : List HO} (j : Nat) (x : HO) : (H ++ X).set (H.length + j) x = H ++ X.set j x := by simp [List.set_append_right]
@[simp] theorem rowAt_set2 (H X : List HO) (k : Nat) (o : HO) (j : Nat) : rowAt (H.set k o ++ X) (H.length + j) = rowAt X j := by
  have h := rowAt_right (H := H.set k o) (X := X) j
  rwa [List.length_set] at h
@[simp] theorem rowAt_set20 (H X : List HO) (k : Nat) (o : HO) : rowAt (H.set k o ++ X) H.length = rowAt X 0 := rowAt_set2 H X k o 0
@[simp] theorem set_set2 (H X : List HO) (k : Nat) (o : HO) (j : Nat) (x : HO) : (H.set k o ++ X).set (H.length + j) x = H.set k o ++ X.set j x := by
  have h := set_right (H := H.set k o) (X := X) j x
  rwa [List.length_set] at h
@[simp] theorem set_set20 (H X : List HO) (k : Nat) (o : HO) (x : HO) : (H.set k o ++ X).set H.length x = H.set k o ++ X.set 0 x := set_set2 H X k o 0 x

theorem splice_one {vs : List DV} {i : Nat} {x : DV} (h : i < vs.length) : splice vs i [x] = vs.set i x := by
  rw [List.set_eq_take_append_cons_drop, if_pos h]
  simp [splice]

/-! What leaves a call: a row that it laid -/
theorem liveB_new (st : St) (k : Nat) : st.liveB (st.heap.length + k) = false := by
  unfold St.liveB
  rw [List.getElem?_eq_none (Nat.le_add_right _ _)]
theorem pst_cellsAt {st : St} {H : List HO} {K : List Nat} {k : Nat} {g : CK} {vs : List DV} (h : rowAt H k = some (g, vs)) : (pst st H K).heap[st.heap.length + k]? = some (.cells g vs) := by
  rw [pst_heap]
  unfold rowAt at h
  split at h
  · rename_i e; simp only [Option.some.injEq, Prod.mk.injEq] at h; rw [e, h.1, h.2]
  · cases h
theorem flat_len {n : Nat} {ag : Bool} : ∀ {ys : List DV}, (∀ y ∈ ys, IsEl n ag y) → (flat ys).length = ys.length * n
  | [], _ => by simp [flat]
  | y :: r, h => by
    have h1 := (h y (List.mem_cons_self ..)).1
    have h2 := flat_len (ys := r) fun z hz => h z (List.mem_cons_of_mem _ hz)
    simp only [flat, List.flatMap_cons, List.length_append, h1, List.length_cons] at h2 ⊢
    rw [h2, Nat.succ_mul]; omega
theorem ex_row {st : St} {H : List HO} {K : List Nat} {k n : Nat} {ag : Bool} {g : CK} {ys : List DV} {cap : Option Nat} (hr : rowAt H k = some (g, flat ys)) (hn : 0 < n) (hag : ag = true ∨ n = 1) (he : ∀ y ∈ ys, IsEl n ag y) :
    exportL st (pst st H K) (.hsl n ag (st.heap.length + k) 0 ys.length cap) = some (.list st.cur n (if cap = some ys.length then .tight else .no) true ys) := by
  have hl := flat_len he
  have hp := flat_pure he
  have hd := demotes_pure hp
  simp only [exportL, liveB_new, Bool.false_eq_true, if_false, pst_cellsAt hr]
  have ht : (flat ys).take (ys.length * n) = flat ys := List.take_of_length_le (by omega)
  simp only [List.drop_zero, ht, hd, hp, chunk_flat he]
  rw [if_pos ⟨Nat.le_add_right _ _, by omega, hn, hag, trivial⟩]
  rfl
theorem repl_one (z : DV) : ∀ n, repl [z] n = List.replicate n z
  | 0 => rfl
  | n + 1 => by rw [repl, repl_one z n]; rfl
theorem flat_scal : ∀ (ys : List DV), (∀ y ∈ ys, IsEl 1 false y) → flat ys = ys
  | [], _ => rfl
  | y :: r, h => by
    have h1 := (h y (List.mem_cons_self ..)).2.2
    have h2 := flat_scal r fun z hz => h z (List.mem_cons_of_mem _ hz)
    simp only [Bool.false_eq_true, if_false] at h1
    simp only [flat, List.flatMap_cons, h1] at h2 ⊢
    rw [h2]; rfl

/-! Lists that may be read, wherever they lie -/
inductive Vw (st : St) (n : Nat) (ag : Bool) (xs : List DV) : DV → Prop
  | list (t n' : Nat) (tk : Tk) (nn : Bool) (h1 : nn = true → n' = n) (h2 : nn = false → xs = []) : Vw st n ag xs (.list t n' tk nn xs)
  | hsl (b off c : Nat) (g : CK) (vs : List DV) (hc : st.cells b = some (g, vs)) (hl : off + xs.length * n ≤ vs.length) (hx : (vs.drop off).take (xs.length * n) = flat xs) (hcap : xs.length ≤ c) :
      Vw st n ag xs (.hsl n ag b off xs.length (some c))

theorem Vw.of_cells {st st' : St} {n : Nat} {ag : Bool} {xs : List DV} {v : DV} (h : Vw st n ag xs v) (hs : ∀ b g vs, st.cells b = some (g, vs) → st'.cells b = some (g, vs)) : Vw st' n ag xs v := by
  cases h with
  | list t n' tk nn h1 h2 => exact .list t n' tk nn h1 h2
  | hsl b off c g vs hc hl hx hcap => exact .hsl b off c g vs (hs _ _ _ hc) hl hx hcap

theorem cells_pst {st : St} {H : List HO} {K : List Nat} {b : Nat} {g : CK} {vs : List DV} (h : st.cells b = some (g, vs)) : (pst st H K).cells b = some (g, vs) := by
  have h1 := cells_get h
  have hb := (List.getElem?_eq_some_iff.1 h1).1
  unfold St.cells
  show (match (st.heap ++ H)[b]? with | some (.cells g vs) => some (g, vs) | _ => none) = _
  rw [List.getElem?_append_left hb, h1]
theorem Vw.inn {st : St} {n : Nat} {ag : Bool} {xs : List DV} {v : DV} (h : Vw st n ag xs v) (H : List HO) (K : List Nat) : Vw (pst st H K) n ag xs v := h.of_cells fun _ _ _ => cells_pst
theorem Vw.out {st : St} {n : Nat} {ag : Bool} {xs : List DV} {v : DV} (h : Vw (pst st [] []) n ag xs v) : Vw st n ag xs v := h.of_cells fun b g vs hc => by
  have : (pst st [] []).cells b = st.cells b := by unfold St.cells; simp only [pst, List.append_nil]
  rw [← this]; exact hc
theorem Vw.app {st : St} {H : List HO} {K : List Nat} {n : Nat} {ag : Bool} {xs : List DV} {v : DV} (h : Vw (pst st H K) n ag xs v) (X : List HO) (K' : List Nat) : Vw (pst st (H ++ X) K') n ag xs v := by
  refine h.of_cells fun b g vs hc => ?_
  have h1 := cells_get hc
  have hb := (List.getElem?_eq_some_iff.1 h1).1
  unfold St.cells
  change (st.heap ++ H)[b]? = _ at h1
  show (match (st.heap ++ (H ++ X))[b]? with | some (.cells g vs) => some (g, vs) | _ => none) = _
  rw [← List.append_assoc, List.getElem?_append_left (show b < (st.heap ++ H).length from hb), h1]

/-- Where an element lies. -/
def elP (n : Nat) : DV → Nat → DV
  | .list _ _ _ _ xs, i => .cptr ((xs.getD i .undef).leaves)
  | .hsl _ _ b off _ _, i => .ptr b (off + i * n)
  | _, _ => .undef
/-- A place behind another one. -/
def faP (off : Nat) : DV → DV
  | .ptr b o => .ptr b (o + off)
  | .cptr cs => .cptr (cs.drop off)
  | _ => .undef

section
variable {st : St} {H : List HO} {K : List Nat} {n : Nat} {ag : Bool} {xs : List DV} {v : DV}
theorem Vw.len (h : Vw st n ag xs v) (st' : St) : lenV st' .slice v = some (.int .i64 xs.length, st') := by
  cases h <;> rfl
theorem Vw.iaddr (h : Vw st n ag xs v) {i : Nat} (hi : i < xs.length) (k : IntKind) (st' : St) : iaddrV st' n v (.int k i) = some (elP n v i, st') := by
  cases h with
  | list t n' tk nn h1 h2 =>
    cases nn with
    | false => rw [h2 rfl] at hi; cases hi
    | true => simp [h1 rfl, hi, elP, List.getD_eq_getElem?_getD]
  | hsl b off c g vs hc hl hx hcap =>
    simp [hi, elP]
theorem flat_nth (he : ∀ x ∈ xs, IsEl n ag x) : ∀ {i : Nat} {x : DV}, xs[i]? = some x → ((flat xs).drop (i * n)).take n = x.leaves := by
  induction xs with
  | nil => intro i x h; cases h
  | cons y r ih =>
    intro i x h
    have hy := (he y (List.mem_cons_self ..)).1
    have e : flat (y :: r) = y.leaves ++ flat r := by simp [flat]
    rw [e]
    cases i with
    | zero =>
      simp only [List.getElem?_cons_zero, Option.some.injEq] at h
      subst h
      simp [← hy]
    | succ i =>
      rw [List.getElem?_cons_succ] at h
      rw [Nat.succ_mul, Nat.add_comm, ← List.drop_drop, ← hy]
      simp only [List.drop_left]
      rw [hy]
      exact ih (fun z hz => he z (List.mem_cons_of_mem _ hz)) h
theorem cells_of_hsl {off : Nat} {vs : List DV} (he : ∀ x ∈ xs, IsEl n ag x) (hl : off + xs.length * n ≤ vs.length) (hx : (vs.drop off).take (xs.length * n) = flat xs) {i : Nat} {x : DV} (h : xs[i]? = some x) :
    (vs.drop (off + i * n)).take n = x.leaves ∧ off + i * n + n ≤ vs.length := by
  have hi := (List.getElem?_eq_some_iff.1 h).1
  have h1 := flat_nth he h
  have hle : (i + 1) * n ≤ xs.length * n := Nat.mul_le_mul_right _ hi
  rw [Nat.succ_mul] at hle
  refine ⟨?_, by omega⟩
  rw [← h1, ← hx, List.drop_take, List.drop_drop, List.take_take]
  congr 1
  omega
theorem Vw.load (h : Vw st n ag xs v) (he : ∀ x ∈ xs, IsEl n ag x) (ha : ag = true) {i : Nat} {x : DV} (hx : xs[i]? = some x) : loadD st n true (elP n v i) = some x := by
  have hm := he x (List.mem_of_getElem? hx)
  have hxl : x = .agg x.leaves := by have := hm.2.2; rw [ha] at this; exact this
  cases h with
  | list t n' tk nn h1 h2 =>
    simp only [elP, loadD, takeN, List.getD_eq_getElem?_getD, hx, Option.getD_some, if_true, Nat.zero_add]
    rw [if_pos (by rw [hm.1]; exact Nat.le_refl _), List.drop_zero, List.take_of_length_le (by rw [hm.1]; exact Nat.le_refl _), ← hxl]
  | hsl b off c g vs hc hl hxx hcap =>
    obtain ⟨h1, h2⟩ := cells_of_hsl he hl hxx hx
    simp only [elP, loadD, takeN, hc, if_true, h1]
    rw [if_pos h2, ← hxl]
theorem Vw.load1 (h : Vw st 1 false xs v) (he : ∀ x ∈ xs, IsEl 1 false x) {i : Nat} {x : DV} (hx : xs[i]? = some x) : loadD st 1 false (elP 1 v i) = some x := by
  have hm := he x (List.mem_of_getElem? hx)
  have hxl : x.leaves = [x] := by have := hm.2.2; simpa using this
  cases h with
  | list t n' tk nn h1 h2 => simp [elP, List.getD_eq_getElem?_getD, hx, hxl]
  | hsl b off c g vs hc hl hxx hcap =>
    obtain ⟨h1, h2⟩ := cells_of_hsl he hl hxx hx
    simp only [elP, loadD, takeN, hc]
    have := congrArg (fun l => l[0]?) h1
    simp [hxl] at this
    simpa using this
theorem Vw.faddr (h : Vw st n ag xs v) (he : ∀ x ∈ xs, IsEl n ag x) {i : Nat} (hi : i < xs.length) {off : Nat} (ho : off ≤ n) (st' : St) : faddrV st' off (elP n v i) = some (faP off (elP n v i), st') := by
  have hx : xs[i]? = some xs[i] := List.getElem?_eq_getElem hi
  have hm := he _ (List.getElem_mem hi)
  cases h with
  | list t n' tk nn h1 h2 =>
    simp only [elP, faddrV, faP, List.getD_eq_getElem?_getD, hx, Option.getD_some]
    rw [if_pos (by rw [hm.1]; exact ho)]
  | hsl b off c g vs hc hl hxx hcap => simp [elP, faP]
theorem Vw.fload (h : Vw st n ag xs v) (he : ∀ x ∈ xs, IsEl n ag x) {i : Nat} {x : DV} (hx : xs[i]? = some x) {off : Nat} {y : DV} (ho : x.leaves[off]? = some y) : loadD st 1 false (faP off (elP n v i)) = some y := by
  have hm := he x (List.mem_of_getElem? hx)
  have hlt : off < n := by have := (List.getElem?_eq_some_iff.1 ho).1; rw [hm.1] at this; exact this
  cases h with
  | list t n' tk nn h1 h2 =>
    simp only [elP, faP, loadD, takeN, List.getD_eq_getElem?_getD, hx, Option.getD_some, Bool.false_eq_true, if_false]
    rw [List.getElem?_drop]; simpa using ho
  | hsl b off' c g vs hc hl hxx hcap =>
    obtain ⟨h1, h2⟩ := cells_of_hsl he hl hxx hx
    simp only [elP, faP, loadD, takeN, hc, Bool.false_eq_true, if_false]
    rw [← h1, List.getElem?_take_of_lt hlt, List.getElem?_drop] at ho
    exact ho
theorem Vw.news (h : Vw st n ag xs v) : newsD st n v = some (xs.length, flat xs) := by
  cases h with
  | list t n' tk nn h1 h2 =>
    cases nn with
    | false => simp [newsD, h2 rfl, flat]
    | true => simp [newsD, h1 rfl]
  | hsl b off c g vs hc hl hx hcap => simp [newsD, hc, hl, hx]
theorem Vw.slice (h : Vw st n ag xs v) (hn : 0 < n) (he : ∀ x ∈ xs, IsEl n ag x) {lo hi : Nat} (h1 : lo ≤ hi) (h2 : hi ≤ xs.length) (k k' : IntKind) :
    ∃ v', sliceD false n v (some (.int k lo)) (some (.int k' hi)) none = some v' ∧ Vw st n ag ((xs.drop lo).take (hi - lo)) v' := by
  cases h with
  | list t n' tk nn g1 g2 =>
    refine ⟨_, slice_ll g1 (by omega) (by omega) (by omega), ?_⟩
    simp only [Int.toNat_natCast]
    exact .list _ _ _ _ g1 fun e => by rw [g2 e]; simp
  | hsl b off c g vs hc hl hx hcap =>
    have hb1 : bnd (.int k' (hi : Int)) c = some hi := by rw [bnd_int (by omega) (by omega)]; simp
    have hb2 : bnd (.int k (lo : Int)) hi = some lo := by rw [bnd_int (by omega) (by omega)]; simp
    refine ⟨_, by simp only [sliceD, if_true, Option.isSome_none, Bool.false_eq_true, if_false, hb1, hb2]; rfl, ?_⟩
    have hlen : ((xs.drop lo).take (hi - lo)).length = hi - lo := by simp; omega
    by_cases hcl : c = lo
    · have e0 : hi - lo = 0 := by omega
      rw [if_pos hcl]
      have h3 := Vw.hsl (st := st) (n := n) (ag := ag) (xs := (xs.drop lo).take (hi - lo)) b off (c - lo) g vs hc (by rw [hlen, e0]; omega) (by rw [hlen, e0]; simp [flat]) (by rw [hlen]; omega)
      rw [hlen] at h3; exact h3
    · rw [if_neg hcl]
      have hmul : lo * n + (hi - lo) * n ≤ xs.length * n := by rw [← Nat.add_mul]; exact Nat.mul_le_mul_right _ (by omega)
      have fl : ∀ (ys : List DV), (∀ y ∈ ys, IsEl n ag y) → ∀ k, (flat ys).take (k * n) = flat (ys.take k) ∧ (flat ys).drop (k * n) = flat (ys.drop k) := by
        intro ys
        induction ys with
        | nil => intro _ k; simp [flat]
        | cons y r ih =>
          intro hy k
          have e : flat (y :: r) = y.leaves ++ flat r := by simp [flat]
          have hly := (hy y (List.mem_cons_self ..)).1
          cases k with
          | zero => simp [flat]
          | succ k =>
            have := ih (fun z hz => hy z (List.mem_cons_of_mem _ hz)) k
            rw [e, Nat.succ_mul, Nat.add_comm (k * n)]
            constructor
            · rw [List.take_append, List.take_of_length_le (by omega), hly, show n + k * n - n = k * n by omega, this.1]; simp [flat]
            · rw [← List.drop_drop, ← hly, List.drop_left, hly, this.2, List.drop_succ_cons]
      have h3 := Vw.hsl (st := st) (n := n) (ag := ag) (xs := (xs.drop lo).take (hi - lo)) b (off + lo * n) (c - lo) g vs hc (by rw [hlen]; omega) (by
        rw [hlen, ← (fl _ (fun y hy => he y (List.mem_of_mem_drop hy)) _).1, ← (fl xs he _).2, ← hx, List.drop_take, List.drop_drop, List.take_take]
        congr 1
        rw [Nat.min_eq_left (by omega)]) (by rw [hlen]; omega)
      rw [hlen] at h3; exact h3
end
theorem pst_copy {st : St} {H : List HO} {K : List Nat} {n k off len m : Nat} {ag : Bool} {c : Option Nat} {g : CK} {vs news : List DV} {v : DV} (hn : newsD (pst st H K) n v = some (m, news)) (hr : rowAt H k = some (g, vs)) (hg : g.wr = true) (hp : 0 < min m len) (hl : off + min m len * n ≤ vs.length) :
    copyD (pst st H K) n (.hsl n ag (st.heap.length + k) off len c) v = some (.int .i64 (min m len : Nat), pst st (H.set k (.cells g (splice vs off (news.take (min m len * n))))) K) := by
  have h0 : ¬ min m len = 0 := by omega
  have hc : (pst st H K).cellsW (st.heap.length + k) = some (g, vs) := by unfold St.cellsW; rw [pst_cells, hr]; simp only [hg, if_true]
  have hb : (pst st H K).base ≤ st.heap.length + k := by simp
  simp only [copyD, hn, h0, if_false, hc, hl, if_true, hb, and_self]
  simp [pst, List.set_append_right]
theorem slice_hu {n b off len c hi : Nat} {ag : Bool} {k : IntKind} (h : hi ≤ c) : sliceD false n (.hsl n ag b off len (some c)) none (some (.int k hi)) none = some (.hsl n ag b off hi (some c)) := by
  have hb : bnd (.int k (hi : Int)) c = some hi := by rw [bnd_int (by omega) (by omega)]; simp
  simp [sliceD, hb]
/-- A list that bears its contents. -/
inductive Lw (n : Nat) (xs : List DV) : DV → Prop
  | list (t n' : Nat) (tk : Tk) (nn : Bool) (h1 : nn = true → n' = n) (h2 : nn = false → xs = []) : Lw n xs (.list t n' tk nn xs)
theorem Lw.vw {st : St} {n : Nat} {ag : Bool} {xs : List DV} {w : DV} (h : Lw n xs w) : Vw st n ag xs w := by
  cases h with | list t n' tk nn h1 h2 => exact .list t n' tk nn h1 h2
theorem Lw.ex {st st' : St} {n : Nat} {xs : List DV} {w : DV} (h : Lw n xs w) : ∃ w', exportL st st' w = some w' ∧ exportA st st' w = some w' ∧ exportT st st' w = some w' ∧ Lw n xs w' := by
  cases h with | list t n' tk nn h1 h2 => exact ⟨_, rfl, rfl, rfl, .list _ _ _ _ h1 h2⟩
/-- A view is appended onto nothing. -/
theorem app_view {st : St} {H : List HO} {K : List Nat} {n t n' by_ : Nat} {ag : Bool} {tk : Tk} {xs : List DV} {v : DV} (hv : Vw (pst st H K) n ag xs v) (he : ∀ x ∈ xs, IsEl n ag x) (hx : xs ≠ []) (hn : 0 < n) (hr : xs.length * by_ ≤ roomD) (hr2 : xs.length ≤ roomD) :
    appendD (pst st H K) n ag by_ (.list t n' tk false []) v = some (.list st.cur n (.own (st.toks.length + K.length) 0) true xs, pst st H (K ++ [0])) := by
  have hl : xs.length ≠ 0 := fun h => hx (List.length_eq_zero_iff.1 h)
  have hp := flat_pure he
  have hc := chunk_flat he
  have h0 : ¬ n = 0 := by omega
  have h2 : ¬ ((0 + xs.length) * by_ > roomD) := by rw [Nat.zero_add]; omega
  have h3 : ¬ (0 + xs.length > roomD) := by omega
  simp only [appendD, Vw.news hv, demotes_pure hp, hc, hl, h0, List.length_nil, h2, h3, hp, if_false, Bool.not_true, Bool.false_eq_true, or_false, false_and]
  simp [pst]
theorem app_view0 {st : St} {n t n' by_ : Nat} {ag : Bool} {tk : Tk} {nn : Bool} {ys : List DV} {v : DV} (hv : Vw st n ag [] v) : appendD st n ag by_ (.list t n' tk nn ys) v = some (.list t n' tk nn ys, st) := by
  refine app_none ?_
  have := Vw.news hv
  simpa [flat] using this

structure Ln where
  f : Int
  t : Int
  x : Int
  w : Int
  n : Int
  y : Bool
  g : Int
def Ln.cs (x : Ln) : List DV := [.int .i64 x.f, .int .i64 x.t, .int .i64 x.x, .int .i64 x.w, .int .i64 x.n, .bool x.y, .int .i64 x.g]
def Ln.dv (x : Ln) : DV := .agg x.cs
theorem el_ln (x : Ln) : IsEl 7 true x.dv := ⟨rfl, rfl, rfl⟩
theorem el_lns {l : List Ln} : ∀ y ∈ l.map Ln.dv, IsEl 7 true y := fun y hy => by obtain ⟨x, _, rfl⟩ := List.mem_map.1 hy; exact el_ln x
abbrev Lns (st : St) (l : List Ln) (v : DV) : Prop := Vw st 7 true (l.map Ln.dv) v
theorem ln_eq (x : Ln) : leavesEq [.int, .int, .int, .int, .int, .bool, .int] x.cs x.cs = some true := by simp [Ln.cs, leavesEq, scalEq]
theorem at309 : tab 309 = some (.code f309) := by kernel_rfl
theorem at317 : tab 317 = some (.code f317) := by kernel_rfl
theorem at361 : tab 361 = some (.code f361) := by kernel_rfl
theorem at362 : tab 362 = some (.code f362) := by kernel_rfl
theorem at363 : tab 363 = some (.code f363) := by kernel_rfl
theorem at364 : tab 364 = some (.code f364) := by kernel_rfl

section
variable {st : St} {l : List Ln} {v u : DV}
theorem L309_0 (hv : Lns st l v) (hu : Lns st l u) (hl : l.length ≤ 140737488355328) (H : List HO) (K : List Nat) : ∀ (r d : List Ln), l = d ++ r →
    ∃ fr, (E tab).C f309L0 [(0, v), (1, u), (5, .int .i64 d.length)] (pst st H K) = some (.exit 0, fr, pst st H K) := by
  have e0 := fun st' => Vw.len hv st'
  simp only [List.length_map] at e0
  intro r
  induction r with
  | nil =>
    intro d hd
    refine ⟨[(0, v), (1, u), (5, .int .i64 l.length), (14, .bool false)], ?_⟩
    rw [C_turn (L := f309L0) rfl]
    simp [f309B0, e0, hd]
  | cons x r ih =>
    intro d hd
    have h0 : d.length < l.length := by simp [hd]
    have hx : l[d.length]? = some x := by simp [hd]
    have hw1 : IntKind.i64.wrap ((d.length : Int) + 1) = ((d ++ [x]).length : Nat) := by rw [i64w (by omega)]; simp
    have e1 := fun st' => Vw.iaddr hv (i := d.length) (by simpa using h0) .i64 st'
    have e2 := fun H K => Vw.load (Vw.inn hv H K) el_lns rfl (i := d.length) (x := x.dv) (by simp [hx])
    have e3 := fun st' => Vw.iaddr hu (i := d.length) (by simpa using h0) .i64 st'
    have e4 := fun H K => Vw.load (Vw.inn hu H K) el_lns rfl (i := d.length) (x := x.dv) (by simp [hx])
    have hq := ln_eq x
    simp only [Ln.dv, Ln.cs] at e2 e4 hq
    obtain ⟨fr, hJ⟩ := ih (d ++ [x]) (by simp [hd])
    refine ⟨fr, ?_⟩
    simp only [List.length_append, List.length_singleton] at hJ hw1
    simp at hJ
    rw [C_turn (L := f309L0) rfl]
    simp [f309B0, e0, h0, e1, e2, e3, e4, eqD, hq, hw1, hJ]
theorem same309 (hv : Lns st l v) (hu : Lns st l u) (hl : l.length ≤ 140737488355328) : (E tab).F 309 [v, u] st = some (.bool true, st) := by
  rw [F_run at309 rfl]
  have e0 := fun st' => Vw.len hv st'
  have e1 := fun st' => Vw.len hu st'
  simp only [List.length_map] at e0 e1
  obtain ⟨fr, hL⟩ := L309_0 hv hu hl [] [] l [] rfl
  simp at hL
  simp [f309, e0, e1, hL]

theorem height363 (hv : Lns st l v) : (E tab).F 363 [v] st = some (.int .i64 (IntKind.i64.wrap (10 * l.length)), st) := by
  rw [F_run at363 rfl]
  have e0 := fun st' => Vw.len hv st'
  simp only [List.length_map] at e0
  simp [f363, e0]
theorem height364 (hv : Lns st l v) : (E tab).F 364 [v] st = some (.int .i64 (IntKind.i64.wrap (10 * l.length)), st) := by
  rw [F_run at364 rfl]
  have e0 := fun st' => Vw.len hv st'
  simp only [List.length_map] at e0
  simp [f364, e0]

/-! All is written over -/
theorem over317_nil (t n : Nat) (tk : Tk) (st : St) : (E tab).F 317 [.list t n tk false []] st = some (.tuple [], st) := by
  rw [F_go at317 rfl]
  have hs : ∃ tk', sliceD false 7 (.list t n tk false []) none (some (.int .i64 0)) none = some (.list t n tk' false []) := ⟨_, by simp [sliceD, bnd]; rfl⟩
  obtain ⟨tk', hs⟩ := hs
  have hL : (E tab).C f317L0 [(2, .list t n tk' false []), (3, .int .i64 0)] st = some (.exit 0, [(2, .list t n tk' false []), (3, .int .i64 0), (11, .bool false)], st) := by
    rw [C_turn (L := f317L0) rfl]
    simp [f317B0]
  simp [f317, hs, hL]
theorem L317_0 {H : List HO} {K : List Nat} {k off n : Nat} (hn : n ≤ 1000000) : ∀ (m i : Nat) (vs : List DV) (H : List HO), i + m = n → rowAt H k = some (.grown, vs) → off + n * 7 ≤ vs.length → (∀ j, j < n → ∃ x : Int, vs[off + j * 7]? = some (.int .i64 x)) →
    ∃ vs' fr, (E tab).C f317L0 [(2, .hsl 7 true (st.heap.length + k) off n (some n)), (3, .int .i64 i)] (pst st H K) = some (.exit 0, fr, pst st (H.set k (.cells .grown vs')) K) ∧ vs'.length = vs.length ∧ ∀ j, j < off ∨ off + n * 7 ≤ j → vs'[j]? = vs[j]? := by
  intro m
  induction m with
  | zero =>
    intro i vs H hi hr hl hx
    obtain rfl : i = n := by omega
    have hk := rowAt_lt hr
    have hset : H.set k (.cells .grown vs) = H := by
      apply List.ext_getElem?
      intro j
      by_cases hj : j = k
      · subst hj
        rw [List.getElem?_set_self hk]
        unfold rowAt at hr
        split at hr
        · rename_i e; simp only [Option.some.injEq, Prod.mk.injEq] at hr; rw [e, hr.1, hr.2]
        · cases hr
      · rw [List.getElem?_set_ne (fun e => hj e.symm)]
    refine ⟨vs, [(2, .hsl 7 true (st.heap.length + k) off i (some i)), (3, .int .i64 i), (11, .bool false)], ?_, rfl, fun j _ => rfl⟩
    rw [hset, C_turn (L := f317L0) rfl]
    simp [f317B0]
  | succ m ih =>
    intro i vs H hi hr hl hx
    have hin : i < n := by omega
    obtain ⟨x, hxi⟩ := hx i hin
    have hk := rowAt_lt hr
    have hw1 : IntKind.i64.wrap ((i : Int) + 1) = ((i + 1 : Nat) : Int) := by rw [i64w (by omega)]; simp
    obtain ⟨y, hy⟩ : ∃ y : Int, bitsD .xor .i64 x 1 = some y := ⟨_, rfl⟩
    have hlt : off + i * 7 < vs.length := (List.getElem?_eq_some_iff.1 hxi).1
    have hsp := splice_one (x := .int .i64 y) hlt
    obtain ⟨vs', fr, hJ, h1, h2⟩ := ih (i + 1) (vs.set (off + i * 7) (.int .i64 y)) (H.set k (.cells .grown (vs.set (off + i * 7) (.int .i64 y)))) (by omega) (rowAt_set hk _ _) (by simpa using hl) (fun j hj => by
      by_cases hji : j = i
      · subst hji; exact ⟨y, by rw [List.getElem?_set_self hlt]⟩
      · rw [List.getElem?_set_ne (by omega)]; exact hx j hj)
    refine ⟨vs', fr, ?_, by simpa using h1, fun j hj => ?_⟩
    · rw [List.set_set] at hJ
      rw [C_turn (L := f317L0) rfl]
      simp only [splice] at hsp
      simp at hJ hsp
      have hle : off + i * 7 + 1 ≤ vs.length := by omega
      have hge : vs[off + i * 7] = .int .i64 x := by rw [List.getElem?_eq_getElem hlt] at hxi; exact Option.some.inj hxi
      simp [f317B0, hin, hr, hxi, hlt, hge, hy, hle, hsp, hw1, hJ]
    · rw [h2 j hj, List.getElem?_set_ne]
      have hi7 : (i + 1) * 7 ≤ n * 7 := Nat.mul_le_mul_right _ hin
      omega
theorem over317 {H : List HO} {K : List Nat} {k off n : Nat} {vs : List DV} (hn : n ≤ 1000000) (hr : rowAt H k = some (.grown, vs)) (hl : off + n * 7 ≤ vs.length) (hx : ∀ j, j < n → ∃ x : Int, vs[off + j * 7]? = some (.int .i64 x)) :
    ∃ vs', (E tab).F 317 [.hsl 7 true (st.heap.length + k) off n (some n)] (pst st H K) = some (.tuple [], pst st (H.set k (.cells .grown vs')) K) ∧ vs'.length = vs.length ∧ ∀ j, j < off ∨ off + n * 7 ≤ j → vs'[j]? = vs[j]? := by
  obtain ⟨vs', fr, hL, h1, h2⟩ := L317_0 (H := H) (K := K) (st := st) hn n 0 vs H (by omega) hr hl hx
  refine ⟨vs', ?_, h1, h2⟩
  rw [F_go at317 rfl]
  have hs := slice_hu (n := 7) (b := st.heap.length + k) (off := off) (len := n) (c := n) (hi := n) (ag := true) (k := .i64) (Nat.le_refl _)
  simp at hL
  simp [f317, hs, hL]
end

theorem at357 : tab 357 = some (.code f357) := by kernel_rfl

theorem fmin (k : IntKind) (x y : Int) : foldD min2D [.int k x, .int k y] = some (.int k (min x y)) := by
  have : (if y < x then y else x) = min x y := by split <;> omega
  simp [foldD, min2D, this]
/-- How many lines stand in a height. -/
def cutN (l : List Ln) (h : Int) : Nat := (min (h / 10) l.length).toNat
theorem cut_le (l : List Ln) (h : Int) : cutN l h ≤ l.length := by unfold cutN; omega
theorem cut_min (l : List Ln) (h : Int) (h0 : 0 ≤ h) (hb : (Lit.int .i64 h).wf = true) (hl : l.length ≤ 1000) : foldD min2D [.int .i64 (IntKind.i64.wrap (h.tdiv 10)), .int .i64 l.length] = some (.int .i64 (cutN l h : Nat)) := by
  have hb' := i64_of hb
  have e1 : IntKind.i64.wrap (h.tdiv 10) = h / 10 := by rw [Int.tdiv_eq_ediv_of_nonneg h0]; exact i64w (by omega)
  rw [e1, fmin]
  congr 2
  unfold cutN; omega

section
variable {st : St} {l : List Ln} {v : DV}
/-- What is appended onto a list that is empty, and no row. -/
theorem app_lit {H : List HO} {K : List Nat} {t nn} {tk} (hl : l.length ≤ 1000) (hv : nn = false → l = []) : ∃ w K', appendD (pst st H K) 7 true 56 (.list st.cur 7 .tight true []) (.list t 7 tk nn (l.map Ln.dv)) = some (w, pst st H K') ∧ ((∃ k s, w = .list st.cur 7 (.own (st.toks.length + k) s) true (l.map Ln.dv)) ∨ (l = [] ∧ w = .list st.cur 7 .tight true [])) := by
  by_cases hz : l = []
  · subst hz
    refine ⟨.list st.cur 7 .tight true [], K, ?_, .inr ⟨rfl, rfl⟩⟩
    exact app_none (by cases nn <;> simp [newsD, flat])
  · obtain rfl : nn = true := by
      cases nn with
      | true => rfl
      | false => exact absurd (hv rfl) hz
    refine ⟨_, _, app_new (.inr ⟨rfl, rfl, rfl⟩) (by omega) (by simpa using hz) el_lns (by simp [roomD]; omega) (by simp [roomD]; omega), .inl ⟨K.length, 0, by simp⟩⟩

theorem split362 (hl : l.length ≤ 1000) (t : Nat) (tk : Tk) (nn : Bool) (hv : nn = false → l = []) (h : Int) (hb : (Lit.int .i64 h).wf = true) (st : St) : ∃ u1 u2, (E tab).F 362 [.list t 7 tk nn (l.map Ln.dv), .int .i64 h] st = some (.tuple [u1, u2, .int .i64 (if h < 0 then 5 else 0)], st) ∧
    (h < 0 → u1 = .list 0 0 .no false [] ∧ u2 = .list 0 0 .no false []) ∧ (0 ≤ h → Lw 7 ((l.take (cutN l h)).map Ln.dv) u1 ∧ Lw 7 ((l.drop (cutN l h)).map Ln.dv) u2) := by
  rw [F_run at362 rfl]
  by_cases h0 : h < 0
  · exact ⟨.list 0 0 .no false [], .list 0 0 .no false [], by simp [f362, h0], fun _ => ⟨rfl, rfl⟩, fun h => by omega⟩
  · have hm := cut_min l h (by omega) hb hl
    have hc := cut_le l h
    generalize cutN l h = n at *
    have s1 := slice_u (n := 7) (en := 7) (t := t) (tk := tk) (nn := nn) (xs := l.map Ln.dv) (k := .i64) (hi := n) (fun _ => rfl) (by omega) (by simp; omega)
    have s2 := slice_l (n := 7) (en := 7) (t := t) (tk := tk) (nn := nn) (xs := l.map Ln.dv) (k := .i64) (lo := n) (fun _ => rfl) (by omega) (by simp; omega)
    simp only [Int.toNat_natCast, ← List.map_take, ← List.map_drop] at s1 s2
    obtain ⟨w1, K1, a1, c1⟩ := app_lit (st := st) (l := l.take n) (H := []) (K := []) (t := t) (nn := nn) (tk := slTk tk (l.map Ln.dv).length 0 n) (by simp; omega) (fun e => by rw [hv e]; simp)
    obtain ⟨w2, K2, a2, c2⟩ := app_lit (st := st) (l := l.drop n) (H := []) (K := K1) (t := t) (nn := nn) (tk := slTk tk (l.map Ln.dv).length n (l.map Ln.dv).length) (by simp; omega) (fun e => by rw [hv e]; simp)
    have x1 : ∃ u1, exportA st (pst st [] K2) w1 = some u1 ∧ Lw 7 ((l.take n).map Ln.dv) u1 := by
      rcases c1 with ⟨k, s, rfl⟩ | ⟨hz, rfl⟩
      · exact ⟨_, rfl, .list _ _ _ _ (fun _ => rfl) (fun e => by cases e)⟩
      · rw [hz]; exact ⟨_, rfl, .list _ _ _ _ (fun _ => rfl) (fun e => by cases e)⟩
    have x2 : ∃ u2, exportA st (pst st [] K2) w2 = some u2 ∧ Lw 7 ((l.drop n).map Ln.dv) u2 := by
      rcases c2 with ⟨k, s, rfl⟩ | ⟨hz, rfl⟩
      · exact ⟨_, rfl, .list _ _ _ _ (fun _ => rfl) (fun e => by cases e)⟩
      · rw [hz]; exact ⟨_, rfl, .list _ _ _ _ (fun _ => rfl) (fun e => by cases e)⟩
    obtain ⟨u1, x1, y1⟩ := x1
    obtain ⟨u2, x2, y2⟩ := x2
    refine ⟨u1, u2, ?_, fun h => absurd h h0, fun _ => ⟨y1, y2⟩⟩
    simp only [List.length_map, List.map_take, List.map_drop, pst_cur] at s1 s2 a1 a2
    simp [f362, h0, hm, C_dregionN, S_cons, A_cons, K_cons, loudD, op_lit, repl, chunk, s1, s2, a1, a2, x1, x2]

theorem split361 {H : List HO} {K : List Nat} (hl : l.length ≤ 1000) (hv : Lns (pst st H K) l v) (h : Int) (hb : (Lit.int .i64 h).wf = true) :
    (h < 0 → (E tab).F 361 [v, .int .i64 h] (pst st H K) = some (.tuple [.list 0 0 .no false [], .list 0 0 .no false [], .int .i64 5], pst st H K)) ∧
    (0 ≤ h → l = [] → ∃ tk1 tk2, (E tab).F 361 [v, .int .i64 h] (pst st H K) = some (.tuple [.list 0 0 tk1 false [], .list 0 0 tk2 false [], .int .i64 0], pst st H K)) ∧
    (0 ≤ h → l ≠ [] → (E tab).F 361 [v, .int .i64 h] (pst st H K) = some (.tuple [.hsl 7 true (st.heap.length + H.length) 0 (cutN l h) (some (cutN l h)), .hsl 7 true (st.heap.length + H.length) (if l.length = cutN l h then 0 else cutN l h * 7) (l.length - cutN l h) (some (l.length - cutN l h)), .int .i64 0], pst st (H ++ [.cells .grown (flat (l.map Ln.dv))]) K)) := by
  have e0 := fun st' => Vw.len hv st'
  simp only [List.length_map] at e0
  have hn := Vw.news hv
  simp only [List.length_map] at hn
  refine ⟨fun h0 => ?_, fun h0 hz => ?_, fun h0 hz => ?_⟩
  · rw [F_go at361 rfl]
    simp [f361, h0]
  · rw [F_go at361 rfl]
    have hm := cut_min l h h0 hb hl
    have hc : cutN l h = 0 := by have := cut_le l h; rw [hz] at this; simp at this; rw [hz]; exact this
    have h0' : ¬ h < 0 := by omega
    rw [hc] at hm
    subst hz
    have s1 : sliceD false 7 (.list 0 0 .no false []) none (some (.int .i64 0)) (some (.int .i64 0)) = some (.list 0 0 .tight false []) := by simp [sliceD, bnd]
    have s2 : sliceD false 7 (.list 0 0 .no false []) (some (.int .i64 0)) (some (.int .i64 0)) (some (.int .i64 0)) = some (.list 0 0 .tight false []) := by simp [sliceD, bnd]
    simp [flat] at hn hm e0
    refine ⟨.tight, .tight, ?_⟩
    simp [f361, h0', e0, hm, appendHD, hn, s1, s2]
  · rw [F_go at361 rfl]
    have hm := cut_min l h h0 hb hl
    have hc := cut_le l h
    have h0' : ¬ h < 0 := by omega
    have hp : 0 < l.length := List.length_pos_iff.2 hz
    have hlen0 : ¬ l.length = 0 := by omega
    generalize cutN l h = n at *
    have b1 : l.length * 56 ≤ 140737488355328 := by omega
    have b2 : l.length ≤ 140737488355328 := by omega
    have q1 : bnd (.int .i64 (n : Int)) l.length = some n := by rw [bnd_int (by omega) (by omega)]; simp
    have q2 : bnd (.int .i64 (n : Int)) n = some n := by rw [bnd_int (by omega) (by omega)]; simp
    have q3 : bnd (.int .i64 (l.length : Int)) l.length = some l.length := by rw [bnd_int (by omega) (by omega)]; simp
    have s1 : ∀ b, sliceD false 7 (.hsl 7 true b 0 l.length none) none (some (.int .i64 n)) (some (.int .i64 n)) = some (.hsl 7 true b 0 n (some n)) := by intro b; simp [sliceD, q1, q2]
    have s2 : ∀ b, sliceD false 7 (.hsl 7 true b 0 l.length none) (some (.int .i64 n)) (some (.int .i64 l.length)) (some (.int .i64 l.length)) = some (.hsl 7 true b (if l.length = n then 0 else n * 7) (l.length - n) (some (l.length - n))) := by intro b; simp [sliceD, q1, q3]
    have ha : appendHD (pst st H K) 7 true 56 (.list 0 0 .no false []) v = some (.hsl 7 true (st.heap.length + H.length) 0 l.length none, pst st (H ++ [.cells .grown (flat (l.map Ln.dv))]) K) := by
      simp only [appendHD, hn, hlen0, if_false]
      rw [if_pos ⟨by omega, by simp [roomD]; omega, by simp [roomD]; omega⟩]
      simp [pst]
    simp [f361, h0', e0, hm, ha, s1, s2]
end

/-! The two rows in the one that was grown -/
theorem flat_len7 (l : List Ln) : (flat (l.map Ln.dv)).length = l.length * 7 := by
  induction l with
  | nil => rfl
  | cons x r ih => simp only [List.map_cons, flat, List.flatMap_cons, List.length_append, List.length_cons] at *; rw [ih]; simp [Ln.dv, Ln.cs, DV.leaves]; omega
theorem flat_app7 (l r : List Ln) : flat ((l ++ r).map Ln.dv) = flat (l.map Ln.dv) ++ flat (r.map Ln.dv) := by simp [flat]
theorem flat_take7 (l : List Ln) (n : Nat) (hn : n ≤ l.length) : (flat (l.map Ln.dv)).take (n * 7) = flat ((l.take n).map Ln.dv) := by
  have h := flat_app7 (l.take n) (l.drop n)
  rw [List.take_append_drop] at h
  rw [h, List.take_left' (by rw [flat_len7]; simp; omega)]
theorem flat_drop7 (l : List Ln) (n : Nat) (hn : n ≤ l.length) : (flat (l.map Ln.dv)).drop (n * 7) = flat ((l.drop n).map Ln.dv) := by
  have h := flat_app7 (l.take n) (l.drop n)
  rw [List.take_append_drop] at h
  rw [h, List.drop_left' (by rw [flat_len7]; simp; omega)]
theorem head7 (l : List Ln) {j : Nat} (hj : j < l.length) : ∃ x : Int, (flat (l.map Ln.dv))[j * 7]? = some (.int .i64 x) := by
  have h := flat_nth (n := 7) (ag := true) (xs := l.map Ln.dv) el_lns (i := j) (x := (l[j]).dv) (by simp [hj])
  refine ⟨(l[j]).f, ?_⟩
  have h2 := congrArg (fun q => q[0]?) h
  simpa [List.getElem?_take, List.getElem?_drop, Ln.dv, Ln.cs, DV.leaves] using h2
theorem list_of {α : Type} {f : α → DV} : ∀ {xs : List DV}, (∀ x ∈ xs, ∃ a, x = f a) → ∃ l : List α, xs = l.map f
  | [], _ => ⟨[], rfl⟩
  | x :: r, h => by
    obtain ⟨a, rfl⟩ := h x (List.mem_cons_self ..)
    obtain ⟨l, rfl⟩ := list_of fun y hy => h y (List.mem_cons_of_mem _ hy)
    exact ⟨a :: l, rfl⟩
def shLn : List Sh := [.int .i64, .int .i64, .int .i64, .int .i64, .int .i64, .bool, .int .i64]
theorem fit_ln {vs : List DV} (h : FitFs shLn vs) : ∃ x : Ln, vs = x.cs := by
  obtain ⟨_, _, rfl, ⟨a, rfl, _⟩, _, _, rfl, ⟨b, rfl, _⟩, _, _, rfl, ⟨c, rfl, _⟩, _, _, rfl, ⟨d, rfl, _⟩, _, _, rfl, ⟨e, rfl, _⟩, _, _, rfl, ⟨h, rfl⟩, _, _, rfl, ⟨g, rfl, _⟩, rfl⟩ := h
  exact ⟨⟨a, b, c, d, e, h, g⟩, rfl⟩
theorem fit_lns {v : DV} (h : Fit (.list true 56 shLn) v) : ∃ (l : List Ln) (nn : Bool), v = .list 0 7 .no nn (l.map Ln.dv) ∧ (nn = false → l = []) := by
  obtain ⟨nn, xs, rfl, hnn, hmax, hlen, hxs⟩ := h
  obtain ⟨l, rfl⟩ : ∃ l : List Ln, xs = l.map Ln.dv := list_of fun x hx => by
    obtain ⟨vs, h1, rfl⟩ := hxs x hx
    obtain ⟨m, rfl⟩ := fit_ln h1
    exact ⟨m, rfl⟩
  exact ⟨l, nn, rfl, fun e => by simpa using hnn e⟩

def lawSh : List (Bool × List Sh) := [(false, [.list true 56 shLn]), (false, [.int .i64])]
theorem law_run (us : List DV) (hf : FitAll lawSh us) : ∃ st', (E tab).F 357 us st0 = some (.bool true, st') := by
  obtain ⟨_, _, rfl, ⟨v, _, rfl, hv, rfl⟩, _, _, rfl, ⟨_, _, rfl, ⟨h, rfl, hb⟩, rfl⟩, rfl⟩ := hf
  obtain ⟨l, nn, rfl, hnn⟩ := fit_lns hv
  rw [F_run at357 rfl]
  simp only [elemOf, List.headD_cons, Bool.false_eq_true, if_false, if_true]
  by_cases h1 : 1000 < l.length
  · have h1' : (1000 : Int) < l.length := by omega
    exact ⟨st0, by simp [f357, h1, h1']⟩
  have h1' : ¬ (1000 : Int) < l.length := by omega
  have hl : l.length ≤ 1000 := by omega
  have hk := nknown_run
  obtain ⟨w, K1, hw, cw⟩ := app_lit (st := st0) (H := []) (K := []) (t := 0) (nn := nn) (tk := .no) hl hnn
  have vw : Lns (pst st0 [] K1) l w := by
    rcases cw with ⟨k, s, rfl⟩ | ⟨hz, rfl⟩
    · exact .list _ _ _ _ (fun _ => rfl) (fun e => by cases e)
    · rw [hz]; exact .list _ _ _ _ (fun _ => rfl) (fun e => by cases e)
  have vl : ∀ st, Lns st l (.list 0 7 .no nn (l.map Ln.dv)) := fun st => .list _ _ _ _ (fun _ => rfl) (fun e => by rw [hnn e]; rfl)
  have i0 : ∀ st, Lns st ([] : List Ln) (.list 0 0 .no false []) := fun st => .list _ _ _ _ (fun e => by cases e) (fun _ => rfl)
  obtain ⟨p1, p2, p3⟩ := split361 hl vw h hb
  by_cases h0 : h < 0
  · obtain ⟨u1, u2, q, q1, q2⟩ := split362 hl 0 .no nn hnn h hb (pst st0 [] K1)
    obtain ⟨rfl, rfl⟩ := q1 h0
    have p := p1 h0
    rw [if_pos h0] at q
    have s1 := same309 (i0 (pst st0 [] K1)) (i0 _) (by simp)
    have s2 := same309 vw (vl _) (by omega)
    have g1 := height363 vw
    have g2 := height364 (vl (pst st0 [] K1))
    have o1 := over317_nil 0 0 .no (pst st0 [] K1)
    exact ⟨st0, by simp [f357, h1, h1', op_lit, repl, chunk, hw, p, q, s1, s2, g1, g2, o1, hk]⟩
  have h0' : 0 ≤ h := by omega
  by_cases hz : l = []
  · obtain ⟨u1, u2, q, q1, q2⟩ := split362 hl 0 .no nn hnn h hb (pst st0 [] K1)
    obtain ⟨c1, c2⟩ := q2 h0'
    obtain ⟨tk1, tk2, p⟩ := p2 h0' hz
    rw [if_neg h0] at q
    have v1 : Lns (pst st0 [] K1) (l.take (cutN l h)) u1 := c1.vw
    have v2 : Lns (pst st0 [] K1) (l.drop (cutN l h)) u2 := c2.vw
    have i1 : ∀ st tk, Lns st ([] : List Ln) (.list 0 0 tk false []) := fun st tk => .list _ _ _ _ (fun e => by cases e) (fun _ => rfl)
    have hz1 : l.take (cutN l h) = [] := by rw [hz]; simp
    have hz2 : l.drop (cutN l h) = [] := by rw [hz]; simp
    rw [hz1] at v1
    rw [hz2] at v2
    have s1 := same309 (i1 (pst st0 [] K1) tk1) v1 (by simp)
    have s3 := same309 (i1 (pst st0 [] K1) tk2) v2 (by simp)
    have s2 := same309 vw (vl _) (by omega)
    have g1 := height363 vw
    have g2 := height364 (vl (pst st0 [] K1))
    have o1 := over317_nil 0 0 tk1 (pst st0 [] K1)
    have o2 := over317_nil 0 0 tk2 (pst st0 [] K1)
    exact ⟨st0, by simp [f357, h1, h1', op_lit, repl, chunk, hw, p, q, s1, s2, s3, g1, g2, o1, o2, hk]⟩
  have p := p3 h0' hz
  have hc := cut_le l h
  have hb1 := flat_take7 l (cutN l h) hc
  have hb2 := flat_drop7 l (cutN l h) hc
  have hlen := flat_len7 l
  simp only [List.nil_append] at p
  obtain ⟨u1, u2, q, q1, q2⟩ := split362 hl 0 .no nn hnn h hb (pst st0 [.cells .grown (flat (l.map Ln.dv))] K1)
  obtain ⟨c1, c2⟩ := q2 h0'
  rw [if_neg h0] at q
  have hhead := fun j => head7 l (j := j)
  generalize cutN l h = n at *
  have v1 : ∀ st, Lns st (l.take n) u1 := fun st => c1.vw
  have v2 : ∀ st, Lns st (l.drop n) u2 := fun st => c2.vw
  generalize hC : flat (l.map Ln.dv) = C at *
  have hcell : ∀ g vs, (pst st0 [.cells g vs] K1).cells (st0.heap.length + 0) = some (g, vs) := by
    intro g vs; simp [St.cells, pst]
  have va : Lns (pst st0 [.cells .grown C] K1) (l.take n) (.hsl 7 true (st0.heap.length + 0) 0 n (some n)) := by
    have := Vw.hsl (st := pst st0 [.cells .grown C] K1) (n := 7) (ag := true) (xs := (l.take n).map Ln.dv) (st0.heap.length + 0) 0 n .grown C (hcell _ _) (by simp; omega) (by simpa [Nat.min_eq_left hc] using hb1) (by simp; omega)
    simpa only [List.length_map, List.length_take, Nat.min_eq_left hc] using this
  have vb : ∀ C', C'.length = C.length → C'.drop (n * 7) = C.drop (n * 7) → Lns (pst st0 [.cells .grown C'] K1) (l.drop n) (.hsl 7 true (st0.heap.length + 0) (if l.length = n then 0 else n * 7) (l.length - n) (some (l.length - n))) := by
    intro C' hl' hd'
    have := Vw.hsl (st := pst st0 [.cells .grown C'] K1) (n := 7) (ag := true) (xs := (l.drop n).map Ln.dv) (st0.heap.length + 0) (if l.length = n then 0 else n * 7) (l.length - n) .grown C' (hcell _ _) (by split <;> simp <;> omega) (by
      by_cases hln : l.length = n
      · have : l.drop n = [] := List.drop_eq_nil_of_le (by omega)
        simp [this, flat]
      · rw [if_neg hln, hd', hb2, List.take_of_length_le]
        rw [flat_len7]; simp) (by simp)
    simpa only [List.length_map, List.length_drop] using this
  have s4 := same309 (vb C rfl rfl) (v2 _) (by simp; omega)
  have s1 := same309 va (v1 _) (by simp; omega)
  have g1 := height363 (vw.app [.cells .grown C] K1)
  have g2 := height364 (vl (pst st0 [.cells .grown C] K1))
  obtain ⟨C2, o1, k1, k2⟩ := over317 (st := st0) (H := [.cells .grown C]) (K := K1) (k := 0) (off := 0) (n := n) (vs := C) (by omega) rfl (by omega) (fun j hj => by rw [Nat.zero_add]; exact hhead j (by omega))
  simp only [List.set_cons_zero] at o1
  have hout : ∀ j, n * 7 ≤ j → C2[j]? = C[j]? := fun j hj => k2 j (.inr (by omega))
  have hdr : C2.drop (n * 7) = C.drop (n * 7) := by
    apply List.ext_getElem?
    intro j
    rw [List.getElem?_drop, List.getElem?_drop]
    exact hout _ (by omega)
  have s3 := same309 (vb C2 k1 hdr) (v2 _) (by simp; omega)
  obtain ⟨C3, o2, k3, k4⟩ := over317 (st := st0) (H := [.cells .grown C2]) (K := K1) (k := 0) (off := if l.length = n then 0 else n * 7) (n := l.length - n) (vs := C2) (by omega) rfl (by split <;> omega) (fun j hj => by
    rw [if_neg (by omega), hout _ (by omega)]
    obtain ⟨x, hx⟩ := hhead (n + j) (by omega)
    exact ⟨x, by rw [← hx]; congr 1; omega⟩)
  simp only [List.set_cons_zero] at o2
  have s2 := same309 (vw.app [.cells .grown C3] K1) (vl _) (by omega)
  simp only [List.nil_append] at g1 s2
  clear va vb vw vl v1 v2 hb1 hb2 hcell hout hdr
  simp only [Nat.add_zero, List.length_nil] at *
  refine ⟨st0, ?_⟩
  clear k1 k2 k3 k4 hhead hlen
  generalize (if l.length = n then 0 else n * 7) = off at *
  simp [f357, h1, h1', op_lit, repl, chunk, hw, p, q, s1, s2, s3, s4, g1, g2, o1, o2, hk]

end Go.D.Tab
