/-
What the law FirstFits runs through, walked: it tells true of all that its arguments may stand for.
-/
import Derived.Test.YtfognfpgcjgpkaaDoorTab
import Derived.Test.YtfognfpgcjgpkaaDoorFwDOver
import Derived.Test.YtfognfpgcjgpkaaDoorFwDX
import Derived.KernelRfl
import Derived.Test.YtfognfpgcjgpkaaDoorFwDArg2
set_option linter.unusedSimpArgs false
set_option linter.unusedVariables false
set_option linter.unnecessarySimpa false
namespace Go.D.Tab
def trueP : List DV → Option DV
  | [] => some (.bool true)
  | _ => none

theorem trueP_ran {g : Nat} (h : ∃ n, tells tree.get n g [] st0 (.bool true) = true) : ∀ as v, trueP as = some v → Ran tree.get g as v := by
  intro as v e
  obtain ⟨n, h⟩ := h
  cases as with
  | nil => cases e; exact ran_of rfl rfl h
  | cons a r => cases e

theorem iknown_runs : tells tree.get 1000000 96 [] st0 (.bool true) = true := by kernel_rfl
theorem fknown_runs : tells tree.get 1000000 98 [] st0 (.bool true) = true := by kernel_rfl

def known : List (Nat × (List DV → Option DV)) := [(96, trueP), (98, trueP)]
def tab : Tab := over tree.get known

theorem known_ran : ∀ x ∈ known, ∀ as v, x.2 as = some v → Ran tree.get x.1 as v := by
  intro x hx
  simp only [known, List.mem_cons, List.not_mem_nil, or_false] at hx
  rcases hx with rfl | rfl
  · exact trueP_ran ⟨_, iknown_runs⟩
  · exact trueP_ran ⟨_, fknown_runs⟩

theorem known_pure : ∀ x ∈ known, isPure tree.get x.1 = true := by
  intro x hx
  simp only [known, List.mem_cons, List.not_mem_nil, or_false] at hx
  rcases hx with rfl | rfl <;> kernel_rfl

theorem at96 : tab 96 = some (.pprim trueP) := by kernel_rfl
theorem at98 : tab 98 = some (.pprim trueP) := by kernel_rfl
theorem iknown_run (st : St) : (E tab).F 96 [] st = some (.bool true, st) := F_prim at96 rfl
theorem fknown_run (st : St) : (E tab).F 98 [] st = some (.bool true, st) := F_prim at98 rfl

@[simp] theorem nat_not_neg (n : Nat) : ¬ ((n : Int) < 0) := by omega
/-! Rows among many -/
theorem rowAt_lt {H : List HO} {k : Nat} {x : CK × List DV} (h : rowAt H k = some x) : k < H.length := by
  unfold rowAt at h
  split at h
  · rename_i e; exact (List.getElem?_eq_some_iff.1 e).1
  · cases h
theorem rowAt_left {H X : List HO} {k : Nat} (h : k < H.length) : rowAt (H ++ X) k = rowAt H k := by
  unfold rowAt
  rw [List.getElem?_append_left h]
theorem rowAt_set {H : List HO} {k : Nat} (h : k < H.length) (g : CK) (vs : List DV) : rowAt (H.set k (.cells g vs)) k = some (g, vs) := by
  unfold rowAt
  rw [List.getElem?_set_self h]
theorem set_left {H X : List HO} {k : Nat} (h : k < H.length) (o : HO) : (H ++ X).set k o = H.set k o ++ X := List.set_append_left _ _ h
theorem row_at {H : List HO} {k : Nat} {g : CK} {vs : List DV} (h : rowAt H k = some (g, vs)) (X : List HO) : rowAt (H ++ X) k = some (g, vs) := by
  rw [rowAt_left (rowAt_lt h), h]

theorem rowAt_setl {H : List HO} {k : Nat} (h : k < H.length) (g : CK) (vs : List DV) (X : List HO) : rowAt (H.set k (.cells g vs) ++ X) k = some (g, vs) := by
  rw [rowAt_left (by simpa using h), rowAt_set h]
theorem set_setl {H : List HO} {k : Nat} (h : k < H.length) (o o' : HO) (X : List HO) : (H.set k o ++ X).set k o' = H.set k o' ++ X := by
  rw [set_left (by simpa using h), List.set_set]
theorem rowAt_right {H X : List HO} (j : Nat) : rowAt (H ++ X) (H.length + j) = rowAt X j := by
  unfold rowAt
  rw [app_at]
theorem set_right {H X : List HO} (j : Nat) (x : HO) : (H ++ X).set (H.length + j) x = H ++ X.set j x := by simp [List.set_append_right]
@[simp] theorem rowAt_set2 (H X : List HO) (k : Nat) (o : HO) (j : Nat) : rowAt (H.set k o ++ X) (H.length + j) = rowAt X j := by
  have h := rowAt_right (H := H.set k o) (X := X) j
  rwa [List.length_set] at h
@[simp] theorem rowAt_set20 (H X : List HO) (k : Nat) (o : HO) : rowAt (H.set k o ++ X) H.length = rowAt X 0 := rowAt_set2 H X k o 0
@[simp] theorem set_set2 (H X : List HO) (k : Nat) (o : HO) (j : Nat) (x : HO) : (H.set k o ++ X).set (H.length + j) x = H.set k o ++ X.set j x := by
  have h := set_right (H := H.set k o) (X := X) j x
  rwa [List.length_set] at h
@[simp] theorem set_set20 (H X : List HO) (k : Nat) (o : HO) (x : HO) : (H.set k o ++ X).set H.length x = H.set k o ++ X.set 0 x := set_set2 H X k o 0 x

theorem splice_one {vs : List DV} {i : Nat} {x : DV} (h : i < vs.length) : splice vs i [x] = vs.set i x := by
  rw [List.set_eq_take_append_cons_drop, if_pos h]
  simp [splice]

/-! What leaves a call: a row that it laid -/
theorem liveB_new (st : St) (k : Nat) : st.liveB (st.heap.length + k) = false := by
  unfold St.liveB
  rw [List.getElem?_eq_none (Nat.le_add_right _ _)]
theorem pst_cellsAt {st : St} {H : List HO} {K : List Nat} {k : Nat} {g : CK} {vs : List DV} (h : rowAt H k = some (g, vs)) : (pst st H K).heap[st.heap.length + k]? = some (.cells g vs) := by
  rw [pst_heap]
  unfold rowAt at h
  split at h
  · rename_i e; simp only [Option.some.injEq, Prod.mk.injEq] at h; rw [e, h.1, h.2]
  · cases h
theorem flat_len {n : Nat} {ag : Bool} : ∀ {ys : List DV}, (∀ y ∈ ys, IsEl n ag y) → (flat ys).length = ys.length * n
  | [], _ => by simp [flat]
  | y :: r, h => by
    have h1 := (h y (List.mem_cons_self ..)).1
    have h2 := flat_len (ys := r) fun z hz => h z (List.mem_cons_of_mem _ hz)
    simp only [flat, List.flatMap_cons, List.length_append, h1, List.length_cons] at h2 ⊢
    rw [h2, Nat.succ_mul]; omega
theorem ex_row {st : St} {H : List HO} {K : List Nat} {k n : Nat} {ag : Bool} {g : CK} {ys : List DV} {cap : Option Nat} (hr : rowAt H k = some (g, flat ys)) (hn : 0 < n) (hag : ag = true ∨ n = 1) (he : ∀ y ∈ ys, IsEl n ag y) :
    exportL st (pst st H K) (.hsl n ag (st.heap.length + k) 0 ys.length cap) = some (.list st.cur n (if cap = some ys.length then .tight else .no) true ys) := by
  have hl := flat_len he
  have hp := flat_pure he
  have hd := demotes_pure hp
  simp only [exportL, liveB_new, Bool.false_eq_true, if_false, pst_cellsAt hr]
  have ht : (flat ys).take (ys.length * n) = flat ys := List.take_of_length_le (by omega)
  simp only [List.drop_zero, ht, hd, hp, chunk_flat he]
  rw [if_pos ⟨Nat.le_add_right _ _, by omega, hn, hag, trivial⟩]
  rfl
theorem repl_one (z : DV) : ∀ n, repl [z] n = List.replicate n z
  | 0 => rfl
  | n + 1 => by rw [repl, repl_one z n]; rfl
theorem flat_scal : ∀ (ys : List DV), (∀ y ∈ ys, IsEl 1 false y) → flat ys = ys
  | [], _ => rfl
  | y :: r, h => by
    have h1 := (h y (List.mem_cons_self ..)).2.2
    have h2 := flat_scal r fun z hz => h z (List.mem_cons_of_mem _ hz)
    simp only [Bool.false_eq_true, if_false] at h1
    simp only [flat, List.flatMap_cons, h1] at h2 ⊢
    rw [h2]; rfl

/-! Lists that may be read, wherever they lie -/
inductive Vw (st : St) (n : Nat) (ag : Bool) (xs : List DV) : DV → Prop
  | list (t n' : Nat) (tk : Tk) (nn : Bool) (h1 : nn = true → n' = n) (h2 : nn = false → xs = []) : Vw st n ag xs (.list t n' tk nn xs)
  | hsl (b off c : Nat) (g : CK) (vs : List DV) (hc : st.cells b = some (g, vs)) (hl : off + xs.length * n ≤ vs.length) (hx : (vs.drop off).take (xs.length * n) = flat xs) (hcap : xs.length ≤ c) :
      Vw st n ag xs (.hsl n ag b off xs.length (some c))

theorem Vw.of_cells {st st' : St} {n : Nat} {ag : Bool} {xs : List DV} {v : DV} (h : Vw st n ag xs v) (hs : ∀ b g vs, st.cells b = some (g, vs) → st'.cells b = some (g, vs)) : Vw st' n ag xs v := by
  cases h with
  | list t n' tk nn h1 h2 => exact .list t n' tk nn h1 h2
  | hsl b off c g vs hc hl hx hcap => exact .hsl b off c g vs (hs _ _ _ hc) hl hx hcap

theorem cells_pst {st : St} {H : List HO} {K : List Nat} {b : Nat} {g : CK} {vs : List DV} (h : st.cells b = some (g, vs)) : (pst st H K).cells b = some (g, vs) := by
  have h1 := cells_get h
  have hb := (List.getElem?_eq_some_iff.1 h1).1
  unfold St.cells
  show (match (st.heap ++ H)[b]? with | some (.cells g vs) => some (g, vs) | _ => none) = _
  rw [List.getElem?_append_left hb, h1]
theorem Vw.inn {st : St} {n : Nat} {ag : Bool} {xs : List DV} {v : DV} (h : Vw st n ag xs v) (H : List HO) (K : List Nat) : Vw (pst st H K) n ag xs v := h.of_cells fun _ _ _ => cells_pst
theorem Vw.out {st : St} {n : Nat} {ag : Bool} {xs : List DV} {v : DV} (h : Vw (pst st [] []) n ag xs v) : Vw st n ag xs v := h.of_cells fun b g vs hc => by
  have : (pst st [] []).cells b = st.cells b := by unfold St.cells; simp only [pst, List.append_nil]
  rw [← this]; exact hc
theorem Vw.app {st : St} {H : List HO} {K : List Nat} {n : Nat} {ag : Bool} {xs : List DV} {v : DV} (h : Vw (pst st H K) n ag xs v) (X : List HO) (K' : List Nat) : Vw (pst st (H ++ X) K') n ag xs v := by
  refine h.of_cells fun b g vs hc => ?_
  have h1 := cells_get hc
  have hb := (List.getElem?_eq_some_iff.1 h1).1
  unfold St.cells
  change (st.heap ++ H)[b]? = _ at h1
  show (match (st.heap ++ (H ++ X))[b]? with | some (.cells g vs) => some (g, vs) | _ => none) = _
  rw [← List.append_assoc, List.getElem?_append_left (show b < (st.heap ++ H).length from hb), h1]

/-- Where an element lies. -/
def elP (n : Nat) : DV → Nat → DV
  | .list _ _ _ _ xs, i => .cptr ((xs.getD i .undef).leaves)
  | .hsl _ _ b off _ _, i => .ptr b (off + i * n)
  | _, _ => .undef
/-- A place behind another one. -/
def faP (off : Nat) : DV → DV
  | .ptr b o => .ptr b (o + off)
  | .cptr cs => .cptr (cs.drop off)
  | _ => .undef

section
variable {st : St} {H : List HO} {K : List Nat} {n : Nat} {ag : Bool} {xs : List DV} {v : DV}
theorem Vw.len (h : Vw st n ag xs v) (st' : St) : lenV st' .slice v = some (.int .i64 xs.length, st') := by
  cases h <;> rfl
theorem Vw.iaddr (h : Vw st n ag xs v) {i : Nat} (hi : i < xs.length) (k : IntKind) (st' : St) : iaddrV st' n v (.int k i) = some (elP n v i, st') := by
  cases h with
  | list t n' tk nn h1 h2 =>
    cases nn with
    | false => rw [h2 rfl] at hi; cases hi
    | true => simp [h1 rfl, hi, elP, List.getD_eq_getElem?_getD]
  | hsl b off c g vs hc hl hx hcap =>
    simp [hi, elP]
theorem flat_nth (he : ∀ x ∈ xs, IsEl n ag x) : ∀ {i : Nat} {x : DV}, xs[i]? = some x → ((flat xs).drop (i * n)).take n = x.leaves := by
  induction xs with
  | nil => intro i x h; cases h
  | cons y r ih =>
    intro i x h
    have hy := (he y (List.mem_cons_self ..)).1
    have e : flat (y :: r) = y.leaves ++ flat r := by simp [flat]
    rw [e]
    cases i with
    | zero =>
      simp only [List.getElem?_cons_zero, Option.some.injEq] at h
      subst h
      simp [← hy]
    | succ i =>
      rw [List.getElem?_cons_succ] at h
      rw [Nat.succ_mul, Nat.add_comm, ← List.drop_drop, ← hy]
      simp only [List.drop_left]
      rw [hy]
      exact ih (fun z hz => he z (List.mem_cons_of_mem _ hz)) h
theorem cells_of_hsl {off : Nat} {vs : List DV} (he : ∀ x ∈ xs, IsEl n ag x) (hl : off + xs.length * n ≤ vs.length) (hx : (vs.drop off).take (xs.length * n) = flat xs) {i : Nat} {x : DV} (h : xs[i]? = some x) :
    (vs.drop (off + i * n)).take n = x.leaves ∧ off + i * n + n ≤ vs.length := by
  have hi := (List.getElem?_eq_some_iff.1 h).1
  have h1 := flat_nth he h
  have hle : (i + 1) * n ≤ xs.length * n := Nat.mul_le_mul_right _ hi
  rw [Nat.succ_mul] at hle
  refine ⟨?_, by omega⟩
  rw [← h1, ← hx, List.drop_take, List.drop_drop, List.take_take]
  congr 1
  omega
theorem Vw.load (h : Vw st n ag xs v) (he : ∀ x ∈ xs, IsEl n ag x) (ha : ag = true) {i : Nat} {x : DV} (hx : xs[i]? = some x) : loadD st n true (elP n v i) = some x := by
  have hm := he x (List.mem_of_getElem? hx)
  have hxl : x = .agg x.leaves := by have := hm.2.2; rw [ha] at this; exact this
  cases h with
  | list t n' tk nn h1 h2 =>
    simp only [elP, loadD, takeN, List.getD_eq_getElem?_getD, hx, Option.getD_some, if_true, Nat.zero_add]
    rw [if_pos (by rw [hm.1]; exact Nat.le_refl _), List.drop_zero, List.take_of_length_le (by rw [hm.1]; exact Nat.le_refl _), ← hxl]
  | hsl b off c g vs hc hl hxx hcap =>
    obtain ⟨h1, h2⟩ := cells_of_hsl he hl hxx hx
    simp only [elP, loadD, takeN, hc, if_true, h1]
    rw [if_pos h2, ← hxl]
theorem Vw.load1 (h : Vw st 1 false xs v) (he : ∀ x ∈ xs, IsEl 1 false x) {i : Nat} {x : DV} (hx : xs[i]? = some x) : loadD st 1 false (elP 1 v i) = some x := by
  have hm := he x (List.mem_of_getElem? hx)
  have hxl : x.leaves = [x] := by have := hm.2.2; simpa using this
  cases h with
  | list t n' tk nn h1 h2 => simp [elP, List.getD_eq_getElem?_getD, hx, hxl]
  | hsl b off c g vs hc hl hxx hcap =>
    obtain ⟨h1, h2⟩ := cells_of_hsl he hl hxx hx
    simp only [elP, loadD, takeN, hc]
    have := congrArg (fun l => l[0]?) h1
    simp [hxl] at this
    simpa using this
theorem Vw.faddr (h : Vw st n ag xs v) (he : ∀ x ∈ xs, IsEl n ag x) {i : Nat} (hi : i < xs.length) {off : Nat} (ho : off ≤ n) (st' : St) : faddrV st' off (elP n v i) = some (faP off (elP n v i), st') := by
  have hx : xs[i]? = some xs[i] := List.getElem?_eq_getElem hi
  have hm := he _ (List.getElem_mem hi)
  cases h with
  | list t n' tk nn h1 h2 =>
    simp only [elP, faddrV, faP, List.getD_eq_getElem?_getD, hx, Option.getD_some]
    rw [if_pos (by rw [hm.1]; exact ho)]
  | hsl b off c g vs hc hl hxx hcap => simp [elP, faP]
theorem Vw.fload (h : Vw st n ag xs v) (he : ∀ x ∈ xs, IsEl n ag x) {i : Nat} {x : DV} (hx : xs[i]? = some x) {off : Nat} {y : DV} (ho : x.leaves[off]? = some y) : loadD st 1 false (faP off (elP n v i)) = some y := by
  have hm := he x (List.mem_of_getElem? hx)
  have hlt : off < n := by have := (List.getElem?_eq_some_iff.1 ho).1; rw [hm.1] at this; exact this
  cases h with
  | list t n' tk nn h1 h2 =>
    simp only [elP, faP, loadD, takeN, List.getD_eq_getElem?_getD, hx, Option.getD_some, Bool.false_eq_true, if_false]
    rw [List.getElem?_drop]; simpa using ho
  | hsl b off' c g vs hc hl hxx hcap =>
    obtain ⟨h1, h2⟩ := cells_of_hsl he hl hxx hx
    simp only [elP, faP, loadD, takeN, hc, Bool.false_eq_true, if_false]
    rw [← h1, List.getElem?_take_of_lt hlt, List.getElem?_drop] at ho
    exact ho
theorem Vw.news (h : Vw st n ag xs v) : newsD st n v = some (xs.length, flat xs) := by
  cases h with
  | list t n' tk nn h1 h2 =>
    cases nn with
    | false => simp [newsD, h2 rfl, flat]
    | true => simp [newsD, h1 rfl]
  | hsl b off c g vs hc hl hx hcap => simp [newsD, hc, hl, hx]
theorem Vw.slice (h : Vw st n ag xs v) (hn : 0 < n) (he : ∀ x ∈ xs, IsEl n ag x) {lo hi : Nat} (h1 : lo ≤ hi) (h2 : hi ≤ xs.length) (k k' : IntKind) :
    ∃ v', sliceD false n v (some (.int k lo)) (some (.int k' hi)) none = some v' ∧ Vw st n ag ((xs.drop lo).take (hi - lo)) v' := by
  cases h with
  | list t n' tk nn g1 g2 =>
    refine ⟨_, slice_ll g1 (by omega) (by omega) (by omega), ?_⟩
    simp only [Int.toNat_natCast]
    exact .list _ _ _ _ g1 fun e => by rw [g2 e]; simp
  | hsl b off c g vs hc hl hx hcap =>
    have hb1 : bnd (.int k' (hi : Int)) c = some hi := by rw [bnd_int (by omega) (by omega)]; simp
    have hb2 : bnd (.int k (lo : Int)) hi = some lo := by rw [bnd_int (by omega) (by omega)]; simp
    refine ⟨_, by simp only [sliceD, if_true, Option.isSome_none, Bool.false_eq_true, if_false, hb1, hb2]; rfl, ?_⟩
    have hlen : ((xs.drop lo).take (hi - lo)).length = hi - lo := by simp; omega
    by_cases hcl : c = lo
    · have e0 : hi - lo = 0 := by omega
      rw [if_pos hcl]
      have h3 := Vw.hsl (st := st) (n := n) (ag := ag) (xs := (xs.drop lo).take (hi - lo)) b off (c - lo) g vs hc (by rw [hlen, e0]; omega) (by rw [hlen, e0]; simp [flat]) (by rw [hlen]; omega)
      rw [hlen] at h3; exact h3
    · rw [if_neg hcl]
      have hmul : lo * n + (hi - lo) * n ≤ xs.length * n := by rw [← Nat.add_mul]; exact Nat.mul_le_mul_right _ (by omega)
      have fl : ∀ (ys : List DV), (∀ y ∈ ys, IsEl n ag y) → ∀ k, (flat ys).take (k * n) = flat (ys.take k) ∧ (flat ys).drop (k * n) = flat (ys.drop k) := by
        intro ys
        induction ys with
        | nil => intro _ k; simp [flat]
        | cons y r ih =>
          intro hy k
          have e : flat (y :: r) = y.leaves ++ flat r := by simp [flat]
          have hly := (hy y (List.mem_cons_self ..)).1
          cases k with
          | zero => simp [flat]
          | succ k =>
            have := ih (fun z hz => hy z (List.mem_cons_of_mem _ hz)) k
            rw [e, Nat.succ_mul, Nat.add_comm (k * n)]
            constructor
            · rw [List.take_append, List.take_of_length_le (by omega), hly, show n + k * n - n = k * n by omega, this.1]; simp [flat]
            · rw [← List.drop_drop, ← hly, List.drop_left, hly, this.2, List.drop_succ_cons]
      have h3 := Vw.hsl (st := st) (n := n) (ag := ag) (xs := (xs.drop lo).take (hi - lo)) b (off + lo * n) (c - lo) g vs hc (by rw [hlen]; omega) (by
        rw [hlen, ← (fl _ (fun y hy => he y (List.mem_of_mem_drop hy)) _).1, ← (fl xs he _).2, ← hx, List.drop_take, List.drop_drop, List.take_take]
        congr 1
        rw [Nat.min_eq_left (by omega)]) (by rw [hlen]; omega)
      rw [hlen] at h3; exact h3
end
theorem pst_copy {st : St} {H : List HO} {K : List Nat} {n k off len m : Nat} {ag : Bool} {c : Option Nat} {g : CK} {vs news : List DV} {v : DV} (hn : newsD (pst st H K) n v = some (m, news)) (hr : rowAt H k = some (g, vs)) (hg : g.wr = true) (hp : 0 < min m len) (hl : off + min m len * n ≤ vs.length) :
    copyD (pst st H K) n (.hsl n ag (st.heap.length + k) off len c) v = some (.int .i64 (min m len : Nat), pst st (H.set k (.cells g (splice vs off (news.take (min m len * n))))) K) := by
  have h0 : ¬ min m len = 0 := by omega
  have hc : (pst st H K).cellsW (st.heap.length + k) = some (g, vs) := by unfold St.cellsW; rw [pst_cells, hr]; simp only [hg, if_true]
  have hb : (pst st H K).base ≤ st.heap.length + k := by simp
  simp only [copyD, hn, h0, if_false, hc, hl, if_true, hb, and_self]
  simp [pst, List.set_append_right]
theorem slice_hu {n b off len c hi : Nat} {ag : Bool} {k : IntKind} (h : hi ≤ c) : sliceD false n (.hsl n ag b off len (some c)) none (some (.int k hi)) none = some (.hsl n ag b off hi (some c)) := by
  have hb : bnd (.int k (hi : Int)) c = some hi := by rw [bnd_int (by omega) (by omega)]; simp
  simp [sliceD, hb]
/-- A list that bears its contents. -/
inductive Lw (n : Nat) (xs : List DV) : DV → Prop
  | list (t n' : Nat) (tk : Tk) (nn : Bool) (h1 : nn = true → n' = n) (h2 : nn = false → xs = []) : Lw n xs (.list t n' tk nn xs)
theorem Lw.vw {st : St} {n : Nat} {ag : Bool} {xs : List DV} {w : DV} (h : Lw n xs w) : Vw st n ag xs w := by
  cases h with | list t n' tk nn h1 h2 => exact .list t n' tk nn h1 h2
theorem Lw.ex {st st' : St} {n : Nat} {xs : List DV} {w : DV} (h : Lw n xs w) : ∃ w', exportL st st' w = some w' ∧ exportA st st' w = some w' ∧ exportT st st' w = some w' ∧ Lw n xs w' := by
  cases h with | list t n' tk nn h1 h2 => exact ⟨_, rfl, rfl, rfl, .list _ _ _ _ h1 h2⟩
/-- A view is appended onto nothing. -/
theorem app_view {st : St} {H : List HO} {K : List Nat} {n t n' by_ : Nat} {ag : Bool} {tk : Tk} {xs : List DV} {v : DV} (hv : Vw (pst st H K) n ag xs v) (he : ∀ x ∈ xs, IsEl n ag x) (hx : xs ≠ []) (hn : 0 < n) (hr : xs.length * by_ ≤ roomD) (hr2 : xs.length ≤ roomD) :
    appendD (pst st H K) n ag by_ (.list t n' tk false []) v = some (.list st.cur n (.own (st.toks.length + K.length) 0) true xs, pst st H (K ++ [0])) := by
  have hl : xs.length ≠ 0 := fun h => hx (List.length_eq_zero_iff.1 h)
  have hp := flat_pure he
  have hc := chunk_flat he
  have h0 : ¬ n = 0 := by omega
  have h2 : ¬ ((0 + xs.length) * by_ > roomD) := by rw [Nat.zero_add]; omega
  have h3 : ¬ (0 + xs.length > roomD) := by omega
  simp only [appendD, Vw.news hv, demotes_pure hp, hc, hl, h0, List.length_nil, h2, h3, hp, if_false, Bool.not_true, Bool.false_eq_true, or_false, false_and]
  simp [pst]
theorem app_view0 {st : St} {n t n' by_ : Nat} {ag : Bool} {tk : Tk} {nn : Bool} {ys : List DV} {v : DV} (hv : Vw st n ag [] v) : appendD st n ag by_ (.list t n' tk nn ys) v = some (.list t n' tk nn ys, st) := by
  refine app_none ?_
  have := Vw.news hv
  simpa [flat] using this

structure It where
  k : Int
  f : Int
  t : Int
  w : Int
  s : Int
  h : Int
  c : Int
  y : Bool
def It.cs (x : It) : List DV := [.int .i64 x.k, .int .i64 x.f, .int .i64 x.t, .int .i64 x.w, .int .i64 x.s, .int .i64 x.h, .int .i64 x.c, .bool x.y]
def It.dv (x : It) : DV := .agg x.cs
theorem el_it (x : It) : IsEl 8 true x.dv := ⟨rfl, rfl, rfl⟩
theorem el_its {l : List It} : ∀ y ∈ l.map It.dv, IsEl 8 true y := fun y hy => by obtain ⟨x, _, rfl⟩ := List.mem_map.1 hy; exact el_it x

/-- Items that may be read. -/
abbrev Its (st : St) (l : List It) (v : DV) : Prop := Vw st 8 true (l.map It.dv) v
section
variable {st : St} {l : List It} {v : DV}
theorem its_len (h : Its st l v) (st' : St) : lenV st' .slice v = some (.int .i64 l.length, st') := by simpa using Vw.len h st'
theorem its_at (h : Its st l v) {i : Nat} (hi : i < l.length) (k : IntKind) (st' : St) : iaddrV st' 8 v (.int k i) = some (elP 8 v i, st') := Vw.iaddr h (by simpa using hi) k st'
theorem its_load (h : Its st l v) {i : Nat} {x : It} (hx : l[i]? = some x) (H : List HO) (K : List Nat) : loadD (pst st H K) 8 true (elP 8 v i) = some x.dv := Vw.load (Vw.inn h H K) el_its rfl (by simp [hx])
theorem its_f (h : Its st l v) {i : Nat} {x : It} (hx : l[i]? = some x) {off : Nat} (ho : off ≤ 8) (st' : St) : faddrV st' off (elP 8 v i) = some (faP off (elP 8 v i), st') := Vw.faddr h el_its (by simpa using (List.getElem?_eq_some_iff.1 hx).1) ho st'
theorem its_fl (h : Its st l v) {i : Nat} {x : It} (hx : l[i]? = some x) {off : Nat} {y : DV} (ho : x.cs[off]? = some y) (H : List HO) (K : List Nat) : loadD (pst st H K) 1 false (faP off (elP 8 v i)) = some y := Vw.fload (x := x.dv) (Vw.inn h H K) el_its (by simp [hx]) ho
theorem its_k (h : Its st l v) {i : Nat} {x : It} (hx : l[i]? = some x) (H : List HO) (K : List Nat) : loadD (pst st H K) 1 false (faP 0 (elP 8 v i)) = some (.int .i64 x.k) := its_fl h hx rfl H K
theorem its_w (h : Its st l v) {i : Nat} {x : It} (hx : l[i]? = some x) (H : List HO) (K : List Nat) : loadD (pst st H K) 1 false (faP 3 (elP 8 v i)) = some (.int .i64 x.w) := its_fl h hx rfl H K
theorem its_s (h : Its st l v) {i : Nat} {x : It} (hx : l[i]? = some x) (H : List HO) (K : List Nat) : loadD (pst st H K) 1 false (faP 4 (elP 8 v i)) = some (.int .i64 x.s) := its_fl h hx rfl H K
theorem its_h (h : Its st l v) {i : Nat} {x : It} (hx : l[i]? = some x) (H : List HO) (K : List Nat) : loadD (pst st H K) 1 false (faP 5 (elP 8 v i)) = some (.int .i64 x.h) := its_fl h hx rfl H K
theorem its_y (h : Its st l v) {i : Nat} {x : It} (hx : l[i]? = some x) (H : List HO) (K : List Nat) : loadD (pst st H K) 1 false (faP 7 (elP 8 v i)) = some (.bool x.y) := its_fl h hx rfl H K
end

theorem at109 : tab 109 = some (.code f109) := by kernel_rfl
theorem at120 : tab 120 = some (.code f120) := by kernel_rfl
theorem at122 : tab 122 = some (.code f122) := by kernel_rfl
theorem at108 : tab 108 = some (.code f108) := by kernel_rfl
theorem at110 : tab 110 = some (.code f110) := by kernel_rfl
theorem at121 : tab 121 = some (.code f121) := by kernel_rfl
theorem at123 : tab 123 = some (.code f123) := by kernel_rfl

def withinB (n : Int) : Bool := decide (0 ≤ n) && decide (n ≤ 4095)
theorem within122 (n : Int) (st : St) : (E tab).F 122 [.int .i64 n] st = some (.bool (withinB n), st) := by
  rw [F_run at122 rfl]
  by_cases h : 0 ≤ n
  · simp [f122, withinB, h]
  · simp [f122, withinB, h]

def oddA (x : It) : Bool := decide (x.k < 1) || decide (4 < x.k) || decide (x.f < 0) || decide (x.t < x.f) || decide (x.w < 0) || decide (2097152 < x.w) || !withinB x.s || !withinB x.h || !withinB x.c
def oddB (x : It) : Bool := (x.k != 3 && (x.y || x.c != 0)) || (x.k != 2 && (x.s != 0 || x.h != 0)) || (x.k == 4 && x.w != 0)
def oddI (x : It) : Bool := oddA x || oddB x

theorem odd120 (x : It) (st : St) : (E tab).F 120 [x.dv] st = some (.bool (oddI x), st) := by
  rw [F_run at120 rfl]
  have hw := within122
  cases hA : oddA x with
  | true =>
    have e : oddI x = true := by simp [oddI, hA]
    rw [e]
    unfold oddA at hA
    by_cases h1 : x.k < 1
    · simp [f120, It.dv, It.cs, h1]
    by_cases h2 : 4 < x.k
    · simp [f120, It.dv, It.cs, h1, h2]
    by_cases h3 : x.f < 0
    · simp [f120, It.dv, It.cs, h1, h2, h3]
    by_cases h4 : x.t < x.f
    · simp [f120, It.dv, It.cs, h1, h2, h3, h4]
    by_cases h5 : x.w < 0
    · simp [f120, It.dv, It.cs, h1, h2, h3, h4, h5]
    by_cases h6 : 2097152 < x.w
    · simp [f120, It.dv, It.cs, h1, h2, h3, h4, h5, h6]
    by_cases h7 : withinB x.s = false
    · simp [f120, It.dv, It.cs, h1, h2, h3, h4, h5, h6, hw, h7]
    by_cases h8 : withinB x.h = false
    · simp at h7; simp [f120, It.dv, It.cs, h1, h2, h3, h4, h5, h6, hw, h7, h8]
    by_cases h9 : withinB x.c = false
    · simp at h7 h8; simp [f120, It.dv, It.cs, h1, h2, h3, h4, h5, h6, hw, h7, h8, h9]
    · simp at h7 h8 h9; simp [h1, h2, h3, h4, h5, h6, h7, h8, h9] at hA
  | false =>
    have e : oddI x = oddB x := by simp [oddI, hA]
    rw [e]
    unfold oddA at hA
    simp only [Bool.or_eq_false_iff, decide_eq_false_iff_not, Bool.not_eq_false'] at hA
    obtain ⟨⟨⟨⟨⟨⟨⟨⟨h1, h2⟩, h3⟩, h4⟩, h5⟩, h6⟩, h7⟩, h8⟩, h9⟩ := hA
    have w0 : withinB 0 = true := rfl
    have c3 : x.k = 3 ∨ x.k ≠ 3 := Decidable.em _
    have c2 : x.k = 2 ∨ x.k ≠ 2 := Decidable.em _
    have c4 : x.k = 4 ∨ x.k ≠ 4 := Decidable.em _
    have cc : x.c = 0 ∨ x.c ≠ 0 := Decidable.em _
    have cs : x.s = 0 ∨ x.s ≠ 0 := Decidable.em _
    rcases c3 with c3 | c3
    · rcases cs with cs | cs
      · by_cases ch : x.h = 0 <;> simp [f120, It.dv, It.cs, h1, h2, h3, h4, h5, h6, hw, h7, h8, h9, w0, oddB, c3, cs, ch]
      · simp [f120, It.dv, It.cs, h1, h2, h3, h4, h5, h6, hw, h7, h8, h9, w0, oddB, c3, cs]
    · cases hy : x.y with
      | true => simp [f120, It.dv, It.cs, h1, h2, h3, h4, h5, h6, hw, h7, h8, h9, w0, oddB, c3, hy]
      | false =>
        rcases cc with cc | cc
        · rcases c2 with c2 | c2
          · simp [f120, It.dv, It.cs, h1, h2, h3, h4, h5, h6, hw, h7, h8, h9, w0, oddB, c2, hy, cc]
          · rcases cs with cs | cs
            · by_cases ch : x.h = 0
              · rcases c4 with c4 | c4
                · simp [f120, It.dv, It.cs, h1, h2, h3, h4, h5, h6, hw, h7, h8, h9, w0, oddB, c4, hy, cc, cs, ch]
                · simp [f120, It.dv, It.cs, h1, h2, h3, h4, h5, h6, hw, h7, h8, h9, w0, oddB, c3, c2, c4, hy, cc, cs, ch]
              · simp [f120, It.dv, It.cs, h1, h2, h3, h4, h5, h6, hw, h7, h8, h9, w0, oddB, c3, c2, hy, cc, cs, ch]
            · simp [f120, It.dv, It.cs, h1, h2, h3, h4, h5, h6, hw, h7, h8, h9, w0, oddB, c3, c2, hy, cc, cs]
        · simp [f120, It.dv, It.cs, h1, h2, h3, h4, h5, h6, hw, h7, h8, h9, w0, oddB, c3, hy, cc]

def checkI (l : List It) : Int := if 8192 < l.length then 3 else if l.any oddI then 2 else 0

section
variable {st : St} {l : List It} {v : DV}
theorem L109_0 (hv : Its st l v) (hl : l.length ≤ 8192) (K : List Nat) : ∀ (r d : List It) (H : List HO), l = d ++ r →
    ∃ J fr, (E tab).C f109L0 [(8, v), (9, .int .i64 l.length), (10, .int .i64 d.length)] (pst st H K) =
      some (if r.any oddI then (.ret, [(2, .int .i64 2)], pst st (H ++ J) K) else (.exit 0, fr, pst st (H ++ J) K)) := by
  intro r
  induction r with
  | nil =>
    intro d H hd
    refine ⟨[], [(8, v), (9, .int .i64 l.length), (10, .int .i64 l.length), (11, .bool false)], ?_⟩
    rw [C_turn (L := f109L0) rfl]
    simp [f109B0, hd]
  | cons x r ih =>
    intro d H hd
    have h0 : d.length < l.length := by simp [hd]
    have hx : l[d.length]? = some x := by simp [hd]
    have hw1 : IntKind.i64.wrap ((d.length : Int) + 1) = ((d ++ [x]).length : Nat) := by rw [i64w (by omega)]; simp
    have e1 := fun st' => its_at hv h0 .i64 st'
    have e2 := fun H K => its_load hv hx H K
    have e3 := fun st => odd120 x st
    simp only [It.dv, It.cs] at e2 e3
    rw [List.any_cons]
    cases ho : oddI x with
    | true =>
      refine ⟨[.cells .plain x.cs], [], ?_⟩
      rw [C_turn (L := f109L0) rfl]
      simp [f109B0, h0, e1, e2, e3, ho, It.cs]
    | false =>
      obtain ⟨J, fr, hJ⟩ := ih (d ++ [x]) (H ++ [.cells .plain x.cs]) (by simp [hd])
      refine ⟨.cells .plain x.cs :: J, fr, ?_⟩
      rw [Bool.false_or]
      generalize r.any oddI = b at hJ ⊢
      simp only [List.length_append, List.length_singleton] at hJ hw1
      simp [It.cs] at hJ
      rw [C_turn (L := f109L0) rfl]
      simp [f109B0, h0, e1, e2, e3, ho, It.cs, hw1, hJ]

theorem check109 (hv : Its st l v) : (E tab).F 109 [v] st = some (.int .i64 (checkI l), st) := by
  rw [F_run at109 rfl]
  have e0 := fun st' => its_len hv st'
  by_cases h : 8192 < l.length
  · have h' : (8192 : Int) < l.length := by omega
    simp [f109, e0, h, h', checkI]
  · have h' : ¬ (8192 : Int) < l.length := by omega
    obtain ⟨J, fr, hL⟩ := L109_0 hv (by omega) [] l [] [] rfl
    have e : checkI l = if l.any oddI then 2 else 0 := by simp only [checkI, if_neg h]
    rw [e]
    generalize l.any oddI = b at hL ⊢
    simp at hL
    cases b <;> simp at hL <;> simp [f109, e0, h', hL]

def isLeap (x : It) : Bool := x.k == 4
theorem L108_0 (hv : Its st l v) (hl : l.length ≤ 140737488355328) (K : List Nat) : ∀ (r d : List It) (H : List HO), l = d ++ r →
    ∃ J fr, (E tab).C f108L0 [(5, v), (6, .int .i64 l.length), (7, .int .i64 d.length)] (pst st H K) =
      some (if r.any isLeap then (.ret, [(2, .bool true)], pst st (H ++ J) K) else (.exit 0, fr, pst st (H ++ J) K)) := by
  intro r
  induction r with
  | nil =>
    intro d H hd
    refine ⟨[], [(5, v), (6, .int .i64 l.length), (7, .int .i64 l.length), (8, .bool false)], ?_⟩
    rw [C_turn (L := f108L0) rfl]
    simp [f108B0, hd]
  | cons x r ih =>
    intro d H hd
    have h0 : d.length < l.length := by simp [hd]
    have hx : l[d.length]? = some x := by simp [hd]
    have hw1 : IntKind.i64.wrap ((d.length : Int) + 1) = ((d ++ [x]).length : Nat) := by rw [i64w (by omega)]; simp
    have e1 := fun st' => its_at hv h0 .i64 st'
    have e2 := fun H K => its_load hv hx H K
    simp only [It.dv, It.cs] at e2
    rw [List.any_cons]
    by_cases ho : x.k = 4
    · have e : isLeap x = true := by simp [isLeap, ho]
      refine ⟨[.cells .plain x.cs], [], ?_⟩
      rw [C_turn (L := f108L0) rfl]
      simp [f108B0, h0, e1, e2, ho, e, It.cs]
    · have e : isLeap x = false := by simp [isLeap, ho]
      obtain ⟨J, fr, hJ⟩ := ih (d ++ [x]) (H ++ [.cells .plain x.cs]) (by simp [hd])
      refine ⟨.cells .plain x.cs :: J, fr, ?_⟩
      rw [e, Bool.false_or]
      generalize r.any isLeap = b at hJ ⊢
      simp only [List.length_append, List.length_singleton] at hJ hw1
      simp [It.cs] at hJ
      rw [C_turn (L := f108L0) rfl]
      simp [f108B0, h0, e1, e2, ho, It.cs, hw1, hJ]

theorem leaps108 (hv : Its st l v) (hl : l.length ≤ 140737488355328) : (E tab).F 108 [v] st = some (.bool (l.any isLeap), st) := by
  rw [F_run at108 rfl]
  have e0 := fun st' => its_len hv st'
  obtain ⟨J, fr, hL⟩ := L108_0 hv hl [] l [] [] rfl
  generalize l.any isLeap = b at hL ⊢
  simp at hL
  cases b <;> simp at hL <;> simp [f108, e0, hL]

/-- Why a line of items may not be. -/
def rangedI (l : List It) (a b : Int) : Int := if checkI l = 0 ∧ (a < 0 ∨ b < a ∨ l.length < b) then 5 else checkI l
theorem ranged121 (hv : Its st l v) (a b : Int) : (E tab).F 121 [v, .int .i64 a, .int .i64 b] st = some (.int .i64 (rangedI l a b), st) := by
  rw [F_run at121 rfl]
  have e0 := fun st' => its_len hv st'
  have e1 := check109 (hv.inn [] [])
  unfold rangedI
  by_cases h : checkI l = 0
  · by_cases h1 : a < 0
    · simp [f121, e0, e1, h, h1]
    · by_cases h2 : b < a
      · simp [f121, e0, e1, h, h1, h2]
      · by_cases h3 : (l.length : Int) < b
        · simp [f121, e0, e1, h, h1, h2, h3]
        · simp [f121, e0, e1, h, h1, h2, h3]
  · simp [f121, e1, h]

/-- Where what stands in a line ends. -/
def trimI (l : List It) (a : Nat) : Nat → Nat
  | 0 => 0
  | b + 1 => if a ≤ b ∧ (l[b]?.map (·.k)) = some 2 then trimI l a b else b + 1
theorem trimI_le (l : List It) (a : Nat) : ∀ b, trimI l a b ≤ b
  | 0 => Nat.le_refl _
  | b + 1 => by
    unfold trimI
    split
    · exact Nat.le_succ_of_le (trimI_le l a b)
    · exact Nat.le_refl _
theorem trimI_ge (l : List It) (a : Nat) : ∀ b, a ≤ b → a ≤ trimI l a b
  | 0, h => by simp [trimI]; omega
  | b + 1, h => by
    unfold trimI
    split
    · rename_i hc; exact trimI_ge l a b hc.1
    · exact h

theorem L123_0 (hv : Its st l v) (a : Nat) (hl : l.length ≤ 140737488355328) (H : List HO) (K : List Nat) : ∀ b, b ≤ l.length → a ≤ b →
    ∃ fr, (E tab).C f123L0 [(0, v), (1, .int .i64 a), (2, .int .i64 b)] (pst st H K) = some (.exit 0, [(0, v), (1, .int .i64 a), (2, .int .i64 (trimI l a b : Nat))] ++ fr, pst st H K) := by
  intro b
  induction b with
  | zero =>
    intro hb ha
    obtain rfl : a = 0 := by omega
    refine ⟨[(18, .bool false)], ?_⟩
    rw [C_turn (L := f123L0) rfl]
    simp [f123B0, trimI]
  | succ b ih =>
    intro hb ha
    by_cases hab : a ≤ b
    · have hw : IntKind.i64.wrap (((b + 1 : Nat) : Int) - 1) = b := by rw [i64w (by omega)]; omega
      have hlt : (a : Int) < b + 1 := by omega
      have hbl : b < l.length := by omega
      have hx : l[b]? = some l[b] := List.getElem?_eq_getElem hbl
      have e1 := fun st' => its_at hv hbl .i64 st'
      have e2 := fun st' => its_f hv hx (off := 0) (by omega) st'
      have e3 := fun H K => its_k hv hx H K
      simp at hw
      by_cases hk : l[b].k = 2
      · obtain ⟨fr, hJ⟩ := ih (by omega) hab
        refine ⟨fr, ?_⟩
        rw [C_turn (L := f123L0) rfl]
        have et : trimI l a (b + 1) = trimI l a b := by rw [trimI, if_pos ⟨hab, by simp [hx, hk]⟩]
        rw [et]
        simp at hJ
        simp [f123B0, hlt, hw, e1, e2, e3, hk, hJ]
      · have et : trimI l a (b + 1) = b + 1 := by rw [trimI, if_neg]; rintro ⟨_, h⟩; simp [hx] at h; exact hk h
        rw [et]
        refine ⟨[(18, .bool false)], ?_⟩
        rw [C_turn (L := f123L0) rfl]
        simp [f123B0, hlt, hw, e1, e2, e3, hk]
    · obtain rfl : a = b + 1 := by omega
      have et : trimI l (b + 1) (b + 1) = b + 1 := by rw [trimI, if_neg]; omega
      rw [et]
      refine ⟨[(18, .bool false)], ?_⟩
      rw [C_turn (L := f123L0) rfl]
      simp [f123B0]

theorem Vw.ex {n : Nat} {ag : Bool} {xs : List DV} {w : DV} (h : Vw st n ag xs w) (H : List HO) (K : List Nat) : ∃ w', exportL st (pst st H K) w = some w' ∧ Vw st n ag xs w' := by
  cases h with
  | list t n' tk nn h1 h2 => exact ⟨_, rfl, .list _ _ _ _ h1 h2⟩
  | hsl b off c g vs hc hl hx hcap =>
    have hh := cells_get hc
    have hb : st.liveB b = true := by unfold St.liveB; rw [hh]
    refine ⟨_, by simp only [exportL, hb, if_true], .hsl b off c g vs hc hl hx hcap⟩

theorem exT_view {n : Nat} {ag : Bool} {xs : List DV} {w : DV} {st0 st1 st2 : St} (h : Vw st0 n ag xs w) : exportT st1 st2 w = exportL st1 st2 w := by
  cases h <;> rfl
theorem trimmed123 (hv : Its st l v) (hl : l.length ≤ 140737488355328) (a b : Nat) (hab : a ≤ b) (hb : b ≤ l.length) : ∃ v', (E tab).F 123 [v, .int .i64 a, .int .i64 b] st = some (v', st) ∧ Its st ((l.drop a).take (trimI l a b - a)) v' := by
  rw [F_run at123 rfl]
  obtain ⟨fr, hL⟩ := L123_0 hv a hl [] [] b hb hab
  obtain ⟨v', hs, hv'⟩ := Vw.slice hv (by omega) el_its (lo := a) (hi := trimI l a b) (trimI_ge l a b hab) (by have := trimI_le l a b; simp; omega) .i64 .i64
  obtain ⟨v2, hx, hv2⟩ := Vw.ex hv' [] []
  rw [← List.map_drop, ← List.map_take] at hv2
  refine ⟨v2, ?_, hv2⟩
  simp at hL
  have hxT : exportT st (pst st [] []) v' = some v2 := by rw [exT_view hv', hx]
  simp [f123, hL, hs, hxT]
end

theorem at124 : tab 124 = some (.code f124) := by kernel_rfl
theorem at139 : tab 139 = some (.code f139) := by kernel_rfl
theorem at145 : tab 145 = some (.code f145) := by kernel_rfl
theorem at146 : tab 146 = some (.code f146) := by kernel_rfl
theorem at153 : tab 153 = some (.code f153) := by kernel_rfl

/-- The stop behind a place. -/
def leapI (x : Int) : Int := (x / 48 + 1) * 48

theorem tcheck145 (st : St) : (E tab).F 145 [.list 0 0 .no false []] st = some (.int .i64 0, st) := by
  rw [F_run at145 rfl]
  have hL : ∀ st : St, (E tab).C f145L0 [(3, .int .i64 0), (9, .list 0 0 .no false []), (10, .int .i64 0), (11, .int .i64 0)] st = some (.exit 0, [(3, .int .i64 0), (9, .list 0 0 .no false []), (10, .int .i64 0), (11, .int .i64 0), (12, .bool false)], st) := by
    intro st
    rw [C_turn (L := f145L0) rfl]
    simp [f145B0]
  simp [f145, hL]

theorem bsearch153 (x f : DV) (st : St) : (E tab).F 153 [.list 0 0 .no false [], x, f] st = some (.tuple [.int .i64 0, .bool false], st) := by
  rw [F_go at153 rfl]
  have hL : ∀ st : St, (E tab).C f153L0 [(0, .list 0 0 .no false []), (1, x), (2, f), (8, .int .i64 0), (9, .int .i64 0), (10, .int .i64 0)] st = some (.exit 0, [(0, .list 0 0 .no false []), (1, x), (2, f), (8, .int .i64 0), (9, .int .i64 0), (10, .int .i64 0), (17, .bool false)], st) := by
    intro st
    rw [C_turn (L := f153L0) rfl]
    simp [f153B0]
  simp [f153, hL]

theorem behind146 (x : Int) (hx : 0 ≤ x ∧ x ≤ 1000000000000) (st : St) : (E tab).F 146 [.list 0 0 .no false [], .int .i64 x] st = some (.agg [.int .i64 (leapI x), .int .i64 0], st) := by
  rw [F_run at146 rfl]
  have e1 : IntKind.i64.wrap (x.tdiv 48) = x / 48 := IntWalk.i64_quo _ _ (by omega)
  have e2 : IntKind.i64.wrap (x / 48 + 1) = x / 48 + 1 := i64w (by omega)
  have e3 : IntKind.i64.wrap ((x / 48 + 1) * 48) = leapI x := i64w (by omega)
  simp [f146, bsearch153, e1, e2, e3]

theorem next139 (x : Int) (hx : 0 ≤ x ∧ x ≤ 1000000000000) (st : St) : (E tab).F 139 [.list 0 0 .no false [], .int .i64 x] st = some (if x ≤ 8190 then .tuple [.agg [.int .i64 (leapI x), .int .i64 0], .int .i64 0] else .tuple [.agg [.int .i64 0, .int .i64 0], .int .i64 5], st) := by
  rw [F_run at139 rfl]
  have h0 : ¬ x < 0 := by omega
  have e1 := fun st => behind146 x hx st
  by_cases h : x ≤ 8190
  · have h1 : ¬ 8190 < x := by omega
    simp [f139, tcheck145, h0, h1, e1, h]
  · have h1 : 8190 < x := by omega
    simp [f139, tcheck145, h0, h1, h]

theorem leap124 (x : Int) (hx : 0 ≤ x ∧ x ≤ 1000000000000) (st : St) : (E tab).F 124 [.int .i64 x] st = some (.int .i64 (leapI x), st) := by
  rw [F_run at124 rfl]
  have e0 := fun st => next139 x hx st
  have e1 : IntKind.i64.wrap (x.tdiv 48) = x / 48 := IntWalk.i64_quo _ _ (by omega)
  have e2 : IntKind.i64.wrap (x / 48 + 1) = x / 48 + 1 := i64w (by omega)
  have e3 : IntKind.i64.wrap ((x / 48 + 1) * 48) = leapI x := i64w (by omega)
  by_cases h : x ≤ 8190
  · simp only [h, if_true] at e0
    simp [f124, e0]
  · simp only [h, if_false] at e0
    simp [f124, e0, e1, e2, e3]

/-- Where a line has come to behind items. -/
def stepI (at_ : Int) (x : It) : Int := if x.k = 1 ∨ x.k = 2 then at_ + x.w else if x.k = 4 then leapI at_ else at_
def goI (at_ : Int) : List It → Int
  | [] => at_
  | x :: r => goI (stepI at_ x) r
def okW (l : List It) : Prop := ∀ x ∈ l, 0 ≤ x.w ∧ x.w ≤ 2097152
theorem okW_of {l : List It} (h : checkI l = 0) : okW l ∧ l.length ≤ 8192 := by
  unfold checkI at h
  split at h
  · omega
  · rename_i h1
    split at h
    · omega
    · rename_i h2
      refine ⟨fun x hx => ?_, by omega⟩
      rw [Bool.not_eq_true, List.any_eq_false] at h2
      have := h2 x hx
      simp [oddI, oddA] at this
      omega
theorem stepI_le {x : It} (h : 0 ≤ x.w ∧ x.w ≤ 2097152) {a : Int} (ha : 0 ≤ a) : a ≤ stepI a x ∧ stepI a x ≤ a + 2097152 := by
  unfold stepI leapI
  split
  · omega
  · split <;> omega
theorem goI_le : ∀ {l : List It} {a : Int}, okW l → 0 ≤ a → a ≤ goI a l ∧ goI a l ≤ a + 2097152 * l.length
  | [], a, _, _ => by simp [goI]
  | x :: r, a, h, ha => by
    have h1 := stepI_le (h x (List.mem_cons_self ..)) ha
    have h2 := goI_le (l := r) (a := stepI a x) (fun y hy => h y (List.mem_cons_of_mem _ hy)) (by omega)
    simp only [goI, List.length_cons]
    omega
theorem goI_app : ∀ (l r : List It) (a : Int), goI a (l ++ r) = goI (goI a l) r
  | [], r, a => rfl
  | x :: l, r, a => by simp only [List.cons_append, goI, goI_app l r]

/-- A line's natural width. -/
def penI (l : List It) (b : Nat) : Int := match l[b]? with | some x => if x.k = 3 then x.w else 0 | none => 0
def widI (l : List It) (a b : Nat) (x : Int) : Int := goI x ((l.drop a).take (trimI l a b - a)) + penI l b - x

section
variable {st : St} {l : List It} {v : DV}
theorem L110_0 (l' : List It) {v' : DV} (hv' : Its st l' v') (hok : okW l') (hl : l'.length ≤ 8192) (y0 y2 y3 : DV) (K : List Nat) : ∀ (r d : List It) (H : List HO) (a : Int), l' = d ++ r → 0 ≤ a → a ≤ 4095 + 2097152 * d.length →
    ∃ J fr, (E tab).C f110L0 [(0, y0), (2, y2), (3, y3), (11, .int .i64 a), (28, v'), (29, .int .i64 l'.length), (30, .int .i64 d.length)] (pst st H K) =
      some (.exit 0, [(0, y0), (2, y2), (3, y3), (11, .int .i64 (goI a r))] ++ fr, pst st (H ++ J) K) := by
  intro r
  induction r with
  | nil =>
    intro d H a hd h1 h2
    refine ⟨[], [(28, v'), (29, .int .i64 l'.length), (30, .int .i64 l'.length), (31, .bool false)], ?_⟩
    rw [C_turn (L := f110L0) rfl]
    simp [f110B0, hd, goI]
  | cons x r ih =>
    intro d H a hd h1 h2
    have h0 : d.length < l'.length := by simp [hd]
    have hx : l'[d.length]? = some x := by simp [hd]
    have hxm := hok x (by simp [hd])
    have hw1 : IntKind.i64.wrap ((d.length : Int) + 1) = ((d ++ [x]).length : Nat) := by rw [i64w (by omega)]; simp
    have e1 := fun st' => its_at hv' h0 .i64 st'
    have e2 := fun H K => its_load hv' hx H K
    simp only [It.dv, It.cs] at e2
    have hs := stepI_le hxm h1
    obtain ⟨J, fr, hJ⟩ := ih (d ++ [x]) (H ++ [.cells .plain x.cs]) (stepI a x) (by simp [hd]) (by omega) (by simp; omega)
    refine ⟨.cells .plain x.cs :: J, fr, ?_⟩
    rw [goI]
    simp only [List.length_append, List.length_singleton] at hJ hw1
    simp [It.cs] at hJ
    rw [C_turn (L := f110L0) rfl]
    by_cases k1 : x.k = 1
    · have w1 : IntKind.i64.wrap (a + x.w) = stepI a x := by rw [i64w (by omega)]; simp [stepI, k1]
      rw [k1] at e2 hJ
      simp [f110B0, h0, e1, e2, k1, It.cs, hw1, w1, hJ]
    · by_cases k2 : x.k = 2
      · have w1 : IntKind.i64.wrap (a + x.w) = stepI a x := by rw [i64w (by omega)]; simp [stepI, k2]
        rw [k2] at e2 hJ
        simp [f110B0, h0, e1, e2, k1, k2, It.cs, hw1, w1, hJ]
      · by_cases k4 : x.k = 4
        · have w1 : leapI a = stepI a x := by simp [stepI, k4]
          have e3 := fun st => leap124 a (by omega) st
          rw [w1] at e3
          rw [k4] at e2 hJ
          simp [f110B0, h0, e1, e2, e3, k1, k2, k4, It.cs, hw1, hJ]
        · have w1 : stepI a x = a := by simp [stepI, k1, k2, k4]
          rw [w1] at hJ
          simp [f110B0, h0, e1, e2, k1, k2, k4, It.cs, hw1, w1, hJ]

def widV (l : List It) (a b x : Int) : DV :=
  if rangedI l a b ≠ 0 then .tuple [.int .i64 0, .int .i64 (rangedI l a b)]
  else if withinB x = false then .tuple [.int .i64 0, .int .i64 5]
  else .tuple [.int .i64 (widI l a.toNat b.toNat x), .int .i64 0]

theorem rangedI_zero {a b : Int} (h : rangedI l a b = 0) : checkI l = 0 ∧ 0 ≤ a ∧ a ≤ b ∧ b ≤ l.length := by
  unfold rangedI at h
  split at h
  · omega
  · rename_i h1
    refine ⟨h, ?_⟩
    have : ¬ (a < 0 ∨ b < a ∨ l.length < b) := fun h2 => h1 ⟨h, h2⟩
    omega

theorem width110 (hv : Its st l v) (a b x : Int) : (E tab).F 110 [v, .int .i64 a, .int .i64 b, .int .i64 x] st = some (widV l a b x, st) := by
  rw [F_run at110 rfl]
  have e0 := fun st' => its_len hv st'
  have e1 := ranged121 (hv.inn [] []) a b
  have e2 := fun st => within122 x st
  unfold widV
  by_cases h1 : rangedI l a b = 0
  · cases h2 : withinB x with
    | false => simp [f110, e1, e2, h1, h2]
    | true =>
      obtain ⟨h3, h4, h5, h6⟩ := rangedI_zero h1
      obtain ⟨hok, hlen⟩ := okW_of h3
      obtain ⟨A, rfl⟩ := Int.eq_ofNat_of_zero_le h4
      obtain ⟨B, rfl⟩ := Int.eq_ofNat_of_zero_le (show 0 ≤ b by omega)
      simp [withinB] at h2
      obtain ⟨v', et, hv'⟩ := trimmed123 (hv.inn [] []) (by omega) A B (by omega) (by omega)
      have hv' := Vw.out hv'
      have hlt := trimI_le l A B
      have hok' : okW ((l.drop A).take (trimI l A B - A)) := fun y hy => hok y (List.mem_of_mem_drop (List.mem_of_mem_take hy))
      have hlen' : ((l.drop A).take (trimI l A B - A)).length ≤ 8192 := by simp; omega
      have hg := goI_le (a := x) hok' (by omega)
      obtain ⟨J, fr, hL⟩ := L110_0 _ hv' hok' hlen' v (.int .i64 B) (.int .i64 x) [] _ [] [] x rfl (by omega) (by omega)
      have e3 := fun st' => its_len hv' st'
      unfold widI
      simp only [Int.toNat_natCast]
      generalize hG : goI x ((l.drop A).take (trimI l A B - A)) = G at *
      generalize ((l.drop A).take (trimI l A B - A)) = l' at *
      simp at hL
      by_cases hb : B < l.length
      · have hx : l[B]? = some l[B] := List.getElem?_eq_getElem hb
        have q1 := fun st' => its_at hv hb .i64 st'
        have q2 := fun st' => its_f hv hx (off := 0) (by omega) st'
        have q3 := fun H K => its_k hv hx H K
        have q4 := fun st' => its_f hv hx (off := 3) (by omega) st'
        have q5 := fun H K => its_w hv hx H K
        have hB := hok _ (List.getElem_mem hb)
        by_cases k3 : l[B].k = 3
        · have ep : penI l B = l[B].w := by simp [penI, hx, k3]
          have w1 : IntKind.i64.wrap (G + l[B].w) = G + l[B].w := i64w (by omega)
          have w2 : IntKind.i64.wrap (G + l[B].w - x) = G + l[B].w - x := i64w (by omega)
          simp [f110, e0, e1, e2, e3, h1, withinB, h2, et, hL, hb, q1, q2, q3, q4, q5, k3, w1, w2, ep, hG]
        · have ep : penI l B = 0 := by simp [penI, hx, k3]
          have w2 : IntKind.i64.wrap (G - x) = G - x := i64w (by omega)
          simp [f110, e0, e1, e2, e3, h1, withinB, h2, et, hL, hb, q1, q2, q3, k3, w2, ep, hG]
      · have ep : penI l B = 0 := by simp [penI, hb]
        have w2 : IntKind.i64.wrap (G - x) = G - x := i64w (by omega)
        simp [f110, e0, e1, e2, e3, h1, withinB, h2, et, hL, hb, w2, ep, hG]
  · simp [f110, e1, h1]
end

section
variable {st : St} {l : List It} {v : DV}
/-- May a line end ahead of an item? -/
def endsI (l : List It) (i : Nat) : Bool :=
  i == l.length || (match l[i]? with | some x => x.k == 3 || (x.k == 2 && decide (0 < i) && (match l[i - 1]? with | some y => y.k != 2 | none => false)) | none => false)

/-- Where the next line begins. -/
def glueI (l : List It) : Nat → Nat → Nat
  | 0, i => i
  | f + 1, i => match l[i]? with | some x => if x.k = 2 then glueI l f (i + 1) else i | none => i
def beginI (l : List It) (i : Nat) : Nat := glueI l l.length (match l[i]? with | some x => if x.k = 3 then i + 1 else i | none => i)

end

theorem at119 : tab 119 = some (.code f119) := by kernel_rfl

theorem splice_mid {A z B z' : List DV} (h : z'.length = z.length) : splice (A ++ (z ++ B)) A.length z' = A ++ (z' ++ B) := by
  unfold splice
  rw [List.take_left, ← List.drop_drop, List.drop_left, h, List.drop_left, List.append_assoc]
theorem flat_app (a b : List DV) : flat (a ++ b) = flat a ++ flat b := by simp [flat]
theorem repl_add (zs : List DV) : ∀ a b, repl zs (a + b) = repl zs a ++ repl zs b
  | 0, b => by simp [repl]
  | a + 1, b => by rw [show a + 1 + b = (a + b) + 1 by omega, repl, repl, repl_add zs a b, List.append_assoc]
theorem repl_len (zs : List DV) : ∀ a, (repl zs a).length = a * zs.length
  | 0 => by simp [repl]
  | a + 1 => by rw [repl, List.length_append, repl_len zs a, Nat.succ_mul]; omega

def itZ : List DV := [.int .i64 0, .int .i64 0, .int .i64 0, .int .i64 0, .int .i64 0, .int .i64 0, .int .i64 0, .bool false]
/-- A mark behind a list that is lent. -/
def itMk (i : Nat) : It := ⟨77, 0, 0, i, 0, 0, 0, false⟩
def lentI (l : List It) : List It := l ++ [itMk l.length, itMk (l.length + 1), itMk (l.length + 2)]
theorem flat_its (l : List It) : (flat (l.map It.dv)).length = l.length * 8 := by
  have := flat_len (n := 8) (ag := true) (ys := l.map It.dv) el_its
  simpa using this

section
variable {st : St} {l : List It} {v : DV} {H : List HO} {K : List Nat}
theorem it_eq (x : It) : leavesEq [.int, .int, .int, .int, .int, .int, .int, .bool] x.cs x.cs = some true := by simp [It.cs, leavesEq, scalEq]
theorem L119_0 {u : DV} (hv : Its st l v) (hu : Its st l u) (hl : l.length ≤ 140737488355328) (H : List HO) (K : List Nat) : ∀ (r d : List It), l = d ++ r →
    ∃ fr, (E tab).C f119L0 [(0, v), (1, u), (5, .int .i64 d.length)] (pst st H K) = some (.exit 0, fr, pst st H K) := by
  have e0 := fun st' => its_len hv st'
  intro r
  induction r with
  | nil =>
    intro d hd
    refine ⟨[(0, v), (1, u), (5, .int .i64 l.length), (14, .bool false)], ?_⟩
    rw [C_turn (L := f119L0) rfl]
    simp [f119B0, e0, hd]
  | cons x r ih =>
    intro d hd
    have h0 : d.length < l.length := by simp [hd]
    have hx : l[d.length]? = some x := by simp [hd]
    have hw1 : IntKind.i64.wrap ((d.length : Int) + 1) = ((d ++ [x]).length : Nat) := by rw [i64w (by omega)]; simp
    have e1 := fun st' => its_at hv h0 .i64 st'
    have e2 := fun H K => its_load hv hx H K
    have e3 := fun st' => its_at hu h0 .i64 st'
    have e4 := fun H K => its_load hu hx H K
    have hq := it_eq x
    simp only [It.dv, It.cs] at e2 e4 hq
    obtain ⟨fr, hJ⟩ := ih (d ++ [x]) (by simp [hd])
    refine ⟨fr, ?_⟩
    simp only [List.length_append, List.length_singleton] at hJ hw1
    simp at hJ
    rw [C_turn (L := f119L0) rfl]
    simp [f119B0, e0, h0, e1, e2, e3, e4, eqD, hq, hw1, hJ]
theorem same119 {u : DV} (hv : Its st l v) (hu : Its st l u) (hl : l.length ≤ 140737488355328) : (E tab).F 119 [v, u] st = some (.bool true, st) := by
  rw [F_run at119 rfl]
  have e0 := fun st' => its_len hv st'
  have e1 := fun st' => its_len hu st'
  obtain ⟨fr, hL⟩ := L119_0 hv hu hl [] [] l [] rfl
  simp at hL
  simp [f119, e0, e1, hL]

/-- A row that was lent, read. -/
theorem lent_view {k : Nat} (hr : rowAt H k = some (.plain, flat ((lentI l).map It.dv))) : Its (pst st H K) l (.hsl 8 true (st.heap.length + k) 0 l.length (some (l.length + 3))) ∧ Its (pst st H K) (lentI l) (.hsl 8 true (st.heap.length + k) 0 (l.length + 3) (some (l.length + 3))) := by
  have hl : (lentI l).length = l.length + 3 := by simp [lentI]
  have hf := flat_its (lentI l)
  rw [hl] at hf
  have hcell : (pst st H K).cells (st.heap.length + k) = some (.plain, flat ((lentI l).map It.dv)) := by rw [pst_cells, hr]
  constructor
  · have h := Vw.hsl (st := pst st H K) (n := 8) (ag := true) (xs := l.map It.dv) (st.heap.length + k) 0 (l.length + 3) .plain _ hcell (by simp; omega) (by
      simp only [lentI, List.map_append, flat_app, List.drop_zero, List.length_map]
      rw [List.take_append_of_le_length (by rw [flat_its]; exact Nat.le_refl _), List.take_of_length_le (Nat.le_of_eq (flat_its l))]) (by simp)
    simpa using h
  · have h := Vw.hsl (st := pst st H K) (n := 8) (ag := true) (xs := (lentI l).map It.dv) (st.heap.length + k) 0 (l.length + 3) .plain _ hcell (by simp [hl]; omega) (by
      simp only [List.drop_zero, List.length_map, hl]
      exact List.take_of_length_le (Nat.le_of_eq hf)) (by simp [hl])
    simpa [hl] using h

theorem pure119 : isPure tab 119 = true := by rw [isPure_of at119]; rfl
end

theorem at101 : tab 101 = some (.code f101) := by kernel_rfl
theorem at103 : tab 103 = some (.code f103) := by kernel_rfl
theorem at116 : tab 116 = some (.code f116) := by kernel_rfl
def startV (l : List It) (i : Int) : DV :=
  if checkI l ≠ 0 then .tuple [.int .i64 0, .int .i64 (checkI l)]
  else if i < 0 ∨ l.length < i then .tuple [.int .i64 0, .int .i64 5]
  else .tuple [.int .i64 (beginI l i.toNat : Nat), .int .i64 0]
def legalV (l : List It) (i : Int) : Bool := decide (checkI l = 0 ∧ 0 ≤ i ∧ i ≤ l.length) && endsI l i.toNat
def sumS : List It → Int
  | [] => 0
  | x :: r => x.s + sumS r
def sumH : List It → Int
  | [] => 0
  | x :: r => x.h + sumH r
theorem sumS_app : ∀ a b, sumS (a ++ b) = sumS a + sumS b
  | [], b => by simp [sumS]
  | x :: a, b => by simp only [List.cons_append, sumS, sumS_app a b]; omega
theorem sumH_app : ∀ a b, sumH (a ++ b) = sumH a + sumH b
  | [], b => by simp [sumH]
  | x :: a, b => by simp only [List.cons_append, sumH, sumH_app a b]; omega
def okS (l : List It) : Prop := ∀ x ∈ l, 0 ≤ x.s ∧ x.s ≤ 4095 ∧ 0 ≤ x.h ∧ x.h ≤ 4095
theorem okS_of {l : List It} (h : checkI l = 0) : okS l := by
  unfold checkI at h
  split at h
  · omega
  · split at h
    · omega
    · rename_i h2
      intro x hx
      rw [Bool.not_eq_true, List.any_eq_false] at h2
      have := h2 x hx
      simp [oddI, oddA, withinB] at this
      omega
theorem okS_le : ∀ {l : List It}, okS l → 0 ≤ sumS l ∧ sumS l ≤ 4095 * l.length ∧ 0 ≤ sumH l ∧ sumH l ≤ 4095 * l.length
  | [], _ => by simp [sumS, sumH]
  | x :: r, h => by
    have h1 := h x (List.mem_cons_self ..)
    have h2 := okS_le (l := r) fun y hy => h y (List.mem_cons_of_mem _ hy)
    simp only [sumS, sumH, List.length_cons]
    omega
def giveV (l : List It) (a b : Int) : DV :=
  if rangedI l a b ≠ 0 then .tuple [.int .i64 0, .int .i64 0, .int .i64 (rangedI l a b)]
  else .tuple [.int .i64 (sumS ((l.drop a.toNat).take (trimI l a.toNat b.toNat - a.toNat))), .int .i64 (sumH ((l.drop a.toNat).take (trimI l a.toNat b.toNat - a.toNat))), .int .i64 0]

section
variable {st : St} {l : List It} {v : DV}
theorem L101_k (x y z : DV) (st : St) : (E tab).C f101L0 [(0, x), (1, y), (31, z)] st = (E tab).C f101L0 [(0, x), (1, y)] st := by
  unfold f101L0; rw [C_loop_keep]; rfl
theorem L101_0 (hv : Its st l v) (hl : l.length ≤ 140737488355328) (H : List HO) (K : List Nat) : ∀ (f i : Nat), l.length ≤ i + f → i ≤ l.length →
    ∃ fr, (E tab).C f101L0 [(0, v), (1, .int .i64 i)] (pst st H K) = some (.exit 0, [(0, v), (1, .int .i64 (glueI l f i : Nat))] ++ fr, pst st H K) := by
  have e0 := fun st' => its_len hv st'
  intro f
  induction f with
  | zero =>
    intro i h1 h2
    obtain rfl : i = l.length := by omega
    refine ⟨[(45, .bool false)], ?_⟩
    rw [C_turn (L := f101L0) rfl]
    simp [f101B0, e0, glueI]
  | succ f ih =>
    intro i h1 h2
    by_cases h0 : i < l.length
    · have hx : l[i]? = some l[i] := List.getElem?_eq_getElem h0
      have e1 := fun st' => its_at hv h0 .i64 st'
      have e2 := fun st' => its_f hv hx (off := 0) (by omega) st'
      have e3 := fun H K => its_k hv hx H K
      have hw1 : IntKind.i64.wrap ((i : Int) + 1) = (i + 1 : Nat) := by rw [i64w (by omega)]; simp
      by_cases hk : l[i].k = 2
      · have eg : glueI l (f + 1) i = glueI l f (i + 1) := by simp [glueI, hx, hk]
        obtain ⟨fr, hJ⟩ := ih (i + 1) (by omega) (by omega)
        rw [eg]
        refine ⟨fr, ?_⟩
        simp at hJ
        rw [C_turn (L := f101L0) rfl]
        simp [f101B0, e0, h0, e1, e2, e3, hk, hw1, hJ]
      · have eg : glueI l (f + 1) i = i := by simp [glueI, hx, hk]
        rw [eg]
        refine ⟨[(45, .bool false)], ?_⟩
        rw [C_turn (L := f101L0) rfl]
        simp [f101B0, e0, h0, e1, e2, e3, hk]
    · have eg : glueI l (f + 1) i = i := by simp [glueI, h0]
      have h0' : ¬ (i : Int) < l.length := by omega
      rw [eg]
      refine ⟨[(45, .bool false)], ?_⟩
      rw [C_turn (L := f101L0) rfl]
      simp [f101B0, e0, h0, h0']

theorem start101 (hv : Its st l v) (hl : l.length ≤ 140737488355328) (i : Int) : (E tab).F 101 [v, .int .i64 i] st = some (startV l i, st) := by
  have e0 := fun st' => its_len hv st'
  have ec := check109 (hv.inn [] [])
  rw [F_run at101 rfl]
  unfold startV
  by_cases hc : checkI l = 0
  · by_cases hr1 : i < 0
    · simp [f101, ec, hc, hr1]
    by_cases hr2 : (l.length : Int) < i
    · simp [f101, e0, ec, hc, hr1, hr2]
    obtain ⟨i, rfl⟩ := Int.eq_ofNat_of_zero_le (show 0 ≤ i by omega)
    have hi : i ≤ l.length := by omega
    have hr2' : ¬ l.length < i := by omega
    unfold beginI
    by_cases h0 : i < l.length
    · have hx : l[i]? = some l[i] := List.getElem?_eq_getElem h0
      have e1 := fun st' => its_at hv h0 .i64 st'
      have e2 := fun st' => its_f hv hx (off := 0) (by omega) st'
      have e3 := fun H K => its_k hv hx H K
      have hw1 : IntKind.i64.wrap ((i : Int) + 1) = (i + 1 : Nat) := by rw [i64w (by omega)]; simp
      by_cases hk : l[i].k = 3
      · obtain ⟨fr, hL⟩ := L101_0 hv hl [] [] l.length (i + 1) (by omega) (by omega)
        simp at hL
        simp [f101, e0, ec, hc, hr2', h0, e1, e2, e3, hk, hw1, L101_k, hL]
      · obtain ⟨fr, hL⟩ := L101_0 hv hl [] [] l.length i (by omega) hi
        simp at hL
        simp [f101, e0, ec, hc, hr2', h0, e1, e2, e3, hk, L101_k, hL]
    · obtain ⟨fr, hL⟩ := L101_0 hv hl [] [] l.length i (by omega) hi
      simp at hL
      simp [f101, e0, ec, hc, hr2', h0, L101_k, hL]
  · simp [f101, ec, hc]

theorem ends116 (hv : Its st l v) (i : Nat) (hi : i ≤ l.length) (hl : l.length ≤ 140737488355328) : (E tab).F 116 [v, .int .i64 i] st = some (.bool (endsI l i), st) := by
  have e0 := fun st' => its_len hv st'
  rw [F_run at116 rfl]
  unfold endsI
  by_cases h : i = l.length
  · simp [f116, e0, h]
  have h0 : i < l.length := by omega
  have hb : (i == l.length) = false := by simp [h]
  have h' : ¬ (i : Int) = l.length := by omega
  have hx : l[i]? = some l[i] := List.getElem?_eq_getElem h0
  have e1 := fun st' => its_at hv h0 .i64 st'
  have e2 := fun st' => its_f hv hx (off := 0) (by omega) st'
  have e3 := fun H K => its_k hv hx H K
  rw [hx, hb]
  generalize l[i] = x at *
  by_cases k3 : x.k = 3
  · simp [f116, e0, h, h', e1, e2, e3, k3]
  by_cases k2 : x.k = 2
  · by_cases hp : 0 < i
    · have h1 : i - 1 < l.length := by omega
      have hy : l[i - 1]? = some l[i - 1] := List.getElem?_eq_getElem h1
      have q1 := fun st' => its_at hv h1 .i64 st'
      have q2 := fun st' => its_f hv hy (off := 0) (by omega) st'
      have q3 := fun H K => its_k hv hy H K
      have w : IntKind.i64.wrap ((i : Int) - 1) = ((i - 1 : Nat) : Int) := by rw [i64w (by omega)]; omega
      rw [hy]
      generalize l[i - 1] = y at *
      simp [f116, e0, h, h', e1, e2, e3, k2, hp, w, q1, q2, q3]
    · simp [f116, e0, h, h', e1, e2, e3, k2, hp]
  · simp [f116, e0, h, h', e1, e2, e3, k3, k2]

theorem legal103 (hv : Its st l v) (hl : l.length ≤ 140737488355328) (i : Int) : (E tab).F 103 [v, .int .i64 i] st = some (.bool (legalV l i), st) := by
  have e0 := fun st' => its_len hv st'
  have ec := check109 (hv.inn [] [])
  rw [F_run at103 rfl]
  unfold legalV
  by_cases hc : checkI l = 0
  · by_cases h1 : 0 ≤ i
    · by_cases h2 : i ≤ l.length
      · obtain ⟨i, rfl⟩ := Int.eq_ofNat_of_zero_le h1
        have e1 := ends116 (hv.inn [] []) i (by omega) hl
        have h2' : i ≤ l.length := by omega
        simp [f103, e0, ec, hc, h2', e1]
      · simp [f103, e0, ec, hc, h1, h2]
    · simp [f103, ec, hc, h1]
  · simp [f103, ec, hc]
end

structure Sl where
  x : Int
  w : Int
def Sl.cs (s : Sl) : List DV := [.int .i64 s.x, .int .i64 s.w]
def Sl.dv (s : Sl) : DV := .agg s.cs
theorem el_sl (s : Sl) : IsEl 2 true s.dv := ⟨rfl, rfl, rfl⟩
theorem el_sls {l : List Sl} : ∀ y ∈ l.map Sl.dv, IsEl 2 true y := fun y hy => by obtain ⟨x, _, rfl⟩ := List.mem_map.1 hy; exact el_sl x
abbrev Sls (st : St) (l : List Sl) (v : DV) : Prop := Vw st 2 true (l.map Sl.dv) v
structure Pc where
  a : Int
  b : Int
  wide : Bool
  hy : Bool
  n : Int
def Pc.cs (p : Pc) : List DV := [.int .i64 p.a, .int .i64 p.b, .bool p.wide, .bool p.hy, .int .i64 p.n]
def Pc.dv (p : Pc) : DV := .agg p.cs
theorem el_pc (p : Pc) : IsEl 5 true p.dv := ⟨rfl, rfl, rfl⟩

theorem at113 : tab 113 = some (.code f113) := by kernel_rfl
theorem at114 : tab 114 = some (.code f114) := by kernel_rfl
theorem at126 : tab 126 = some (.code f126) := by kernel_rfl
theorem at127 : tab 127 = some (.code f127) := by kernel_rfl
theorem at128 : tab 128 = some (.code f128) := by kernel_rfl
theorem at129 : tab 129 = some (.code f129) := by kernel_rfl
theorem at130 : tab 130 = some (.code f130) := by kernel_rfl
theorem at140 : tab 140 = some (.code f140) := by kernel_rfl
theorem at141 : tab 141 = some (.code f141) := by kernel_rfl
theorem at142 : tab 142 = some (.code f142) := by kernel_rfl

def mayS (s : Sl) : Bool := withinB s.x && withinB s.w
theorem may140 (s : Sl) (st : St) : (E tab).F 140 [s.dv] st = some (.bool (mayS s), st) := by
  rw [F_run at140 rfl]
  unfold mayS withinB
  by_cases h1 : 0 ≤ s.x
  · by_cases h2 : s.x ≤ 4095
    · by_cases h3 : 0 ≤ s.w
      · simp [f140, Sl.dv, Sl.cs, h1, h2, h3]
      · simp [f140, Sl.dv, Sl.cs, h1, h2, h3]
    · simp [f140, Sl.dv, Sl.cs, h1, h2]
  · simp [f140, Sl.dv, Sl.cs, h1]

def slotN (l : List Sl) (rest : Sl) (n : Nat) : Sl := (l[n]?).getD rest
def slotZ (l : List Sl) (rest : Sl) (n : Int) : Sl := if n < 0 then ⟨0, 0⟩ else slotN l rest n.toNat

section
variable {st : St} {l : List It} {v : DV} {sl : List Sl} {sv : DV} {rest : Sl}
theorem slot114 (hv : Sls st sl sv) (n : Int) : (E tab).F 114 [sv, rest.dv, .int .i64 n] st = some ((slotZ sl rest n).dv, st) := by
  rw [F_run at114 rfl]
  have e0 := fun st' => Vw.len hv st'
  simp only [List.length_map] at e0
  unfold slotZ slotN
  by_cases h1 : n < 0
  · simp [f114, Sl.dv, Sl.cs, h1]
  · obtain ⟨n, rfl⟩ := Int.eq_ofNat_of_zero_le (show 0 ≤ n by omega)
    by_cases h2 : n < sl.length
    · have hx : sl[n]? = some sl[n] := List.getElem?_eq_getElem h2
      have e1 := fun st' => Vw.iaddr hv (i := n) (by simpa using h2) .i64 st'
      have e2 := fun H K => Vw.load (Vw.inn hv H K) el_sls rfl (i := n) (x := sl[n].dv) (by simp [hx])
      simp only [Sl.dv, Sl.cs] at e2
      simp [f114, Sl.dv, Sl.cs, e0, h2, e1, e2]
    · simp [f114, Sl.dv, Sl.cs, e0, h2]

def checkS (sl : List Sl) (rest : Sl) : Int := if 256 < sl.length then 3 else if sl.all mayS && mayS rest then 0 else 2
theorem L126_0 (all : List Sl) (hl : all.length ≤ 1000) (t : Nat) (tk : Tk) (K : List Nat) : ∀ (r d : List Sl) (H : List HO), all = d ++ r →
    ∃ J fr, (E tab).C f126L0 [(14, .list t 2 tk true (all.map Sl.dv)), (15, .int .i64 all.length), (16, .int .i64 d.length)] (pst st H K) =
      some (if r.all mayS then (.exit 0, fr, pst st (H ++ J) K) else (.ret, [(4, .int .i64 2)], pst st (H ++ J) K)) := by
  intro r
  induction r with
  | nil =>
    intro d H hd
    refine ⟨[], [(14, .list t 2 tk true (all.map Sl.dv)), (15, .int .i64 all.length), (16, .int .i64 all.length), (17, .bool false)], ?_⟩
    rw [C_turn (L := f126L0) rfl]
    simp [f126B0, hd]
  | cons x r ih =>
    intro d H hd
    have h0 : d.length < all.length := by simp [hd]
    have hg : all[d.length] = x := by simp [hd]
    have hw1 : IntKind.i64.wrap ((d.length : Int) + 1) = ((d ++ [x]).length : Nat) := by rw [i64w (by omega)]; simp
    have e1 := fun st => may140 x st
    simp only [Sl.dv, Sl.cs] at e1
    rw [List.all_cons]
    cases hm : mayS x with
    | false =>
      rw [hm] at e1
      refine ⟨[.cells .plain x.cs], [], ?_⟩
      rw [C_turn (L := f126L0) rfl]
      simp [f126B0, h0, hg, Sl.dv, Sl.cs, e1]
    | true =>
      rw [hm] at e1
      obtain ⟨J, fr, hJ⟩ := ih (d ++ [x]) (H ++ [.cells .plain x.cs]) (by simp [hd])
      refine ⟨.cells .plain x.cs :: J, fr, ?_⟩
      rw [Bool.true_and]
      generalize r.all mayS = b at hJ ⊢
      simp only [List.length_append, List.length_singleton] at hJ hw1
      simp [Sl.cs, Sl.dv] at hJ
      rw [C_turn (L := f126L0) rfl]
      simp [f126B0, h0, hg, Sl.dv, Sl.cs, e1, hw1, hJ]

theorem check126 (hv : Sls st sl sv) : (E tab).F 126 [sv, rest.dv] st = some (.int .i64 (checkS sl rest), st) := by
  rw [F_run at126 rfl]
  have e0 := fun st' => Vw.len hv st'
  simp only [List.length_map] at e0
  unfold checkS
  by_cases h : 256 < sl.length
  · have h' : (256 : Int) < sl.length := by omega
    simp [f126, Sl.dv, Sl.cs, e0, h, h']
  have h' : ¬ (256 : Int) < sl.length := by omega
  have hn := Vw.news (Vw.inn hv [.cells .plain rest.cs] [])
  simp only [List.length_map] at hn
  have hfl := flat_pure (n := 2) (ag := true) (ys := sl.map Sl.dv) el_sls
  have hdm := demotes_pure hfl
  have hch := chunk_flat (n := 2) (ag := true) (ys := sl.map Sl.dv) el_sls
  simp only [List.length_map] at hch
  have hL := L126_0 (st := st) (sl ++ [rest]) (by simp; omega) st.cur (.own st.toks.length (if sl.length = 0 then 0 else 1)) [if sl.length = 0 then 0 else 1] (sl ++ [rest]) [] [.cells .plain rest.cs] rfl
  obtain ⟨J, fr, hL⟩ := hL
  have ea : ((sl ++ [rest]).all mayS) = (sl.all mayS && mayS rest) := by simp
  rw [ea] at hL
  have hb1 : sl.length * 16 ≤ 140737488355328 := by omega
  have hb2 : sl.length ≤ 140737488355328 := by omega
  have hb3 : (sl.length + 1) * 16 ≤ 140737488355328 := by omega
  have hb4 : sl.length + 1 ≤ 140737488355328 := by omega
  generalize (sl.all mayS && mayS rest) = b at *
  have hreg : (E tab).C (.dregion f126r3 [] [(2, [0]), (3, [0])] [14, 15, 16]) [(0, sv), (3, .ptr st.heap.length 0), (9, .bool false)] (pst st [.cells .plain rest.cs] []) =
      some (.normal, [(14, .list st.cur 2 (.own st.toks.length (if sl.length = 0 then 0 else 1)) true ((sl ++ [rest]).map Sl.dv)), (15, .int .i64 (sl ++ [rest]).length), (16, .int .i64 0)], pst st [.cells .plain rest.cs] [if sl.length = 0 then 0 else 1]) := by
    have hvi := hv.inn [.cells .plain rest.cs] []
    by_cases hz : sl = []
    · subst hz
      have a1 := app_view0 (t := 0) (n' := 0) (by_ := 16) (tk := .no) (nn := false) (ys := []) hvi
      have a2 := app_new (st := st) (H := [.cells .plain rest.cs]) (K := []) (n := 2) (n' := 0) (t := 0) (t' := st.cur) (by_ := 16) (ag := true) (tk := .no) (tk' := .tight) (nn := false) (xs := []) (ys := [rest.dv]) (.inl rfl) (by omega) (by simp) (by simp [el_sl]) (by simp [roomD]) (by simp [roomD])
      simp [Sl.dv, Sl.cs] at a1 a2
      have hp4 : loudD (isPure tab) (.append 2 true 16 (.c (.list 0 0 .no false [])) (.t 10)) = true := rfl
      simp [C_dregionN, S_cons, A_cons, K_cons, loudD, op_lit, repl, chunk, Sl.dv, Sl.cs, a1, a2]
    · have hp : 0 < sl.length := List.length_pos_iff.2 hz
      have hne : ¬ sl.length = 0 := by omega
      have a1 := app_view (t := 0) (n' := 0) (by_ := 16) (tk := .no) hvi el_sls (by simpa using hz) (by omega) (by simp [roomD]; omega) (by simp [roomD]; omega)
      have a2 := app_own (st := st) (H := [.cells .plain rest.cs]) (K := [0]) (n := 2) (t := st.cur) (t' := st.cur) (by_ := 16) (k := 0) (s := 0) (ag := true) (tk' := .tight) (xs := sl.map Sl.dv) (ys := [rest.dv]) rfl (by omega) (by simp) (by simp [el_sl]) (by simp [roomD]; omega) (by simp [roomD]; omega)
      simp [Sl.dv, Sl.cs] at a1 a2
      have w1 : ((sl.length : Int) + 1) = ((sl.length + 1 : Nat) : Int) := by simp
      simp [C_dregionN, S_cons, A_cons, K_cons, loudD, op_lit, repl, chunk, Sl.dv, Sl.cs, a1, a2, hne, hz]
  have h0 : (E tab).C (.region f126r0 [0, 3]) (frame0 [sv, rest.dv] 0) (pst st [] []) = some (.normal, [(0, sv), (3, .ptr st.heap.length 0)], pst st [.cells .plain rest.cs] []) := by simp [Sl.dv, Sl.cs]
  have h1 : (E tab).C (.seq (.region f126r1 [0, 3, 9]) (.cond (.t 9) (.seq (.region f126r2 [4]) .ret) .skip)) [(0, sv), (3, .ptr st.heap.length 0)] (pst st [.cells .plain rest.cs] []) = some (.normal, [(0, sv), (3, .ptr st.heap.length 0), (9, .bool false)], pst st [.cells .plain rest.cs] []) := by simp [e0, h, h']
  rw [show f126.body = (.seq (.region f126r0 [0, 3]) (.seq (.seq (.region f126r1 [0, 3, 9]) (.cond (.t 9) (.seq (.region f126r2 [4]) .ret) .skip)) (.seq (.seq (.dregion f126r3 [] [(2, [0]), (3, [0])] [14, 15, 16]) (.block 0 f126L0)) (.seq (.region f126r9 [4]) .ret)))) from rfl, C_seq, h0]
  simp only
  rw [C_seq, h1]
  simp only
  rw [C_seq, C_seq, hreg]
  simp only [List.length_nil] at hL
  simp only [C_block]
  have hL' := hL
  simp only [Int.natCast_zero] at hL'
  erw [hL']
  cases b <;> simp [f126, h]
end

structure BrS (N : Nat) (lv sv ov : DV) (rest : Sl) (G : List HO) : Prop where
  r0 : rowAt G 0 = some (.plain, [sv])
  r1 : rowAt G 1 = some (.plain, rest.cs)
  r2 : rowAt G 2 = some (.plain, [lv, .fn 127 [] [.ptr N 0, .ptr (N + 1) 0], ov])
theorem BrS.app {N : Nat} {lv sv ov : DV} {rest : Sl} {G : List HO} (h : BrS N lv sv ov rest G) (X : List HO) : BrS N lv sv ov rest (G ++ X) := ⟨row_at h.r0 X, row_at h.r1 X, row_at h.r2 X⟩

section
variable {st : St} {l : List It} {lv sv ov : DV} {sl : List Sl} {rest : Sl} {G : List HO} {K : List Nat}

theorem slot127 (hs : Sls st sl sv) (hG : BrS st.heap.length lv sv ov rest G) (n : Int) : (E tab).F 127 [.int .i64 n, .ptr st.heap.length 0, .ptr (st.heap.length + 1) 0] (pst st G K) = some ((slotZ sl rest n).dv, pst st (G ++ [.cells .plain (slotZ sl rest n).cs]) K) := by
  rw [F_go at127 rfl]
  have e1 := slot114 (rest := rest) (hs.inn (G ++ [.cells .plain [.int .i64 0, .int .i64 0]]) K) n
  have hr0 := row_at hG.r0 [.cells .plain [.int .i64 0, .int .i64 0]]
  have hr1 := row_at hG.r1 [.cells .plain [.int .i64 0, .int .i64 0]]
  generalize slotZ sl rest n = s at *
  simp only [Sl.cs, Sl.dv] at hr1 e1
  simp [f127, hr0, hr1, e1, Sl.cs, Sl.dv]

theorem blegal141 (hv : Its st l lv) (hl : l.length ≤ 140737488355328) (hG : BrS st.heap.length lv sv ov rest G) (i : Nat) (hi : i ≤ l.length) : (E tab).F 141 [.ptr (st.heap.length + 2) 0, .int .i64 i] (pst st G K) = some (.bool (endsI l i), pst st G K) := by
  have e0 := fun st' => its_len hv st'
  have hr := hG.r2
  rw [F_go at141 rfl]
  unfold endsI
  by_cases h : i = l.length
  · simp [f141, hr, e0, h]
  have h0 : i < l.length := by omega
  have hb : (i == l.length) = false := by simp [h]
  have h' : ¬ (i : Int) = l.length := by omega
  have hx : l[i]? = some l[i] := List.getElem?_eq_getElem h0
  have e1 := fun st' => its_at hv h0 .i64 st'
  have e2 := fun st' => its_f hv hx (off := 0) (by omega) st'
  have e3 := fun H K => its_k hv hx H K
  rw [hx, hb]
  generalize l[i] = x at *
  by_cases k3 : x.k = 3
  · simp [f141, hr, e0, h, h', e1, e2, e3, k3]
  by_cases k2 : x.k = 2
  · by_cases hp : 0 < i
    · have h1 : i - 1 < l.length := by omega
      have hy : l[i - 1]? = some l[i - 1] := List.getElem?_eq_getElem h1
      have q1 := fun st' => its_at hv h1 .i64 st'
      have q2 := fun st' => its_f hv hy (off := 0) (by omega) st'
      have q3 := fun H K => its_k hv hy H K
      have w : IntKind.i64.wrap ((i : Int) - 1) = ((i - 1 : Nat) : Int) := by rw [i64w (by omega)]; omega
      rw [hy]
      generalize l[i - 1] = y at *
      simp [f141, hr, e0, h, h', e1, e2, e3, k2, hp, w, q1, q2, q3]
    · simp [f141, hr, e0, h, h', e1, e2, e3, k2, hp]
  · simp [f141, hr, e0, h, h', e1, e2, e3, k3, k2]

theorem past142 (hv : Its st l lv) (hc : checkI l = 0) (hG : BrS st.heap.length lv sv ov rest G) (i : Nat) (hi : i < l.length) (a : Int) (ha : 0 ≤ a ∧ a ≤ 100000000000) : (E tab).F 142 [.ptr (st.heap.length + 2) 0, .int .i64 i, .int .i64 a] (pst st G K) = some (.int .i64 (stepI a l[i]), pst st G K) := by
  have hr := hG.r2
  obtain ⟨hok, hlen⟩ := okW_of hc
  rw [F_go at142 rfl]
  have hx : l[i]? = some l[i] := List.getElem?_eq_getElem hi
  have hxm := hok _ (List.getElem_mem hi)
  have e1 := fun st' => its_at hv hi .i64 st'
  have e2 := fun st' => its_f hv hx (off := 0) (by omega) st'
  have e3 := fun H K => its_k hv hx H K
  have e4 := fun st' => its_f hv hx (off := 3) (by omega) st'
  have e5 := fun H K => its_w hv hx H K
  have hd : (l.drop i).take (i + 1 - i) = [l[i]] := by rw [show i + 1 - i = 1 by omega, List.drop_eq_getElem_cons hi]; rfl
  have hs := stepI_le hxm ha.1
  by_cases k1 : l[i].k = 1
  · have w1 : IntKind.i64.wrap (a + l[i].w) = stepI a l[i] := by simp only [stepI, k1, true_or, if_true] at hs ⊢; exact i64w (by omega)
    generalize l[i] = x at *
    simp [f142, hr, e1, e2, e3, e4, e5, k1, w1]
  by_cases k2 : l[i].k = 2
  · have w1 : IntKind.i64.wrap (a + l[i].w) = stepI a l[i] := by simp only [stepI, k2, or_true, if_true] at hs ⊢; exact i64w (by omega)
    generalize l[i] = x at *
    simp [f142, hr, e1, e2, e3, e4, e5, k1, k2, w1]
  by_cases k4 : l[i].k = 4
  · obtain ⟨v', hsl, hv'⟩ := Vw.slice hv (by omega) el_its (lo := i) (hi := i + 1) (by omega) (by simp; omega) .i64 .i64
    have w1 : IntKind.i64.wrap ((i : Int) + 1) = ((i + 1 : Nat) : Int) := by rw [i64w (by omega)]; simp
    rw [← List.map_drop, ← List.map_take, hd] at hv'
    have hc1 : checkI [l[i]] = 0 := by
      have : l.any oddI = false := by
        unfold checkI at hc
        split at hc
        · omega
        · split at hc
          · omega
          · rename_i h; simpa using h
      have ho := List.any_eq_false.1 this _ (List.getElem_mem hi)
      simp only [Bool.not_eq_true] at ho
      simp [checkI, ho]
    have eS : stepI a l[i] = leapI a := by simp [stepI, k4]
    have hmin : foldD min2D [.int .i64 a, .int .i64 4095] = some (.int .i64 (min a 4095)) := by
      have : (if (4095 : Int) < a then (4095 : Int) else a) = min a 4095 := by split <;> omega
      simp [foldD, min2D, this]
    have hmw : withinB (min a 4095) = true := by simp [withinB]; omega
    have hwid := width110 (hv'.inn G K) 0 1 (min a 4095)
    have hrg : rangedI [l[i]] 0 1 = 0 := by unfold rangedI; rw [if_neg (by simp), hc1]
    have hwv : widV [l[i]] 0 1 (min a 4095) = .tuple [.int .i64 (leapI (min a 4095) - min a 4095), .int .i64 0] := by
      unfold widV
      rw [hrg, hmw]
      simp [widI, trimI, penI, k4, goI, stepI]
    rw [hwv] at hwid
    rw [eS]
    by_cases hm : 4095 < a
    · have q1 : IntKind.i64.wrap (a.tdiv 48) = a / 48 := IntWalk.i64_quo _ _ (by omega)
      have q2 : IntKind.i64.wrap (a / 48 + 1) = a / 48 + 1 := i64w (by omega)
      have q3 : IntKind.i64.wrap ((a / 48 + 1) * 48) = leapI a := i64w (by omega)
      simp at hsl w1
      simp [f142, hr, e1, e2, e3, k1, k2, k4, hsl, w1, hmin, hwid, hm, q1, q2, q3]
    · have em : min a 4095 = a := by omega
      rw [em] at hwid hmin
      have q1 : IntKind.i64.wrap (a + (leapI a - a)) = leapI a := by rw [i64w (by unfold leapI; omega)]; omega
      simp at hsl w1
      simp [f142, hr, e1, e2, e3, k1, k2, k4, hsl, w1, hmin, hwid, hm, q1]
  · have w1 : stepI a l[i] = a := by simp [stepI, k1, k2, k4]
    rw [w1]
    simp [f142, hr, e1, e2, e3, k1, k2, k4]

theorem L130_k (x y z : DV) (st : St) : (E tab).C f130L0 [(0, x), (1, y), (26, z)] st = (E tab).C f130L0 [(0, x), (1, y)] st := by
  unfold f130L0; rw [C_loop_keep]; rfl
theorem L130_0 (hv : Its st l lv) (hl : l.length ≤ 140737488355328) (hG : BrS st.heap.length lv sv ov rest G) : ∀ (f i : Nat), l.length ≤ i + f → i ≤ l.length →
    ∃ fr, (E tab).C f130L0 [(0, .ptr (st.heap.length + 2) 0), (1, .int .i64 i)] (pst st G K) = some (.exit 0, [(0, .ptr (st.heap.length + 2) 0), (1, .int .i64 (glueI l f i : Nat))] ++ fr, pst st G K) := by
  have e0 := fun st' => its_len hv st'
  have hr := hG.r2
  intro f
  induction f with
  | zero =>
    intro i h1 h2
    obtain rfl : i = l.length := by omega
    refine ⟨[(46, .bool false)], ?_⟩
    rw [C_turn (L := f130L0) rfl]
    simp [f130B0, hr, e0, glueI]
  | succ f ih =>
    intro i h1 h2
    by_cases h0 : i < l.length
    · have hx : l[i]? = some l[i] := List.getElem?_eq_getElem h0
      have e1 := fun st' => its_at hv h0 .i64 st'
      have e2 := fun st' => its_f hv hx (off := 0) (by omega) st'
      have e3 := fun H K => its_k hv hx H K
      have hw1 : IntKind.i64.wrap ((i : Int) + 1) = (i + 1 : Nat) := by rw [i64w (by omega)]; simp
      by_cases hk : l[i].k = 2
      · have eg : glueI l (f + 1) i = glueI l f (i + 1) := by simp [glueI, hx, hk]
        obtain ⟨fr, hJ⟩ := ih (i + 1) (by omega) (by omega)
        rw [eg]
        refine ⟨fr, ?_⟩
        simp at hJ
        rw [C_turn (L := f130L0) rfl]
        simp [f130B0, hr, e0, h0, e1, e2, e3, hk, hw1, hJ]
      · have eg : glueI l (f + 1) i = i := by simp [glueI, hx, hk]
        rw [eg]
        refine ⟨[(46, .bool false)], ?_⟩
        rw [C_turn (L := f130L0) rfl]
        simp [f130B0, hr, e0, h0, e1, e2, e3, hk]
    · have eg : glueI l (f + 1) i = i := by simp [glueI, h0]
      have h0' : ¬ (i : Int) < l.length := by omega
      rw [eg]
      refine ⟨[(46, .bool false)], ?_⟩
      rw [C_turn (L := f130L0) rfl]
      simp [f130B0, hr, e0, h0, h0']
theorem start130 (hv : Its st l lv) (hl : l.length ≤ 140737488355328) (hG : BrS st.heap.length lv sv ov rest G) (i : Nat) (hi : i ≤ l.length) : (E tab).F 130 [.ptr (st.heap.length + 2) 0, .int .i64 i] (pst st G K) = some (.int .i64 (beginI l i : Nat), pst st G K) := by
  have e0 := fun st' => its_len hv st'
  have hr := hG.r2
  rw [F_go at130 rfl]
  unfold beginI
  by_cases h0 : i < l.length
  · have hx : l[i]? = some l[i] := List.getElem?_eq_getElem h0
    have e1 := fun st' => its_at hv h0 .i64 st'
    have e2 := fun st' => its_f hv hx (off := 0) (by omega) st'
    have e3 := fun H K => its_k hv hx H K
    have hw1 : IntKind.i64.wrap ((i : Int) + 1) = (i + 1 : Nat) := by rw [i64w (by omega)]; simp
    rw [hx]
    by_cases hk : l[i].k = 3
    · obtain ⟨fr, hL⟩ := L130_0 (K := K) hv hl hG l.length (i + 1) (by omega) (by omega)
      simp at hL
      simp [f130, hr, e0, h0, e1, e2, e3, hk, hw1, L130_k, hL]
    · obtain ⟨fr, hL⟩ := L130_0 (K := K) hv hl hG l.length i (by omega) hi
      simp at hL
      simp [f130, hr, e0, h0, e1, e2, e3, hk, L130_k, hL]
  · obtain ⟨fr, hL⟩ := L130_0 (K := K) hv hl hG l.length i (by omega) hi
    simp at hL
    simp [f130, hr, e0, h0, L130_k, hL]
end

/-- The line from an item on: where it ends, whether it is wide. -/
def oneI (l : List It) (a : Nat) (X W : Int) : Nat → Nat → Option Nat → Option (Nat × Bool)
  | 0, _, best => best.map (·, false)
  | f + 1, i, best =>
    if a < i ∧ endsI l i = true then
      if W < widI l a i X then (match best with | none => some (i, true) | some c => some (c, false))
      else oneI l a X W f (i + 1) (some i)
    else oneI l a X W f (i + 1) best
theorem ends_end (l : List It) : endsI l l.length = true := by simp [endsI]
theorem oneI_some (l : List It) (a : Nat) (X W : Int) (h : a < l.length) : ∀ (f i : Nat) (best : Option Nat), i + f = l.length + 1 → (best = none → i ≤ l.length) → a ≤ i → (∀ c, best = some c → a < c ∧ c ≤ l.length) → ∃ b w, oneI l a X W f i best = some (b, w) ∧ a < b ∧ b ≤ l.length
  | 0, i, best, h1, h2, h3, h4 => by
    cases best with
    | none => have := h2 rfl; omega
    | some c => exact ⟨c, false, rfl, h4 c rfl⟩
  | f + 1, i, best, h1, h2, h3, h4 => by
    unfold oneI
    split
    · rename_i hc
      split
      · cases best with
        | none => exact ⟨i, true, rfl, hc.1, h2 rfl⟩
        | some c => exact ⟨c, false, rfl, h4 c rfl⟩
      · exact oneI_some l a X W h f (i + 1) (some i) (by omega) (fun e => by cases e) (by omega) (fun c e => by cases e; omega)
    · rename_i hc
      refine oneI_some l a X W h f (i + 1) best (by omega) (fun e => ?_) (by omega) h4
      have := h2 e
      by_cases hi : i = l.length
      · subst hi; exact absurd ⟨by omega, ends_end l⟩ hc
      · omega

def bestD : Option Nat → Int
  | none => -1
  | some c => c
def natD (l : List It) (a : Nat) (X : Int) : Option Nat → Int
  | none => 0
  | some c => widI l a c X
def hyI (l : List It) (b : Nat) : Bool := match l[b]? with | some x => x.y | none => false
def pieceI (l : List It) (a : Nat) (s : Sl) : Pc :=
  match oneI l a s.x s.w (l.length + 1 - a) a none with
  | some (b, w) => ⟨a, b, w, hyI l b, widI l a b s.x⟩
  | none => ⟨a, -1, false, false, 0⟩

section
variable {st : St} {l : List It} {lv sv ov : DV} {sl : List Sl} {rest : Sl} {G : List HO} {K : List Nat}
theorem trim_go (l : List It) (a : Nat) (X : Int) (i : Nat) (ha : a ≤ i) (hi : i < l.length) :
    goI X ((l.drop a).take (i + 1 - a)) = stepI (goI X ((l.drop a).take (i - a))) l[i] ∧
    goI X ((l.drop a).take (trimI l a (i + 1) - a)) = (if l[i].k = 2 then goI X ((l.drop a).take (trimI l a i - a)) else stepI (goI X ((l.drop a).take (i - a))) l[i]) := by
  have ed : (l.drop a).take (i + 1 - a) = (l.drop a).take (i - a) ++ [l[i]] := by
    rw [show i + 1 - a = (i - a) + 1 by omega, List.take_succ_eq_append_getElem (by simp; omega)]
    congr 2
    rw [List.getElem_drop]; congr 1; omega
  have e1 : goI X ((l.drop a).take (i + 1 - a)) = stepI (goI X ((l.drop a).take (i - a))) l[i] := by rw [ed, goI_app]; rfl
  refine ⟨e1, ?_⟩
  have hx : l[i]? = some l[i] := List.getElem?_eq_getElem hi
  by_cases hk : l[i].k = 2
  · rw [if_pos hk, trimI, if_pos ⟨ha, by simp [hx, hk]⟩]
  · rw [if_neg hk, trimI, if_neg (by rintro ⟨_, h⟩; simp [hx] at h; exact hk h), e1]

theorem K129_9 (hv : Its st l lv) (hc : checkI l = 0) (hG : BrS st.heap.length lv sv ov rest G) (i : Nat) (hi : i ≤ l.length) (w0 : Int) (hw : -100000000000 ≤ w0 ∧ w0 ≤ 100000000000) (y1 y5 y6 y7 y8 y9 y10 : DV) :
    ∃ ex, (E tab).C (.seq (.region f129r9 [0, 1, 5, 6, 7, 8, 9, 10, 11, 12, 67]) (.cond (.t 67) (.region f129r10 [0, 1, 5, 6, 7, 8, 9, 10, 11, 12]) .skip)) [(0, .ptr (st.heap.length + 2) 0), (1, y1), (5, y5), (6, y6), (7, y7), (8, y8), (9, y9), (10, y10), (11, .int .i64 i), (12, .int .i64 w0)] (pst st G K) =
      some (.normal, [(0, .ptr (st.heap.length + 2) 0), (1, y1), (5, y5), (6, y6), (7, y7), (8, y8), (9, y9), (10, y10), (11, .int .i64 i), (12, .int .i64 (w0 + penI l i))] ++ ex, pst st G K) := by
  have e0 := fun st' => its_len hv st'
  have hr := hG.r2
  by_cases h0 : i < l.length
  · have hx : l[i]? = some l[i] := List.getElem?_eq_getElem h0
    have e1 := fun st' => its_at hv h0 .i64 st'
    have e2 := fun st' => its_f hv hx (off := 0) (by omega) st'
    have e3 := fun H K => its_k hv hx H K
    have e4 := fun st' => its_f hv hx (off := 3) (by omega) st'
    have e5 := fun H K => its_w hv hx H K
    have hb := (okW_of hc).1 _ (List.getElem_mem h0)
    by_cases k3 : l[i].k = 3
    · have ep : penI l i = l[i].w := by simp [penI, hx, k3]
      have w1 : IntKind.i64.wrap (w0 + l[i].w) = w0 + l[i].w := i64w (by omega)
      rw [ep]
      generalize l[i] = x at *
      refine ⟨[], ?_⟩
      simp [hr, e0, h0, e1, e2, e3, e4, e5, k3, w1]
    · have ep : penI l i = 0 := by simp [penI, hx, k3]
      rw [ep]
      generalize l[i] = x at *
      refine ⟨[(67, .bool false)], ?_⟩
      simp [hr, e0, h0, e1, e2, e3, k3]
  · have ep : penI l i = 0 := by simp [penI, h0]
    rw [ep]
    refine ⟨[(67, .bool false)], ?_⟩
    simp [hr, e0, h0]

theorem K129_a (hv : Its st l lv) (hc : checkI l = 0) (hG : BrS st.heap.length lv sv ov rest G) (a : Nat) (ha : a < l.length) (X W : Int) (hX : 0 ≤ X ∧ X ≤ 4095) (h : Nat) (hh : rowAt G h = some (.plain, [.int .i64 X, .int .i64 W])) (i : Nat) (hi : i ≤ l.length) (hai : a ≤ i) (best : Option Nat) (y9 : DV) (ex0 : Fr) :
    ∃ ex, (E tab).C (.seq (.region f129r7 [0, 1, 5, 6, 7, 8, 9, 10, 11, 45]) (.cond (.t 45) (.seq (.region f129r8 [0, 1, 5, 6, 7, 8, 9, 10, 11, 12]) (.seq (.seq (.region f129r9 [0, 1, 5, 6, 7, 8, 9, 10, 11, 12, 67]) (.cond (.t 67) (.region f129r10 [0, 1, 5, 6, 7, 8, 9, 10, 11, 12]) .skip)) (.seq (.seq (.region f129r11 [0, 1, 5, 6, 7, 8, 9, 10, 11, 12, 85]) (.cond (.t 85) (.seq (.seq (.region f129r12 [0, 1, 5, 8, 9, 10, 11, 12, 89]) (.cond (.t 89) (.region f129r13 [0, 1, 5, 8, 9, 10, 11, 12]) .skip)) (.region f129r14 [0, 1, 5, 6, 7, 8, 9, 10, 11, 12])) .skip)) (.seq (.region f129r15 [0, 1, 5, 6, 7, 8, 9, 10, 11, 95]) (.cond (.t 95) (.exit 0) .skip))))) .skip))
        ([(0, .ptr (st.heap.length + 2) 0), (1, .int .i64 a), (5, .ptr (st.heap.length + h) 0), (6, .int .i64 (bestD best)), (7, .int .i64 (natD l a X best)), (8, .bool false), (9, y9), (10, .int .i64 (goI X ((l.drop a).take (trimI l a i - a)))), (11, .int .i64 i)] ++ ex0) (pst st G K) =
      some (if a < i ∧ endsI l i = true then
          (if W < widI l a i X then (.exit 0, (match best with
              | none => [(0, .ptr (st.heap.length + 2) 0), (1, .int .i64 a), (5, .ptr (st.heap.length + h) 0), (6, .int .i64 i), (7, .int .i64 (widI l a i X)), (8, .bool true)]
              | some c => [(0, .ptr (st.heap.length + 2) 0), (1, .int .i64 a), (5, .ptr (st.heap.length + h) 0), (6, .int .i64 c), (7, .int .i64 (widI l a c X)), (8, .bool false)]) ++ ex, pst st G K)
          else (.normal, [(0, .ptr (st.heap.length + 2) 0), (1, .int .i64 a), (5, .ptr (st.heap.length + h) 0), (6, .int .i64 i), (7, .int .i64 (widI l a i X)), (8, .bool false), (9, y9), (10, .int .i64 (goI X ((l.drop a).take (trimI l a i - a)))), (11, .int .i64 i)] ++ ex, pst st G K))
        else (.normal, [(0, .ptr (st.heap.length + 2) 0), (1, .int .i64 a), (5, .ptr (st.heap.length + h) 0), (6, .int .i64 (bestD best)), (7, .int .i64 (natD l a X best)), (8, .bool false), (9, y9), (10, .int .i64 (goI X ((l.drop a).take (trimI l a i - a)))), (11, .int .i64 i)] ++ ex, pst st G K)) := by
  obtain ⟨hok, hlen⟩ := okW_of hc
  have hleg := blegal141 (K := K) hv (by omega) hG i hi
  by_cases h1 : a < i
  · cases h2 : endsI l i with
    | false =>
      rw [h2] at hleg
      simp only [Bool.false_eq_true, and_false, if_false]
      refine ⟨[(45, .bool false)], ?_⟩
      simp [h1, hleg]
    | true =>
      rw [h2] at hleg
      simp only [h1, and_self, if_true]
      have hp : okW ((l.drop a).take (trimI l a i - a)) := fun y hy => hok y (List.mem_of_mem_drop (List.mem_of_mem_take hy))
      have hlen' : ((l.drop a).take (trimI l a i - a)).length ≤ 8192 := by simp; omega
      have hg := goI_le (a := X) hp (by omega)
      have hwid : widI l a i X = goI X ((l.drop a).take (trimI l a i - a)) - X + penI l i := by unfold widI; omega
      generalize goI X ((l.drop a).take (trimI l a i - a)) = g at *
      obtain ⟨ex9, h9⟩ := K129_9 (K := K) hv hc hG i hi (g - X) (by omega) (.int .i64 a) (.ptr (st.heap.length + h) 0) (.int .i64 (bestD best)) (.int .i64 (natD l a X best)) (.bool false) y9 (.int .i64 g)
      have w1 : IntKind.i64.wrap (g - X) = g - X := i64w (by omega)
      have hr7 : (E tab).C (.region f129r7 [0, 1, 5, 6, 7, 8, 9, 10, 11, 45]) ([(0, .ptr (st.heap.length + 2) 0), (1, .int .i64 a), (5, .ptr (st.heap.length + h) 0), (6, .int .i64 (bestD best)), (7, .int .i64 (natD l a X best)), (8, .bool false), (9, y9), (10, .int .i64 g), (11, .int .i64 i)] ++ ex0) (pst st G K) =
          some (.normal, [(0, .ptr (st.heap.length + 2) 0), (1, .int .i64 a), (5, .ptr (st.heap.length + h) 0), (6, .int .i64 (bestD best)), (7, .int .i64 (natD l a X best)), (8, .bool false), (9, y9), (10, .int .i64 g), (11, .int .i64 i), (45, .bool true)], pst st G K) := by simp [h1, hleg]
      have hr8 : (E tab).C (.region f129r8 [0, 1, 5, 6, 7, 8, 9, 10, 11, 12]) [(0, .ptr (st.heap.length + 2) 0), (1, .int .i64 a), (5, .ptr (st.heap.length + h) 0), (6, .int .i64 (bestD best)), (7, .int .i64 (natD l a X best)), (8, .bool false), (9, y9), (10, .int .i64 g), (11, .int .i64 i), (45, .bool true)] (pst st G K) =
          some (.normal, [(0, .ptr (st.heap.length + 2) 0), (1, .int .i64 a), (5, .ptr (st.heap.length + h) 0), (6, .int .i64 (bestD best)), (7, .int .i64 (natD l a X best)), (8, .bool false), (9, y9), (10, .int .i64 g), (11, .int .i64 i), (12, .int .i64 (g - X))], pst st G K) := by simp [hh, w1]
      rw [← hwid] at h9
      rw [C_seq, hr7]
      simp only
      rw [C_cond _ _ _ _ _ true rfl]
      simp only [if_true]
      rw [C_seq, hr8]
      simp only
      rw [C_seq, h9]
      simp only
      generalize widI l a i X = w at *
      by_cases hW : W < w
      · have hW' : ¬ w ≤ W := by omega
        simp only [hW, if_true]
        cases best with
        | none =>
          refine ⟨[(9, y9), (10, .int .i64 g), (11, .int .i64 i), (95, .bool true)], ?_⟩
          simp [bestD, natD, hh, hW]
        | some c =>
          refine ⟨[(9, y9), (10, .int .i64 g), (11, .int .i64 i), (95, .bool true)], ?_⟩
          simp [bestD, natD, hh, hW, hW']
      · have hW' : w ≤ W := by omega
        simp only [hW, if_false]
        cases best with
        | none =>
          refine ⟨[(95, .bool false)], ?_⟩
          simp [bestD, natD, hh, hW]
        | some c =>
          refine ⟨[(95, .bool false)], ?_⟩
          simp [bestD, natD, hh, hW, hW']
  · simp only [h1, false_and, if_false]
    refine ⟨[(45, .bool false)], ?_⟩
    simp [h1]
end

section
variable {st : St} {l : List It} {lv sv ov : DV} {sl : List Sl} {rest : Sl} {G : List HO} {K : List Nat}

theorem K129_b (hv : Its st l lv) (hc : checkI l = 0) (hG : BrS st.heap.length lv sv ov rest G) (a : Nat) (X : Int) (hX : 0 ≤ X ∧ X ≤ 4095) (i : Nat) (hi : i ≤ l.length) (hai : a ≤ i) (y1 y5 y6 y7 y8 : DV) (ex : Fr) :
    ∃ ex', (E tab).C (.seq (.region f129r16 [0, 1, 5, 6, 7, 8, 9, 10, 11, 102]) (.cond (.t 102) (.seq (.region f129r17 [0, 1, 5, 6, 7, 8, 9, 10, 11]) (.seq (.region f129r18 [0, 1, 5, 6, 7, 8, 9, 10, 11, 115]) (.cond (.t 115) (.region f129r19 [0, 1, 5, 6, 7, 8, 9, 10, 11]) .skip))) .skip))
        ([(0, .ptr (st.heap.length + 2) 0), (1, y1), (5, y5), (6, y6), (7, y7), (8, y8), (9, .int .i64 (goI X ((l.drop a).take (i - a)))), (10, .int .i64 (goI X ((l.drop a).take (trimI l a i - a)))), (11, .int .i64 i)] ++ ex) (pst st G K) =
      some (.normal, [(0, .ptr (st.heap.length + 2) 0), (1, y1), (5, y5), (6, y6), (7, y7), (8, y8), (9, .int .i64 (goI X ((l.drop a).take ((if i < l.length then i + 1 else i) - a)))), (10, .int .i64 (goI X ((l.drop a).take (trimI l a (if i < l.length then i + 1 else i) - a)))), (11, .int .i64 i)] ++ ex', pst st G K) := by
  obtain ⟨hok, hlen⟩ := okW_of hc
  have e0 := fun st' => its_len hv st'
  have hr := hG.r2
  by_cases h0 : i < l.length
  · obtain ⟨g1, g2⟩ := trim_go l a X i hai h0
    simp only [h0, if_true]
    rw [g1, g2]
    have hp : okW ((l.drop a).take (i - a)) := fun y hy => hok y (List.mem_of_mem_drop (List.mem_of_mem_take hy))
    have hlen' : ((l.drop a).take (i - a)).length ≤ 8192 := by simp; omega
    have hg := goI_le (a := X) hp (by omega)
    generalize goI X ((l.drop a).take (i - a)) = g at *
    generalize goI X ((l.drop a).take (trimI l a i - a)) = e at *
    have hpa := past142 (K := K) hv hc hG i h0 g (by omega)
    have hx : l[i]? = some l[i] := List.getElem?_eq_getElem h0
    have e1 := fun st' => its_at hv h0 .i64 st'
    have e2 := fun st' => its_f hv hx (off := 0) (by omega) st'
    have e3 := fun H K => its_k hv hx H K
    generalize l[i] = x at *
    by_cases hk : x.k = 2
    · refine ⟨[(115, .bool false)], ?_⟩
      simp [hr, e0, h0, hpa, e1, e2, e3, hk]
    · refine ⟨[], ?_⟩
      simp [hr, e0, h0, hpa, e1, e2, e3, hk]
  · simp only [h0, if_false]
    refine ⟨[(102, .bool false)], ?_⟩
    simp [hr, e0, h0]

theorem L129_0 (hv : Its st l lv) (hc : checkI l = 0) (hG : BrS st.heap.length lv sv ov rest G) (a : Nat) (ha : a < l.length) (X W : Int) (hX : 0 ≤ X ∧ X ≤ 4095) (h : Nat) (hh : rowAt G h = some (.plain, [.int .i64 X, .int .i64 W])) :
    ∀ (m i : Nat) (best : Option Nat) (y9 y10 : DV), i + m = l.length + 1 → a ≤ i → (i ≤ l.length → y9 = .int .i64 (goI X ((l.drop a).take (i - a))) ∧ y10 = .int .i64 (goI X ((l.drop a).take (trimI l a i - a)))) →
    ∀ b w, oneI l a X W m i best = some (b, w) → ∃ fr, (E tab).C f129L0 [(0, .ptr (st.heap.length + 2) 0), (1, .int .i64 a), (5, .ptr (st.heap.length + h) 0), (6, .int .i64 (bestD best)), (7, .int .i64 (natD l a X best)), (8, .bool false), (9, y9), (10, y10), (11, .int .i64 i)] (pst st G K) =
      some (.exit 0, [(0, .ptr (st.heap.length + 2) 0), (1, .int .i64 a), (5, .ptr (st.heap.length + h) 0), (6, .int .i64 b), (7, .int .i64 (widI l a b X)), (8, .bool w)] ++ fr, pst st G K) := by
  obtain ⟨hok, hlen⟩ := okW_of hc
  have e0 := fun st' => its_len hv st'
  have hr := hG.r2
  intro m
  induction m with
  | zero =>
    intro i best y9 y10 hi hai hy b w ho
    have h0 : ¬ i ≤ l.length := by omega
    cases best with
    | none => simp [oneI] at ho
    | some c =>
      simp only [oneI, Option.map_some, Option.some.injEq, Prod.mk.injEq] at ho
      obtain ⟨rfl, rfl⟩ := ho
      refine ⟨[(9, y9), (10, y10), (11, .int .i64 i), (35, .bool false)], ?_⟩
      rw [C_turn (L := f129L0) rfl]
      simp [f129B0, hr, e0, h0, bestD, natD]
  | succ m ih =>
    intro i best y9 y10 hi hai hy b w ho
    have h0 : i ≤ l.length := by omega
    obtain ⟨rfl, rfl⟩ := hy h0
    have hw1 : IntKind.i64.wrap ((i : Int) + 1) = ((i + 1 : Nat) : Int) := by rw [i64w (by omega)]; simp
    obtain ⟨ex, hA⟩ := K129_a (K := K) hv hc hG a ha X W hX h hh i h0 hai best (.int .i64 (goI X ((l.drop a).take (i - a)))) [(35, .bool true)]
    have h6 : (E tab).C (.seq (.region f129r6 [0, 1, 5, 6, 7, 8, 9, 10, 11, 35]) (.cond (.t 35) .skip (.exit 0))) (Fr.keep [(0, .ptr (st.heap.length + 2) 0), (1, .int .i64 a), (5, .ptr (st.heap.length + h) 0), (6, .int .i64 (bestD best)), (7, .int .i64 (natD l a X best)), (8, .bool false), (9, .int .i64 (goI X ((l.drop a).take (i - a)))), (10, .int .i64 (goI X ((l.drop a).take (trimI l a i - a)))), (11, .int .i64 i)] [0, 1, 5, 6, 7, 8, 9, 10, 11]) (pst st G K) =
        some (.normal, [(0, .ptr (st.heap.length + 2) 0), (1, .int .i64 a), (5, .ptr (st.heap.length + h) 0), (6, .int .i64 (bestD best)), (7, .int .i64 (natD l a X best)), (8, .bool false), (9, .int .i64 (goI X ((l.drop a).take (i - a)))), (10, .int .i64 (goI X ((l.drop a).take (trimI l a i - a)))), (11, .int .i64 i)] ++ [(35, .bool true)], pst st G K) := by simp [hr, e0, h0]
    have turn : ∀ (best' : Option Nat) (ex : Fr) , (E tab).C (.seq (.region f129r7 [0, 1, 5, 6, 7, 8, 9, 10, 11, 45]) (.cond (.t 45) (.seq (.region f129r8 [0, 1, 5, 6, 7, 8, 9, 10, 11, 12]) (.seq (.seq (.region f129r9 [0, 1, 5, 6, 7, 8, 9, 10, 11, 12, 67]) (.cond (.t 67) (.region f129r10 [0, 1, 5, 6, 7, 8, 9, 10, 11, 12]) .skip)) (.seq (.seq (.region f129r11 [0, 1, 5, 6, 7, 8, 9, 10, 11, 12, 85]) (.cond (.t 85) (.seq (.seq (.region f129r12 [0, 1, 5, 8, 9, 10, 11, 12, 89]) (.cond (.t 89) (.region f129r13 [0, 1, 5, 8, 9, 10, 11, 12]) .skip)) (.region f129r14 [0, 1, 5, 6, 7, 8, 9, 10, 11, 12])) .skip)) (.seq (.region f129r15 [0, 1, 5, 6, 7, 8, 9, 10, 11, 95]) (.cond (.t 95) (.exit 0) .skip))))) .skip)) ([(0, .ptr (st.heap.length + 2) 0), (1, .int .i64 a), (5, .ptr (st.heap.length + h) 0), (6, .int .i64 (bestD best)), (7, .int .i64 (natD l a X best)), (8, .bool false), (9, .int .i64 (goI X ((l.drop a).take (i - a)))), (10, .int .i64 (goI X ((l.drop a).take (trimI l a i - a)))), (11, .int .i64 i)] ++ [(35, .bool true)]) (pst st G K) =
        some (.normal, [(0, .ptr (st.heap.length + 2) 0), (1, .int .i64 a), (5, .ptr (st.heap.length + h) 0), (6, .int .i64 (bestD best')), (7, .int .i64 (natD l a X best')), (8, .bool false), (9, .int .i64 (goI X ((l.drop a).take (i - a)))), (10, .int .i64 (goI X ((l.drop a).take (trimI l a i - a)))), (11, .int .i64 i)] ++ ex, pst st G K) →
        oneI l a X W m (i + 1) best' = some (b, w) → ∃ fr, (E tab).C f129L0 [(0, .ptr (st.heap.length + 2) 0), (1, .int .i64 a), (5, .ptr (st.heap.length + h) 0), (6, .int .i64 (bestD best)), (7, .int .i64 (natD l a X best)), (8, .bool false), (9, .int .i64 (goI X ((l.drop a).take (i - a)))), (10, .int .i64 (goI X ((l.drop a).take (trimI l a i - a)))), (11, .int .i64 i)] (pst st G K) =
      some (.exit 0, [(0, .ptr (st.heap.length + 2) 0), (1, .int .i64 a), (5, .ptr (st.heap.length + h) 0), (6, .int .i64 b), (7, .int .i64 (widI l a b X)), (8, .bool w)] ++ fr, pst st G K) := by
      intro best' ex hA' ho'
      obtain ⟨ex2, hB⟩ := K129_b (K := K) hv hc hG a X hX i h0 hai (.int .i64 a) (.ptr (st.heap.length + h) 0) (.int .i64 (bestD best')) (.int .i64 (natD l a X best')) (.bool false) ex
      obtain ⟨fr, hJ⟩ := ih (i + 1) best' (.int .i64 (goI X ((l.drop a).take ((if i < l.length then i + 1 else i) - a)))) (.int .i64 (goI X ((l.drop a).take (trimI l a (if i < l.length then i + 1 else i) - a)))) (by omega) (by omega) (fun hle => by rw [if_pos (by omega)]; exact ⟨rfl, rfl⟩) b w ho'
      refine ⟨fr, ?_⟩
      rw [C_turn (L := f129L0) rfl, f129B0, C_seq, h6]
      simp only
      rw [C_seq, C_block, C_seq, hA']
      simp only
      rw [hB]
      simp at hJ
      simp [hw1, hJ]
    unfold oneI at ho
    by_cases hle : a < i ∧ endsI l i = true
    · rw [if_pos hle] at ho hA
      by_cases hW : W < widI l a i X
      · rw [if_pos hW] at ho hA
        cases best with
        | none =>
          simp only [Option.some.injEq, Prod.mk.injEq] at ho
          obtain ⟨rfl, rfl⟩ := ho
          refine ⟨ex, ?_⟩
          rw [C_turn (L := f129L0) rfl, f129B0, C_seq, h6]
          simp only
          rw [C_seq, C_block, C_seq, hA]
          simp
        | some c =>
          simp only [Option.some.injEq, Prod.mk.injEq] at ho
          obtain ⟨rfl, rfl⟩ := ho
          refine ⟨ex, ?_⟩
          rw [C_turn (L := f129L0) rfl, f129B0, C_seq, h6]
          simp only
          rw [C_seq, C_block, C_seq, hA]
          simp
      · rw [if_neg hW] at ho hA
        exact turn (some i) ex hA ho
    · rw [if_neg hle] at ho hA
      exact turn best ex hA ho
end

variable {T : Tab}

def mkLo (fr : Fr) (params : List Nat) (assign body : RC) (s : Nat) (q : Option Ex) : LoopObj := ⟨fr, params, assign, body, s, q⟩

/-- What a client's turn tells. -/
def yT : Ex → Option Ex
  | .normal => none
  | e => some e

theorem V_client {st : St} {H H1 H2 : List HO} {K K1 K2 : List Nat} {k : Nat} {fr : Fr} {params : List Nat} {assign body : RC} {args : List DV} {fr1 : Fr} {e : Ex}
    (h : H[k]? = some (.loop (mkLo fr params assign body 0 none))) (hl : args.length = params.length)
    (hA : (E T).C assign (setParams fr params args) (pst st H K) = some (.normal, fr1, pst st H1 K1)) (h1 : H1[k]? = some (.loop (mkLo fr params assign body 0 none)))
    (hB : ∃ fr2, (E T).C body fr1 (pst st (H1.set k (.loop (mkLo fr params assign body 1 none))) K1) = some (e, fr2, pst st H2 K2)) (h2 : H2[k]? = some (.loop (mkLo fr params assign body 1 none))) :
    (E T).V (.yield (st.heap.length + k)) args (pst st H K) = some (.bool (yT e).isNone, pst st (H2.set k (.loop (mkLo fr params assign body (if (yT e).isNone then 0 else 2) (yT e)))) K2) := by
  obtain ⟨fr2, hB⟩ := hB
  rw [V_yield h hl]
  have e1 : (mkLo fr params assign body 0 none).assign = assign := rfl
  have e2 : (mkLo fr params assign body 0 none).params = params := rfl
  have e3 : (mkLo fr params assign body 0 none).fr = fr := rfl
  have e4 : (mkLo fr params assign body 0 none).state = 0 := rfl
  have hB1 : (E T).C (mkLo fr params assign body 0 none).body fr1 (pst st (H1.set k (.loop (mkLo fr params assign body 1 none))) K1) = some (e, fr2, pst st H2 K2) := hB
  rw [e1, e2, e3, hA]
  simp only [pst_heap, h1, e4, if_true, pst_putH]
  erw [hB1]
  cases e <;> simp only [pst_heap, h2, pst_putH] <;> rfl

theorem C_rfunc_pst {st : St} {H H' : List HO} {K K' : List Nat} {f : X} {params live : List Nat} {assign body : RC} {fr : Fr} {g : Nat} {first captured : List DV} {F : RFunc} {v : DV} {s : Nat} {q : Option Ex} (hf : f.ev (fr.keep live) = .fn g first captured) (hg : T g = some (.code F))
    (hF : (E T).F g (first ++ [.yield (st.heap.length + H.length)] ++ captured) (pst st (H ++ [.loop (mkLo (fr.keep live) params assign body 0 none)]) K) = some (v, pst st H' K'))
    (h2 : H'[H.length]? = some (.loop (mkLo (fr.keep live) params assign body s q))) (hs : s ≠ 1) :
    (E T).C (.rfunc f params assign body live) fr (pst st H K) = some (q.getD .normal, fr.keep live, pst st (H'.set H.length (.loop (mkLo (fr.keep live) params assign body 3 q))) K') := by
  rw [C_rfunc hf hg]
  have e1 : (pst st H K).heap.length = st.heap.length + H.length := by simp
  have e2 : (pst st H K).push (.loop (mkLo (fr.keep live) params assign body 0 none)) = pst st (H ++ [.loop (mkLo (fr.keep live) params assign body 0 none)]) K := by simp
  rw [e1]
  erw [e2]
  rw [hF]
  have e3 : (mkLo (fr.keep live) params assign body s q).state = s := rfl
  cases q with
  | none => simp only [pst_heap, h2, e3, hs, if_false, pst_putH]; rfl
  | some e => simp only [pst_heap, h2, e3, hs, if_false, pst_putH]; rfl

/-- A region that draws its order, where objects are laid ahead. -/
theorem C_dregionP {ops ops2 : List ROper} {hs : List Nat} {chk : List (Nat × List Nat)} {live : List Nat} {fr : Fr} {st st1 : St} (h : prepH fr hs st ops = some (st1, ops2)) : (E T).C (.dregion ops hs chk live) fr st =
    match (E T).S ops2 fr st1 [st1] with
    | some (fr', sts) => if (E T).A fr' ops2 sts.reverse chk = true then (match sts with | st' :: _ => some (.normal, fr'.keep live, st') | [] => none) else none
    | none => none := by
  rw [EC]
  simp only [runCR, h]
  cases (E T).S ops2 fr st1 [st1] with
  | none => rfl
  | some p => obtain ⟨fr', sts⟩ := p; rfl

theorem C_seq_inv {A B : RC} {f f' : Fr} {S S' : St} (h : (E T).C (.seq A B) f S = some (.normal, f', S')) : ∃ fu1 S1, (E T).C A f S = some (.normal, fu1, S1) ∧ (E T).C B fu1 S1 = some (.normal, f', S') := by
  rw [C_seq] at h
  split at h
  · rename_i fu1 S1 e; exact ⟨fu1, S1, e, h⟩
  · cases h
  · cases h
  · cases h

section
variable {st : St} {l : List It} {lv sv ov : DV} {sl : List Sl} {rest : Sl} {G : List HO} {K : List Nat}

def lineOps (N h : Nat) : List ROper := [
  ⟨some 14, .mv (.t 0), none⟩,
  ⟨some 15, .nilchk (.t 14), none⟩,
  ⟨some 16, .faddr 1 (.t 15), none⟩,
  ⟨some 17, .load 1 false (.t 16), none⟩,
  ⟨some 18, .mv (.t 0), none⟩,
  ⟨some 19, .nilchk (.t 18), none⟩,
  ⟨some 20, .faddr 2 (.t 19), none⟩,
  ⟨some 21, .load 1 false (.t 20), none⟩,
  ⟨some 22, .len .slice (.t 21), none⟩,
  ⟨some 23, .callv (.t 17) [(.t 22)], none⟩,
  ⟨some 5, .got (.ptr (N + h) 0) [], none⟩,
  ⟨none, .store 2 (.t 5) (.t 23), none⟩]

theorem line_head (hs : Sls st sl sv) (hG : BrS st.heap.length lv sv ov rest G) {ps : List Pc} (hA : Acc st K 5 (ps.map Pc.dv) ov) (y1 : DV) :
    ∃ J, (E tab).C (.dregion f129r1 [10] [] [0, 1, 5]) [(0, .ptr (st.heap.length + 2) 0), (1, y1)] (pst st G K) =
      some (.normal, [(0, .ptr (st.heap.length + 2) 0), (1, y1), (5, .ptr (st.heap.length + G.length) 0)], pst st (G ++ .cells .plain (slotZ sl rest ps.length).cs :: J) K) := by
  have hr := hG.r2
  have hG2 := hG.app [.cells .plain [.int .i64 0, .int .i64 0]]
  have hr2 := hG2.r2
  obtain ⟨t, n', tk, nn, rfl⟩ := acc_len hA
  have hc := slot127 (K := K) hs hG2 ps.length
  have hV := V_fn (T := tab) 127 [] [.ptr st.heap.length 0, .ptr (st.heap.length + 1) 0] [.int .i64 (ps.length : Nat)] (pst st (G ++ [.cells .plain [.int .i64 0, .int .i64 0]]) K)
  simp only [List.nil_append, List.singleton_append] at hV
  rw [hc] at hV
  have hp : prepH [(0, .ptr (st.heap.length + 2) 0), (1, y1)] [10] (pst st G K) f129r1 = some (pst st (G ++ [.cells .plain [.int .i64 0, .int .i64 0]]) K, lineOps st.heap.length G.length) := by
    simp [prepH, qrun, isLoud, loudD, prep, freeD, gotX, lineOps, hr]
  refine ⟨[.cells .plain (slotZ sl rest ps.length).cs], ?_⟩
  rw [C_dregionP hp]
  generalize slotZ sl rest ps.length = s at *
  simp only [Sl.cs, Sl.dv] at hV
  simp [S_cons, lineOps, loudD, hr2, hV, Sl.cs]

theorem BrS.set2 {N : Nat} (h : BrS N lv sv ov rest G) (ov' : DV) : BrS N lv sv ov' rest (G.set 2 (.cells .plain [lv, .fn 127 [] [.ptr N 0, .ptr (N + 1) 0], ov'])) := by
  have k2 := rowAt_lt h.r2
  refine ⟨?_, ?_, rowAt_set k2 _ _⟩
  · have := h.r0; unfold rowAt at this ⊢; rw [List.getElem?_set_ne (by omega)]; exact this
  · have := h.r1; unfold rowAt at this ⊢; rw [List.getElem?_set_ne (by omega)]; exact this

theorem line129 (hs : Sls st sl sv) (hv : Its st l lv) (hc : checkI l = 0) (hG : BrS st.heap.length lv sv ov rest G) {ps : List Pc} (hA : Acc st K 5 (ps.map Pc.dv) ov) (hps : ps.length ≤ 10000) (a : Nat) (ha : a < l.length)
    (hX : 0 ≤ (slotZ sl rest ps.length).x ∧ (slotZ sl rest ps.length).x ≤ 4095) :
    ∃ (b : Nat) (G' : List HO) (K' : List Nat) (ov' : DV), a < b ∧ b ≤ l.length ∧ (pieceI l a (slotZ sl rest ps.length)).b = b ∧ (E tab).F 129 [.ptr (st.heap.length + 2) 0, .int .i64 a] (pst st G K) = some (.int .i64 b, pst st G' K') ∧ BrS st.heap.length lv sv ov' rest G' ∧
      Acc st K' 5 ((ps ++ [pieceI l a (slotZ sl rest ps.length)]).map Pc.dv) ov' := by
  have e0 := fun st' => its_len hv st'
  obtain ⟨hok, hlen⟩ := okW_of hc
  obtain ⟨J, hH⟩ := line_head hs hG hA (.int .i64 a)
  generalize hsl : slotZ sl rest ps.length = s at *
  obtain ⟨b, w, ho, hab, hbl⟩ := oneI_some l a s.x s.w ha (l.length + 1 - a) a none (by omega) (fun _ => by omega) (Nat.le_refl _) (fun c e => by cases e)
  have hpc : pieceI l a s = ⟨a, b, w, hyI l b, widI l a b s.x⟩ := by unfold pieceI; rw [ho]
  have hG1 := hG.app (.cells .plain s.cs :: J)
  have hh : rowAt (G ++ .cells .plain s.cs :: J) G.length = some (.plain, [.int .i64 s.x, .int .i64 s.w]) := by rw [show G.length = G.length + 0 from rfl, rowAt_right]; rfl
  generalize hG1e : G ++ HO.cells .plain s.cs :: J = G1 at *
  obtain ⟨fr, hL⟩ := L129_0 (K := K) hv hc hG1 a ha s.x s.w hX G.length hh (l.length + 1 - a) a none (.int .i64 s.x) (.int .i64 s.x) (by omega) (Nat.le_refl _) (fun _ => by
    have ht : trimI l a a = a := by
      cases a with
      | zero => rfl
      | succ k => rw [trimI, if_neg (by omega)]
    rw [ht]; simp [goI]) b w ho
  have hG2 := hG1.app [.cells .plain (Pc.cs ⟨a, b, w, false, widI l a b s.x⟩)]
  have hG3 := hG1.app [.cells .plain (Pc.cs ⟨a, b, w, hyI l b, widI l a b s.x⟩)]
  obtain ⟨ov', K', hap, hA'⟩ := acc_app (H := G1 ++ [.cells .plain (Pc.cs ⟨a, b, w, hyI l b, widI l a b s.x⟩)]) (by_ := 32) (ag := true) (tk := .tight) (t := st.cur) (ys := [Pc.dv ⟨a, b, w, hyI l b, widI l a b s.x⟩]) hA (by omega) (by simp) (by simp [el_pc]) (by simp [roomD]; omega) (by simp [roomD]; omega)
  refine ⟨b, (G1 ++ [HO.cells .plain (Pc.cs ⟨a, b, w, hyI l b, widI l a b s.x⟩)]).set 2 (.cells .plain [lv, .fn 127 [] [.ptr st.heap.length 0, .ptr (st.heap.length + 1) 0], ov']), K', ov', hab, hbl, by rw [hpc], ?_, hG3.set2 ov', by rw [hpc]; simpa using hA'⟩
  have hr2 := hG2.r2
  have hr3 := hG3.r2
  have k3 := rowAt_lt hr3
  have hov : ov'.leaves = [ov'] ∧ ov'.scal = true := by
    rcases hA' with ⟨_, t, n', tk, rfl⟩ | ⟨k, s, rfl, _⟩ <;> exact ⟨rfl, rfl⟩
  have h22 : (E tab).C (.region f129r22 [0, 6, 13]) [(0, .ptr (st.heap.length + 2) 0), (6, .int .i64 b), (13, .ptr (st.heap.length + G1.length) 0)] (pst st (G1 ++ [.cells .plain (Pc.cs ⟨a, b, w, false, widI l a b s.x⟩)]) K) =
      some (.normal, [(0, .ptr (st.heap.length + 2) 0), (6, .int .i64 b), (13, .ptr (st.heap.length + G1.length) 0)], pst st (G1 ++ [.cells .plain (Pc.cs ⟨a, b, w, hyI l b, widI l a b s.x⟩)]) K) := by
    by_cases hb : b < l.length
    · have hx : l[b]? = some l[b] := List.getElem?_eq_getElem hb
      have e1 := fun st' => its_at hv hb .i64 st'
      have e2 := fun st' => its_f hv hx (off := 7) (by omega) st'
      have e3 := fun H K => its_y hv hx H K
      have eh : hyI l b = l[b].y := by simp [hyI, hx]
      rw [eh]
      generalize l[b] = x at *
      simp only [Pc.cs] at hr2
      simp [hr2, e0, hb, e1, e2, e3, Pc.cs]
    · have eh : hyI l b = false := by simp [hyI, hb]
      rw [eh]
      simp only [Pc.cs] at hr2
      simp [hr2, e0, hb, Pc.cs]
  have h23 : (E tab).C (.dregion f129r23 [] [] [6]) [(0, .ptr (st.heap.length + 2) 0), (6, .int .i64 b), (13, .ptr (st.heap.length + G1.length) 0)] (pst st (G1 ++ [.cells .plain (Pc.cs ⟨a, b, w, hyI l b, widI l a b s.x⟩)]) K) =
      some (.normal, [(6, .int .i64 b)], pst st ((G1 ++ [HO.cells .plain (Pc.cs ⟨a, b, w, hyI l b, widI l a b s.x⟩)]).set 2 (.cells .plain [lv, .fn 127 [] [.ptr st.heap.length 0, .ptr (st.heap.length + 1) 0], ov'])) K') := by
    simp only [Pc.cs, Pc.dv] at hr3 hap k3
    simp [hr3, op_lit, repl, chunk, Pc.cs, hap, hov.1, hov.2]
  rw [F_go at129 rfl]
  have h0 : (E tab).C (.region f129r0 [0, 1]) (frame0 [.ptr (st.heap.length + 2) 0, .int .i64 a] 0) (pst st G K) = some (.normal, [(0, .ptr (st.heap.length + 2) 0), (1, .int .i64 a)], pst st G K) := by simp
  have hmid : (E tab).C (.seq (.region f129r2 [0, 1, 5, 6, 7, 8]) (.seq (.region f129r3 [0, 1, 5, 6, 7, 8, 9]) (.seq (.region f129r4 [0, 1, 5, 6, 7, 8, 9, 10]) (.seq (.region f129r5 [0, 1, 5, 6, 7, 8, 9, 10, 11]) (.block 0 f129L0))))) [(0, .ptr (st.heap.length + 2) 0), (1, .int .i64 a), (5, .ptr (st.heap.length + G.length) 0)] (pst st G1 K) =
      some (.normal, [(0, .ptr (st.heap.length + 2) 0), (1, .int .i64 a), (5, .ptr (st.heap.length + G.length) 0), (6, .int .i64 b), (7, .int .i64 (widI l a b s.x)), (8, .bool w)] ++ fr, pst st G1 K) := by
    have e1 : (-1 : Int) = Int.negSucc 0 := rfl
    simp [bestD, natD] at hL
    simp [hh, hL]
  have h21 : (E tab).C (.region f129r21 [0, 6, 13]) ([(0, .ptr (st.heap.length + 2) 0), (1, .int .i64 a), (5, .ptr (st.heap.length + G.length) 0), (6, .int .i64 b), (7, .int .i64 (widI l a b s.x)), (8, .bool w)] ++ fr) (pst st G1 K) =
      some (.normal, [(0, .ptr (st.heap.length + 2) 0), (6, .int .i64 b), (13, .ptr (st.heap.length + G1.length) 0)], pst st (G1 ++ [.cells .plain (Pc.cs ⟨a, b, w, false, widI l a b s.x⟩)]) K) := by
    simp [Pc.cs]
  rw [show f129.body = (.seq (.region f129r0 [0, 1]) (.seq (.dregion f129r1 [10] [] [0, 1, 5]) (.seq (.region f129r2 [0, 1, 5, 6, 7, 8]) (.seq (.region f129r3 [0, 1, 5, 6, 7, 8, 9]) (.seq (.region f129r4 [0, 1, 5, 6, 7, 8, 9, 10]) (.seq (.seq (.region f129r5 [0, 1, 5, 6, 7, 8, 9, 10, 11]) (.block 0 f129L0)) (.seq (.region f129r21 [0, 6, 13]) (.seq (.region f129r22 [0, 6, 13]) (.seq (.dregion f129r23 [] [] [6]) (.seq (.region f129r24 [4]) .ret)))))))))) from rfl, C_seq, h0]
  simp only
  rw [C_seq, hH]
  simp only
  obtain ⟨fu1, S1, m1, m2⟩ := C_seq_inv hmid
  obtain ⟨fu2, S2, m3, m4⟩ := C_seq_inv m2
  obtain ⟨fu3, S3, m5, m6⟩ := C_seq_inv m4
  rw [C_seq, m1]
  simp only
  rw [C_seq, m3]
  simp only
  rw [C_seq, m5]
  simp only
  rw [C_seq, m6]
  simp only
  rw [C_seq, h21]
  simp only
  rw [C_seq, h22]
  simp only
  rw [C_seq, h23]
  simp [f129]
end

theorem glueI_le (l : List It) : ∀ f i, i ≤ l.length → i ≤ glueI l f i ∧ glueI l f i ≤ l.length
  | 0, i, h => ⟨Nat.le_refl _, h⟩
  | f + 1, i, h => by
    unfold glueI
    split
    · rename_i x hx
      have hi := (List.getElem?_eq_some_iff.1 hx).1
      split
      · have := glueI_le l f (i + 1) hi; omega
      · exact ⟨Nat.le_refl _, h⟩
    · exact ⟨Nat.le_refl _, h⟩
theorem beginI_le (l : List It) (i : Nat) (h : i ≤ l.length) : i ≤ beginI l i ∧ beginI l i ≤ l.length := by
  unfold beginI
  cases hx : l[i]? with
  | none => exact glueI_le l _ _ h
  | some x =>
    have hi := (List.getElem?_eq_some_iff.1 hx).1
    simp only
    split
    · have := glueI_le l l.length (i + 1) hi; omega
    · exact glueI_le l _ _ h

/-- The lines from an item on, from a slot on. -/
def linesI (l : List It) (sl : List Sl) (rest : Sl) : Nat → Nat → Nat → List Pc
  | 0, _, _ => []
  | f + 1, a, n => if a < l.length then pieceI l a (slotZ sl rest n) :: linesI l sl rest f (beginI l (pieceI l a (slotZ sl rest n)).b.toNat) (n + 1) else []

def slOk (sl : List Sl) (rest : Sl) : Prop := ∀ n : Nat, 0 ≤ (slotZ sl rest n).x ∧ (slotZ sl rest n).x ≤ 4095 ∧ 0 ≤ (slotZ sl rest n).w ∧ (slotZ sl rest n).w ≤ 4095
theorem slOk_of {sl : List Sl} {rest : Sl} (h : checkS sl rest = 0) : slOk sl rest ∧ sl.length ≤ 256 := by
  unfold checkS at h
  split at h
  · omega
  · split at h
    · rename_i h1 h2
      simp only [Bool.and_eq_true, List.all_eq_true] at h2
      refine ⟨fun n => ?_, by omega⟩
      have hm : mayS (slotZ sl rest n) = true := by
        unfold slotZ slotN
        rw [if_neg (by omega)]
        cases hx : sl[((n : Nat) : Int).toNat]? with
        | none => exact h2.2
        | some s => exact h2.1 s (List.mem_of_getElem? hx)
      simp [mayS, withinB] at hm
      omega
    · omega

section
variable {st : St} {l : List It} {lv sv ov : DV} {sl : List Sl} {rest : Sl} {G : List HO} {K : List Nat}

theorem L128_0 (hs : Sls st sl sv) (hv : Its st l lv) (hc : checkI l = 0) (hso : slOk sl rest) : ∀ (f a : Nat) (ps : List Pc) (ov : DV) (G : List HO) (K : List Nat), l.length ≤ a + f → a ≤ l.length → ps.length ≤ a → BrS st.heap.length lv sv ov rest G → Acc st K 5 (ps.map Pc.dv) ov →
    ∃ G' K' ov' fr, (E tab).C f128L0 [(1, .int .i64 l.length), (2, .fn 129 [.ptr (st.heap.length + 2) 0] []), (3, .fn 130 [.ptr (st.heap.length + 2) 0] []), (8, .int .i64 a)] (pst st G K) = some (.exit 0, fr, pst st G' K') ∧
      BrS st.heap.length lv sv ov' rest G' ∧ Acc st K' 5 ((ps ++ linesI l sl rest f a ps.length).map Pc.dv) ov' := by
  obtain ⟨hok, hlen⟩ := okW_of hc
  intro f
  induction f with
  | zero =>
    intro a ps ov G K h1 h2 h3 hG hA
    refine ⟨G, K, ov, [(1, .int .i64 l.length), (2, .fn 129 [.ptr (st.heap.length + 2) 0] []), (3, .fn 130 [.ptr (st.heap.length + 2) 0] []), (8, .int .i64 a), (12, .bool false)], ?_, hG, by simpa [linesI] using hA⟩
    have h0 : ¬ a < l.length := by omega
    rw [C_turn (L := f128L0) rfl]
    simp [f128B0, h0]
  | succ f ih =>
    intro a ps ov G K h1 h2 h3 hG hA
    by_cases h0 : a < l.length
    · have hX := hso ps.length
      obtain ⟨b, G1, K1, ov1, hab, hbl, hpb, hF, hG1, hA1⟩ := line129 hs hv hc hG hA (by omega) a h0 ⟨hX.1, hX.2.1⟩
      have hS := start130 (K := K1) hv (by omega) hG1 b hbl
      have hbe := beginI_le l b hbl
      obtain ⟨G2, K2, ov2, fr, hJ, hG2, hA2⟩ := ih (beginI l b) (ps ++ [pieceI l a (slotZ sl rest ps.length)]) ov1 G1 K1 (by omega) hbe.2 (by simp; omega) hG1 hA1
      refine ⟨G2, K2, ov2, fr, ?_, hG2, ?_⟩
      · have hV1 := V_fn (T := tab) 129 [.ptr (st.heap.length + 2) 0] [] [.int .i64 (a : Nat)] (pst st G K)
        have hV2 := V_fn (T := tab) 130 [.ptr (st.heap.length + 2) 0] [] [.int .i64 (b : Nat)] (pst st G1 K1)
        simp only [List.singleton_append, List.append_nil] at hV1 hV2
        rw [hF] at hV1
        rw [hS] at hV2
        rw [C_turn (L := f128L0) rfl]
        simp [f128B0, h0, hV1, hV2, hJ]
      · rw [linesI, if_pos h0, hpb, Int.toNat_natCast]
        simpa using hA2
    · refine ⟨G, K, ov, [(1, .int .i64 l.length), (2, .fn 129 [.ptr (st.heap.length + 2) 0] []), (3, .fn 130 [.ptr (st.heap.length + 2) 0] []), (8, .int .i64 a), (12, .bool false)], ?_, hG, by simpa [linesI, h0] using hA⟩
      rw [C_turn (L := f128L0) rfl]
      simp [f128B0, h0]

theorem L113_0 (hv : Its st l lv) (hl : l.length ≤ 140737488355328) (y10 : DV) (H : List HO) (K : List Nat) : ∀ (f i : Nat), l.length ≤ i + f → i ≤ l.length →
    ∃ fr, (E tab).C f113L0 [(0, lv), (10, y10), (11, .int .i64 i)] (pst st H K) = some (.exit 0, [(0, lv), (10, y10), (11, .int .i64 (glueI l f i : Nat))] ++ fr, pst st H K) := by
  have e0 := fun st' => its_len hv st'
  intro f
  induction f with
  | zero =>
    intro i h1 h2
    obtain rfl : i = l.length := by omega
    refine ⟨[(38, .bool false)], ?_⟩
    rw [C_turn (L := f113L0) rfl]
    simp [f113B0, e0, glueI]
  | succ f ih =>
    intro i h1 h2
    by_cases h0 : i < l.length
    · have hx : l[i]? = some l[i] := List.getElem?_eq_getElem h0
      have e1 := fun st' => its_at hv h0 .i64 st'
      have e2 := fun st' => its_f hv hx (off := 0) (by omega) st'
      have e3 := fun H K => its_k hv hx H K
      have hw1 : IntKind.i64.wrap ((i : Int) + 1) = (i + 1 : Nat) := by rw [i64w (by omega)]; simp
      by_cases hk : l[i].k = 2
      · have eg : glueI l (f + 1) i = glueI l f (i + 1) := by simp [glueI, hx, hk]
        obtain ⟨fr, hJ⟩ := ih (i + 1) (by omega) (by omega)
        rw [eg]
        refine ⟨fr, ?_⟩
        simp at hJ
        rw [C_turn (L := f113L0) rfl]
        simp [f113B0, e0, h0, e1, e2, e3, hk, hw1, hJ]
      · have eg : glueI l (f + 1) i = i := by simp [glueI, hx, hk]
        rw [eg]
        refine ⟨[(38, .bool false)], ?_⟩
        rw [C_turn (L := f113L0) rfl]
        simp [f113B0, e0, h0, e1, e2, e3, hk]
    · have eg : glueI l (f + 1) i = i := by simp [glueI, h0]
      rw [eg]
      refine ⟨[(38, .bool false)], ?_⟩
      rw [C_turn (L := f113L0) rfl]
      simp [f113B0, e0, h0]

/-- Items, broken. -/
def breakE (l : List It) (sl : List Sl) (rest : Sl) : Int := if checkI l ≠ 0 then checkI l else checkS sl rest
def breakL (l : List It) (sl : List Sl) (rest : Sl) : List Pc :=
  if breakE l sl rest ≠ 0 then [] else if glueI l l.length 0 = l.length then [⟨l.length, l.length, false, false, 0⟩] else linesI l sl rest l.length (glueI l l.length 0) 0

theorem break113 (hs : Sls st sl sv) (hv : Its st l lv) : ∃ v, (E tab).F 113 [lv, sv, rest.dv] st = some (.tuple [v, .int .i64 (breakE l sl rest)], st) ∧ Lw 5 ((breakL l sl rest).map Pc.dv) v := by
  rw [F_run at113 rfl]
  have e0 := fun st' => its_len hv st'
  have c1 := check109 (hv.inn [.cells .plain [sv], .cells .plain rest.cs] [])
  have c2 := check126 (rest := rest) (hs.inn [.cells .plain [sv], .cells .plain rest.cs] [])
  have hsv : sv.leaves = [sv] ∧ sv.scal = true := by cases hs <;> exact ⟨rfl, rfl⟩
  have hlv : lv.leaves = [lv] ∧ lv.scal = true := by cases hv <;> exact ⟨rfl, rfl⟩
  unfold breakL
  by_cases hc : checkI l = 0
  · have hE : breakE l sl rest = checkS sl rest := by simp [breakE, hc]
    rw [hE]
    by_cases hd : checkS sl rest = 0
    · obtain ⟨hok, hlen⟩ := okW_of hc
      obtain ⟨hso, _⟩ := slOk_of hd
      have hG : BrS st.heap.length lv sv (.list 0 0 .no false []) rest [.cells .plain [sv], .cells .plain rest.cs, .cells .plain [lv, .fn 127 [] [.ptr st.heap.length 0, .ptr (st.heap.length + 1) 0], .list 0 0 .no false []]] := ⟨rfl, rfl, rfl⟩
      obtain ⟨fr, hL0⟩ := L113_0 hv (by omega) (.ptr (st.heap.length + 2) 0) [.cells .plain [sv], .cells .plain rest.cs, .cells .plain [lv, .fn 127 [] [.ptr st.heap.length 0, .ptr (st.heap.length + 1) 0], .list 0 0 .no false []]] [] l.length 0 (by omega) (by omega)
      have hg := glueI_le l l.length 0 (by omega)
      simp only [hd, ne_eq, not_true_eq_false, if_false]
      generalize glueI l l.length 0 = g at *
      by_cases hgl : g = l.length
      · simp only [hgl, if_true]
        rw [hgl] at hL0
        refine ⟨.list st.cur 5 .tight true [Pc.dv ⟨l.length, l.length, false, false, 0⟩], ?_, .list _ _ _ _ (fun _ => rfl) (fun e => by cases e)⟩
        simp only [Sl.cs, Sl.dv] at c1 c2 hL0
        simp at hL0
        simp [f113, Sl.cs, Sl.dv, hsv.1, hsv.2, hlv.1, hlv.2, c1, c2, hc, hd, hL0, e0, op_lit, repl, chunk, Pc.dv, Pc.cs]
      · simp only [hgl, if_false]
        obtain ⟨G', K', ov', fr2, hL, hG', hA'⟩ := L128_0 hs hv hc hso l.length g [] (.list 0 0 .no false []) _ [] (by omega) (by omega) (by simp) hG (acc_nil st [] 5 0 0 .no)
        obtain ⟨t, n', tk, nn, hx, hx1, hx2, _⟩ := acc_ex (st' := pst st G' K') hA'
        have hF : (E tab).F 128 [.int .i64 g, .int .i64 l.length, .fn 129 [.ptr (st.heap.length + 2) 0] [], .fn 130 [.ptr (st.heap.length + 2) 0] []] (pst st [.cells .plain [sv], .cells .plain rest.cs, .cells .plain [lv, .fn 127 [] [.ptr st.heap.length 0, .ptr (st.heap.length + 1) 0], .list 0 0 .no false []]] []) = some (.tuple [], pst st G' K') := by
          rw [F_go at128 rfl]
          simp [f128, hL]
        have hr2 := hG'.r2
        have hgl' : ¬ (g : Int) = l.length := by omega
        refine ⟨.list t n' tk nn ((linesI l sl rest l.length g 0).map Pc.dv), ?_, .list _ _ _ _ (fun h => hx2 h) (fun h => hx1 h)⟩
        simp only [Sl.cs, Sl.dv] at c1 c2 hL0 hF
        simp at hL0 hx
        have hxA : exportA st (pst st G' K') ov' = exportL st (pst st G' K') ov' := by
          rcases hA' with ⟨_, t, n', tk, rfl⟩ | ⟨k, s, rfl, _⟩ <;> rfl
        simp [f113, Sl.cs, Sl.dv, hsv.1, hsv.2, hlv.1, hlv.2, c1, c2, hc, hd, hL0, e0, hgl, hgl', hF, hr2, hxA, hx]
    · simp only [ne_eq, hd, not_false_eq_true, if_true]
      refine ⟨.list 0 0 .no false [], ?_, .list _ _ _ _ (fun e => by cases e) (fun _ => rfl)⟩
      simp only [Sl.cs, Sl.dv] at c1 c2
      simp [f113, Sl.cs, Sl.dv, hsv.1, hsv.2, c1, c2, hc, hd]
  · have hE : breakE l sl rest = checkI l := by simp [breakE, hc]
    rw [hE]
    simp only [ne_eq, hc, not_false_eq_true, if_true]
    refine ⟨.list 0 0 .no false [], ?_, .list _ _ _ _ (fun e => by cases e) (fun _ => rfl)⟩
    simp only [Sl.cs, Sl.dv] at c1
    simp [f113, Sl.cs, Sl.dv, hsv.1, hsv.2, c1, hc]
end

section
variable {st : St} {l : List Sl} {v : DV}
theorem sls_len (h : Sls st l v) (st' : St) : lenV st' .slice v = some (.int .i64 l.length, st') := by simpa using Vw.len h st'
theorem sls_at (h : Sls st l v) {i : Nat} (hi : i < l.length) (k : IntKind) (st' : St) : iaddrV st' 2 v (.int k i) = some (elP 2 v i, st') := Vw.iaddr h (by simpa using hi) k st'
theorem sls_load (h : Sls st l v) {i : Nat} {x : Sl} (hx : l[i]? = some x) (H : List HO) (K : List Nat) : loadD (pst st H K) 2 true (elP 2 v i) = some x.dv := Vw.load (Vw.inn h H K) el_sls rfl (by simp [hx])
end
def slZ : List DV := [.int .i64 0, .int .i64 0]
/-- A mark behind a list that is lent. -/
def slMk (i : Nat) : Sl := ⟨777, i⟩
def lentSl (l : List Sl) : List Sl := l ++ [slMk l.length, slMk (l.length + 1), slMk (l.length + 2)]
theorem flat_sls (l : List Sl) : (flat (l.map Sl.dv)).length = l.length * 2 := by
  have := flat_len (n := 2) (ag := true) (ys := l.map Sl.dv) el_sls
  simpa using this

section
variable {st : St} {l : List Sl} {v : DV} {H : List HO} {K : List Nat}
theorem sl_eq (x : Sl) : leavesEq [.int, .int] x.cs x.cs = some true := by simp [Sl.cs, leavesEq, scalEq]
/-- A row that was lent, read. -/
theorem lent_viewSl {k : Nat} (hr : rowAt H k = some (.plain, flat ((lentSl l).map Sl.dv))) : Sls (pst st H K) l (.hsl 2 true (st.heap.length + k) 0 l.length (some (l.length + 3))) ∧ Sls (pst st H K) (lentSl l) (.hsl 2 true (st.heap.length + k) 0 (l.length + 3) (some (l.length + 3))) := by
  have hl : (lentSl l).length = l.length + 3 := by simp [lentSl]
  have hf := flat_sls (lentSl l)
  rw [hl] at hf
  have hcell : (pst st H K).cells (st.heap.length + k) = some (.plain, flat ((lentSl l).map Sl.dv)) := by rw [pst_cells, hr]
  constructor
  · have h := Vw.hsl (st := pst st H K) (n := 2) (ag := true) (xs := l.map Sl.dv) (st.heap.length + k) 0 (l.length + 3) .plain _ hcell (by simp; omega) (by
      simp only [lentSl, List.map_append, flat_app, List.drop_zero, List.length_map]
      rw [List.take_append_of_le_length (by rw [flat_sls]; exact Nat.le_refl _), List.take_of_length_le (Nat.le_of_eq (flat_sls l))]) (by simp)
    simpa using h
  · have h := Vw.hsl (st := pst st H K) (n := 2) (ag := true) (xs := (lentSl l).map Sl.dv) (st.heap.length + k) 0 (l.length + 3) .plain _ hcell (by simp [hl]; omega) (by
      simp only [List.drop_zero, List.length_map, hl]
      exact List.take_of_length_le (Nat.le_of_eq hf)) (by simp [hl])
    simpa [hl] using h

end

/-! What broken items are -/
theorem oneI_spec (l : List It) (a : Nat) (X W : Int) : ∀ (f i : Nat) (best : Option Nat), i + f = l.length + 1 → a ≤ i →
    (match best with | some c => a < c ∧ c < i ∧ endsI l c = true ∧ widI l a c X ≤ W ∧ ∀ j, c < j → j < i → endsI l j = false | none => ∀ j, a < j → j < i → endsI l j = false) →
    ∀ b w, oneI l a X W f i best = some (b, w) →
    a < b ∧ b ≤ l.length ∧ endsI l b = true ∧ w = decide (W < widI l a b X) ∧ (w = true → ∀ j, a < j → j < b → endsI l j = false) ∧
      (w = false → ∀ j, b < j → j ≤ l.length → endsI l j = true → (∀ k, b < k → k < j → endsI l k = false) → W < widI l a j X) := by
  intro f
  induction f with
  | zero =>
    intro i best hi hai hb b w ho
    cases best with
    | none => simp [oneI] at ho
    | some c =>
      simp only [oneI, Option.map_some, Option.some.injEq, Prod.mk.injEq] at ho
      obtain ⟨rfl, rfl⟩ := ho
      obtain ⟨h1, h2, h3, h4, h5⟩ := hb
      refine ⟨h1, by omega, h3, by simp; omega, (fun h => by cases h), fun _ j hj hjl he _ => ?_⟩
      rw [h5 j hj (by omega)] at he; cases he
  | succ f ih =>
    intro i best hi hai hb b w ho
    unfold oneI at ho
    by_cases hc : a < i ∧ endsI l i = true
    · rw [if_pos hc] at ho
      by_cases hW : W < widI l a i X
      · rw [if_pos hW] at ho
        cases best with
        | none =>
          simp only [Option.some.injEq, Prod.mk.injEq] at ho
          obtain ⟨rfl, rfl⟩ := ho
          exact ⟨hc.1, by omega, hc.2, by simp [hW], fun _ => hb, fun h => by cases h⟩
        | some c =>
          simp only [Option.some.injEq, Prod.mk.injEq] at ho
          obtain ⟨rfl, rfl⟩ := ho
          obtain ⟨h1, h2, h3, h4, h5⟩ := hb
          refine ⟨h1, by omega, h3, by simp; omega, (fun h => by cases h), fun _ j hj hjl he hk => ?_⟩
          by_cases hji : j < i
          · rw [h5 j hj hji] at he; cases he
          · by_cases hje : j = i
            · subst hje; exact hW
            · have := hk i h2 (by omega)
              rw [hc.2] at this; cases this
      · rw [if_neg hW] at ho
        refine ih (i + 1) (some i) (by omega) (by omega) ?_ b w ho
        exact ⟨hc.1, by omega, hc.2, by omega, fun j h1 h2 => by omega⟩
    · rw [if_neg hc] at ho
      refine ih (i + 1) best (by omega) (by omega) ?_ b w ho
      have hei : a < i → endsI l i = false := fun h => by
        cases he : endsI l i with
        | false => rfl
        | true => exact absurd ⟨h, he⟩ hc
      cases best with
      | none =>
        intro j h1 h2
        by_cases hj : j = i
        · subst hj; exact hei h1
        · exact hb j h1 (by omega)
      | some c =>
        obtain ⟨h1, h2, h3, h4, h5⟩ := hb
        refine ⟨h1, by omega, h3, h4, fun j g1 g2 => ?_⟩
        by_cases hj : j = i
        · subst hj; exact hei (by omega)
        · exact h5 j g1 (by omega)

/-- The first break above a place. -/
def nextF (l : List It) : Nat → Nat → Int
  | 0, _ => -1
  | f + 1, b => if endsI l b then b else nextF l f (b + 1)
theorem nextF_spec (l : List It) : ∀ f b, b + f = l.length + 1 → (nextF l f b = -1 ∧ ∀ j, b ≤ j → j ≤ l.length → endsI l j = false) ∨ ∃ c : Nat, nextF l f b = c ∧ b ≤ c ∧ c ≤ l.length ∧ endsI l c = true ∧ ∀ j, b ≤ j → j < c → endsI l j = false
  | 0, b, h => .inl ⟨rfl, fun j h1 h2 => by omega⟩
  | f + 1, b, h => by
    unfold nextF
    cases he : endsI l b with
    | true => exact .inr ⟨b, by simp, Nat.le_refl _, by omega, he, fun j h1 h2 => by omega⟩
    | false =>
      simp only [Bool.false_eq_true, if_false]
      rcases nextF_spec l f (b + 1) (by omega) with ⟨h1, h2⟩ | ⟨c, h1, h2, h3, h4, h5⟩
      · refine .inl ⟨h1, fun j g1 g2 => ?_⟩
        by_cases hj : j = b
        · subst hj; exact he
        · exact h2 j (by omega) g2
      · refine .inr ⟨c, h1, by omega, h3, h4, fun j g1 g2 => ?_⟩
        by_cases hj : j = b
        · subst hj; exact he
        · exact h5 j (by omega) g2

theorem at115 : tab 115 = some (.code f115) := by kernel_rfl
theorem at99 : tab 99 = some (.code f99) := by kernel_rfl
section
variable {st : St} {l : List It} {lv sv : DV} {sl : List Sl} {rest : Sl}
theorem L115_0 (hv : Its st l lv) (hc : checkI l = 0) (H : List HO) (K : List Nat) : ∀ f b, b + f = l.length + 1 →
    ∃ fr, (E tab).C f115L0 [(0, lv), (5, .int .i64 b)] (pst st H K) = some (if nextF l f b < 0 then (.exit 0, fr, pst st H K) else (.ret, [(4, .int .i64 (nextF l f b))], pst st H K)) := by
  have e0 := fun st' => its_len hv st'
  obtain ⟨hok, hlen⟩ := okW_of hc
  intro f
  induction f with
  | zero =>
    intro b hb
    refine ⟨[(0, lv), (5, .int .i64 b), (11, .bool false)], ?_⟩
    have h0 : ¬ b ≤ l.length := by omega
    rw [C_turn (L := f115L0) rfl]
    simp [f115B0, e0, h0, nextF]
  | succ f ih =>
    intro b hb
    have h0 : b ≤ l.length := by omega
    have hL := legal103 (hv.inn H K) (by omega) b
    have hle : legalV l b = endsI l b := by simp [legalV, hc, h0]
    rw [hle] at hL
    have hw1 : IntKind.i64.wrap ((b : Int) + 1) = ((b + 1 : Nat) : Int) := by rw [i64w (by omega)]; simp
    unfold nextF
    cases he : endsI l b with
    | true =>
      rw [he] at hL
      refine ⟨[], ?_⟩
      rw [C_turn (L := f115L0) rfl]
      simp [f115B0, e0, h0, hL]
    | false =>
      rw [he] at hL
      obtain ⟨fr, hJ⟩ := ih (b + 1) (by omega)
      refine ⟨fr, ?_⟩
      simp only [Bool.false_eq_true, if_false]
      generalize nextF l f (b + 1) = z at *
      simp at hJ
      rw [C_turn (L := f115L0) rfl]
      simp [f115B0, e0, h0, hL, hw1, hJ]
def nextI (l : List It) (a : Nat) : Int := nextF l (l.length - a) (a + 1)
theorem next115 (hv : Its st l lv) (hc : checkI l = 0) (a : Nat) (ha : a ≤ l.length) : (E tab).F 115 [lv, .int .i64 a] st = some (.int .i64 (nextI l a), st) := by
  obtain ⟨hok, hlen⟩ := okW_of hc
  rw [F_run at115 rfl]
  have hw1 : IntKind.i64.wrap ((a : Int) + 1) = ((a + 1 : Nat) : Int) := by rw [i64w (by omega)]; simp
  obtain ⟨fr, hL⟩ := L115_0 hv hc [] [] (l.length - a) (a + 1) (by omega)
  have hs := nextF_spec l (l.length - a) (a + 1) (by omega)
  unfold nextI
  generalize nextF l (l.length - a) (a + 1) = z at *
  by_cases hz : z < 0
  · rw [if_pos hz] at hL
    have : z = -1 := by rcases hs with ⟨h, _⟩ | ⟨c, h, _⟩ <;> omega
    simp at hL
    simp [f115, hw1, hL, this]
  · rw [if_neg hz] at hL
    simp at hL
    simp [f115, hw1, hL]
end

theorem el_pcs {l : List Pc} : ∀ y ∈ l.map Pc.dv, IsEl 5 true y := fun y hy => by obtain ⟨x, _, rfl⟩ := List.mem_map.1 hy; exact el_pc x
section
variable {st : St} {l : List It} {lv sv pv : DV} {sl : List Sl} {rest : Sl} {P : List Pc}

/-- What may stand ahead of a line: glues, and at the break ahead a penalty. -/
def gapOk (l : List It) (P : List Pc) (n AT a : Nat) : Prop := ∀ i, AT ≤ i → i < a → ∃ x, l[i]? = some x ∧ (x.k = 2 ∨ (0 < n ∧ i = AT ∧ x.k = 3 ∧ ∃ p, P[n - 1]? = some p ∧ p.b = (AT : Int)))

theorem L99_0 (hv : Its st l lv) (hP : Lw 5 (P.map Pc.dv) pv) (hl : l.length ≤ 1000) (hPl : P.length ≤ 1000) (n AT a : Nat) (hn : n < P.length) (hgap : gapOk l P n AT a) (ha : a ≤ l.length) (b : Int) (w hy : Bool) (nt : Int) (y1 y5 y7 y13 : DV) (q : Nat) (H : List HO) (K : List Nat) (hq : rowAt H q = some (.plain, Pc.cs ⟨a, b, w, hy, nt⟩)) : ∀ m i, i + m = a → AT ≤ i →
    ∃ fr, (E tab).C f99L0 [(0, lv), (1, y1), (5, y5), (7, y7), (8, pv), (11, .int .i64 n), (12, .ptr (st.heap.length + q) 0), (13, y13), (14, .int .i64 i)] (pst st H K) =
      some (.exit 2, [(0, lv), (1, y1), (5, y5), (7, y7), (8, pv), (11, .int .i64 n), (12, .ptr (st.heap.length + q) 0), (13, y13)] ++ fr, pst st H K) := by
  have e0 := fun st' => its_len hv st'
  intro m
  induction m with
  | zero =>
    intro i hi hA
    refine ⟨[(14, .int .i64 i), (79, .bool false)], ?_⟩
    obtain rfl : i = a := by omega
    simp only [Pc.cs] at hq
    rw [C_turn (L := f99L0) rfl]
    simp [f99B0, hq]
  | succ m ih =>
    intro i hi hA
    have hia : i < a := by omega
    have hil : i < l.length := by omega
    obtain ⟨x, hx, hcase⟩ := hgap i hA hia
    have e1 := fun st' => its_at hv hil .i64 st'
    have e2 := fun st' => its_f hv hx (off := 0) (by omega) st'
    have e3 := fun H K => its_k hv hx H K
    have hw1 : IntKind.i64.wrap ((i : Int) + 1) = ((i + 1 : Nat) : Int) := by rw [i64w (by omega)]; simp
    obtain ⟨fr, hJ⟩ := ih (i + 1) (by omega) (by omega)
    refine ⟨fr, ?_⟩
    simp only [Pc.cs] at hq
    simp at hJ
    rw [C_turn (L := f99L0) rfl]
    rcases hcase with hk | ⟨hn0, hiA, hk, p, hp, hpb⟩
    · simp [f99B0, hq, hia, e1, e2, e3, hk, hw1, hJ]
    · have hw2 : IntKind.i64.wrap ((n : Int) - 1) = ((n - 1 : Nat) : Int) := by rw [i64w (by omega)]; omega
      have hn1 : n - 1 < P.length := by omega
      have p1 := fun st' => Vw.iaddr (hP.vw (st := st) (ag := true)) (i := n - 1) (by simpa using hn1) .i64 st'
      have p2 := fun st' => Vw.faddr (hP.vw (st := st) (ag := true)) el_pcs (i := n - 1) (by simpa using hn1) (off := 1) (by omega) st'
      have p3 := fun H K => Vw.fload (Vw.inn (hP.vw (st := st) (ag := true)) H K) el_pcs (i := n - 1) (x := p.dv) (by simp [hp]) (off := 1) (y := .int .i64 p.b) rfl
      have hpi : p.b = (i : Int) := by omega
      rw [hpi] at p3
      simp [f99B0, hq, hia, e1, e2, e3, hk, hn0, hw2, p1, p2, p3, hw1, hJ]

theorem wid_ok (hc : checkI l = 0) (a b : Nat) (h1 : a ≤ b) (h2 : b ≤ l.length) (x : Int) (hx : 0 ≤ x ∧ x ≤ 4095) : widV l a b x = .tuple [.int .i64 (widI l a b x), .int .i64 0] := by
  unfold widV
  have hr : rangedI l a b = 0 := by unfold rangedI; rw [if_neg (by omega), hc]
  have hw : withinB x = true := by simp [withinB, hx]
  rw [hr, hw]
  simp

theorem turn99 (hv : Its st l lv) (hs : Sls st sl sv) (hP : Lw 5 (P.map Pc.dv) pv) (hc : checkI l = 0) (hl : l.length ≤ 200) (hPl : P.length ≤ l.length + 1) (n AT a b : Nat) (w hy : Bool) (hX : 0 ≤ (slotZ sl rest n).x ∧ (slotZ sl rest n).x ≤ 4095)
    (hx : P[n]? = some ⟨a, b, w, hy, widI l a b (slotZ sl rest n).x⟩) (hgap : gapOk l P n AT a) (hAT : AT ≤ a) (ha : a < l.length) (hab : a < b) (hb : b ≤ l.length) (hend : endsI l b = true) (hw : w = decide ((slotZ sl rest n).w < widI l a b (slotZ sl rest n).x))
    (hw1 : w = true → nextI l a = b) (hw2 : w = false → nextI l b < 0 ∨ ∃ c : Nat, nextI l b = c ∧ b < c ∧ c ≤ l.length ∧ (slotZ sl rest n).w < widI l a c (slotZ sl rest n).x) (J : List HO) (K : List Nat) :
    ∃ J', (E tab).C f99L1 [(0, lv), (1, sv), (5, .ptr st.heap.length 0), (7, .bool true), (8, pv), (10, .int .i64 AT), (11, .int .i64 n)] (pst st (.cells .plain rest.cs :: J) K) =
      (E tab).C f99L1 [(0, lv), (1, sv), (5, .ptr st.heap.length 0), (7, .bool true), (8, pv), (10, .int .i64 b), (11, .int .i64 (n + 1 : Nat))] (pst st (.cells .plain rest.cs :: J') K) := by
  have hn : n < P.length := (List.getElem?_eq_some_iff.1 hx).1
  have e0 := fun st' => its_len hv st'
  have p0 := fun st' => Vw.len (hP.vw (st := st) (ag := true)) st'
  simp only [List.length_map] at p0
  have p1 := fun st' => Vw.iaddr (hP.vw (st := st) (ag := true)) (i := n) (by simpa using hn) .i64 st'
  have p2 := fun H K => Vw.load (Vw.inn (hP.vw (st := st) (ag := true)) H K) el_pcs rfl (i := n) (x := Pc.dv ⟨a, b, w, hy, widI l a b (slotZ sl rest n).x⟩) (by simp [hx])
  have hS := fun H => slot114 (rest := rest) (hs.inn H K) n
  have hWd := fun H => width110 (hv.inn H K) a b (slotZ sl rest n).x
  simp only [wid_ok hc a b (by omega) hb _ hX] at hWd
  have hLg := fun H => legal103 (hv.inn H K) (by omega) b
  have hle : legalV l b = true := by simp [legalV, hc, hb, hend]
  simp only [hle] at hLg
  have hN1 := fun H => next115 (hv.inn H K) hc a (by omega)
  have hN2 := fun H => next115 (hv.inn H K) hc b hb
  have hwn : IntKind.i64.wrap ((n : Int) + 1) = ((n + 1 : Nat) : Int) := by rw [i64w (by omega)]; simp
  have hwl : IntKind.i64.wrap ((l.length : Int) + 1) = l.length + 1 := i64w (by omega)
  generalize hsg : slotZ sl rest n = s at *
  have c1 : ¬ (a : Int) < AT := by omega
  have c2 : ¬ (b : Int) < a := by omega
  have c3 : ¬ (l.length : Int) < b := by omega
  have c4 : ¬ ((l.length : Int) + 1) < P.length := by omega
  have c5 : ¬ (a : Int) = l.length := by omega
  have c1' : ¬ a < AT := by omega
  have c2' : ¬ b < a := by omega
  have c3' : ¬ l.length < b := by omega
  have c5' : ¬ a = l.length := by omega
  generalize hnt : widI l a b s.x = nt at *
  obtain ⟨fr, hL⟩ := L99_0 hv hP (by omega) (by omega) n AT a hn hgap (by omega) b w hy nt sv (.ptr st.heap.length 0) (.bool true) (.ptr (st.heap.length + (J.length + 2)) 0) (J.length + 1) (.cells .plain rest.cs :: (J ++ [.cells .plain (Pc.cs ⟨a, b, w, hy, nt⟩), .cells .plain s.cs])) K (by
    simp [rowAt]) (a - AT) AT (by omega) (Nat.le_refl _)
  refine ⟨J ++ [.cells .plain (Pc.cs ⟨a, b, w, hy, nt⟩), .cells .plain s.cs], ?_⟩
  simp only [Pc.dv, Pc.cs, Sl.dv, Sl.cs] at *
  rw [C_turn (L := f99L1) rfl]
  by_cases hp1 : P.length = 1
  · obtain rfl : n = 0 := by omega
    simp at p1 hS hwn hL
    have c6 : ¬ ((l.length : Int) + 1 < 1) := by omega
    cases w with
    | true =>
      have hW : s.w < nt := by simpa using hw.symm
      have hn1 := hw1 rfl
      rw [hn1] at hN1
      by_cases hz : nextI l b < 0
      · simp [f99B1, e0, p0, p1, p2, hS, hn, c1, c2, c3, c4, c1', c2', c3', hwl, hL, c5, c5', c6, hp1, hWd, hLg, hW, eqD, hN1, hN2, hz, hwn]
      · simp [f99B1, e0, p0, p1, p2, hS, hn, c1, c2, c3, c4, c1', c2', c3', hwl, hL, c5, c5', c6, hp1, hWd, hLg, hW, eqD, hN1, hN2, hz, hwn]
    | false =>
      have hW : ¬ s.w < nt := by simpa using hw.symm
      rcases hw2 rfl with hz | ⟨c, hcc, hbc, hcl, hwc⟩
      · simp [f99B1, e0, p0, p1, p2, hS, hn, c1, c2, c3, c4, c1', c2', c3', hwl, hL, c5, c5', c6, hp1, hWd, hLg, hW, eqD, hN2, hz, hwn]
      · have hWc := fun H => width110 (hv.inn H K) a c s.x
        simp only [wid_ok hc a c (by omega) hcl _ hX] at hWc
        rw [hcc] at hN2
        have hwc' : ¬ widI l a c s.x ≤ s.w := by omega
        simp [f99B1, e0, p0, p1, p2, hS, hn, c1, c2, c3, c4, c1', c2', c3', hwl, hL, c5, c5', c6, hp1, hWd, hLg, hW, eqD, hN2, hwn, hWc, hwc']
  · have hp1' : ¬ (P.length : Int) = 1 := by omega
    cases w with
    | true =>
      have hW : s.w < nt := by simpa using hw.symm
      have hn1 := hw1 rfl
      rw [hn1] at hN1
      by_cases hz : nextI l b < 0
      · simp at hL
        simp [f99B1, e0, p0, p1, p2, hS, hn, c1, c2, c3, c4, c1', c2', c3', hwl, hL, c5, c5', hp1, hp1', hWd, hLg, hW, eqD, hN1, hN2, hz, hwn]
      · simp at hL
        simp [f99B1, e0, p0, p1, p2, hS, hn, c1, c2, c3, c4, c1', c2', c3', hwl, hL, c5, c5', hp1, hp1', hWd, hLg, hW, eqD, hN1, hN2, hz, hwn]
    | false =>
      have hW : ¬ s.w < nt := by simpa using hw.symm
      rcases hw2 rfl with hz | ⟨c, hcc, hbc, hcl, hwc⟩
      · simp at hL
        simp [f99B1, e0, p0, p1, p2, hS, hn, c1, c2, c3, c4, c1', c2', c3', hwl, hL, c5, c5', hp1, hp1', hWd, hLg, hW, eqD, hN2, hz, hwn]
      · have hWc := fun H => width110 (hv.inn H K) a c s.x
        simp only [wid_ok hc a c (by omega) hcl _ hX] at hWc
        rw [hcc] at hN2
        have hwc' : ¬ widI l a c s.x ≤ s.w := by omega
        simp at hL
        simp [f99B1, e0, p0, p1, p2, hS, hn, c1, c2, c3, c4, c1', c2', c3', hwl, hL, c5, c5', hp1, hp1', hWd, hLg, hW, eqD, hN2, hwn, hWc, hwc']
end

theorem list_of {α : Type} {f : α → DV} : ∀ {xs : List DV}, (∀ x ∈ xs, ∃ a, x = f a) → ∃ l : List α, xs = l.map f
  | [], _ => ⟨[], rfl⟩
  | x :: r, h => by
    obtain ⟨a, rfl⟩ := h x (List.mem_cons_self ..)
    obtain ⟨l, rfl⟩ := list_of fun y hy => h y (List.mem_cons_of_mem _ hy)
    exact ⟨a :: l, rfl⟩
def shIt : List Sh := [.int .i64, .int .i64, .int .i64, .int .i64, .int .i64, .int .i64, .int .i64, .bool]
theorem fit_it {vs : List DV} (h : FitFs shIt vs) : ∃ x : It, vs = x.cs := by
  obtain ⟨_, _, rfl, ⟨a, rfl, _⟩, _, _, rfl, ⟨b, rfl, _⟩, _, _, rfl, ⟨c, rfl, _⟩, _, _, rfl, ⟨d, rfl, _⟩, _, _, rfl, ⟨e, rfl, _⟩, _, _, rfl, ⟨f, rfl, _⟩, _, _, rfl, ⟨g, rfl, _⟩, _, _, rfl, ⟨h, rfl⟩, rfl⟩ := h
  exact ⟨⟨a, b, c, d, e, f, g, h⟩, rfl⟩
theorem fit_its {v : DV} (h : Fit (.list true 64 shIt) v) (st : St) : ∃ l : List It, Its st l v ∧ l.length ≤ 140737488355328 ∧ ∃ nn, v = .list 0 8 .no nn (l.map It.dv) ∧ (nn = false → l = []) := by
  obtain ⟨nn, xs, rfl, hnn, hmax, hlen, hxs⟩ := h
  obtain ⟨l, rfl⟩ : ∃ l : List It, xs = l.map It.dv := list_of fun x hx => by
    obtain ⟨vs, h1, rfl⟩ := hxs x hx
    obtain ⟨m, rfl⟩ := fit_it h1
    exact ⟨m, rfl⟩
  refine ⟨l, .list _ _ _ _ (fun _ => rfl) hnn, ?_, nn, rfl, fun e => by simpa using hnn e⟩
  unfold reachBytes at hlen; simp at hlen; omega

theorem gap_glue (l : List It) : ∀ f s i, s ≤ i → i < glueI l f s → ∃ x, l[i]? = some x ∧ x.k = 2
  | 0, s, i, h1, h2 => by simp [glueI] at h2; omega
  | f + 1, s, i, h1, h2 => by
    unfold glueI at h2
    split at h2
    · rename_i x hx
      split at h2
      · rename_i hk
        by_cases hi : i = s
        · subst hi; exact ⟨x, hx, hk⟩
        · exact gap_glue l f (s + 1) i (by omega) h2
      · omega
    · omega
theorem gap_begin (l : List It) (B i : Nat) (h1 : B ≤ i) (h2 : i < beginI l B) : ∃ x, l[i]? = some x ∧ (x.k = 2 ∨ (i = B ∧ x.k = 3)) := by
  unfold beginI at h2
  cases hx : l[B]? with
  | none =>
    rw [hx] at h2
    obtain ⟨x, g1, g2⟩ := gap_glue l _ _ i h1 h2
    exact ⟨x, g1, .inl g2⟩
  | some y =>
    rw [hx] at h2
    simp only at h2
    split at h2
    · rename_i hk
      by_cases hi : i = B
      · subst hi; exact ⟨y, hx, .inr ⟨rfl, hk⟩⟩
      · obtain ⟨x, g1, g2⟩ := gap_glue l _ _ i (by omega) h2
        exact ⟨x, g1, .inl g2⟩
    · obtain ⟨x, g1, g2⟩ := gap_glue l _ _ i h1 h2
      exact ⟨x, g1, .inl g2⟩
theorem linesI_len (l : List It) (sl : List Sl) (rest : Sl) : ∀ f a n, (linesI l sl rest f a n).length ≤ f
  | 0, a, n => by simp [linesI]
  | f + 1, a, n => by
    unfold linesI
    split
    · simp; exact linesI_len l sl rest f _ _
    · simp
theorem linesI_ne {l : List It} {sl : List Sl} {rest : Sl} {f a n : Nat} (h : a < l.length) (hf : 0 < f) : linesI l sl rest f a n ≠ [] := by
  cases f with
  | zero => omega
  | succ f => rw [linesI, if_pos h]; simp
theorem linesI_end (l : List It) (sl : List Sl) (rest : Sl) (f n : Nat) : linesI l sl rest f l.length n = [] := by
  cases f <;> simp [linesI]

section
variable {st : St} {l : List It} {lv sv pv : DV} {sl : List Sl} {rest : Sl} {P : List Pc}
theorem L99_1 (hv : Its st l lv) (hs : Sls st sl sv) (hP : Lw 5 (P.map Pc.dv) pv) (hc : checkI l = 0) (hso : slOk sl rest) (hl : l.length ≤ 200) (hPl : P.length ≤ l.length + 1) : ∀ (f : Nat) (d : List Pc) (AT a : Nat), l.length ≤ a + f → a ≤ l.length → AT ≤ a → P = d ++ linesI l sl rest f a d.length → gapOk l P d.length AT a → ∀ (J : List HO) (K : List Nat),
    ∃ J' fr AT', (E tab).C f99L1 [(0, lv), (1, sv), (5, .ptr st.heap.length 0), (7, .bool true), (8, pv), (10, .int .i64 AT), (11, .int .i64 d.length)] (pst st (.cells .plain rest.cs :: J) K) =
      some (.exit 0, [(0, lv), (1, sv), (5, .ptr st.heap.length 0), (7, .bool true), (8, pv), (10, .int .i64 (AT' : Nat))] ++ fr, pst st (.cells .plain rest.cs :: J') K) ∧ AT' ≤ l.length ∧ ∀ i, AT' ≤ i → i < l.length → ∃ x, l[i]? = some x ∧ (x.k = 2 ∨ (i = AT' ∧ x.k = 3)) := by
  have p0 := fun st' => Vw.len (hP.vw (st := st) (ag := true)) st'
  simp only [List.length_map] at p0
  have stop : ∀ (d : List Pc) (AT a : Nat), ¬ a < l.length → a ≤ l.length → AT ≤ a → P = d → gapOk l P d.length AT a → ∀ (J : List HO) (K : List Nat),
      ∃ J' fr AT', (E tab).C f99L1 [(0, lv), (1, sv), (5, .ptr st.heap.length 0), (7, .bool true), (8, pv), (10, .int .i64 AT), (11, .int .i64 d.length)] (pst st (.cells .plain rest.cs :: J) K) =
        some (.exit 0, [(0, lv), (1, sv), (5, .ptr st.heap.length 0), (7, .bool true), (8, pv), (10, .int .i64 (AT' : Nat))] ++ fr, pst st (.cells .plain rest.cs :: J') K) ∧ AT' ≤ l.length ∧ ∀ i, AT' ≤ i → i < l.length → ∃ x, l[i]? = some x ∧ (x.k = 2 ∨ (i = AT' ∧ x.k = 3)) := by
    intro d AT a h0 h1 h2 h3 hg J K
    subst h3
    refine ⟨J, [(11, .int .i64 P.length), (38, .bool false)], AT, ?_, by omega, fun i hi hil => ?_⟩
    · rw [C_turn (L := f99L1) rfl]
      simp [f99B1, p0]
    · obtain ⟨x, g1, g2⟩ := hg i hi (by omega)
      refine ⟨x, g1, ?_⟩
      rcases g2 with g2 | ⟨_, g3, g4, _⟩
      · exact .inl g2
      · exact .inr ⟨g3, g4⟩
  intro f
  induction f with
  | zero =>
    intro d AT a h1 h2 h3 hd hg J K
    exact stop d AT a (by omega) h2 h3 (by simpa [linesI] using hd) hg J K
  | succ f ih =>
    intro d AT a h1 h2 h3 hd hg J K
    by_cases h0 : a < l.length
    · rw [linesI, if_pos h0] at hd
      have hX := hso d.length
      obtain ⟨b, w, ho, hab, hbl⟩ := oneI_some l a (slotZ sl rest d.length).x (slotZ sl rest d.length).w h0 (l.length + 1 - a) a none (by omega) (fun _ => by omega) (Nat.le_refl _) (fun c e => by cases e)
      have hpc : pieceI l a (slotZ sl rest d.length) = ⟨a, b, w, hyI l b, widI l a b (slotZ sl rest d.length).x⟩ := by unfold pieceI; rw [ho]
      obtain ⟨_, _, hend, hw, hw1, hw2⟩ := oneI_spec l a _ _ (l.length + 1 - a) a none (by omega) (Nat.le_refl _) (fun j g1 g2 => by omega) b w ho
      rw [hpc] at hd
      simp only [Int.toNat_natCast] at hd
      have hx : P[d.length]? = some ⟨a, b, w, hyI l b, widI l a b (slotZ sl rest d.length).x⟩ := by rw [hd]; simp
      have hbe := beginI_le l b hbl
      obtain ⟨J1, hT⟩ := turn99 hv hs hP hc hl hPl d.length AT a b w (hyI l b) ⟨hX.1, hX.2.1⟩ hx hg h3 h0 hab hbl hend hw (fun h => by
        rcases nextF_spec l (l.length - a) (a + 1) (by omega) with ⟨g1, g2⟩ | ⟨c, g1, g2, g3, g4, g5⟩
        · have := g2 b (by omega) hbl; rw [hend] at this; cases this
        · unfold nextI
          rw [g1]
          have : c = b := by
            by_cases hcb : c < b
            · have := hw1 h c (by omega) hcb; rw [g4] at this; cases this
            · by_cases hbc : b < c
              · have := g5 b (by omega) hbc; rw [hend] at this; cases this
              · omega
          rw [this]) (fun h => by
        rcases nextF_spec l (l.length - b) (b + 1) (by omega) with ⟨g1, g2⟩ | ⟨c, g1, g2, g3, g4, g5⟩
        · left; unfold nextI; rw [g1]; omega
        · right
          exact ⟨c, g1, by omega, g3, hw2 h c (by omega) g3 g4 fun k k1 k2 => g5 k (by omega) k2⟩) J K
      have hd2 : P = (d ++ [⟨a, b, w, hyI l b, widI l a b (slotZ sl rest d.length).x⟩]) ++ linesI l sl rest f (beginI l b) (d ++ [(⟨a, b, w, hyI l b, widI l a b (slotZ sl rest d.length).x⟩ : Pc)]).length := by
        rw [List.append_assoc, List.singleton_append, List.length_append, List.length_singleton]; exact hd
      have hg2 : gapOk l P (d ++ [(⟨a, b, w, hyI l b, widI l a b (slotZ sl rest d.length).x⟩ : Pc)]).length b (beginI l b) := by
        intro i hi hib
        obtain ⟨x, g1, g2⟩ := gap_begin l b i hi hib
        refine ⟨x, g1, ?_⟩
        rcases g2 with g2 | ⟨g2, g3⟩
        · exact .inl g2
        · exact .inr ⟨by simp, g2, g3, _, by simpa using hx, rfl⟩
      obtain ⟨J', fr, AT', hJ, r1, r2⟩ := ih _ b (beginI l b) (by omega) hbe.2 hbe.1 hd2 hg2 J1 K
      refine ⟨J', fr, AT', ?_, r1, r2⟩
      rw [hT]
      simpa using hJ
    · have : a = l.length := by omega
      subst this
      rw [linesI_end, List.append_nil] at hd
      exact stop d AT _ h0 h2 h3 hd hg J K

theorem L99_2 (hv : Its st l lv) (hl : l.length ≤ 1000) (AT : Nat) (hg : ∀ i, AT ≤ i → i < l.length → ∃ x, l[i]? = some x ∧ (x.k = 2 ∨ (i = AT ∧ x.k = 3))) (y7 y8 : DV) (H : List HO) (K : List Nat) : ∀ m i, i + m = l.length → AT ≤ i →
    ∃ fr, (E tab).C f99L2 [(0, lv), (7, y7), (8, y8), (10, .int .i64 AT), (18, .int .i64 i)] (pst st H K) = some (.exit 4, [(0, lv), (7, y7), (8, y8)] ++ fr, pst st H K) := by
  have e0 := fun st' => its_len hv st'
  intro m
  induction m with
  | zero =>
    intro i hi hA
    refine ⟨[(10, .int .i64 AT), (18, .int .i64 i), (201, .bool false)], ?_⟩
    obtain rfl : i = l.length := by omega
    rw [C_turn (L := f99L2) rfl]
    simp [f99B2, e0]
  | succ m ih =>
    intro i hi hA
    have hil : i < l.length := by omega
    obtain ⟨x, hx, hcase⟩ := hg i hA hil
    have e1 := fun st' => its_at hv hil .i64 st'
    have e2 := fun st' => its_f hv hx (off := 0) (by omega) st'
    have e3 := fun H K => its_k hv hx H K
    have hw1 : IntKind.i64.wrap ((i : Int) + 1) = ((i + 1 : Nat) : Int) := by rw [i64w (by omega)]; simp
    obtain ⟨fr, hJ⟩ := ih (i + 1) (by omega) (by omega)
    refine ⟨fr, ?_⟩
    simp at hJ
    rw [C_turn (L := f99L2) rfl]
    rcases hcase with hk | ⟨hiA, hk⟩
    · simp [f99B2, e0, hil, e1, e2, e3, hk, hw1, hJ]
    · subst hiA
      simp [f99B2, e0, hil, e1, e2, e3, hk, hw1, hJ]
end

def shSl : List Sh := [.int .i64, .int .i64]
theorem fit_sl {vs : List DV} (h : FitFs shSl vs) : ∃ x : Sl, vs = x.cs := by
  obtain ⟨_, _, rfl, ⟨a, rfl, _⟩, _, _, rfl, ⟨b, rfl, _⟩, rfl⟩ := h
  exact ⟨⟨a, b⟩, rfl⟩
theorem fit_slF {vs : List DV} (h : Fits shSl vs) : ∃ x : Sl, vs = x.cs := by
  obtain ⟨_, _, rfl, ⟨a, rfl, _⟩, _, _, rfl, ⟨b, rfl, _⟩, rfl⟩ := h
  exact ⟨⟨a, b⟩, rfl⟩
theorem fit_sls {v : DV} (h : Fit (.list true 16 shSl) v) (st : St) : ∃ l : List Sl, Sls st l v ∧ l.length ≤ 140737488355328 ∧ ∃ nn, v = .list 0 2 .no nn (l.map Sl.dv) ∧ (nn = false → l = []) := by
  obtain ⟨nn, xs, rfl, hnn, hmax, hlen, hxs⟩ := h
  obtain ⟨l, rfl⟩ : ∃ l : List Sl, xs = l.map Sl.dv := list_of fun x hx => by
    obtain ⟨vs, h1, rfl⟩ := hxs x hx
    obtain ⟨m, rfl⟩ := fit_sl h1
    exact ⟨m, rfl⟩
  refine ⟨l, .list _ _ _ _ (fun _ => rfl) hnn, ?_, nn, rfl, fun e => by simpa using hnn e⟩
  unfold reachBytes at hlen; simp at hlen; omega

def lawSh : List (Bool × List Sh) := [(false, [.list true 64 shIt]), (false, [.list true 16 shSl]), (true, shSl)]
theorem law_run (us : List DV) (hf : FitAll lawSh us) : ∃ st', (E tab).F 99 us st0 = some (.bool true, st') := by
  obtain ⟨_, _, rfl, ⟨v, _, rfl, hv, rfl⟩, _, _, rfl, ⟨sv, _, rfl, hs, rfl⟩, _, _, rfl, hr, rfl⟩ := hf
  obtain ⟨l, hv, hl, _⟩ := fit_its hv st0
  obtain ⟨sl, hs, hsl, _⟩ := fit_sls hs st0
  obtain ⟨rest, rfl⟩ := fit_slF hr
  refine ⟨st0, ?_⟩
  rw [F_run at99 rfl]
  simp only [elemOf, List.headD_cons, Bool.false_eq_true, if_false, if_true]
  have hk := fknown_run
  have e0 := fun st' => its_len hv st'
  obtain ⟨pv, hB, hP⟩ := break113 (rest := rest) (hs.inn [.cells .plain rest.cs] []) (hv.inn [.cells .plain rest.cs] [])
  by_cases hE : breakE l sl rest = 0
  · by_cases h2 : 200 < l.length
    · have h2' : (200 : Int) < l.length := by omega
      simp only [Sl.cs, Sl.dv] at hB
      simp [f99, Sl.cs, hk, hB, hE, e0, h2, h2']
    · have h2' : ¬ (200 : Int) < l.length := by omega
      have hc : checkI l = 0 := by
        unfold breakE at hE
        by_cases h : checkI l = 0
        · exact h
        · rw [if_pos h] at hE; exact absurd hE h
      have hd : checkS sl rest = 0 := by unfold breakE at hE; rw [if_neg (by rw [hc]; simp)] at hE; exact hE
      obtain ⟨hso, _⟩ := slOk_of hd
      have hg := glueI_le l l.length 0 (by omega)
      have p0 := fun st' => Vw.len (hP.vw (st := st0) (ag := true)) st'
      simp only [List.length_map] at p0
      by_cases hgl : glueI l l.length 0 = l.length
      · have hbr : breakL l sl rest = [⟨l.length, l.length, false, false, 0⟩] := by
          unfold breakL; rw [if_neg (by simp [hE]), if_pos hgl]
        rw [hbr] at hP p0
        have hgap : gapOk l [⟨l.length, l.length, false, false, 0⟩] 0 0 l.length := by
          intro i h1 h2
          obtain ⟨x, g1, g2⟩ := gap_glue l l.length 0 i h1 (by omega)
          exact ⟨x, g1, .inl g2⟩
        have p1 := fun st' => Vw.iaddr (hP.vw (st := st0) (ag := true)) (i := 0) (by simp) .i64 st'
        have p2 := fun H K => Vw.load (Vw.inn (hP.vw (st := st0) (ag := true)) H K) el_pcs rfl (i := 0) (x := Pc.dv ⟨l.length, l.length, false, false, 0⟩) (by simp)
        have hS := fun H => slot114 (rest := rest) (hs.inn H []) ((0 : Nat) : Int)
        generalize hsg : slotZ sl rest ((0 : Nat) : Int) = s at *
        obtain ⟨fr, hL⟩ := L99_0 (st := st0) hv hP (by omega) (by simp) 0 0 l.length (by simp) hgap (Nat.le_refl _) l.length false false 0 sv (.ptr st0.heap.length 0) (.bool true) (.ptr (st0.heap.length + 2) 0) 1 [.cells .plain rest.cs, .cells .plain (Pc.cs ⟨l.length, l.length, false, false, 0⟩), .cells .plain s.cs] [] rfl l.length 0 (by omega) (Nat.le_refl _)
        have hc4 : ¬ ((l.length : Int) + 1 < 1) := by omega
        have hwl : IntKind.i64.wrap ((l.length : Int) + 1) = l.length + 1 := i64w (by omega)
        obtain ⟨fr2, hL2⟩ := L99_2 (st := st0) hv (by omega) l.length (fun i h1 h2 => by omega) (.bool true) pv [.cells .plain rest.cs, .cells .plain (Pc.cs ⟨l.length, l.length, false, false, 0⟩), .cells .plain s.cs] [] 0 l.length (by omega) (Nat.le_refl _)
        have hT : ∃ ex, (E tab).C f99L1 [(0, v), (1, sv), (5, .ptr st0.heap.length 0), (7, .bool true), (8, pv), (10, .int .i64 0), (11, .int .i64 0)] (pst st0 [.cells .plain rest.cs] []) =
            some (.exit 0, [(0, v), (1, sv), (5, .ptr st0.heap.length 0), (7, .bool true), (8, pv), (10, .int .i64 l.length)] ++ ex, pst st0 [.cells .plain rest.cs, .cells .plain (Pc.cs ⟨l.length, l.length, false, false, 0⟩), .cells .plain s.cs] []) := by
          refine ⟨[(11, .int .i64 1), (38, .bool false)], ?_⟩
          simp only [Pc.dv, Pc.cs, Sl.dv, Sl.cs] at hL p2 hS ⊢
          simp at p1 hS hL p0
          have w1 : IntKind.i64.wrap 1 = 1 := by decide
          have hz : ¬ (l.length : Int) < 0 := by omega
          rw [C_turn (L := f99L1) rfl]
          simp [f99B1, e0, p0, p1, p2, hS, hc4, hwl, hL, w1]
          rw [C_turn (L := f99L1) rfl]
          simp [f99B1, p0]
        obtain ⟨ex, hT⟩ := hT
        simp only [Sl.cs, Sl.dv, Pc.cs] at hB hT hL2
        simp at hL2 hT p0
        simp [f99, Sl.cs, hk, hB, hE, e0, h2, h2', hT, hL2, p0]
      · have hbr : breakL l sl rest = linesI l sl rest l.length (glueI l l.length 0) 0 := by
          unfold breakL; rw [if_neg (by simp [hE]), if_neg hgl]
        have hlen := linesI_len l sl rest l.length (glueI l l.length 0) 0
        have hne : 0 < (breakL l sl rest).length := by
          rw [hbr, List.length_pos_iff]
          exact linesI_ne (by omega) (by omega)
        obtain ⟨J', fr, AT', hL1, r1, r2⟩ := L99_1 (rest := rest) hv hs hP hc hso (by omega) (by rw [hbr]; omega) l.length [] 0 (glueI l l.length 0) (by omega) hg.2 (by omega) (by simpa using hbr) (fun i h1 h2 => by
          obtain ⟨x, g1, g2⟩ := gap_glue l _ _ i h1 h2
          exact ⟨x, g1, .inl g2⟩) [] []
        obtain ⟨fr2, hL2⟩ := L99_2 hv (by omega) AT' r2 (.bool true) pv (.cells .plain rest.cs :: J') [] (l.length - AT') AT' (by omega) (Nat.le_refl _)
        have hne' : 0 < ((breakL l sl rest).length : Int) := by omega
        generalize (breakL l sl rest).length = PL at *
        simp only [Sl.cs, Sl.dv] at hB hL1 hL2
        simp at hL1 hL2
        simp [f99, Sl.cs, hk, hB, hE, e0, h2, h2', hL1, hL2, p0, hne, hne']
  · simp only [Sl.cs, Sl.dv] at hB
    simp [f99, Sl.cs, hk, hB, hE]

end Go.D.Tab
