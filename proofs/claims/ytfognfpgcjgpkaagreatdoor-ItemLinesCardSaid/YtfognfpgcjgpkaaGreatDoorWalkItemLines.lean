/-
What the law ItemLines runs through, walked: it tells true of all that its arguments may stand for.
-/
import Derived.Test.YtfognfpgcjgpkaaGreatDoorTab
import Derived.Test.YtfognfpgcjgpkaaGreatDoorFwDOver
import Derived.Test.YtfognfpgcjgpkaaGreatDoorFwDX
import Derived.KernelRfl
import Derived.Test.YtfognfpgcjgpkaaGreatDoorFwDArg2
set_option linter.unusedSimpArgs false
set_option linter.unusedVariables false
set_option linter.unnecessarySimpa false
namespace Go.D.Tab
def trueP : List DV → Option DV
  | [] => some (.bool true)
  | _ => none

theorem trueP_ran {g : Nat} (h : ∃ n, tells tree.get n g [] st0 (.bool true) = true) : ∀ as v, trueP as = some v → Ran tree.get g as v := by
  intro as v e
  obtain ⟨n, h⟩ := h
  cases as with
  | nil => cases e; exact ran_of rfl rfl h
  | cons a r => cases e

theorem iknown_runs : tells tree.get 1000000 102 [] st0 (.bool true) = true := by kernel_rfl
theorem fknown_runs : tells tree.get 1000000 112 [] st0 (.bool true) = true := by kernel_rfl

def known : List (Nat × (List DV → Option DV)) := [(102, trueP), (112, trueP)]
def tab : Tab := over tree.get known

theorem known_ran : ∀ x ∈ known, ∀ as v, x.2 as = some v → Ran tree.get x.1 as v := by
  intro x hx
  simp only [known, List.mem_cons, List.not_mem_nil, or_false] at hx
  rcases hx with rfl | rfl
  · exact trueP_ran ⟨_, iknown_runs⟩
  · exact trueP_ran ⟨_, fknown_runs⟩

theorem known_pure : ∀ x ∈ known, isPure tree.get x.1 = true := by
  intro x hx
  simp only [known, List.mem_cons, List.not_mem_nil, or_false] at hx
  rcases hx with rfl | rfl <;> kernel_rfl

theorem at102 : tab 102 = some (.pprim trueP) := by kernel_rfl
theorem at112 : tab 112 = some (.pprim trueP) := by kernel_rfl
theorem iknown_run (st : St) : (E tab).F 102 [] st = some (.bool true, st) := F_prim at102 rfl
theorem fknown_run (st : St) : (E tab).F 112 [] st = some (.bool true, st) := F_prim at112 rfl

@[simp] theorem nat_not_neg (n : Nat) : ¬ ((n : Int) < 0) := by omega
/-! Rows among many -/
theorem rowAt_lt {H : List HO} {k : Nat} {x : CK × List DV} (h : rowAt H k = some x) : k < H.length := by
  unfold rowAt at h
  split at h
  · rename_i e; exact (List.getElem?_eq_some_iff.1 e).1
  · cases h
theorem rowAt_left {H X : List HO} {k : Nat} (h : k < H.length) : rowAt (H ++ X) k = rowAt H k := by
  unfold rowAt
  rw [List.getElem?_append_left h]
theorem rowAt_set {H : List HO} {k : Nat} (h : k < H.length) (g : CK) (vs : List DV) : rowAt (H.set k (.cells g vs)) k = some (g, vs) := by
  unfold rowAt
  rw [List.getElem?_set_self h]
theorem set_left {H X : List HO} {k : Nat} (h : k < H.length) (o : HO) : (H ++ X).set k o = H.set k o ++ X := List.set_append_left _ _ h
theorem row_at {H : List HO} {k : Nat} {g : CK} {vs : List DV} (h : rowAt H k = some (g, vs)) (X : List HO) : rowAt (H ++ X) k = some (g, vs) := by
  rw [rowAt_left (rowAt_lt h), h]

theorem rowAt_setl {H : List HO} {k : Nat} (h : k < H.length) (g : CK) (vs : List DV) (X : List HO) : rowAt (H.set k (.cells g vs) ++ X) k = some (g, vs) := by
  rw [rowAt_left (by simpa using h), rowAt_set h]
theorem set_setl {H : List HO} {k : Nat} (h : k < H.length) (o o' : HO) (X : List HO) : (H.set k o ++ X).set k o' = H.set k o' ++ X := by
  rw [set_left (by simpa using h), List.set_set]
theorem rowAt_right {H X : List HO} (j : Nat) : rowAt (H ++ X) (H.length + j) = rowAt X j := by
  unfold rowAt
  rw [app_at]
theorem set_right {H X : List HO} (j : Nat) (x : HO) : (H ++ X).set (H.length + j) x = H ++ X.set j x := by simp [List.set_append_right]
@[simp] theorem rowAt_set2 (H X : List HO) (k : Nat) (o : HO) (j : Nat) : rowAt (H.set k o ++ X) (H.length + j) = rowAt X j := by
  have h := rowAt_right (H := H.set k o) (X := X) j
  rwa [List.length_set] at h
@[simp] theorem rowAt_set20 (H X : List HO) (k : Nat) (o : HO) : rowAt (H.set k o ++ X) H.length = rowAt X 0 := rowAt_set2 H X k o 0
@[simp] theorem set_set2 (H X : List HO) (k : Nat) (o : HO) (j : Nat) (x : HO) : (H.set k o ++ X).set (H.length + j) x = H.set k o ++ X.set j x := by
  have h := set_right (H := H.set k o) (X := X) j x
  rwa [List.length_set] at h
@[simp] theorem set_set20 (H X : List HO) (k : Nat) (o : HO) (x : HO) : (H.set k o ++ X).set H.length x = H.set k o ++ X.set 0 x := set_set2 H X k o 0 x

theorem splice_one {vs : List DV} {i : Nat} {x : DV} (h : i < vs.length) : splice vs i [x] = vs.set i x := by
  rw [List.set_eq_take_append_cons_drop, if_pos h]
  simp [splice]

/-! What leaves a call: a row that it laid -/
theorem liveB_new (st : St) (k : Nat) : st.liveB (st.heap.length + k) = false := by
  unfold St.liveB
  rw [List.getElem?_eq_none (Nat.le_add_right _ _)]
theorem pst_cellsAt {st : St} {H : List HO} {K : List Nat} {k : Nat} {g : CK} {vs : List DV} (h : rowAt H k = some (g, vs)) : (pst st H K).heap[st.heap.length + k]? = some (.cells g vs) := by
  rw [pst_heap]
  unfold rowAt at h
  split at h
  · rename_i e; simp only [Option.some.injEq, Prod.mk.injEq] at h; rw [e, h.1, h.2]
  · cases h
theorem flat_len {n : Nat} {ag : Bool} : ∀ {ys : List DV}, (∀ y ∈ ys, IsEl n ag y) → (flat ys).length = ys.length * n
  | [], _ => by simp [flat]
  | y :: r, h => by
    have h1 := (h y (List.mem_cons_self ..)).1
    have h2 := flat_len (ys := r) fun z hz => h z (List.mem_cons_of_mem _ hz)
    simp only [flat, List.flatMap_cons, List.length_append, h1, List.length_cons] at h2 ⊢
    rw [h2, Nat.succ_mul]; omega
theorem ex_row {st : St} {H : List HO} {K : List Nat} {k n : Nat} {ag : Bool} {g : CK} {ys : List DV} {cap : Option Nat} (hr : rowAt H k = some (g, flat ys)) (hn : 0 < n) (hag : ag = true ∨ n = 1) (he : ∀ y ∈ ys, IsEl n ag y) :
    exportL st (pst st H K) (.hsl n ag (st.heap.length + k) 0 ys.length cap) = some (.list st.cur n (if cap = some ys.length then .tight else .no) true ys) := by
  have hl := flat_len he
  have hp := flat_pure he
  have hd := demotes_pure hp
  simp only [exportL, liveB_new, Bool.false_eq_true, if_false, pst_cellsAt hr]
  have ht : (flat ys).take (ys.length * n) = flat ys := List.take_of_length_le (by omega)
  simp only [List.drop_zero, ht, hd, hp, chunk_flat he]
  rw [if_pos ⟨Nat.le_add_right _ _, by omega, hn, hag, trivial⟩]
  rfl
theorem repl_one (z : DV) : ∀ n, repl [z] n = List.replicate n z
  | 0 => rfl
  | n + 1 => by rw [repl, repl_one z n]; rfl
theorem flat_scal : ∀ (ys : List DV), (∀ y ∈ ys, IsEl 1 false y) → flat ys = ys
  | [], _ => rfl
  | y :: r, h => by
    have h1 := (h y (List.mem_cons_self ..)).2.2
    have h2 := flat_scal r fun z hz => h z (List.mem_cons_of_mem _ hz)
    simp only [Bool.false_eq_true, if_false] at h1
    simp only [flat, List.flatMap_cons, h1] at h2 ⊢
    rw [h2]; rfl

/-! Lists that may be read, wherever they lie -/
inductive Vw (st : St) (n : Nat) (ag : Bool) (xs : List DV) : DV → Prop
  | list (t n' : Nat) (tk : Tk) (nn : Bool) (h1 : nn = true → n' = n) (h2 : nn = false → xs = []) : Vw st n ag xs (.list t n' tk nn xs)
  | hsl (b off c : Nat) (g : CK) (vs : List DV) (hc : st.cells b = some (g, vs)) (hl : off + xs.length * n ≤ vs.length) (hx : (vs.drop off).take (xs.length * n) = flat xs) (hcap : xs.length ≤ c) :
      Vw st n ag xs (.hsl n ag b off xs.length (some c))

theorem Vw.of_cells {st st' : St} {n : Nat} {ag : Bool} {xs : List DV} {v : DV} (h : Vw st n ag xs v) (hs : ∀ b g vs, st.cells b = some (g, vs) → st'.cells b = some (g, vs)) : Vw st' n ag xs v := by
  cases h with
  | list t n' tk nn h1 h2 => exact .list t n' tk nn h1 h2
  | hsl b off c g vs hc hl hx hcap => exact .hsl b off c g vs (hs _ _ _ hc) hl hx hcap

theorem cells_pst {st : St} {H : List HO} {K : List Nat} {b : Nat} {g : CK} {vs : List DV} (h : st.cells b = some (g, vs)) : (pst st H K).cells b = some (g, vs) := by
  have h1 := cells_get h
  have hb := (List.getElem?_eq_some_iff.1 h1).1
  unfold St.cells
  show (match (st.heap ++ H)[b]? with | some (.cells g vs) => some (g, vs) | _ => none) = _
  rw [List.getElem?_append_left hb, h1]
theorem Vw.inn {st : St} {n : Nat} {ag : Bool} {xs : List DV} {v : DV} (h : Vw st n ag xs v) (H : List HO) (K : List Nat) : Vw (pst st H K) n ag xs v := h.of_cells fun _ _ _ => cells_pst
theorem Vw.out {st : St} {n : Nat} {ag : Bool} {xs : List DV} {v : DV} (h : Vw (pst st [] []) n ag xs v) : Vw st n ag xs v := h.of_cells fun b g vs hc => by
  have : (pst st [] []).cells b = st.cells b := by unfold St.cells; simp only [pst, List.append_nil]
  rw [← this]; exact hc
theorem Vw.app {st : St} {H : List HO} {K : List Nat} {n : Nat} {ag : Bool} {xs : List DV} {v : DV} (h : Vw (pst st H K) n ag xs v) (X : List HO) (K' : List Nat) : Vw (pst st (H ++ X) K') n ag xs v := by
  refine h.of_cells fun b g vs hc => ?_
  have h1 := cells_get hc
  have hb := (List.getElem?_eq_some_iff.1 h1).1
  unfold St.cells
  change (st.heap ++ H)[b]? = _ at h1
  show (match (st.heap ++ (H ++ X))[b]? with | some (.cells g vs) => some (g, vs) | _ => none) = _
  rw [← List.append_assoc, List.getElem?_append_left (show b < (st.heap ++ H).length from hb), h1]

/-- Where an element lies. -/
def elP (n : Nat) : DV → Nat → DV
  | .list _ _ _ _ xs, i => .cptr ((xs.getD i .undef).leaves)
  | .hsl _ _ b off _ _, i => .ptr b (off + i * n)
  | _, _ => .undef
/-- A place behind another one. -/
def faP (off : Nat) : DV → DV
  | .ptr b o => .ptr b (o + off)
  | .cptr cs => .cptr (cs.drop off)
  | _ => .undef

section
variable {st : St} {H : List HO} {K : List Nat} {n : Nat} {ag : Bool} {xs : List DV} {v : DV}
theorem Vw.len (h : Vw st n ag xs v) (st' : St) : lenV st' .slice v = some (.int .i64 xs.length, st') := by
  cases h <;> rfl
theorem Vw.iaddr (h : Vw st n ag xs v) {i : Nat} (hi : i < xs.length) (k : IntKind) (st' : St) : iaddrV st' n v (.int k i) = some (elP n v i, st') := by
  cases h with
  | list t n' tk nn h1 h2 =>
    cases nn with
    | false => rw [h2 rfl] at hi; cases hi
    | true => simp [h1 rfl, hi, elP, List.getD_eq_getElem?_getD]
  | hsl b off c g vs hc hl hx hcap =>
    simp [hi, elP]
theorem flat_nth (he : ∀ x ∈ xs, IsEl n ag x) : ∀ {i : Nat} {x : DV}, xs[i]? = some x → ((flat xs).drop (i * n)).take n = x.leaves := by
  induction xs with
  | nil => intro i x h; cases h
  | cons y r ih =>
    intro i x h
    have hy := (he y (List.mem_cons_self ..)).1
    have e : flat (y :: r) = y.leaves ++ flat r := by simp [flat]
    rw [e]
    cases i with
    | zero =>
      simp only [List.getElem?_cons_zero, Option.some.injEq] at h
      subst h
      simp [← hy]
    | succ i =>
      rw [List.getElem?_cons_succ] at h
      rw [Nat.succ_mul, Nat.add_comm, ← List.drop_drop, ← hy]
      simp only [List.drop_left]
      rw [hy]
      exact ih (fun z hz => he z (List.mem_cons_of_mem _ hz)) h
theorem cells_of_hsl {off : Nat} {vs : List DV} (he : ∀ x ∈ xs, IsEl n ag x) (hl : off + xs.length * n ≤ vs.length) (hx : (vs.drop off).take (xs.length * n) = flat xs) {i : Nat} {x : DV} (h : xs[i]? = some x) :
    (vs.drop (off + i * n)).take n = x.leaves ∧ off + i * n + n ≤ vs.length := by
  have hi := (List.getElem?_eq_some_iff.1 h).1
  have h1 := flat_nth he h
  have hle : (i + 1) * n ≤ xs.length * n := Nat.mul_le_mul_right _ hi
  rw [Nat.succ_mul] at hle
  refine ⟨?_, by omega⟩
  rw [← h1, ← hx, List.drop_take, List.drop_drop, List.take_take]
  congr 1
  omega
theorem Vw.load (h : Vw st n ag xs v) (he : ∀ x ∈ xs, IsEl n ag x) (ha : ag = true) {i : Nat} {x : DV} (hx : xs[i]? = some x) : loadD st n true (elP n v i) = some x := by
  have hm := he x (List.mem_of_getElem? hx)
  have hxl : x = .agg x.leaves := by have := hm.2.2; rw [ha] at this; exact this
  cases h with
  | list t n' tk nn h1 h2 =>
    simp only [elP, loadD, takeN, List.getD_eq_getElem?_getD, hx, Option.getD_some, if_true, Nat.zero_add]
    rw [if_pos (by rw [hm.1]; exact Nat.le_refl _), List.drop_zero, List.take_of_length_le (by rw [hm.1]; exact Nat.le_refl _), ← hxl]
  | hsl b off c g vs hc hl hxx hcap =>
    obtain ⟨h1, h2⟩ := cells_of_hsl he hl hxx hx
    simp only [elP, loadD, takeN, hc, if_true, h1]
    rw [if_pos h2, ← hxl]
theorem Vw.load1 (h : Vw st 1 false xs v) (he : ∀ x ∈ xs, IsEl 1 false x) {i : Nat} {x : DV} (hx : xs[i]? = some x) : loadD st 1 false (elP 1 v i) = some x := by
  have hm := he x (List.mem_of_getElem? hx)
  have hxl : x.leaves = [x] := by have := hm.2.2; simpa using this
  cases h with
  | list t n' tk nn h1 h2 => simp [elP, List.getD_eq_getElem?_getD, hx, hxl]
  | hsl b off c g vs hc hl hxx hcap =>
    obtain ⟨h1, h2⟩ := cells_of_hsl he hl hxx hx
    simp only [elP, loadD, takeN, hc]
    have := congrArg (fun l => l[0]?) h1
    simp [hxl] at this
    simpa using this
theorem Vw.faddr (h : Vw st n ag xs v) (he : ∀ x ∈ xs, IsEl n ag x) {i : Nat} (hi : i < xs.length) {off : Nat} (ho : off ≤ n) (st' : St) : faddrV st' off (elP n v i) = some (faP off (elP n v i), st') := by
  have hx : xs[i]? = some xs[i] := List.getElem?_eq_getElem hi
  have hm := he _ (List.getElem_mem hi)
  cases h with
  | list t n' tk nn h1 h2 =>
    simp only [elP, faddrV, faP, List.getD_eq_getElem?_getD, hx, Option.getD_some]
    rw [if_pos (by rw [hm.1]; exact ho)]
  | hsl b off c g vs hc hl hxx hcap => simp [elP, faP]
theorem Vw.fload (h : Vw st n ag xs v) (he : ∀ x ∈ xs, IsEl n ag x) {i : Nat} {x : DV} (hx : xs[i]? = some x) {off : Nat} {y : DV} (ho : x.leaves[off]? = some y) : loadD st 1 false (faP off (elP n v i)) = some y := by
  have hm := he x (List.mem_of_getElem? hx)
  have hlt : off < n := by have := (List.getElem?_eq_some_iff.1 ho).1; rw [hm.1] at this; exact this
  cases h with
  | list t n' tk nn h1 h2 =>
    simp only [elP, faP, loadD, takeN, List.getD_eq_getElem?_getD, hx, Option.getD_some, Bool.false_eq_true, if_false]
    rw [List.getElem?_drop]; simpa using ho
  | hsl b off' c g vs hc hl hxx hcap =>
    obtain ⟨h1, h2⟩ := cells_of_hsl he hl hxx hx
    simp only [elP, faP, loadD, takeN, hc, Bool.false_eq_true, if_false]
    rw [← h1, List.getElem?_take_of_lt hlt, List.getElem?_drop] at ho
    exact ho
theorem Vw.news (h : Vw st n ag xs v) : newsD st n v = some (xs.length, flat xs) := by
  cases h with
  | list t n' tk nn h1 h2 =>
    cases nn with
    | false => simp [newsD, h2 rfl, flat]
    | true => simp [newsD, h1 rfl]
  | hsl b off c g vs hc hl hx hcap => simp [newsD, hc, hl, hx]
theorem Vw.slice (h : Vw st n ag xs v) (hn : 0 < n) (he : ∀ x ∈ xs, IsEl n ag x) {lo hi : Nat} (h1 : lo ≤ hi) (h2 : hi ≤ xs.length) (k k' : IntKind) :
    ∃ v', sliceD false n v (some (.int k lo)) (some (.int k' hi)) none = some v' ∧ Vw st n ag ((xs.drop lo).take (hi - lo)) v' := by
  cases h with
  | list t n' tk nn g1 g2 =>
    refine ⟨_, slice_ll g1 (by omega) (by omega) (by omega), ?_⟩
    simp only [Int.toNat_natCast]
    exact .list _ _ _ _ g1 fun e => by rw [g2 e]; simp
  | hsl b off c g vs hc hl hx hcap =>
    have hb1 : bnd (.int k' (hi : Int)) c = some hi := by rw [bnd_int (by omega) (by omega)]; simp
    have hb2 : bnd (.int k (lo : Int)) hi = some lo := by rw [bnd_int (by omega) (by omega)]; simp
    refine ⟨_, by simp only [sliceD, if_true, Option.isSome_none, Bool.false_eq_true, if_false, hb1, hb2]; rfl, ?_⟩
    have hlen : ((xs.drop lo).take (hi - lo)).length = hi - lo := by simp; omega
    by_cases hcl : c = lo
    · have e0 : hi - lo = 0 := by omega
      rw [if_pos hcl]
      have h3 := Vw.hsl (st := st) (n := n) (ag := ag) (xs := (xs.drop lo).take (hi - lo)) b off (c - lo) g vs hc (by rw [hlen, e0]; omega) (by rw [hlen, e0]; simp [flat]) (by rw [hlen]; omega)
      rw [hlen] at h3; exact h3
    · rw [if_neg hcl]
      have hmul : lo * n + (hi - lo) * n ≤ xs.length * n := by rw [← Nat.add_mul]; exact Nat.mul_le_mul_right _ (by omega)
      have fl : ∀ (ys : List DV), (∀ y ∈ ys, IsEl n ag y) → ∀ k, (flat ys).take (k * n) = flat (ys.take k) ∧ (flat ys).drop (k * n) = flat (ys.drop k) := by
        intro ys
        induction ys with
        | nil => intro _ k; simp [flat]
        | cons y r ih =>
          intro hy k
          have e : flat (y :: r) = y.leaves ++ flat r := by simp [flat]
          have hly := (hy y (List.mem_cons_self ..)).1
          cases k with
          | zero => simp [flat]
          | succ k =>
            have := ih (fun z hz => hy z (List.mem_cons_of_mem _ hz)) k
            rw [e, Nat.succ_mul, Nat.add_comm (k * n)]
            constructor
            · rw [List.take_append, List.take_of_length_le (by omega), hly, show n + k * n - n = k * n by omega, this.1]; simp [flat]
            · rw [← List.drop_drop, ← hly, List.drop_left, hly, this.2, List.drop_succ_cons]
      have h3 := Vw.hsl (st := st) (n := n) (ag := ag) (xs := (xs.drop lo).take (hi - lo)) b (off + lo * n) (c - lo) g vs hc (by rw [hlen]; omega) (by
        rw [hlen, ← (fl _ (fun y hy => he y (List.mem_of_mem_drop hy)) _).1, ← (fl xs he _).2, ← hx, List.drop_take, List.drop_drop, List.take_take]
        congr 1
        rw [Nat.min_eq_left (by omega)]) (by rw [hlen]; omega)
      rw [hlen] at h3; exact h3
end
theorem pst_copy {st : St} {H : List HO} {K : List Nat} {n k off len m : Nat} {ag : Bool} {c : Option Nat} {g : CK} {vs news : List DV} {v : DV} (hn : newsD (pst st H K) n v = some (m, news)) (hr : rowAt H k = some (g, vs)) (hg : g.wr = true) (hp : 0 < min m len) (hl : off + min m len * n ≤ vs.length) :
    copyD (pst st H K) n (.hsl n ag (st.heap.length + k) off len c) v = some (.int .i64 (min m len : Nat), pst st (H.set k (.cells g (splice vs off (news.take (min m len * n))))) K) := by
  have h0 : ¬ min m len = 0 := by omega
  have hc : (pst st H K).cellsW (st.heap.length + k) = some (g, vs) := by unfold St.cellsW; rw [pst_cells, hr]; simp only [hg, if_true]
  have hb : (pst st H K).base ≤ st.heap.length + k := by simp
  simp only [copyD, hn, h0, if_false, hc, hl, if_true, hb, and_self]
  simp [pst, List.set_append_right]
theorem slice_hu {n b off len c hi : Nat} {ag : Bool} {k : IntKind} (h : hi ≤ c) : sliceD false n (.hsl n ag b off len (some c)) none (some (.int k hi)) none = some (.hsl n ag b off hi (some c)) := by
  have hb : bnd (.int k (hi : Int)) c = some hi := by rw [bnd_int (by omega) (by omega)]; simp
  simp [sliceD, hb]

structure It where
  k : Int
  f : Int
  t : Int
  w : Int
  s : Int
  h : Int
  c : Int
  y : Bool
def It.cs (x : It) : List DV := [.int .i64 x.k, .int .i64 x.f, .int .i64 x.t, .int .i64 x.w, .int .i64 x.s, .int .i64 x.h, .int .i64 x.c, .bool x.y]
def It.dv (x : It) : DV := .agg x.cs
theorem el_it (x : It) : IsEl 8 true x.dv := ⟨rfl, rfl, rfl⟩
theorem el_its {l : List It} : ∀ y ∈ l.map It.dv, IsEl 8 true y := fun y hy => by obtain ⟨x, _, rfl⟩ := List.mem_map.1 hy; exact el_it x

/-- Items that may be read. -/
abbrev Its (st : St) (l : List It) (v : DV) : Prop := Vw st 8 true (l.map It.dv) v
section
variable {st : St} {l : List It} {v : DV}
theorem its_len (h : Its st l v) (st' : St) : lenV st' .slice v = some (.int .i64 l.length, st') := by simpa using Vw.len h st'
theorem its_at (h : Its st l v) {i : Nat} (hi : i < l.length) (k : IntKind) (st' : St) : iaddrV st' 8 v (.int k i) = some (elP 8 v i, st') := Vw.iaddr h (by simpa using hi) k st'
theorem its_load (h : Its st l v) {i : Nat} {x : It} (hx : l[i]? = some x) (H : List HO) (K : List Nat) : loadD (pst st H K) 8 true (elP 8 v i) = some x.dv := Vw.load (Vw.inn h H K) el_its rfl (by simp [hx])
theorem its_f (h : Its st l v) {i : Nat} {x : It} (hx : l[i]? = some x) {off : Nat} (ho : off ≤ 8) (st' : St) : faddrV st' off (elP 8 v i) = some (faP off (elP 8 v i), st') := Vw.faddr h el_its (by simpa using (List.getElem?_eq_some_iff.1 hx).1) ho st'
theorem its_fl (h : Its st l v) {i : Nat} {x : It} (hx : l[i]? = some x) {off : Nat} {y : DV} (ho : x.cs[off]? = some y) (H : List HO) (K : List Nat) : loadD (pst st H K) 1 false (faP off (elP 8 v i)) = some y := Vw.fload (x := x.dv) (Vw.inn h H K) el_its (by simp [hx]) ho
theorem its_k (h : Its st l v) {i : Nat} {x : It} (hx : l[i]? = some x) (H : List HO) (K : List Nat) : loadD (pst st H K) 1 false (faP 0 (elP 8 v i)) = some (.int .i64 x.k) := its_fl h hx rfl H K
theorem its_w (h : Its st l v) {i : Nat} {x : It} (hx : l[i]? = some x) (H : List HO) (K : List Nat) : loadD (pst st H K) 1 false (faP 3 (elP 8 v i)) = some (.int .i64 x.w) := its_fl h hx rfl H K
theorem its_s (h : Its st l v) {i : Nat} {x : It} (hx : l[i]? = some x) (H : List HO) (K : List Nat) : loadD (pst st H K) 1 false (faP 4 (elP 8 v i)) = some (.int .i64 x.s) := its_fl h hx rfl H K
theorem its_h (h : Its st l v) {i : Nat} {x : It} (hx : l[i]? = some x) (H : List HO) (K : List Nat) : loadD (pst st H K) 1 false (faP 5 (elP 8 v i)) = some (.int .i64 x.h) := its_fl h hx rfl H K
theorem its_y (h : Its st l v) {i : Nat} {x : It} (hx : l[i]? = some x) (H : List HO) (K : List Nat) : loadD (pst st H K) 1 false (faP 7 (elP 8 v i)) = some (.bool x.y) := its_fl h hx rfl H K
end

theorem at109 : tab 109 = some (.code f109) := by kernel_rfl
theorem at120 : tab 120 = some (.code f120) := by kernel_rfl
theorem at122 : tab 122 = some (.code f122) := by kernel_rfl
theorem at108 : tab 108 = some (.code f108) := by kernel_rfl
theorem at110 : tab 110 = some (.code f110) := by kernel_rfl
theorem at121 : tab 121 = some (.code f121) := by kernel_rfl
theorem at123 : tab 123 = some (.code f123) := by kernel_rfl

def withinB (n : Int) : Bool := decide (0 ≤ n) && decide (n ≤ 4095)
theorem within122 (n : Int) (st : St) : (E tab).F 122 [.int .i64 n] st = some (.bool (withinB n), st) := by
  rw [F_run at122 rfl]
  by_cases h : 0 ≤ n
  · simp [f122, withinB, h]
  · simp [f122, withinB, h]

def oddA (x : It) : Bool := decide (x.k < 1) || decide (4 < x.k) || decide (x.f < 0) || decide (x.t < x.f) || decide (x.w < 0) || decide (2097152 < x.w) || !withinB x.s || !withinB x.h || !withinB x.c
def oddB (x : It) : Bool := (x.k != 3 && (x.y || x.c != 0)) || (x.k != 2 && (x.s != 0 || x.h != 0)) || (x.k == 4 && x.w != 0)
def oddI (x : It) : Bool := oddA x || oddB x

theorem odd120 (x : It) (st : St) : (E tab).F 120 [x.dv] st = some (.bool (oddI x), st) := by
  rw [F_run at120 rfl]
  have hw := within122
  cases hA : oddA x with
  | true =>
    have e : oddI x = true := by simp [oddI, hA]
    rw [e]
    unfold oddA at hA
    by_cases h1 : x.k < 1
    · simp [f120, It.dv, It.cs, h1]
    by_cases h2 : 4 < x.k
    · simp [f120, It.dv, It.cs, h1, h2]
    by_cases h3 : x.f < 0
    · simp [f120, It.dv, It.cs, h1, h2, h3]
    by_cases h4 : x.t < x.f
    · simp [f120, It.dv, It.cs, h1, h2, h3, h4]
    by_cases h5 : x.w < 0
    · simp [f120, It.dv, It.cs, h1, h2, h3, h4, h5]
    by_cases h6 : 2097152 < x.w
    · simp [f120, It.dv, It.cs, h1, h2, h3, h4, h5, h6]
    by_cases h7 : withinB x.s = false
    · simp [f120, It.dv, It.cs, h1, h2, h3, h4, h5, h6, hw, h7]
    by_cases h8 : withinB x.h = false
    · simp at h7; simp [f120, It.dv, It.cs, h1, h2, h3, h4, h5, h6, hw, h7, h8]
    by_cases h9 : withinB x.c = false
    · simp at h7 h8; simp [f120, It.dv, It.cs, h1, h2, h3, h4, h5, h6, hw, h7, h8, h9]
    · simp at h7 h8 h9; simp [h1, h2, h3, h4, h5, h6, h7, h8, h9] at hA
  | false =>
    have e : oddI x = oddB x := by simp [oddI, hA]
    rw [e]
    unfold oddA at hA
    simp only [Bool.or_eq_false_iff, decide_eq_false_iff_not, Bool.not_eq_false'] at hA
    obtain ⟨⟨⟨⟨⟨⟨⟨⟨h1, h2⟩, h3⟩, h4⟩, h5⟩, h6⟩, h7⟩, h8⟩, h9⟩ := hA
    have w0 : withinB 0 = true := rfl
    have c3 : x.k = 3 ∨ x.k ≠ 3 := Decidable.em _
    have c2 : x.k = 2 ∨ x.k ≠ 2 := Decidable.em _
    have c4 : x.k = 4 ∨ x.k ≠ 4 := Decidable.em _
    have cc : x.c = 0 ∨ x.c ≠ 0 := Decidable.em _
    have cs : x.s = 0 ∨ x.s ≠ 0 := Decidable.em _
    rcases c3 with c3 | c3
    · rcases cs with cs | cs
      · by_cases ch : x.h = 0 <;> simp [f120, It.dv, It.cs, h1, h2, h3, h4, h5, h6, hw, h7, h8, h9, w0, oddB, c3, cs, ch]
      · simp [f120, It.dv, It.cs, h1, h2, h3, h4, h5, h6, hw, h7, h8, h9, w0, oddB, c3, cs]
    · cases hy : x.y with
      | true => simp [f120, It.dv, It.cs, h1, h2, h3, h4, h5, h6, hw, h7, h8, h9, w0, oddB, c3, hy]
      | false =>
        rcases cc with cc | cc
        · rcases c2 with c2 | c2
          · simp [f120, It.dv, It.cs, h1, h2, h3, h4, h5, h6, hw, h7, h8, h9, w0, oddB, c2, hy, cc]
          · rcases cs with cs | cs
            · by_cases ch : x.h = 0
              · rcases c4 with c4 | c4
                · simp [f120, It.dv, It.cs, h1, h2, h3, h4, h5, h6, hw, h7, h8, h9, w0, oddB, c4, hy, cc, cs, ch]
                · simp [f120, It.dv, It.cs, h1, h2, h3, h4, h5, h6, hw, h7, h8, h9, w0, oddB, c3, c2, c4, hy, cc, cs, ch]
              · simp [f120, It.dv, It.cs, h1, h2, h3, h4, h5, h6, hw, h7, h8, h9, w0, oddB, c3, c2, hy, cc, cs, ch]
            · simp [f120, It.dv, It.cs, h1, h2, h3, h4, h5, h6, hw, h7, h8, h9, w0, oddB, c3, c2, hy, cc, cs]
        · simp [f120, It.dv, It.cs, h1, h2, h3, h4, h5, h6, hw, h7, h8, h9, w0, oddB, c3, hy, cc]

def checkI (l : List It) : Int := if 8192 < l.length then 3 else if l.any oddI then 2 else 0

section
variable {st : St} {l : List It} {v : DV}
theorem L109_0 (hv : Its st l v) (hl : l.length ≤ 8192) (K : List Nat) : ∀ (r d : List It) (H : List HO), l = d ++ r →
    ∃ J fr, (E tab).C f109L0 [(8, v), (9, .int .i64 l.length), (10, .int .i64 d.length)] (pst st H K) =
      some (if r.any oddI then (.ret, [(2, .int .i64 2)], pst st (H ++ J) K) else (.exit 0, fr, pst st (H ++ J) K)) := by
  intro r
  induction r with
  | nil =>
    intro d H hd
    refine ⟨[], [(8, v), (9, .int .i64 l.length), (10, .int .i64 l.length), (11, .bool false)], ?_⟩
    rw [C_turn (L := f109L0) rfl]
    simp [f109B0, hd]
  | cons x r ih =>
    intro d H hd
    have h0 : d.length < l.length := by simp [hd]
    have hx : l[d.length]? = some x := by simp [hd]
    have hw1 : IntKind.i64.wrap ((d.length : Int) + 1) = ((d ++ [x]).length : Nat) := by rw [i64w (by omega)]; simp
    have e1 := fun st' => its_at hv h0 .i64 st'
    have e2 := fun H K => its_load hv hx H K
    have e3 := fun st => odd120 x st
    simp only [It.dv, It.cs] at e2 e3
    rw [List.any_cons]
    cases ho : oddI x with
    | true =>
      refine ⟨[.cells .plain x.cs], [], ?_⟩
      rw [C_turn (L := f109L0) rfl]
      simp [f109B0, h0, e1, e2, e3, ho, It.cs]
    | false =>
      obtain ⟨J, fr, hJ⟩ := ih (d ++ [x]) (H ++ [.cells .plain x.cs]) (by simp [hd])
      refine ⟨.cells .plain x.cs :: J, fr, ?_⟩
      rw [Bool.false_or]
      generalize r.any oddI = b at hJ ⊢
      simp only [List.length_append, List.length_singleton] at hJ hw1
      simp [It.cs] at hJ
      rw [C_turn (L := f109L0) rfl]
      simp [f109B0, h0, e1, e2, e3, ho, It.cs, hw1, hJ]

theorem check109 (hv : Its st l v) : (E tab).F 109 [v] st = some (.int .i64 (checkI l), st) := by
  rw [F_run at109 rfl]
  have e0 := fun st' => its_len hv st'
  by_cases h : 8192 < l.length
  · have h' : (8192 : Int) < l.length := by omega
    simp [f109, e0, h, h', checkI]
  · have h' : ¬ (8192 : Int) < l.length := by omega
    obtain ⟨J, fr, hL⟩ := L109_0 hv (by omega) [] l [] [] rfl
    have e : checkI l = if l.any oddI then 2 else 0 := by simp only [checkI, if_neg h]
    rw [e]
    generalize l.any oddI = b at hL ⊢
    simp at hL
    cases b <;> simp at hL <;> simp [f109, e0, h', hL]

def isLeap (x : It) : Bool := x.k == 4
theorem L108_0 (hv : Its st l v) (hl : l.length ≤ 140737488355328) (K : List Nat) : ∀ (r d : List It) (H : List HO), l = d ++ r →
    ∃ J fr, (E tab).C f108L0 [(5, v), (6, .int .i64 l.length), (7, .int .i64 d.length)] (pst st H K) =
      some (if r.any isLeap then (.ret, [(2, .bool true)], pst st (H ++ J) K) else (.exit 0, fr, pst st (H ++ J) K)) := by
  intro r
  induction r with
  | nil =>
    intro d H hd
    refine ⟨[], [(5, v), (6, .int .i64 l.length), (7, .int .i64 l.length), (8, .bool false)], ?_⟩
    rw [C_turn (L := f108L0) rfl]
    simp [f108B0, hd]
  | cons x r ih =>
    intro d H hd
    have h0 : d.length < l.length := by simp [hd]
    have hx : l[d.length]? = some x := by simp [hd]
    have hw1 : IntKind.i64.wrap ((d.length : Int) + 1) = ((d ++ [x]).length : Nat) := by rw [i64w (by omega)]; simp
    have e1 := fun st' => its_at hv h0 .i64 st'
    have e2 := fun H K => its_load hv hx H K
    simp only [It.dv, It.cs] at e2
    rw [List.any_cons]
    by_cases ho : x.k = 4
    · have e : isLeap x = true := by simp [isLeap, ho]
      refine ⟨[.cells .plain x.cs], [], ?_⟩
      rw [C_turn (L := f108L0) rfl]
      simp [f108B0, h0, e1, e2, ho, e, It.cs]
    · have e : isLeap x = false := by simp [isLeap, ho]
      obtain ⟨J, fr, hJ⟩ := ih (d ++ [x]) (H ++ [.cells .plain x.cs]) (by simp [hd])
      refine ⟨.cells .plain x.cs :: J, fr, ?_⟩
      rw [e, Bool.false_or]
      generalize r.any isLeap = b at hJ ⊢
      simp only [List.length_append, List.length_singleton] at hJ hw1
      simp [It.cs] at hJ
      rw [C_turn (L := f108L0) rfl]
      simp [f108B0, h0, e1, e2, ho, It.cs, hw1, hJ]

theorem leaps108 (hv : Its st l v) (hl : l.length ≤ 140737488355328) : (E tab).F 108 [v] st = some (.bool (l.any isLeap), st) := by
  rw [F_run at108 rfl]
  have e0 := fun st' => its_len hv st'
  obtain ⟨J, fr, hL⟩ := L108_0 hv hl [] l [] [] rfl
  generalize l.any isLeap = b at hL ⊢
  simp at hL
  cases b <;> simp at hL <;> simp [f108, e0, hL]

/-- Why a line of items may not be. -/
def rangedI (l : List It) (a b : Int) : Int := if checkI l = 0 ∧ (a < 0 ∨ b < a ∨ l.length < b) then 5 else checkI l
theorem ranged121 (hv : Its st l v) (a b : Int) : (E tab).F 121 [v, .int .i64 a, .int .i64 b] st = some (.int .i64 (rangedI l a b), st) := by
  rw [F_run at121 rfl]
  have e0 := fun st' => its_len hv st'
  have e1 := check109 (hv.inn [] [])
  unfold rangedI
  by_cases h : checkI l = 0
  · by_cases h1 : a < 0
    · simp [f121, e0, e1, h, h1]
    · by_cases h2 : b < a
      · simp [f121, e0, e1, h, h1, h2]
      · by_cases h3 : (l.length : Int) < b
        · simp [f121, e0, e1, h, h1, h2, h3]
        · simp [f121, e0, e1, h, h1, h2, h3]
  · simp [f121, e1, h]

/-- Where what stands in a line ends. -/
def trimI (l : List It) (a : Nat) : Nat → Nat
  | 0 => 0
  | b + 1 => if a ≤ b ∧ (l[b]?.map (·.k)) = some 2 then trimI l a b else b + 1
theorem trimI_le (l : List It) (a : Nat) : ∀ b, trimI l a b ≤ b
  | 0 => Nat.le_refl _
  | b + 1 => by
    unfold trimI
    split
    · exact Nat.le_succ_of_le (trimI_le l a b)
    · exact Nat.le_refl _
theorem trimI_ge (l : List It) (a : Nat) : ∀ b, a ≤ b → a ≤ trimI l a b
  | 0, h => by simp [trimI]; omega
  | b + 1, h => by
    unfold trimI
    split
    · rename_i hc; exact trimI_ge l a b hc.1
    · exact h

theorem L123_0 (hv : Its st l v) (a : Nat) (hl : l.length ≤ 140737488355328) (H : List HO) (K : List Nat) : ∀ b, b ≤ l.length → a ≤ b →
    ∃ fr, (E tab).C f123L0 [(0, v), (1, .int .i64 a), (2, .int .i64 b)] (pst st H K) = some (.exit 0, [(0, v), (1, .int .i64 a), (2, .int .i64 (trimI l a b : Nat))] ++ fr, pst st H K) := by
  intro b
  induction b with
  | zero =>
    intro hb ha
    obtain rfl : a = 0 := by omega
    refine ⟨[(18, .bool false)], ?_⟩
    rw [C_turn (L := f123L0) rfl]
    simp [f123B0, trimI]
  | succ b ih =>
    intro hb ha
    by_cases hab : a ≤ b
    · have hw : IntKind.i64.wrap (((b + 1 : Nat) : Int) - 1) = b := by rw [i64w (by omega)]; omega
      have hlt : (a : Int) < b + 1 := by omega
      have hbl : b < l.length := by omega
      have hx : l[b]? = some l[b] := List.getElem?_eq_getElem hbl
      have e1 := fun st' => its_at hv hbl .i64 st'
      have e2 := fun st' => its_f hv hx (off := 0) (by omega) st'
      have e3 := fun H K => its_k hv hx H K
      simp at hw
      by_cases hk : l[b].k = 2
      · obtain ⟨fr, hJ⟩ := ih (by omega) hab
        refine ⟨fr, ?_⟩
        rw [C_turn (L := f123L0) rfl]
        have et : trimI l a (b + 1) = trimI l a b := by rw [trimI, if_pos ⟨hab, by simp [hx, hk]⟩]
        rw [et]
        simp at hJ
        simp [f123B0, hlt, hw, e1, e2, e3, hk, hJ]
      · have et : trimI l a (b + 1) = b + 1 := by rw [trimI, if_neg]; rintro ⟨_, h⟩; simp [hx] at h; exact hk h
        rw [et]
        refine ⟨[(18, .bool false)], ?_⟩
        rw [C_turn (L := f123L0) rfl]
        simp [f123B0, hlt, hw, e1, e2, e3, hk]
    · obtain rfl : a = b + 1 := by omega
      have et : trimI l (b + 1) (b + 1) = b + 1 := by rw [trimI, if_neg]; omega
      rw [et]
      refine ⟨[(18, .bool false)], ?_⟩
      rw [C_turn (L := f123L0) rfl]
      simp [f123B0]

theorem Vw.ex {n : Nat} {ag : Bool} {xs : List DV} {w : DV} (h : Vw st n ag xs w) (H : List HO) (K : List Nat) : ∃ w', exportL st (pst st H K) w = some w' ∧ Vw st n ag xs w' := by
  cases h with
  | list t n' tk nn h1 h2 => exact ⟨_, rfl, .list _ _ _ _ h1 h2⟩
  | hsl b off c g vs hc hl hx hcap =>
    have hh := cells_get hc
    have hb : st.liveB b = true := by unfold St.liveB; rw [hh]
    refine ⟨_, by simp only [exportL, hb, if_true], .hsl b off c g vs hc hl hx hcap⟩

theorem exT_view {n : Nat} {ag : Bool} {xs : List DV} {w : DV} {st0 st1 st2 : St} (h : Vw st0 n ag xs w) : exportT st1 st2 w = exportL st1 st2 w := by
  cases h <;> rfl
theorem trimmed123 (hv : Its st l v) (hl : l.length ≤ 140737488355328) (a b : Nat) (hab : a ≤ b) (hb : b ≤ l.length) : ∃ v', (E tab).F 123 [v, .int .i64 a, .int .i64 b] st = some (v', st) ∧ Its st ((l.drop a).take (trimI l a b - a)) v' := by
  rw [F_run at123 rfl]
  obtain ⟨fr, hL⟩ := L123_0 hv a hl [] [] b hb hab
  obtain ⟨v', hs, hv'⟩ := Vw.slice hv (by omega) el_its (lo := a) (hi := trimI l a b) (trimI_ge l a b hab) (by have := trimI_le l a b; simp; omega) .i64 .i64
  obtain ⟨v2, hx, hv2⟩ := Vw.ex hv' [] []
  rw [← List.map_drop, ← List.map_take] at hv2
  refine ⟨v2, ?_, hv2⟩
  simp at hL
  have hxT : exportT st (pst st [] []) v' = some v2 := by rw [exT_view hv', hx]
  simp [f123, hL, hs, hxT]
end

theorem at124 : tab 124 = some (.code f124) := by kernel_rfl
theorem at139 : tab 139 = some (.code f139) := by kernel_rfl
theorem at145 : tab 145 = some (.code f145) := by kernel_rfl
theorem at146 : tab 146 = some (.code f146) := by kernel_rfl
theorem at153 : tab 153 = some (.code f153) := by kernel_rfl

/-- The stop behind a place. -/
def leapI (x : Int) : Int := (x / 48 + 1) * 48

theorem tcheck145 (st : St) : (E tab).F 145 [.list 0 0 .no false []] st = some (.int .i64 0, st) := by
  rw [F_run at145 rfl]
  have hL : ∀ st : St, (E tab).C f145L0 [(3, .int .i64 0), (9, .list 0 0 .no false []), (10, .int .i64 0), (11, .int .i64 0)] st = some (.exit 0, [(3, .int .i64 0), (9, .list 0 0 .no false []), (10, .int .i64 0), (11, .int .i64 0), (12, .bool false)], st) := by
    intro st
    rw [C_turn (L := f145L0) rfl]
    simp [f145B0]
  simp [f145, hL]

theorem bsearch153 (x f : DV) (st : St) : (E tab).F 153 [.list 0 0 .no false [], x, f] st = some (.tuple [.int .i64 0, .bool false], st) := by
  rw [F_go at153 rfl]
  have hL : ∀ st : St, (E tab).C f153L0 [(0, .list 0 0 .no false []), (1, x), (2, f), (8, .int .i64 0), (9, .int .i64 0), (10, .int .i64 0)] st = some (.exit 0, [(0, .list 0 0 .no false []), (1, x), (2, f), (8, .int .i64 0), (9, .int .i64 0), (10, .int .i64 0), (17, .bool false)], st) := by
    intro st
    rw [C_turn (L := f153L0) rfl]
    simp [f153B0]
  simp [f153, hL]

theorem behind146 (x : Int) (hx : 0 ≤ x ∧ x ≤ 1000000000000) (st : St) : (E tab).F 146 [.list 0 0 .no false [], .int .i64 x] st = some (.agg [.int .i64 (leapI x), .int .i64 0], st) := by
  rw [F_run at146 rfl]
  have e1 : IntKind.i64.wrap (x.tdiv 48) = x / 48 := IntWalk.i64_quo _ _ (by omega)
  have e2 : IntKind.i64.wrap (x / 48 + 1) = x / 48 + 1 := i64w (by omega)
  have e3 : IntKind.i64.wrap ((x / 48 + 1) * 48) = leapI x := i64w (by omega)
  simp [f146, bsearch153, e1, e2, e3]

theorem next139 (x : Int) (hx : 0 ≤ x ∧ x ≤ 1000000000000) (st : St) : (E tab).F 139 [.list 0 0 .no false [], .int .i64 x] st = some (if x ≤ 8190 then .tuple [.agg [.int .i64 (leapI x), .int .i64 0], .int .i64 0] else .tuple [.agg [.int .i64 0, .int .i64 0], .int .i64 5], st) := by
  rw [F_run at139 rfl]
  have h0 : ¬ x < 0 := by omega
  have e1 := fun st => behind146 x hx st
  by_cases h : x ≤ 8190
  · have h1 : ¬ 8190 < x := by omega
    simp [f139, tcheck145, h0, h1, e1, h]
  · have h1 : 8190 < x := by omega
    simp [f139, tcheck145, h0, h1, h]

theorem leap124 (x : Int) (hx : 0 ≤ x ∧ x ≤ 1000000000000) (st : St) : (E tab).F 124 [.int .i64 x] st = some (.int .i64 (leapI x), st) := by
  rw [F_run at124 rfl]
  have e0 := fun st => next139 x hx st
  have e1 : IntKind.i64.wrap (x.tdiv 48) = x / 48 := IntWalk.i64_quo _ _ (by omega)
  have e2 : IntKind.i64.wrap (x / 48 + 1) = x / 48 + 1 := i64w (by omega)
  have e3 : IntKind.i64.wrap ((x / 48 + 1) * 48) = leapI x := i64w (by omega)
  by_cases h : x ≤ 8190
  · simp only [h, if_true] at e0
    simp [f124, e0]
  · simp only [h, if_false] at e0
    simp [f124, e0, e1, e2, e3]

/-- Where a line has come to behind items. -/
def stepI (at_ : Int) (x : It) : Int := if x.k = 1 ∨ x.k = 2 then at_ + x.w else if x.k = 4 then leapI at_ else at_
def goI (at_ : Int) : List It → Int
  | [] => at_
  | x :: r => goI (stepI at_ x) r
def okW (l : List It) : Prop := ∀ x ∈ l, 0 ≤ x.w ∧ x.w ≤ 2097152
theorem okW_of {l : List It} (h : checkI l = 0) : okW l ∧ l.length ≤ 8192 := by
  unfold checkI at h
  split at h
  · omega
  · rename_i h1
    split at h
    · omega
    · rename_i h2
      refine ⟨fun x hx => ?_, by omega⟩
      rw [Bool.not_eq_true, List.any_eq_false] at h2
      have := h2 x hx
      simp [oddI, oddA] at this
      omega
theorem stepI_le {x : It} (h : 0 ≤ x.w ∧ x.w ≤ 2097152) {a : Int} (ha : 0 ≤ a) : a ≤ stepI a x ∧ stepI a x ≤ a + 2097152 := by
  unfold stepI leapI
  split
  · omega
  · split <;> omega
theorem goI_le : ∀ {l : List It} {a : Int}, okW l → 0 ≤ a → a ≤ goI a l ∧ goI a l ≤ a + 2097152 * l.length
  | [], a, _, _ => by simp [goI]
  | x :: r, a, h, ha => by
    have h1 := stepI_le (h x (List.mem_cons_self ..)) ha
    have h2 := goI_le (l := r) (a := stepI a x) (fun y hy => h y (List.mem_cons_of_mem _ hy)) (by omega)
    simp only [goI, List.length_cons]
    omega
theorem goI_app : ∀ (l r : List It) (a : Int), goI a (l ++ r) = goI (goI a l) r
  | [], r, a => rfl
  | x :: l, r, a => by simp only [List.cons_append, goI, goI_app l r]

/-- A line's natural width. -/
def penI (l : List It) (b : Nat) : Int := match l[b]? with | some x => if x.k = 3 then x.w else 0 | none => 0
def widI (l : List It) (a b : Nat) (x : Int) : Int := goI x ((l.drop a).take (trimI l a b - a)) + penI l b - x

section
variable {st : St} {l : List It} {v : DV}
theorem L110_0 (l' : List It) {v' : DV} (hv' : Its st l' v') (hok : okW l') (hl : l'.length ≤ 8192) (y0 y2 y3 : DV) (K : List Nat) : ∀ (r d : List It) (H : List HO) (a : Int), l' = d ++ r → 0 ≤ a → a ≤ 4095 + 2097152 * d.length →
    ∃ J fr, (E tab).C f110L0 [(0, y0), (2, y2), (3, y3), (11, .int .i64 a), (28, v'), (29, .int .i64 l'.length), (30, .int .i64 d.length)] (pst st H K) =
      some (.exit 0, [(0, y0), (2, y2), (3, y3), (11, .int .i64 (goI a r))] ++ fr, pst st (H ++ J) K) := by
  intro r
  induction r with
  | nil =>
    intro d H a hd h1 h2
    refine ⟨[], [(28, v'), (29, .int .i64 l'.length), (30, .int .i64 l'.length), (31, .bool false)], ?_⟩
    rw [C_turn (L := f110L0) rfl]
    simp [f110B0, hd, goI]
  | cons x r ih =>
    intro d H a hd h1 h2
    have h0 : d.length < l'.length := by simp [hd]
    have hx : l'[d.length]? = some x := by simp [hd]
    have hxm := hok x (by simp [hd])
    have hw1 : IntKind.i64.wrap ((d.length : Int) + 1) = ((d ++ [x]).length : Nat) := by rw [i64w (by omega)]; simp
    have e1 := fun st' => its_at hv' h0 .i64 st'
    have e2 := fun H K => its_load hv' hx H K
    simp only [It.dv, It.cs] at e2
    have hs := stepI_le hxm h1
    obtain ⟨J, fr, hJ⟩ := ih (d ++ [x]) (H ++ [.cells .plain x.cs]) (stepI a x) (by simp [hd]) (by omega) (by simp; omega)
    refine ⟨.cells .plain x.cs :: J, fr, ?_⟩
    rw [goI]
    simp only [List.length_append, List.length_singleton] at hJ hw1
    simp [It.cs] at hJ
    rw [C_turn (L := f110L0) rfl]
    by_cases k1 : x.k = 1
    · have w1 : IntKind.i64.wrap (a + x.w) = stepI a x := by rw [i64w (by omega)]; simp [stepI, k1]
      rw [k1] at e2 hJ
      simp [f110B0, h0, e1, e2, k1, It.cs, hw1, w1, hJ]
    · by_cases k2 : x.k = 2
      · have w1 : IntKind.i64.wrap (a + x.w) = stepI a x := by rw [i64w (by omega)]; simp [stepI, k2]
        rw [k2] at e2 hJ
        simp [f110B0, h0, e1, e2, k1, k2, It.cs, hw1, w1, hJ]
      · by_cases k4 : x.k = 4
        · have w1 : leapI a = stepI a x := by simp [stepI, k4]
          have e3 := fun st => leap124 a (by omega) st
          rw [w1] at e3
          rw [k4] at e2 hJ
          simp [f110B0, h0, e1, e2, e3, k1, k2, k4, It.cs, hw1, hJ]
        · have w1 : stepI a x = a := by simp [stepI, k1, k2, k4]
          rw [w1] at hJ
          simp [f110B0, h0, e1, e2, k1, k2, k4, It.cs, hw1, w1, hJ]

def widV (l : List It) (a b x : Int) : DV :=
  if rangedI l a b ≠ 0 then .tuple [.int .i64 0, .int .i64 (rangedI l a b)]
  else if withinB x = false then .tuple [.int .i64 0, .int .i64 5]
  else .tuple [.int .i64 (widI l a.toNat b.toNat x), .int .i64 0]

theorem rangedI_zero {a b : Int} (h : rangedI l a b = 0) : checkI l = 0 ∧ 0 ≤ a ∧ a ≤ b ∧ b ≤ l.length := by
  unfold rangedI at h
  split at h
  · omega
  · rename_i h1
    refine ⟨h, ?_⟩
    have : ¬ (a < 0 ∨ b < a ∨ l.length < b) := fun h2 => h1 ⟨h, h2⟩
    omega

theorem width110 (hv : Its st l v) (a b x : Int) : (E tab).F 110 [v, .int .i64 a, .int .i64 b, .int .i64 x] st = some (widV l a b x, st) := by
  rw [F_run at110 rfl]
  have e0 := fun st' => its_len hv st'
  have e1 := ranged121 (hv.inn [] []) a b
  have e2 := fun st => within122 x st
  unfold widV
  by_cases h1 : rangedI l a b = 0
  · cases h2 : withinB x with
    | false => simp [f110, e1, e2, h1, h2]
    | true =>
      obtain ⟨h3, h4, h5, h6⟩ := rangedI_zero h1
      obtain ⟨hok, hlen⟩ := okW_of h3
      obtain ⟨A, rfl⟩ := Int.eq_ofNat_of_zero_le h4
      obtain ⟨B, rfl⟩ := Int.eq_ofNat_of_zero_le (show 0 ≤ b by omega)
      simp [withinB] at h2
      obtain ⟨v', et, hv'⟩ := trimmed123 (hv.inn [] []) (by omega) A B (by omega) (by omega)
      have hv' := Vw.out hv'
      have hlt := trimI_le l A B
      have hok' : okW ((l.drop A).take (trimI l A B - A)) := fun y hy => hok y (List.mem_of_mem_drop (List.mem_of_mem_take hy))
      have hlen' : ((l.drop A).take (trimI l A B - A)).length ≤ 8192 := by simp; omega
      have hg := goI_le (a := x) hok' (by omega)
      obtain ⟨J, fr, hL⟩ := L110_0 _ hv' hok' hlen' v (.int .i64 B) (.int .i64 x) [] _ [] [] x rfl (by omega) (by omega)
      have e3 := fun st' => its_len hv' st'
      unfold widI
      simp only [Int.toNat_natCast]
      generalize hG : goI x ((l.drop A).take (trimI l A B - A)) = G at *
      generalize ((l.drop A).take (trimI l A B - A)) = l' at *
      simp at hL
      by_cases hb : B < l.length
      · have hx : l[B]? = some l[B] := List.getElem?_eq_getElem hb
        have q1 := fun st' => its_at hv hb .i64 st'
        have q2 := fun st' => its_f hv hx (off := 0) (by omega) st'
        have q3 := fun H K => its_k hv hx H K
        have q4 := fun st' => its_f hv hx (off := 3) (by omega) st'
        have q5 := fun H K => its_w hv hx H K
        have hB := hok _ (List.getElem_mem hb)
        by_cases k3 : l[B].k = 3
        · have ep : penI l B = l[B].w := by simp [penI, hx, k3]
          have w1 : IntKind.i64.wrap (G + l[B].w) = G + l[B].w := i64w (by omega)
          have w2 : IntKind.i64.wrap (G + l[B].w - x) = G + l[B].w - x := i64w (by omega)
          simp [f110, e0, e1, e2, e3, h1, withinB, h2, et, hL, hb, q1, q2, q3, q4, q5, k3, w1, w2, ep, hG]
        · have ep : penI l B = 0 := by simp [penI, hx, k3]
          have w2 : IntKind.i64.wrap (G - x) = G - x := i64w (by omega)
          simp [f110, e0, e1, e2, e3, h1, withinB, h2, et, hL, hb, q1, q2, q3, k3, w2, ep, hG]
      · have ep : penI l B = 0 := by simp [penI, hb]
        have w2 : IntKind.i64.wrap (G - x) = G - x := i64w (by omega)
        simp [f110, e0, e1, e2, e3, h1, withinB, h2, et, hL, hb, w2, ep, hG]
  · simp [f110, e1, h1]
end

theorem at354 : tab 354 = some (.code f354) := by kernel_rfl
theorem at349 : tab 349 = some (.code f349) := by kernel_rfl
theorem at325 : tab 325 = some (.code f325) := by kernel_rfl
theorem at353 : tab 353 = some (.code f353) := by kernel_rfl
theorem at342 : tab 342 = some (.code f342) := by kernel_rfl
theorem at352 : tab 352 = some (.code f352) := by kernel_rfl
theorem at340 : tab 340 = some (.code f340) := by kernel_rfl
theorem at241 : tab 241 = some (.code f241) := by kernel_rfl

theorem fits354 (n : Int) (st : St) : (E tab).F 354 [.int .i64 n] st = some (.bool (withinB n), st) := by
  rw [F_run at354 rfl]
  by_cases h : 0 ≤ n
  · simp [f354, withinB, h]
  · simp [f354, withinB, h]

theorem K349_A (x : It) (y0 y3 : DV) (st : St) (H : List HO) (K : List Nat) :
    (E tab).C (.region f349r6 [0, 3, 4, 65]) [(0, y0), (3, y3), (4, .ptr (st.heap.length + H.length) 0)] (pst st (H ++ [.cells .plain x.cs]) K) =
      some (.normal, [(0, y0), (3, y3), (4, .ptr (st.heap.length + H.length) 0), (65, .bool (oddA x))], pst st (H ++ [.cells .plain x.cs]) K) := by
  have hw := fits354
  unfold oddA
  by_cases h1 : x.k < 1
  · simp [It.cs, h1]
  by_cases h2 : 4 < x.k
  · simp [It.cs, h1, h2]
  by_cases h3 : x.f < 0
  · simp [It.cs, h1, h2, h3]
  by_cases h4 : x.t < x.f
  · simp [It.cs, h1, h2, h3, h4]
  by_cases h5 : x.w < 0
  · simp [It.cs, h1, h2, h3, h4, h5]
  by_cases h6 : 2097152 < x.w
  · simp [It.cs, h1, h2, h3, h4, h5, h6]
  cases h7 : withinB x.s with
  | false => simp [It.cs, h1, h2, h3, h4, h5, h6, hw, h7]
  | true =>
    cases h8 : withinB x.h with
    | false => simp [It.cs, h1, h2, h3, h4, h5, h6, hw, h7, h8]
    | true =>
      cases h9 : withinB x.c with
      | false => simp [It.cs, h1, h2, h3, h4, h5, h6, hw, h7, h8, h9]
      | true => simp [It.cs, h1, h2, h3, h4, h5, h6, hw, h7, h8, h9]
theorem K349_B (x : It) (y0 y3 : DV) (st : St) (H : List HO) (K : List Nat) (fr : Fr) :
    (E tab).C (.region f349r8 [0, 3, 102]) ((0, y0) :: (3, y3) :: (4, .ptr (st.heap.length + H.length) 0) :: fr) (pst st (H ++ [.cells .plain x.cs]) K) =
      some (.normal, [(0, y0), (3, y3), (102, .bool (oddB x))], pst st (H ++ [.cells .plain x.cs]) K) := by
  unfold oddB
  by_cases c3 : x.k = 3
  · by_cases cs : x.s = 0
    · by_cases ch : x.h = 0 <;> simp [It.cs, c3, cs, ch]
    · simp [It.cs, c3, cs]
  · cases hy : x.y with
    | true => simp [It.cs, c3, hy]
    | false =>
      by_cases cc : x.c = 0
      · by_cases c2 : x.k = 2
        · simp [It.cs, c2, hy, cc]
        · by_cases cs : x.s = 0
          · by_cases ch : x.h = 0
            · by_cases c4 : x.k = 4
              · simp [It.cs, c4, hy, cc, cs, ch]
              · simp [It.cs, c3, c2, c4, hy, cc, cs, ch]
            · simp [It.cs, c3, c2, hy, cc, cs, ch]
          · simp [It.cs, c3, c2, hy, cc, cs]
      · simp [It.cs, c3, hy, cc]

section
variable {st : St} {l : List It} {v : DV}
theorem L349_0 (hv : Its st l v) (hl : l.length ≤ 8192) (K : List Nat) : ∀ (r d : List It) (H : List HO), l = d ++ r →
    ∃ J fr, (E tab).C f349L0 [(0, v), (3, .int .i64 d.length)] (pst st H K) =
      some (if r.any oddI then (.ret, [(2, .int .i64 2)], pst st (H ++ J) K) else (.exit 0, fr, pst st (H ++ J) K)) := by
  intro r
  induction r with
  | nil =>
    intro d H hd
    have e0 := fun st' => its_len hv st'
    refine ⟨[], [(0, v), (3, .int .i64 l.length), (11, .bool false)], ?_⟩
    rw [C_turn (L := f349L0) rfl]
    simp [f349B0, e0, hd]
  | cons x r ih =>
    intro d H hd
    have e0 := fun st' => its_len hv st'
    have h0 : d.length < l.length := by simp [hd]
    have hx : l[d.length]? = some x := by simp [hd]
    have hw1 : IntKind.i64.wrap ((d.length : Int) + 1) = ((d ++ [x]).length : Nat) := by rw [i64w (by omega)]; simp
    have e1 := fun st' => its_at hv h0 .i64 st'
    have e2 := fun H K => its_load hv hx H K
    simp only [It.dv, It.cs] at e2
    have kA := K349_A x v (.int .i64 d.length) st H K
    have kB := K349_B x v (.int .i64 d.length) st H K [(65, .bool false)]
    rw [List.any_cons, oddI]
    have h1 : (E tab).C (.seq (.region f349r4 [0, 3, 11]) (.cond (.t 11) .skip (.exit 0))) (Fr.keep [(0, v), (3, .int .i64 d.length)] [0, 3]) (pst st H K) = some (.normal, [(0, v), (3, .int .i64 d.length), (11, .bool true)], pst st H K) := by simp [e0, h0]
    have h2 : (E tab).C (.region f349r5 [0, 3, 4]) [(0, v), (3, .int .i64 d.length), (11, .bool true)] (pst st H K) = some (.normal, [(0, v), (3, .int .i64 d.length), (4, .ptr (st.heap.length + H.length) 0)], pst st (H ++ [.cells .plain x.cs]) K) := by
      simp [e1, e2, It.cs]
    cases hA : oddA x with
    | true =>
      rw [hA] at kA
      refine ⟨[.cells .plain x.cs], [], ?_⟩
      rw [C_turn (L := f349L0) rfl, f349B0, C_seq, h1]
      simp only
      rw [C_seq, C_block, C_seq, h2]
      simp only
      rw [C_seq, C_seq, kA]
      simp
    | false =>
      rw [hA] at kA
      cases hB : oddB x with
      | true =>
        rw [hB] at kB
        refine ⟨[.cells .plain x.cs], [], ?_⟩
        rw [C_turn (L := f349L0) rfl, f349B0, C_seq, h1]
        simp only
        rw [C_seq, C_block, C_seq, h2]
        simp only
        rw [C_seq, C_seq, kA]
        simp only
        rw [C_cond _ _ _ _ _ false rfl]
        simp only [C_skip, Bool.false_eq_true, if_false]
        rw [C_seq, kB]
        simp
      | false =>
        rw [hB] at kB
        obtain ⟨J, fr, hJ⟩ := ih (d ++ [x]) (H ++ [.cells .plain x.cs]) (by simp [hd])
        refine ⟨.cells .plain x.cs :: J, fr, ?_⟩
        rw [Bool.false_or, Bool.false_or]
        generalize r.any oddI = b at hJ ⊢
        simp only [List.length_append, List.length_singleton] at hJ hw1
        simp at hJ
        rw [C_turn (L := f349L0) rfl, f349B0, C_seq, h1]
        simp only
        rw [C_seq, C_block, C_seq, h2]
        simp only
        rw [C_seq, C_seq, kA]
        simp only
        rw [C_cond _ _ _ _ _ false rfl]
        simp only [C_skip, Bool.false_eq_true, if_false]
        rw [C_seq, kB]
        simp [hw1, hJ]

theorem check349 (hv : Its st l v) : (E tab).F 349 [v] st = some (.int .i64 (checkI l), st) := by
  rw [F_run at349 rfl]
  have e0 := fun st' => its_len hv st'
  by_cases h : 8192 < l.length
  · have h' : (8192 : Int) < l.length := by omega
    simp [f349, e0, h, h', checkI]
  · have h' : ¬ (8192 : Int) < l.length := by omega
    obtain ⟨J, fr, hL⟩ := L349_0 hv (by omega) [] l [] [] rfl
    have e : checkI l = if l.any oddI then 2 else 0 := by simp only [checkI, if_neg h]
    rw [e]
    generalize l.any oddI = b at hL ⊢
    simp at hL
    cases b <;> simp at hL <;> simp [f349, e0, h', hL]

theorem L325_0 (hv : Its st l v) (hl : l.length ≤ 140737488355328) (H : List HO) (K : List Nat) : ∀ (r d : List It), l = d ++ r →
    ∃ fr, (E tab).C f325L0 [(0, v), (3, .int .i64 d.length)] (pst st H K) =
      some (if r.any isLeap then (.ret, [(2, .bool true)], pst st H K) else (.exit 0, fr, pst st H K)) := by
  have e0 := fun st' => its_len hv st'
  intro r
  induction r with
  | nil =>
    intro d hd
    refine ⟨[(0, v), (3, .int .i64 l.length), (7, .bool false)], ?_⟩
    rw [C_turn (L := f325L0) rfl]
    simp [f325B0, e0, hd]
  | cons x r ih =>
    intro d hd
    have h0 : d.length < l.length := by simp [hd]
    have hx : l[d.length]? = some x := by simp [hd]
    have hw1 : IntKind.i64.wrap ((d.length : Int) + 1) = ((d ++ [x]).length : Nat) := by rw [i64w (by omega)]; simp
    have e1 := fun st' => its_at hv h0 .i64 st'
    have e2 := fun st' => its_f hv hx (off := 0) (by omega) st'
    have e3 := fun H K => its_k hv hx H K
    rw [List.any_cons]
    by_cases ho : x.k = 4
    · have e : isLeap x = true := by simp [isLeap, ho]
      refine ⟨[], ?_⟩
      rw [C_turn (L := f325L0) rfl]
      simp [f325B0, e0, h0, e1, e2, e3, ho, e]
    · have e : isLeap x = false := by simp [isLeap, ho]
      obtain ⟨fr, hJ⟩ := ih (d ++ [x]) (by simp [hd])
      refine ⟨fr, ?_⟩
      rw [e, Bool.false_or]
      generalize r.any isLeap = b at hJ ⊢
      simp only [List.length_append, List.length_singleton] at hJ hw1
      simp at hJ
      rw [C_turn (L := f325L0) rfl]
      simp [f325B0, e0, h0, e1, e2, e3, ho, hw1, hJ]

theorem leaps325 (hv : Its st l v) (hl : l.length ≤ 140737488355328) : (E tab).F 325 [v] st = some (.bool (l.any isLeap), st) := by
  rw [F_run at325 rfl]
  obtain ⟨fr, hL⟩ := L325_0 hv hl [] [] l [] rfl
  generalize l.any isLeap = b at hL ⊢
  simp at hL
  cases b <;> simp at hL <;> simp [f325, hL]

/-- May a line end ahead of an item? -/
def endsI (l : List It) (i : Nat) : Bool :=
  i == l.length || (match l[i]? with | some x => x.k == 3 || (x.k == 2 && decide (0 < i) && (match l[i - 1]? with | some y => y.k != 2 | none => false)) | none => false)

theorem ends353 (hv : Its st l v) (i : Nat) (hi : i ≤ l.length) (hl : l.length ≤ 140737488355328) : (E tab).F 353 [v, .int .i64 i] st = some (.bool (endsI l i), st) := by
  have e0 := fun st' => its_len hv st'
  rw [F_run at353 rfl]
  unfold endsI
  by_cases h : i = l.length
  · simp [f353, e0, h]
  have h0 : i < l.length := by omega
  have hb : (i == l.length) = false := by simp [h]
  have h' : ¬ (i : Int) = l.length := by omega
  have hx : l[i]? = some l[i] := List.getElem?_eq_getElem h0
  have e1 := fun st' => its_at hv h0 .i64 st'
  have e2 := fun st' => its_f hv hx (off := 0) (by omega) st'
  have e3 := fun H K => its_k hv hx H K
  rw [hx, hb]
  generalize l[i] = x at *
  by_cases k3 : x.k = 3
  · simp [f353, e0, h, h', e1, e2, e3, k3]
  by_cases k2 : x.k = 2
  · by_cases hp : 0 < i
    · have h1 : i - 1 < l.length := by omega
      have hy : l[i - 1]? = some l[i - 1] := List.getElem?_eq_getElem h1
      have q1 := fun st' => its_at hv h1 .i64 st'
      have q2 := fun st' => its_f hv hy (off := 0) (by omega) st'
      have q3 := fun H K => its_k hv hy H K
      have w : IntKind.i64.wrap ((i : Int) - 1) = ((i - 1 : Nat) : Int) := by rw [i64w (by omega)]; omega
      rw [hy]
      generalize l[i - 1] = y at *
      simp [f353, e0, h, h', e1, e2, e3, k2, hp, w, q1, q2, q3]
    · simp [f353, e0, h, h', e1, e2, e3, k2, hp]
  · simp [f353, e0, h, h', e1, e2, e3, k3, k2]

theorem L342_0 (hv : Its st l v) (a : Nat) (hl : l.length ≤ 140737488355328) (H : List HO) (K : List Nat) : ∀ b, b ≤ l.length → a ≤ b →
    ∃ fr, (E tab).C f342L0 [(0, v), (1, .int .i64 a), (2, .int .i64 b)] (pst st H K) = some (.exit 0, [(0, v), (1, .int .i64 a), (2, .int .i64 (trimI l a b : Nat))] ++ fr, pst st H K) := by
  intro b
  induction b with
  | zero =>
    intro hb ha
    obtain rfl : a = 0 := by omega
    refine ⟨[(18, .bool false)], ?_⟩
    rw [C_turn (L := f342L0) rfl]
    simp [f342B0, trimI]
  | succ b ih =>
    intro hb ha
    by_cases hab : a ≤ b
    · have hw : IntKind.i64.wrap (((b + 1 : Nat) : Int) - 1) = b := by rw [i64w (by omega)]; omega
      have hlt : (a : Int) < b + 1 := by omega
      have hbl : b < l.length := by omega
      have hx : l[b]? = some l[b] := List.getElem?_eq_getElem hbl
      have e1 := fun st' => its_at hv hbl .i64 st'
      have e2 := fun st' => its_f hv hx (off := 0) (by omega) st'
      have e3 := fun H K => its_k hv hx H K
      simp at hw
      by_cases hk : l[b].k = 2
      · obtain ⟨fr, hJ⟩ := ih (by omega) hab
        refine ⟨fr, ?_⟩
        rw [C_turn (L := f342L0) rfl]
        have et : trimI l a (b + 1) = trimI l a b := by rw [trimI, if_pos ⟨hab, by simp [hx, hk]⟩]
        rw [et]
        simp at hJ
        simp [f342B0, hlt, hw, e1, e2, e3, hk, hJ]
      · have et : trimI l a (b + 1) = b + 1 := by rw [trimI, if_neg]; rintro ⟨_, h⟩; simp [hx] at h; exact hk h
        rw [et]
        refine ⟨[(18, .bool false)], ?_⟩
        rw [C_turn (L := f342L0) rfl]
        simp [f342B0, hlt, hw, e1, e2, e3, hk]
    · obtain rfl : a = b + 1 := by omega
      have et : trimI l (b + 1) (b + 1) = b + 1 := by rw [trimI, if_neg]; omega
      rw [et]
      refine ⟨[(18, .bool false)], ?_⟩
      rw [C_turn (L := f342L0) rfl]
      simp [f342B0]
theorem trim342 (hv : Its st l v) (hl : l.length ≤ 140737488355328) (a b : Nat) (hab : a ≤ b) (hb : b ≤ l.length) : (E tab).F 342 [v, .int .i64 a, .int .i64 b] st = some (.int .i64 (trimI l a b : Nat), st) := by
  rw [F_run at342 rfl]
  obtain ⟨fr, hL⟩ := L342_0 hv a hl [] [] b hb hab
  simp at hL
  simp [f342, hL]

theorem after241 (x : Int) (hx : 0 ≤ x ∧ x ≤ 1000000000000) (st : St) : (E tab).F 241 [.list 0 0 .no false [], .int .i64 x] st = some (.agg [.int .i64 (leapI x), .int .i64 0], st) := by
  rw [F_run at241 rfl]
  have hL : ∀ (st : St) (p : DV), (E tab).C f241L0 [(0, .list 0 0 .no false []), (1, .int .i64 x), (4, p), (5, .int .i64 0)] st = some (.exit 0, [(0, .list 0 0 .no false []), (1, .int .i64 x), (4, p), (5, .int .i64 0), (9, .bool false)], st) := by
    intro st p
    rw [C_turn (L := f241L0) rfl]
    simp [f241B0]
  have e1 : IntKind.i64.wrap (x.tdiv 48) = x / 48 := IntWalk.i64_quo _ _ (by omega)
  have e2 : IntKind.i64.wrap (x / 48 + 1) = x / 48 + 1 := i64w (by omega)
  have e3 : IntKind.i64.wrap ((x / 48 + 1) * 48) = leapI x := i64w (by omega)
  simp [f241, hL, e1, e2, e3]

theorem L352_0 (hv : Its st l v) (hok : okW l) (hl : l.length ≤ 8192) (A B : Nat) (hAB : A ≤ B) (hB : B ≤ l.length) (y3 : DV) (H : List HO) (K : List Nat) : ∀ (m i : Nat) (a : Int), i + m = trimI l A B → A ≤ i → 0 ≤ a → a ≤ 4095 + 2097152 * i →
    ∃ fr, (E tab).C f352L0 [(0, v), (1, .int .i64 A), (2, .int .i64 B), (3, y3), (9, .int .i64 a), (10, .int .i64 i)] (pst st H K) =
      some (.exit 0, [(0, v), (1, .int .i64 A), (2, .int .i64 B), (3, y3), (9, .int .i64 (goI a ((l.drop i).take m)))] ++ fr, pst st H K) := by
  have hT := fun st' (h : Its st' l v) => trim342 h (by omega) A B hAB hB
  have hle := trimI_le l A B
  intro m
  induction m with
  | zero =>
    intro i a hi hA h1 h2
    refine ⟨[(10, .int .i64 i), (18, .bool false)], ?_⟩
    rw [C_turn (L := f352L0) rfl]
    have h0 : ¬ i < trimI l A B := by omega
    simp [f352B0, hT _ (hv.inn H K), h0, goI]
  | succ m ih =>
    intro i a hi hA h1 h2
    have h0 : i < trimI l A B := by omega
    have hil : i < l.length := by omega
    have hx : l[i]? = some l[i] := List.getElem?_eq_getElem hil
    have hxm := hok _ (List.getElem_mem hil)
    have hd : (l.drop i).take (m + 1) = l[i] :: (l.drop (i + 1)).take m := by rw [List.drop_eq_getElem_cons hil, List.take_succ_cons]
    rw [hd, goI]
    have hw1 : IntKind.i64.wrap ((i : Int) + 1) = (i + 1 : Nat) := by rw [i64w (by omega)]; simp
    have e1 := fun st' => its_at hv hil .i64 st'
    have e2 := fun st' => its_f hv hx (off := 0) (by omega) st'
    have e3 := fun H K => its_k hv hx H K
    have e4 := fun st' => its_f hv hx (off := 3) (by omega) st'
    have e5 := fun H K => its_w hv hx H K
    have hs := stepI_le hxm h1
    obtain ⟨fr, hJ⟩ := ih (i + 1) (stepI a l[i]) (by omega) (by omega) (by omega) (by omega)
    refine ⟨fr, ?_⟩
    generalize l[i] = x at *
    simp at hJ
    rw [C_turn (L := f352L0) rfl]
    by_cases k1 : x.k = 1
    · have w1 : IntKind.i64.wrap (a + x.w) = stepI a x := by rw [i64w (by omega)]; simp [stepI, k1]
      simp [f352B0, hT _ (hv.inn H K), h0, e1, e2, e3, e4, e5, k1, hw1, w1, hJ]
    · by_cases k2 : x.k = 2
      · have w1 : IntKind.i64.wrap (a + x.w) = stepI a x := by rw [i64w (by omega)]; simp [stepI, k2]
        simp [f352B0, hT _ (hv.inn H K), h0, e1, e2, e3, e4, e5, k1, k2, hw1, w1, hJ]
      · by_cases k4 : x.k = 4
        · have w1 : leapI a = stepI a x := by simp [stepI, k4]
          have e6 := fun st => after241 a (by omega) st
          rw [w1] at e6
          simp [f352B0, hT _ (hv.inn H K), h0, e1, e2, e3, e6, k1, k2, k4, hw1, hJ]
        · have w1 : stepI a x = a := by simp [stepI, k1, k2, k4]
          rw [w1] at hJ
          simp [f352B0, hT _ (hv.inn H K), h0, e1, e2, e3, k1, k2, k4, hw1, w1, hJ]

theorem natural352 (hv : Its st l v) (h : checkI l = 0) (A B : Nat) (hAB : A ≤ B) (hB : B ≤ l.length) (x : Int) (hx : 0 ≤ x ∧ x ≤ 4095) : (E tab).F 352 [v, .int .i64 A, .int .i64 B, .int .i64 x] st = some (.int .i64 (widI l A B x), st) := by
  obtain ⟨hok, hlen⟩ := okW_of h
  have e0 := fun st' => its_len hv st'
  rw [F_run at352 rfl]
  have t1 := trimI_ge l A B hAB
  have t2 := trimI_le l A B
  obtain ⟨fr, hL⟩ := L352_0 hv hok hlen A B hAB hB (.int .i64 x) [] [] (trimI l A B - A) A x (by omega) (Nat.le_refl _) hx.1 (by omega)
  have hok' : okW ((l.drop A).take (trimI l A B - A)) := fun y hy => hok y (List.mem_of_mem_drop (List.mem_of_mem_take hy))
  have hlen' : ((l.drop A).take (trimI l A B - A)).length ≤ 8192 := by simp; omega
  have hg := goI_le (a := x) hok' (by omega)
  unfold widI
  generalize goI x ((l.drop A).take (trimI l A B - A)) = G at *
  simp at hL
  by_cases hb : B < l.length
  · have hx : l[B]? = some l[B] := List.getElem?_eq_getElem hb
    have q1 := fun st' => its_at hv hb .i64 st'
    have q2 := fun st' => its_f hv hx (off := 0) (by omega) st'
    have q3 := fun H K => its_k hv hx H K
    have q4 := fun st' => its_f hv hx (off := 3) (by omega) st'
    have q5 := fun H K => its_w hv hx H K
    have hB := hok _ (List.getElem_mem hb)
    by_cases k3 : l[B].k = 3
    · have ep : penI l B = l[B].w := by simp [penI, hx, k3]
      have w1 : IntKind.i64.wrap (G + l[B].w) = G + l[B].w := i64w (by omega)
      have w2 : IntKind.i64.wrap (G + l[B].w - x) = G + l[B].w - x := i64w (by omega)
      simp [f352, e0, hL, hb, q1, q2, q3, q4, q5, k3, w1, w2, ep]
    · have ep : penI l B = 0 := by simp [penI, hx, k3]
      have w2 : IntKind.i64.wrap (G - x) = G - x := i64w (by omega)
      simp [f352, e0, hL, hb, q1, q2, q3, k3, w2, ep]
  · have ep : penI l B = 0 := by simp [penI, hb]
    have w2 : IntKind.i64.wrap (G - x) = G - x := i64w (by omega)
    simp [f352, e0, hL, hb, w2, ep]

/-- Where the next line begins. -/
def glueI (l : List It) : Nat → Nat → Nat
  | 0, i => i
  | f + 1, i => match l[i]? with | some x => if x.k = 2 then glueI l f (i + 1) else i | none => i
def beginI (l : List It) (i : Nat) : Nat := glueI l l.length (match l[i]? with | some x => if x.k = 3 then i + 1 else i | none => i)

theorem L340_0 (hv : Its st l v) (hl : l.length ≤ 140737488355328) (H : List HO) (K : List Nat) : ∀ (f i : Nat), l.length ≤ i + f → i ≤ l.length →
    ∃ fr, (E tab).C f340L0 [(0, v), (1, .int .i64 i)] (pst st H K) = some (.exit 0, [(0, v), (1, .int .i64 (glueI l f i : Nat))] ++ fr, pst st H K) := by
  have e0 := fun st' => its_len hv st'
  intro f
  induction f with
  | zero =>
    intro i h1 h2
    obtain rfl : i = l.length := by omega
    refine ⟨[(30, .bool false)], ?_⟩
    rw [C_turn (L := f340L0) rfl]
    simp [f340B0, e0, glueI]
  | succ f ih =>
    intro i h1 h2
    by_cases h0 : i < l.length
    · have hx : l[i]? = some l[i] := List.getElem?_eq_getElem h0
      have e1 := fun st' => its_at hv h0 .i64 st'
      have e2 := fun st' => its_f hv hx (off := 0) (by omega) st'
      have e3 := fun H K => its_k hv hx H K
      have hw1 : IntKind.i64.wrap ((i : Int) + 1) = (i + 1 : Nat) := by rw [i64w (by omega)]; simp
      by_cases hk : l[i].k = 2
      · have eg : glueI l (f + 1) i = glueI l f (i + 1) := by simp [glueI, hx, hk]
        obtain ⟨fr, hJ⟩ := ih (i + 1) (by omega) (by omega)
        rw [eg]
        refine ⟨fr, ?_⟩
        simp at hJ
        rw [C_turn (L := f340L0) rfl]
        simp [f340B0, e0, h0, e1, e2, e3, hk, hw1, hJ]
      · have eg : glueI l (f + 1) i = i := by simp [glueI, hx, hk]
        rw [eg]
        refine ⟨[(30, .bool false)], ?_⟩
        rw [C_turn (L := f340L0) rfl]
        simp [f340B0, e0, h0, e1, e2, e3, hk]
    · have eg : glueI l (f + 1) i = i := by simp [glueI, h0]
      have h0' : ¬ (i : Int) < l.length := by omega
      rw [eg]
      refine ⟨[(30, .bool false)], ?_⟩
      rw [C_turn (L := f340L0) rfl]
      simp [f340B0, e0, h0, h0']

theorem L340_k (x y z : DV) (st : St) : (E tab).C f340L0 [(0, x), (1, y), (16, z)] st = (E tab).C f340L0 [(0, x), (1, y)] st := by
  unfold f340L0; rw [C_loop_keep]; rfl
theorem begin340 (hv : Its st l v) (hl : l.length ≤ 140737488355328) (i : Nat) (hi : i ≤ l.length) : (E tab).F 340 [v, .int .i64 i] st = some (.int .i64 (beginI l i : Nat), st) := by
  have e0 := fun st' => its_len hv st'
  rw [F_run at340 rfl]
  unfold beginI
  by_cases h0 : i < l.length
  · have hx : l[i]? = some l[i] := List.getElem?_eq_getElem h0
    have e1 := fun st' => its_at hv h0 .i64 st'
    have e2 := fun st' => its_f hv hx (off := 0) (by omega) st'
    have e3 := fun H K => its_k hv hx H K
    have hw1 : IntKind.i64.wrap ((i : Int) + 1) = (i + 1 : Nat) := by rw [i64w (by omega)]; simp
    rw [hx]
    by_cases hk : l[i].k = 3
    · obtain ⟨fr, hL⟩ := L340_0 hv hl [] [] l.length (i + 1) (by omega) (by omega)
      simp at hL
      simp [f340, e0, h0, e1, e2, e3, hk, hw1, hL]
    · obtain ⟨fr, hL⟩ := L340_0 hv hl [] [] l.length i (by omega) hi
      simp at hL
      simp [f340, e0, h0, e1, e2, e3, hk, L340_k, hL]
  · obtain ⟨fr, hL⟩ := L340_0 hv hl [] [] l.length i (by omega) hi
    simp at hL
    simp [f340, e0, h0, L340_k, hL]
end

theorem at628 : tab 628 = some (.code f628) := by kernel_rfl
theorem at633 : tab 633 = some (.code f633) := by kernel_rfl
theorem at119 : tab 119 = some (.code f119) := by kernel_rfl

theorem splice_mid {A z B z' : List DV} (h : z'.length = z.length) : splice (A ++ (z ++ B)) A.length z' = A ++ (z' ++ B) := by
  unfold splice
  rw [List.take_left, ← List.drop_drop, List.drop_left, h, List.drop_left, List.append_assoc]
theorem flat_app (a b : List DV) : flat (a ++ b) = flat a ++ flat b := by simp [flat]
theorem repl_add (zs : List DV) : ∀ a b, repl zs (a + b) = repl zs a ++ repl zs b
  | 0, b => by simp [repl]
  | a + 1, b => by rw [show a + 1 + b = (a + b) + 1 by omega, repl, repl, repl_add zs a b, List.append_assoc]
theorem repl_len (zs : List DV) : ∀ a, (repl zs a).length = a * zs.length
  | 0 => by simp [repl]
  | a + 1 => by rw [repl, List.length_append, repl_len zs a, Nat.succ_mul]; omega

def itZ : List DV := [.int .i64 0, .int .i64 0, .int .i64 0, .int .i64 0, .int .i64 0, .int .i64 0, .int .i64 0, .bool false]
/-- A mark behind a list that is lent. -/
def itMk (i : Nat) : It := ⟨77, 0, 0, i, 0, 0, 0, false⟩
def lentI (l : List It) : List It := l ++ [itMk l.length, itMk (l.length + 1), itMk (l.length + 2)]
theorem flat_its (l : List It) : (flat (l.map It.dv)).length = l.length * 8 := by
  have := flat_len (n := 8) (ag := true) (ys := l.map It.dv) el_its
  simpa using this

section
variable {st : St} {l : List It} {v : DV} {H : List HO} {K : List Nat}
theorem L628_0 (hl : l.length ≤ 1000000) (y0 : DV) (H : List HO) (K : List Nat) : ∀ (m : Nat) (d : List It), l.length ≤ d.length → d.length + m = l.length + 3 →
    ∃ fr, (E tab).C f628L0 [(0, y0), (3, .hsl 8 true (st.heap.length + H.length) 0 (l.length + 3) (some (l.length + 3))), (4, .int .i64 d.length)] (pst st (H ++ [.cells .plain (flat (d.map It.dv) ++ repl itZ m)]) K) =
      some (.exit 0, [(0, y0), (3, .hsl 8 true (st.heap.length + H.length) 0 (l.length + 3) (some (l.length + 3)))] ++ fr, pst st (H ++ [.cells .plain (flat ((d ++ (List.range m).map fun i => itMk (d.length + i)).map It.dv))]) K) := by
  intro m
  induction m with
  | zero =>
    intro d h1 h2
    refine ⟨[(4, .int .i64 d.length), (17, .bool false)], ?_⟩
    have h0 : ¬ d.length < l.length + 3 := by omega
    have h0' : ¬ (d.length : Int) < (l.length : Int) + 3 := by omega
    rw [C_turn (L := f628L0) rfl]
    simp [f628B0, h0, h0', repl]
  | succ m ih =>
    intro d h1 h2
    have h0 : d.length < l.length + 3 := by omega
    have h0' : (d.length : Int) < (l.length : Int) + 3 := by omega
    have hw1 : IntKind.i64.wrap ((d.length : Int) + 1) = ((d ++ [itMk d.length]).length : Nat) := by rw [i64w (by omega)]; simp
    obtain ⟨fr, hJ⟩ := ih (d ++ [itMk d.length]) (by simp; omega) (by simp; omega)
    refine ⟨fr, ?_⟩
    have e1 : (d ++ [itMk d.length] ++ (List.range m).map fun i => itMk ((d ++ [itMk d.length]).length + i)) = d ++ (List.range (m + 1)).map fun i => itMk (d.length + i) := by
      rw [List.range_succ_eq_map, List.map_cons, List.map_map, List.append_assoc]
      congr 1
      rw [List.singleton_append, Nat.add_zero]
      congr 1
      apply List.map_congr_left
      intro i _
      simp only [List.length_append, List.length_singleton, Function.comp]
      congr 1
      omega
    rw [e1] at hJ
    have e2 : flat ((d ++ [itMk d.length]).map It.dv) ++ repl itZ m = flat (d.map It.dv) ++ ((itMk d.length).cs ++ repl itZ m) := by
      rw [List.map_append, flat_app, List.append_assoc]; rfl
    have hs : splice (flat (d.map It.dv) ++ repl itZ (m + 1)) (d.length * 8) (itMk d.length).cs = flat ((d ++ [itMk d.length]).map It.dv) ++ repl itZ m := by
      rw [e2, ← flat_its, repl]
      exact splice_mid rfl
    have hlen : d.length * 8 + 8 ≤ (flat (d.map It.dv) ++ repl itZ (m + 1)).length := by
      rw [List.length_append, flat_its, repl_len, Nat.succ_mul]; simp [itZ]
    simp only [List.length_append, List.length_singleton] at hJ hw1
    generalize flat ((d ++ [itMk d.length]).map It.dv) ++ repl itZ m = R at *
    generalize flat (d.map It.dv) ++ repl itZ (m + 1) = Q at *
    have e3 : (itMk d.length).cs = [.int .i64 77, .int .i64 0, .int .i64 0, .int .i64 d.length, .int .i64 0, .int .i64 0, .int .i64 0, .bool false] := rfl
    rw [e3] at hs
    simp only [splice] at hs
    simp at hJ hs
    rw [C_turn (L := f628L0) rfl]
    simp [f628B0, h0, h0', hw1, hs, hlen, hJ]

theorem lent628 (hv : Its (pst st H K) l v) (hl : l.length ≤ 1000000) : (E tab).F 628 [v] (pst st H K) = some (.hsl 8 true (st.heap.length + H.length) 0 l.length (some (l.length + 3)), pst st (H ++ [.cells .plain (flat ((lentI l).map It.dv))]) K) := by
  rw [F_go at628 rfl]
  have e0 := fun st' => its_len hv st'
  have w1 : IntKind.i64.wrap ((l.length : Int) + 3) = l.length + 3 := i64w (by omega)
  obtain ⟨fr, hL⟩ := L628_0 (st := st) (l := l) hl v H K 3 l (Nat.le_refl _) rfl
  have er : (l ++ (List.range 3).map fun i => itMk (l.length + i)) = lentI l := by simp [lentI, List.range_succ]
  rw [er] at hL
  have b1 : ((l.length : Int) + 3) * 64 ≤ 140737488355328 := by omega
  have b2 : l.length + 3 ≤ 140737488355328 := by omega
  have b3 : (l.length : Int) + 3 ≤ 140737488355328 := by omega
  have b4 : (0 : Int) ≤ (l.length : Int) + 3 := by omega
  have t1 : ((l.length : Int) + 3).toNat = l.length + 3 := by omega
  have hn := fun X : List HO => Vw.news (Vw.app (K' := K) hv X)
  simp only [List.length_map] at hn
  have h2 : (E tab).C (.region f628r2 [0, 3]) [(0, v), (3, .hsl 8 true (st.heap.length + H.length) 0 (l.length + 3) (some (l.length + 3)))] (pst st (H ++ [.cells .plain (repl itZ (l.length + 3))]) K) =
      some (.normal, [(0, v), (3, .hsl 8 true (st.heap.length + H.length) 0 (l.length + 3) (some (l.length + 3)))], pst st (H ++ [.cells .plain (flat (l.map It.dv) ++ repl itZ 3)]) K) := by
    have hz := repl_add itZ l.length 3
    by_cases hne : l = []
    · subst hne
      have hn0 := hn [.cells .plain (repl itZ 3)]
      simp [flat] at hn0
      simp [copyD, hn0, flat]
    · have hp : 0 < l.length := List.length_pos_iff.2 hne
      have hn0 := hn [.cells .plain (repl itZ (l.length + 3))]
      have hlz : (repl itZ (l.length + 3)).length = (l.length + 3) * 8 := repl_len itZ _
      have ht : (flat (l.map It.dv)).take (l.length * 8) = flat (l.map It.dv) := List.take_of_length_le (Nat.le_of_eq (flat_its l))
      have hs : splice (repl itZ (l.length + 3)) 0 (flat (l.map It.dv)) = flat (l.map It.dv) ++ repl itZ 3 := by
        have := splice_mid (A := []) (z := repl itZ l.length) (B := repl itZ 3) (z' := flat (l.map It.dv)) (by rw [flat_its, repl_len]; rfl)
        rw [hz]; simpa using this
      have hmin : min l.length (l.length + 3) = l.length := by omega
      have hc := pst_copy (st := st) (K := K) (n := 8) (k := H.length) (off := 0) (len := l.length + 3) (ag := true) (c := some (l.length + 3)) (g := .plain) (vs := repl itZ (l.length + 3)) hn0 (by simp [rowAt]) rfl (by omega) (by rw [hlz]; omega)
      rw [hmin, ht, hs] at hc
      have hset : (H ++ [HO.cells .plain (repl itZ (l.length + 3))]).set H.length (.cells .plain (flat (l.map It.dv) ++ repl itZ 3)) = H ++ [.cells .plain (flat (l.map It.dv) ++ repl itZ 3)] := by simp
      rw [hset] at hc
      simp [hc]
  have h3 : (E tab).C (.seq (.region f628r3 [0, 3, 4]) (.block 0 f628L0)) [(0, v), (3, .hsl 8 true (st.heap.length + H.length) 0 (l.length + 3) (some (l.length + 3)))] (pst st (H ++ [.cells .plain (flat (l.map It.dv) ++ repl itZ 3)]) K) =
      some (.normal, [(0, v), (3, .hsl 8 true (st.heap.length + H.length) 0 (l.length + 3) (some (l.length + 3)))] ++ fr, pst st (H ++ [.cells .plain (flat ((lentI l).map It.dv))]) K) := by
    simp at hL
    simp [e0, hL]
  have h4 : (E tab).C (.region f628r0 [0]) (frame0 [v] 0) (pst st H K) = some (.normal, [(0, v)], pst st H K) := by simp
  have h5 : (E tab).C (.region f628r1 [0, 3]) [(0, v)] (pst st H K) = some (.normal, [(0, v), (3, .hsl 8 true (st.heap.length + H.length) 0 (l.length + 3) (some (l.length + 3)))], pst st (H ++ [.cells .plain (repl itZ (l.length + 3))]) K) := by
    simp [e0, w1, roomD, b1, b2, b3, b4, t1, itZ]
  have hsl := slice_hu (n := 8) (b := st.heap.length + H.length) (off := 0) (len := l.length + 3) (c := l.length + 3) (hi := l.length) (ag := true) (k := .i64) (by omega)
  rw [show f628.body = (.seq (.region f628r0 [0]) (.seq (.region f628r1 [0, 3]) (.seq (.region f628r2 [0, 3]) (.seq (.seq (.region f628r3 [0, 3, 4]) (.block 0 f628L0)) (.seq (.region f628r7 [2]) .ret))))) from rfl, C_seq, h4]
  simp only
  rw [C_seq, h5]
  simp only
  rw [C_seq, h2]
  simp only
  rw [C_seq, h3]
  simp [e0, hsl, f628]

theorem it_eq (x : It) : leavesEq [.int, .int, .int, .int, .int, .int, .int, .bool] x.cs x.cs = some true := by simp [It.cs, leavesEq, scalEq]
theorem L119_0 {u : DV} (hv : Its st l v) (hu : Its st l u) (hl : l.length ≤ 140737488355328) (H : List HO) (K : List Nat) : ∀ (r d : List It), l = d ++ r →
    ∃ fr, (E tab).C f119L0 [(0, v), (1, u), (5, .int .i64 d.length)] (pst st H K) = some (.exit 0, fr, pst st H K) := by
  have e0 := fun st' => its_len hv st'
  intro r
  induction r with
  | nil =>
    intro d hd
    refine ⟨[(0, v), (1, u), (5, .int .i64 l.length), (14, .bool false)], ?_⟩
    rw [C_turn (L := f119L0) rfl]
    simp [f119B0, e0, hd]
  | cons x r ih =>
    intro d hd
    have h0 : d.length < l.length := by simp [hd]
    have hx : l[d.length]? = some x := by simp [hd]
    have hw1 : IntKind.i64.wrap ((d.length : Int) + 1) = ((d ++ [x]).length : Nat) := by rw [i64w (by omega)]; simp
    have e1 := fun st' => its_at hv h0 .i64 st'
    have e2 := fun H K => its_load hv hx H K
    have e3 := fun st' => its_at hu h0 .i64 st'
    have e4 := fun H K => its_load hu hx H K
    have hq := it_eq x
    simp only [It.dv, It.cs] at e2 e4 hq
    obtain ⟨fr, hJ⟩ := ih (d ++ [x]) (by simp [hd])
    refine ⟨fr, ?_⟩
    simp only [List.length_append, List.length_singleton] at hJ hw1
    simp at hJ
    rw [C_turn (L := f119L0) rfl]
    simp [f119B0, e0, h0, e1, e2, e3, e4, eqD, hq, hw1, hJ]
theorem same119 {u : DV} (hv : Its st l v) (hu : Its st l u) (hl : l.length ≤ 140737488355328) : (E tab).F 119 [v, u] st = some (.bool true, st) := by
  rw [F_run at119 rfl]
  have e0 := fun st' => its_len hv st'
  have e1 := fun st' => its_len hu st'
  obtain ⟨fr, hL⟩ := L119_0 hv hu hl [] [] l [] rfl
  simp at hL
  simp [f119, e0, e1, hL]

/-- A row that was lent, read. -/
theorem lent_view {k : Nat} (hr : rowAt H k = some (.plain, flat ((lentI l).map It.dv))) : Its (pst st H K) l (.hsl 8 true (st.heap.length + k) 0 l.length (some (l.length + 3))) ∧ Its (pst st H K) (lentI l) (.hsl 8 true (st.heap.length + k) 0 (l.length + 3) (some (l.length + 3))) := by
  have hl : (lentI l).length = l.length + 3 := by simp [lentI]
  have hf := flat_its (lentI l)
  rw [hl] at hf
  have hcell : (pst st H K).cells (st.heap.length + k) = some (.plain, flat ((lentI l).map It.dv)) := by rw [pst_cells, hr]
  constructor
  · have h := Vw.hsl (st := pst st H K) (n := 8) (ag := true) (xs := l.map It.dv) (st.heap.length + k) 0 (l.length + 3) .plain _ hcell (by simp; omega) (by
      simp only [lentI, List.map_append, flat_app, List.drop_zero, List.length_map]
      rw [List.take_append_of_le_length (by rw [flat_its]; exact Nat.le_refl _), List.take_of_length_le (Nat.le_of_eq (flat_its l))]) (by simp)
    simpa using h
  · have h := Vw.hsl (st := pst st H K) (n := 8) (ag := true) (xs := (lentI l).map It.dv) (st.heap.length + k) 0 (l.length + 3) .plain _ hcell (by simp [hl]; omega) (by
      simp only [List.drop_zero, List.length_map, hl]
      exact List.take_of_length_le (Nat.le_of_eq hf)) (by simp [hl])
    simpa [hl] using h

theorem pure628 : isPure tab 628 = false := by rw [isPure_of at628]; rfl
theorem pure119 : isPure tab 119 = true := by rw [isPure_of at119]; rfl
theorem kept633 {b : Nat} {u : DV} (hu : Its st l u) (hl : l.length ≤ 1000000) (hb : Its st (lentI l) (.hsl 8 true b 0 (l.length + 3) (some (l.length + 3)))) :
    (E tab).F 633 [.hsl 8 true b 0 l.length (some (l.length + 3)), u] st = some (.bool true, st) := by
  rw [F_run at633 rfl]
  have e0 := fun st' => its_len hu st'
  have w1 : IntKind.i64.wrap ((l.length : Int) + 3) = ((l.length + 3 : Nat) : Int) := by rw [i64w (by omega)]; simp
  have e1 := lent628 (hu.inn [] []) hl
  simp at e1
  have hl3 : (lentI l).length = l.length + 3 := by simp [lentI]
  have s1 := fun (o : Nat) => slice_hu (n := 8) (b := b) (off := 0) (len := o) (c := l.length + 3) (hi := l.length + 3) (ag := true) (k := .i64) (by omega)
  have s2 := fun (o : Nat) => slice_hu (n := 8) (b := st.heap.length) (off := 0) (len := o) (c := l.length + 3) (hi := l.length + 3) (ag := true) (k := .i64) (by omega)
  have v2 := (lent_view (st := st) (H := [.cells .plain (flat ((lentI l).map It.dv))]) (K := []) (k := 0) (l := l) rfl).2
  have e2 := same119 (hb.inn [.cells .plain (flat ((lentI l).map It.dv))] []) v2 (by omega)
  simp at e2 w1 s1 s2
  simp [f633, C_dregionN, S_cons, A_cons, K_cons, loudD, pure628, pure119, e0, e1, w1, s1, s2, e2]
end

theorem at101 : tab 101 = some (.code f101) := by kernel_rfl
theorem at103 : tab 103 = some (.code f103) := by kernel_rfl
theorem at116 : tab 116 = some (.code f116) := by kernel_rfl
theorem at322 : tab 322 = some (.code f322) := by kernel_rfl
theorem at629 : tab 629 = some (.code f629) := by kernel_rfl
theorem at630 : tab 630 = some (.code f630) := by kernel_rfl
theorem at631 : tab 631 = some (.code f631) := by kernel_rfl
theorem at632 : tab 632 = some (.code f632) := by kernel_rfl
theorem at329 : tab 329 = some (.code f329) := by kernel_rfl

def startV (l : List It) (i : Int) : DV :=
  if checkI l ≠ 0 then .tuple [.int .i64 0, .int .i64 (checkI l)]
  else if i < 0 ∨ l.length < i then .tuple [.int .i64 0, .int .i64 5]
  else .tuple [.int .i64 (beginI l i.toNat : Nat), .int .i64 0]
def legalV (l : List It) (i : Int) : Bool := decide (checkI l = 0 ∧ 0 ≤ i ∧ i ≤ l.length) && endsI l i.toNat
def sumS : List It → Int
  | [] => 0
  | x :: r => x.s + sumS r
def sumH : List It → Int
  | [] => 0
  | x :: r => x.h + sumH r
theorem sumS_app : ∀ a b, sumS (a ++ b) = sumS a + sumS b
  | [], b => by simp [sumS]
  | x :: a, b => by simp only [List.cons_append, sumS, sumS_app a b]; omega
theorem sumH_app : ∀ a b, sumH (a ++ b) = sumH a + sumH b
  | [], b => by simp [sumH]
  | x :: a, b => by simp only [List.cons_append, sumH, sumH_app a b]; omega
def okS (l : List It) : Prop := ∀ x ∈ l, 0 ≤ x.s ∧ x.s ≤ 4095 ∧ 0 ≤ x.h ∧ x.h ≤ 4095
theorem okS_of {l : List It} (h : checkI l = 0) : okS l := by
  unfold checkI at h
  split at h
  · omega
  · split at h
    · omega
    · rename_i h2
      intro x hx
      rw [Bool.not_eq_true, List.any_eq_false] at h2
      have := h2 x hx
      simp [oddI, oddA, withinB] at this
      omega
theorem okS_le : ∀ {l : List It}, okS l → 0 ≤ sumS l ∧ sumS l ≤ 4095 * l.length ∧ 0 ≤ sumH l ∧ sumH l ≤ 4095 * l.length
  | [], _ => by simp [sumS, sumH]
  | x :: r, h => by
    have h1 := h x (List.mem_cons_self ..)
    have h2 := okS_le (l := r) fun y hy => h y (List.mem_cons_of_mem _ hy)
    simp only [sumS, sumH, List.length_cons]
    omega
def giveV (l : List It) (a b : Int) : DV :=
  if rangedI l a b ≠ 0 then .tuple [.int .i64 0, .int .i64 0, .int .i64 (rangedI l a b)]
  else .tuple [.int .i64 (sumS ((l.drop a.toNat).take (trimI l a.toNat b.toNat - a.toNat))), .int .i64 (sumH ((l.drop a.toNat).take (trimI l a.toNat b.toNat - a.toNat))), .int .i64 0]

section
variable {st : St} {l : List It} {v : DV}
theorem L101_k (x y z : DV) (st : St) : (E tab).C f101L0 [(0, x), (1, y), (31, z)] st = (E tab).C f101L0 [(0, x), (1, y)] st := by
  unfold f101L0; rw [C_loop_keep]; rfl
theorem L101_0 (hv : Its st l v) (hl : l.length ≤ 140737488355328) (H : List HO) (K : List Nat) : ∀ (f i : Nat), l.length ≤ i + f → i ≤ l.length →
    ∃ fr, (E tab).C f101L0 [(0, v), (1, .int .i64 i)] (pst st H K) = some (.exit 0, [(0, v), (1, .int .i64 (glueI l f i : Nat))] ++ fr, pst st H K) := by
  have e0 := fun st' => its_len hv st'
  intro f
  induction f with
  | zero =>
    intro i h1 h2
    obtain rfl : i = l.length := by omega
    refine ⟨[(45, .bool false)], ?_⟩
    rw [C_turn (L := f101L0) rfl]
    simp [f101B0, e0, glueI]
  | succ f ih =>
    intro i h1 h2
    by_cases h0 : i < l.length
    · have hx : l[i]? = some l[i] := List.getElem?_eq_getElem h0
      have e1 := fun st' => its_at hv h0 .i64 st'
      have e2 := fun st' => its_f hv hx (off := 0) (by omega) st'
      have e3 := fun H K => its_k hv hx H K
      have hw1 : IntKind.i64.wrap ((i : Int) + 1) = (i + 1 : Nat) := by rw [i64w (by omega)]; simp
      by_cases hk : l[i].k = 2
      · have eg : glueI l (f + 1) i = glueI l f (i + 1) := by simp [glueI, hx, hk]
        obtain ⟨fr, hJ⟩ := ih (i + 1) (by omega) (by omega)
        rw [eg]
        refine ⟨fr, ?_⟩
        simp at hJ
        rw [C_turn (L := f101L0) rfl]
        simp [f101B0, e0, h0, e1, e2, e3, hk, hw1, hJ]
      · have eg : glueI l (f + 1) i = i := by simp [glueI, hx, hk]
        rw [eg]
        refine ⟨[(45, .bool false)], ?_⟩
        rw [C_turn (L := f101L0) rfl]
        simp [f101B0, e0, h0, e1, e2, e3, hk]
    · have eg : glueI l (f + 1) i = i := by simp [glueI, h0]
      have h0' : ¬ (i : Int) < l.length := by omega
      rw [eg]
      refine ⟨[(45, .bool false)], ?_⟩
      rw [C_turn (L := f101L0) rfl]
      simp [f101B0, e0, h0, h0']

theorem start101 (hv : Its st l v) (hl : l.length ≤ 140737488355328) (i : Int) : (E tab).F 101 [v, .int .i64 i] st = some (startV l i, st) := by
  have e0 := fun st' => its_len hv st'
  have ec := check109 (hv.inn [] [])
  rw [F_run at101 rfl]
  unfold startV
  by_cases hc : checkI l = 0
  · by_cases hr1 : i < 0
    · simp [f101, ec, hc, hr1]
    by_cases hr2 : (l.length : Int) < i
    · simp [f101, e0, ec, hc, hr1, hr2]
    obtain ⟨i, rfl⟩ := Int.eq_ofNat_of_zero_le (show 0 ≤ i by omega)
    have hi : i ≤ l.length := by omega
    have hr2' : ¬ l.length < i := by omega
    unfold beginI
    by_cases h0 : i < l.length
    · have hx : l[i]? = some l[i] := List.getElem?_eq_getElem h0
      have e1 := fun st' => its_at hv h0 .i64 st'
      have e2 := fun st' => its_f hv hx (off := 0) (by omega) st'
      have e3 := fun H K => its_k hv hx H K
      have hw1 : IntKind.i64.wrap ((i : Int) + 1) = (i + 1 : Nat) := by rw [i64w (by omega)]; simp
      by_cases hk : l[i].k = 3
      · obtain ⟨fr, hL⟩ := L101_0 hv hl [] [] l.length (i + 1) (by omega) (by omega)
        simp at hL
        simp [f101, e0, ec, hc, hr2', h0, e1, e2, e3, hk, hw1, L101_k, hL]
      · obtain ⟨fr, hL⟩ := L101_0 hv hl [] [] l.length i (by omega) hi
        simp at hL
        simp [f101, e0, ec, hc, hr2', h0, e1, e2, e3, hk, L101_k, hL]
    · obtain ⟨fr, hL⟩ := L101_0 hv hl [] [] l.length i (by omega) hi
      simp at hL
      simp [f101, e0, ec, hc, hr2', h0, L101_k, hL]
  · simp [f101, ec, hc]

theorem start629 (hv : Its st l v) (hl : l.length ≤ 140737488355328) (i : Int) : (E tab).F 629 [v, .int .i64 i] st = some (startV l i, st) := by
  have e0 := fun st' => its_len hv st'
  have ec := check349 (hv.inn [] [])
  rw [F_run at629 rfl]
  unfold startV
  by_cases hc : checkI l = 0
  · by_cases hr1 : i < 0
    · simp [f629, ec, hc, hr1]
    by_cases hr2 : (l.length : Int) < i
    · simp [f629, e0, ec, hc, hr1, hr2]
    obtain ⟨i, rfl⟩ := Int.eq_ofNat_of_zero_le (show 0 ≤ i by omega)
    have hi : i ≤ l.length := by omega
    have hr2' : ¬ l.length < i := by omega
    have e1 := begin340 (hv.inn [] []) hl i hi
    simp [f629, e0, ec, hc, hr2', e1]
  · simp [f629, ec, hc]

theorem ends116 (hv : Its st l v) (i : Nat) (hi : i ≤ l.length) (hl : l.length ≤ 140737488355328) : (E tab).F 116 [v, .int .i64 i] st = some (.bool (endsI l i), st) := by
  have e0 := fun st' => its_len hv st'
  rw [F_run at116 rfl]
  unfold endsI
  by_cases h : i = l.length
  · simp [f116, e0, h]
  have h0 : i < l.length := by omega
  have hb : (i == l.length) = false := by simp [h]
  have h' : ¬ (i : Int) = l.length := by omega
  have hx : l[i]? = some l[i] := List.getElem?_eq_getElem h0
  have e1 := fun st' => its_at hv h0 .i64 st'
  have e2 := fun st' => its_f hv hx (off := 0) (by omega) st'
  have e3 := fun H K => its_k hv hx H K
  rw [hx, hb]
  generalize l[i] = x at *
  by_cases k3 : x.k = 3
  · simp [f116, e0, h, h', e1, e2, e3, k3]
  by_cases k2 : x.k = 2
  · by_cases hp : 0 < i
    · have h1 : i - 1 < l.length := by omega
      have hy : l[i - 1]? = some l[i - 1] := List.getElem?_eq_getElem h1
      have q1 := fun st' => its_at hv h1 .i64 st'
      have q2 := fun st' => its_f hv hy (off := 0) (by omega) st'
      have q3 := fun H K => its_k hv hy H K
      have w : IntKind.i64.wrap ((i : Int) - 1) = ((i - 1 : Nat) : Int) := by rw [i64w (by omega)]; omega
      rw [hy]
      generalize l[i - 1] = y at *
      simp [f116, e0, h, h', e1, e2, e3, k2, hp, w, q1, q2, q3]
    · simp [f116, e0, h, h', e1, e2, e3, k2, hp]
  · simp [f116, e0, h, h', e1, e2, e3, k3, k2]

theorem legal103 (hv : Its st l v) (hl : l.length ≤ 140737488355328) (i : Int) : (E tab).F 103 [v, .int .i64 i] st = some (.bool (legalV l i), st) := by
  have e0 := fun st' => its_len hv st'
  have ec := check109 (hv.inn [] [])
  rw [F_run at103 rfl]
  unfold legalV
  by_cases hc : checkI l = 0
  · by_cases h1 : 0 ≤ i
    · by_cases h2 : i ≤ l.length
      · obtain ⟨i, rfl⟩ := Int.eq_ofNat_of_zero_le h1
        have e1 := ends116 (hv.inn [] []) i (by omega) hl
        have h2' : i ≤ l.length := by omega
        simp [f103, e0, ec, hc, h2', e1]
      · simp [f103, e0, ec, hc, h1, h2]
    · simp [f103, ec, hc, h1]
  · simp [f103, ec, hc]
theorem legal632 (hv : Its st l v) (hl : l.length ≤ 140737488355328) (i : Int) : (E tab).F 632 [v, .int .i64 i] st = some (.bool (legalV l i), st) := by
  have e0 := fun st' => its_len hv st'
  have ec := check349 (hv.inn [] [])
  rw [F_run at632 rfl]
  unfold legalV
  by_cases hc : checkI l = 0
  · by_cases h1 : 0 ≤ i
    · by_cases h2 : i ≤ l.length
      · obtain ⟨i, rfl⟩ := Int.eq_ofNat_of_zero_le h1
        have e1 := ends353 (hv.inn [] []) i (by omega) hl
        have h2' : i ≤ l.length := by omega
        simp [f632, e0, ec, hc, h2', e1]
      · simp [f632, e0, ec, hc, h1, h2]
    · simp [f632, ec, hc, h1]
  · simp [f632, ec, hc]

theorem L322_0 (l' : List It) {v' : DV} (hv' : Its st l' v') (hok : okS l') (hl : l'.length ≤ 8192) (K : List Nat) : ∀ (r d : List It) (H : List HO), l' = d ++ r →
    ∃ J fr, (E tab).C f322L0 [(10, .int .i64 (sumS d)), (11, .int .i64 (sumH d)), (24, v'), (25, .int .i64 l'.length), (26, .int .i64 d.length)] (pst st H K) =
      some (.exit 0, [(10, .int .i64 (sumS l')), (11, .int .i64 (sumH l'))] ++ fr, pst st (H ++ J) K) := by
  intro r
  induction r with
  | nil =>
    intro d H hd
    refine ⟨[], [(24, v'), (25, .int .i64 l'.length), (26, .int .i64 l'.length), (27, .bool false)], ?_⟩
    rw [C_turn (L := f322L0) rfl]
    simp [f322B0, hd]
  | cons x r ih =>
    intro d H hd
    have h0 : d.length < l'.length := by simp [hd]
    have hx : l'[d.length]? = some x := by simp [hd]
    have hw1 : IntKind.i64.wrap ((d.length : Int) + 1) = ((d ++ [x]).length : Nat) := by rw [i64w (by omega)]; simp
    have e1 := fun st' => its_at hv' h0 .i64 st'
    have e2 := fun H K => its_load hv' hx H K
    simp only [It.dv, It.cs] at e2
    have hs := okS_le (l := d ++ [x]) fun y hy => hok y (by rw [hd]; simp at hy ⊢; rcases hy with h | h; exact .inl h; exact .inr (.inl h))
    have hlen : (d ++ [x]).length ≤ 8192 := by have := congrArg List.length hd; simp at this ⊢; omega
    have eS : sumS (d ++ [x]) = sumS d + x.s := by rw [sumS_app]; simp [sumS]
    have eH : sumH (d ++ [x]) = sumH d + x.h := by rw [sumH_app]; simp [sumH]
    have w2 : IntKind.i64.wrap (sumS d + x.s) = sumS (d ++ [x]) := by rw [eS, i64w (by omega)]
    have w3 : IntKind.i64.wrap (sumH d + x.h) = sumH (d ++ [x]) := by rw [eH, i64w (by omega)]
    obtain ⟨J, fr, hJ⟩ := ih (d ++ [x]) (H ++ [.cells .plain x.cs]) (by simp [hd])
    refine ⟨.cells .plain x.cs :: J, fr, ?_⟩
    simp only [List.length_append, List.length_singleton] at hJ hw1
    simp [It.cs] at hJ
    rw [C_turn (L := f322L0) rfl]
    simp [f322B0, h0, e1, e2, It.cs, hw1, w2, w3, hJ]

theorem give322 (hv : Its st l v) (a b : Int) : (E tab).F 322 [v, .int .i64 a, .int .i64 b] st = some (giveV l a b, st) := by
  rw [F_run at322 rfl]
  have e0 := fun st' => its_len hv st'
  have e1 := ranged121 (hv.inn [] []) a b
  unfold giveV
  by_cases h1 : rangedI l a b = 0
  · obtain ⟨h3, h4, h5, h6⟩ := rangedI_zero h1
    obtain ⟨hok, hlen⟩ := okW_of h3
    have hok2 := okS_of h3
    obtain ⟨A, rfl⟩ := Int.eq_ofNat_of_zero_le h4
    obtain ⟨B, rfl⟩ := Int.eq_ofNat_of_zero_le (show 0 ≤ b by omega)
    obtain ⟨v', et, hv'⟩ := trimmed123 (hv.inn [] []) (by omega) A B (by omega) (by omega)
    have hv' := Vw.out hv'
    have hlt := trimI_le l A B
    have hok' : okS ((l.drop A).take (trimI l A B - A)) := fun y hy => hok2 y (List.mem_of_mem_drop (List.mem_of_mem_take hy))
    have hlen' : ((l.drop A).take (trimI l A B - A)).length ≤ 8192 := by simp; omega
    obtain ⟨J, fr, hL⟩ := L322_0 _ hv' hok' hlen' [] _ [] [] rfl
    have e3 := fun st' => its_len hv' st'
    simp only [Int.toNat_natCast]
    generalize ((l.drop A).take (trimI l A B - A)) = l' at *
    simp [sumS, sumH] at hL
    simp [f322, e0, e1, e3, h1, et, hL]
  · simp [f322, e1, h1]

theorem L329_0 (hv : Its st l v) (hok : okS l) (hl : l.length ≤ 8192) (A B : Nat) (hAB : A ≤ B) (hB : B ≤ l.length) (H : List HO) (K : List Nat) : ∀ (m i : Nat), i + m = trimI l A B → A ≤ i →
    ∃ fr, (E tab).C f329L0 [(0, v), (1, .int .i64 A), (2, .int .i64 B), (8, .int .i64 (sumS ((l.drop A).take (i - A)))), (9, .int .i64 (sumH ((l.drop A).take (i - A)))), (10, .int .i64 i)] (pst st H K) =
      some (.exit 0, [(0, v), (1, .int .i64 A), (2, .int .i64 B), (8, .int .i64 (sumS ((l.drop A).take (trimI l A B - A)))), (9, .int .i64 (sumH ((l.drop A).take (trimI l A B - A))))] ++ fr, pst st H K) := by
  have hT := fun st' (h : Its st' l v) => trim342 h (by omega) A B hAB hB
  have hle := trimI_le l A B
  intro m
  induction m with
  | zero =>
    intro i hi hA
    refine ⟨[(10, .int .i64 i), (17, .bool false)], ?_⟩
    rw [C_turn (L := f329L0) rfl]
    obtain rfl : i = trimI l A B := by omega
    simp [f329B0, hT _ (hv.inn H K)]
  | succ m ih =>
    intro i hi hA
    have h0 : i < trimI l A B := by omega
    have hil : i < l.length := by omega
    have hx : l[i]? = some l[i] := List.getElem?_eq_getElem hil
    have hw1 : IntKind.i64.wrap ((i : Int) + 1) = (i + 1 : Nat) := by rw [i64w (by omega)]; simp
    have e1 := fun st' => its_at hv hil .i64 st'
    have e2 := fun st' => its_f hv hx (off := 4) (by omega) st'
    have e3 := fun H K => its_s hv hx H K
    have e4 := fun st' => its_f hv hx (off := 5) (by omega) st'
    have e5 := fun H K => its_h hv hx H K
    have ed : (l.drop A).take (i + 1 - A) = (l.drop A).take (i - A) ++ [l[i]] := by
      rw [show i + 1 - A = (i - A) + 1 by omega, List.take_succ_eq_append_getElem (by simp; omega)]
      congr 2
      rw [List.getElem_drop]; congr 1; omega
    have hs := okS_le (l := (l.drop A).take (i + 1 - A)) fun y hy => hok y (List.mem_of_mem_drop (List.mem_of_mem_take hy))
    have hlen : ((l.drop A).take (i + 1 - A)).length ≤ 8192 := by simp; omega
    have eS : sumS ((l.drop A).take (i + 1 - A)) = sumS ((l.drop A).take (i - A)) + l[i].s := by rw [ed, sumS_app]; simp [sumS]
    have eH : sumH ((l.drop A).take (i + 1 - A)) = sumH ((l.drop A).take (i - A)) + l[i].h := by rw [ed, sumH_app]; simp [sumH]
    have w2 : IntKind.i64.wrap (sumS ((l.drop A).take (i - A)) + l[i].s) = sumS ((l.drop A).take (i + 1 - A)) := by rw [eS, i64w (by omega)]
    have w3 : IntKind.i64.wrap (sumH ((l.drop A).take (i - A)) + l[i].h) = sumH ((l.drop A).take (i + 1 - A)) := by rw [eH, i64w (by omega)]
    obtain ⟨fr, hJ⟩ := ih (i + 1) (by omega) (by omega)
    refine ⟨fr, ?_⟩
    generalize sumS ((l.drop A).take (i + 1 - A)) = S1 at *
    generalize sumH ((l.drop A).take (i + 1 - A)) = H1 at *
    generalize sumS ((l.drop A).take (i - A)) = S0 at *
    generalize sumH ((l.drop A).take (i - A)) = H0 at *
    generalize l[i] = x at *
    simp at hJ
    rw [C_turn (L := f329L0) rfl]
    simp [f329B0, hT _ (hv.inn H K), h0, e1, e2, e3, e4, e5, hw1, w2, w3, hJ]

theorem give631 (hv : Its st l v) (a b : Int) : (E tab).F 631 [v, .int .i64 a, .int .i64 b] st = some (giveV l a b, st) := by
  have e0 := fun st' => its_len hv st'
  have ec := check349 (hv.inn [] [])
  rw [F_run at631 rfl]
  unfold giveV
  by_cases hc : checkI l = 0
  · by_cases h1 : a < 0
    · have hr : rangedI l a b = 5 := by unfold rangedI; rw [if_pos ⟨hc, .inl h1⟩]
      simp [f631, ec, hc, h1, hr]
    by_cases h2 : b < a
    · have hr : rangedI l a b = 5 := by unfold rangedI; rw [if_pos ⟨hc, .inr (.inl h2)⟩]
      simp [f631, ec, hc, h1, h2, hr]
    by_cases h3 : (l.length : Int) < b
    · have hr : rangedI l a b = 5 := by unfold rangedI; rw [if_pos ⟨hc, .inr (.inr h3)⟩]
      simp [f631, e0, ec, hc, h1, h2, h3, hr]
    have hr : rangedI l a b = 0 := by unfold rangedI; rw [if_neg (by omega), hc]
    obtain ⟨hok, hlen⟩ := okW_of hc
    have hok2 := okS_of hc
    obtain ⟨A, rfl⟩ := Int.eq_ofNat_of_zero_le (show 0 ≤ a by omega)
    obtain ⟨B, rfl⟩ := Int.eq_ofNat_of_zero_le (show 0 ≤ b by omega)
    have t1 := trimI_ge l A B (by omega)
    obtain ⟨fr, hL⟩ := L329_0 (st := pst st [] []) (hv.inn [] []) hok2 hlen A B (by omega) (by omega) [] [] (trimI l A B - A) A (by omega) (Nat.le_refl _)
    have hG : (E tab).F 329 [v, .int .i64 A, .int .i64 B] (pst st [] []) = some (.tuple [.int .i64 (sumS ((l.drop A).take (trimI l A B - A))), .int .i64 (sumH ((l.drop A).take (trimI l A B - A)))], pst st [] []) := by
      rw [F_run at329 rfl]
      simp [sumS, sumH] at hL
      simp [f329, hL]
    have h2' : ¬ B < A := by omega
    have h3' : ¬ l.length < B := by omega
    simp [f631, e0, ec, hc, h2', h3', hr, hG]
  · have hr : rangedI l a b = checkI l := by unfold rangedI; rw [if_neg (fun h => hc h.1)]
    simp [f631, ec, hc, hr]

theorem width630 (hv : Its st l v) (a b x : Int) : (E tab).F 630 [v, .int .i64 a, .int .i64 b, .int .i64 x] st = some (widV l a b x, st) := by
  have e0 := fun st' => its_len hv st'
  have ec := check349 (hv.inn [] [])
  have ef := fun st => fits354 x st
  rw [F_run at630 rfl]
  unfold widV
  by_cases hc : checkI l = 0
  · by_cases h1 : a < 0
    · have hr : rangedI l a b = 5 := by unfold rangedI; rw [if_pos ⟨hc, .inl h1⟩]
      simp [f630, ec, hc, h1, hr]
    by_cases h2 : b < a
    · have hr : rangedI l a b = 5 := by unfold rangedI; rw [if_pos ⟨hc, .inr (.inl h2)⟩]
      simp [f630, ec, hc, h1, h2, hr]
    by_cases h3 : (l.length : Int) < b
    · have hr : rangedI l a b = 5 := by unfold rangedI; rw [if_pos ⟨hc, .inr (.inr h3)⟩]
      simp [f630, e0, ec, hc, h1, h2, h3, hr]
    have hr : rangedI l a b = 0 := by unfold rangedI; rw [if_neg (by omega), hc]
    obtain ⟨A, rfl⟩ := Int.eq_ofNat_of_zero_le (show 0 ≤ a by omega)
    obtain ⟨B, rfl⟩ := Int.eq_ofNat_of_zero_le (show 0 ≤ b by omega)
    have h2' : ¬ B < A := by omega
    have h3' : ¬ l.length < B := by omega
    cases hw : withinB x with
    | false => simp [f630, e0, ec, hc, h2', h3', hr, ef, hw]
    | true =>
      have hx : 0 ≤ x ∧ x ≤ 4095 := by simpa [withinB] using hw
      have e1 := natural352 (hv.inn [] []) hc A B (by omega) (by omega) x hx
      simp [f630, e0, ec, hc, h2', h3', hr, ef, hw, e1]
  · have hr : rangedI l a b = checkI l := by unfold rangedI; rw [if_neg (fun h => hc h.1)]
    simp [f630, ec, hc, hr]
end

theorem list_of {α : Type} {f : α → DV} : ∀ {xs : List DV}, (∀ x ∈ xs, ∃ a, x = f a) → ∃ l : List α, xs = l.map f
  | [], _ => ⟨[], rfl⟩
  | x :: r, h => by
    obtain ⟨a, rfl⟩ := h x (List.mem_cons_self ..)
    obtain ⟨l, rfl⟩ := list_of fun y hy => h y (List.mem_cons_of_mem _ hy)
    exact ⟨a :: l, rfl⟩
def shIt : List Sh := [.int .i64, .int .i64, .int .i64, .int .i64, .int .i64, .int .i64, .int .i64, .bool]
theorem fit_it {vs : List DV} (h : FitFs shIt vs) : ∃ x : It, vs = x.cs := by
  obtain ⟨_, _, rfl, ⟨a, rfl, _⟩, _, _, rfl, ⟨b, rfl, _⟩, _, _, rfl, ⟨c, rfl, _⟩, _, _, rfl, ⟨d, rfl, _⟩, _, _, rfl, ⟨e, rfl, _⟩, _, _, rfl, ⟨f, rfl, _⟩, _, _, rfl, ⟨g, rfl, _⟩, _, _, rfl, ⟨h, rfl⟩, rfl⟩ := h
  exact ⟨⟨a, b, c, d, e, f, g, h⟩, rfl⟩
theorem fit_its {v : DV} (h : Fit (.list true 64 shIt) v) (st : St) : ∃ l : List It, Its st l v ∧ l.length ≤ 140737488355328 ∧ ∃ nn, v = .list 0 8 .no nn (l.map It.dv) ∧ (nn = false → l = []) := by
  obtain ⟨nn, xs, rfl, hnn, hmax, hlen, hxs⟩ := h
  obtain ⟨l, rfl⟩ : ∃ l : List It, xs = l.map It.dv := list_of fun x hx => by
    obtain ⟨vs, h1, rfl⟩ := hxs x hx
    obtain ⟨m, rfl⟩ := fit_it h1
    exact ⟨m, rfl⟩
  refine ⟨l, .list _ _ _ _ (fun _ => rfl) hnn, ?_, nn, rfl, fun e => by simpa using hnn e⟩
  unfold reachBytes at hlen; simp at hlen; omega

theorem at626 : tab 626 = some (.code f626) := by kernel_rfl
theorem startV_two (l : List It) (i : Int) : ∃ p q : Int, startV l i = .tuple [.int .i64 p, .int .i64 q] := by
  unfold startV; repeat' split
  all_goals exact ⟨_, _, rfl⟩
theorem widV_two (l : List It) (a b x : Int) : ∃ p q : Int, widV l a b x = .tuple [.int .i64 p, .int .i64 q] := by
  unfold widV; repeat' split
  all_goals exact ⟨_, _, rfl⟩
theorem giveV_three (l : List It) (a b : Int) : ∃ p q r : Int, giveV l a b = .tuple [.int .i64 p, .int .i64 q, .int .i64 r] := by
  unfold giveV; repeat' split
  all_goals exact ⟨_, _, _, rfl⟩

def lawSh : List (Bool × List Sh) := [(false, [.list true 64 shIt]), (false, [.int .i64]), (false, [.int .i64]), (false, [.int .i64])]
theorem law_run (us : List DV) (hf : FitAll lawSh us) : ∃ st', (E tab).F 626 us st0 = some (.bool true, st') := by
  obtain ⟨_, _, rfl, ⟨v, _, rfl, hv, rfl⟩, _, _, rfl, ⟨_, _, rfl, ⟨a, rfl, ha⟩, rfl⟩, _, _, rfl, ⟨_, _, rfl, ⟨b, rfl, hb⟩, rfl⟩, _, _, rfl, ⟨_, _, rfl, ⟨x, rfl, hx⟩, rfl⟩, rfl⟩ := hf
  obtain ⟨l, hv, hl, _⟩ := fit_its hv st0
  refine ⟨st0, ?_⟩
  rw [F_run at626 rfl]
  simp only [elemOf, List.headD_cons, Bool.false_eq_true, if_false, if_true]
  have hk := iknown_run
  have e0 := fun st' => its_len hv st'
  by_cases h1 : 9000 < l.length
  · have h1' : (9000 : Int) < l.length := by omega
    simp [f626, e0, h1, h1']
  have h1' : ¬ (9000 : Int) < l.length := by omega
  have el := lent628 (hv.inn [] []) (by omega)
  simp only [List.length_nil, Nat.add_zero, List.nil_append] at el
  obtain ⟨v1, v2⟩ := lent_view (st := st0) (H := [.cells .plain (flat ((lentI l).map It.dv))]) (K := []) (k := 0) (l := l) rfl
  rw [Nat.add_zero] at v1 v2
  have vl := hv.inn [.cells .plain (flat ((lentI l).map It.dv))] []
  have s1 := start101 v1 hl a
  have s2 := start629 vl hl a
  have w1 := width110 v1 a b x
  have w2 := width630 vl a b x
  have g1 := give322 v1 a b
  have g2 := give631 vl a b
  have c1 := check109 v1
  have c2 := check349 vl
  have l1 := legal103 v1 hl b
  have l2 := legal632 vl hl b
  have p1 := leaps108 v1 hl
  have p2 := leaps325 vl hl
  have k1 := kept633 vl (by omega) v2
  obtain ⟨i1, i2, hi⟩ := startV_two l a
  obtain ⟨j1, j2, hj⟩ := widV_two l a b x
  obtain ⟨m1, m2, m3, hm⟩ := giveV_three l a b
  rw [hi] at s1 s2
  rw [hj] at w1 w2
  rw [hm] at g1 g2
  generalize legalV l b = L at *
  generalize l.any isLeap = P at *
  generalize checkI l = C at *
  clear v1 v2 vl
  generalize [HO.cells .plain (flat ((lentI l).map It.dv))] = S at *
  simp [f626, e0, h1, h1', el, s1, s2, w1, w2, g1, g2, c1, c2, l1, l2, p1, p2, k1, hk, eqD]

end Go.D.Tab
