/-
What the law PieceKnown runs through, walked: it tells true of all that its arguments may stand for.
-/
import Derived.Test.YticbinfbdcpecaaFwDX
import Derived.Test.YticbinfbdcpecaaTab
set_option linter.unusedSimpArgs false
set_option linter.unusedVariables false
set_option linter.unnecessarySimpa false
namespace Go.D.Tab

/-! Rows among many -/
theorem rowAt_lt {H : List HO} {k : Nat} {x : CK × List DV} (h : rowAt H k = some x) : k < H.length := by
  unfold rowAt at h
  split at h
  · rename_i e; exact (List.getElem?_eq_some_iff.1 e).1
  · cases h
theorem rowAt_left {H X : List HO} {k : Nat} (h : k < H.length) : rowAt (H ++ X) k = rowAt H k := by
  unfold rowAt
  rw [List.getElem?_append_left h]
theorem rowAt_set {H : List HO} {k : Nat} (h : k < H.length) (g : CK) (vs : List DV) : rowAt (H.set k (.cells g vs)) k = some (g, vs) := by
  unfold rowAt
  rw [List.getElem?_set_self h]
theorem set_left {H X : List HO} {k : Nat} (h : k < H.length) (o : HO) : (H ++ X).set k o = H.set k o ++ X := List.set_append_left _ _ h
theorem row_at {H : List HO} {k : Nat} {g : CK} {vs : List DV} (h : rowAt H k = some (g, vs)) (X : List HO) : rowAt (H ++ X) k = some (g, vs) := by
  rw [rowAt_left (rowAt_lt h), h]

theorem rowAt_setl {H : List HO} {k : Nat} (h : k < H.length) (g : CK) (vs : List DV) (X : List HO) : rowAt (H.set k (.cells g vs) ++ X) k = some (g, vs) := by
  rw [rowAt_left (by simpa using h), rowAt_set h]
theorem set_setl {H : List HO} {k : Nat} (h : k < H.length) (o o' : HO) (X : List HO) : (H.set k o ++ X).set k o' = H.set k o' ++ X := by
  rw [set_left (by simpa using h), List.set_set]
theorem rowAt_right {H X : List HO} (j : Nat) : rowAt (H ++ X) (H.length + j) = rowAt X j := by
  unfold rowAt
  rw [app_at]
theorem set_right {H X : List HO} (j : Nat) (x : HO) : (H ++ X).set (H.length + j) x = H ++ X.set j x := by simp [List.set_append_right]
@[simp] theorem rowAt_set2 (H X : List HO) (k : Nat) (o : HO) (j : Nat) : rowAt (H.set k o ++ X) (H.length + j) = rowAt X j := by
  have h := rowAt_right (H := H.set k o) (X := X) j
  rwa [List.length_set] at h
@[simp] theorem rowAt_set20 (H X : List HO) (k : Nat) (o : HO) : rowAt (H.set k o ++ X) H.length = rowAt X 0 := rowAt_set2 H X k o 0
@[simp] theorem set_set2 (H X : List HO) (k : Nat) (o : HO) (j : Nat) (x : HO) : (H.set k o ++ X).set (H.length + j) x = H.set k o ++ X.set j x := by
  have h := set_right (H := H.set k o) (X := X) j x
  rwa [List.length_set] at h
@[simp] theorem set_set20 (H X : List HO) (k : Nat) (o : HO) (x : HO) : (H.set k o ++ X).set H.length x = H.set k o ++ X.set 0 x := set_set2 H X k o 0 x

def byteP (F : Nat → DV) : List DV → Option DV
  | [.int .u8 (.ofNat c)] => if c < 256 then some (F c) else none
  | _ => none

theorem byteP_ran {g : Nat} {F : Nat → DV} (hr : ((List.range 256).all fun c => tells tree.get 1000 g [.int .u8 (.ofNat c)] st0 (F c)) = true) (hf : ∀ c, (F c).free = true) : ∀ as v, byteP F as = some v → Ran tree.get g as v := by
  intro as v h
  unfold byteP at h
  split at h
  · rename_i c
    split at h
    · rename_i hc
      injection h with h
      subst h
      exact ran_of rfl (hf c) (List.all_eq_true.1 hr c (List.mem_range.2 hc))
    · cases h
  · cases h

/-- May a byte stand in a text? -/
def mayB (c : Nat) : Bool := (decide (32 ≤ c) && decide (c ≤ 126)) || c == 1 || c == 2 || c == 3 || c == 4 || c == 9 || c == 10 || c == 31
def mayV (c : Nat) : DV := .bool (mayB c)
theorem may_runs : ((List.range 256).all fun c => tells tree.get 1000 596 [.int .u8 (.ofNat c)] st0 (mayV c)) = true := by kernel_rfl

def trueP : List DV → Option DV
  | [] => some (.bool true)
  | _ => none
theorem trueP_ran {g : Nat} (h : ∃ n, tells tree.get n g [] st0 (.bool true) = true) : ∀ as v, trueP as = some v → Ran tree.get g as v := by
  intro as v e
  obtain ⟨n, h⟩ := h
  cases as with
  | nil => cases e; exact ran_of rfl rfl h
  | cons a r => cases e
theorem awake_runs : tells tree.get 100000 583 [] st0 (.bool true) = true := by kernel_rfl

def known : List (Nat × (List DV → Option DV)) := [(583, trueP), (596, byteP mayV)]
def tab : Tab := over tree.get known
theorem known_ran : ∀ x ∈ known, ∀ as v, x.2 as = some v → Ran tree.get x.1 as v := by
  intro x hx
  simp only [known, List.mem_cons, List.not_mem_nil, or_false] at hx
  rcases hx with rfl | rfl
  · exact trueP_ran ⟨_, awake_runs⟩
  · exact byteP_ran may_runs fun _ => rfl
theorem known_pure : ∀ x ∈ known, isPure tree.get x.1 = true := by
  intro x hx
  simp only [known, List.mem_cons, List.not_mem_nil, or_false] at hx
  rcases hx with rfl | rfl <;> kernel_rfl

theorem at583 : tab 583 = some (.pprim trueP) := by kernel_rfl
theorem at596 : tab 596 = some (.pprim (byteP mayV)) := by kernel_rfl
theorem at586 : tab 586 = some (.code f586) := by kernel_rfl
theorem at587 : tab 587 = some (.code f587) := by kernel_rfl
theorem at577 : tab 577 = some (.code f577) := by kernel_rfl
theorem at588 : tab 588 = some (.code f588) := by kernel_rfl
theorem at593 : tab 593 = some (.code f593) := by kernel_rfl
theorem at595 : tab 595 = some (.code f595) := by kernel_rfl
theorem at601 : tab 601 = some (.code f601) := by kernel_rfl
theorem at581 : tab 581 = some (.code f581) := by kernel_rfl
theorem at582 : tab 582 = some (.code f582) := by kernel_rfl
theorem at578 : tab 578 = some (.code f578) := by kernel_rfl
theorem at594 : tab 594 = some (.code f594) := by kernel_rfl
theorem awake_run (st : St) : (E tab).F 583 [] st = some (.bool true, st) := F_prim at583 rfl
theorem may596 (c : UInt8) (st : St) : (E tab).F 596 [.int .u8 (c.toNat : Int)] st = some (.bool (mayB c.toNat), st) :=
  F_prim at596 (by show (if c.toNat < 256 then some (mayV c.toNat) else _) = _; rw [if_pos (by exact c.toNat_lt)]; rfl)

def mayC (c : UInt8) : Bool := mayB c.toNat
theorem L586_0 (s : List UInt8) (hs : s.length ≤ 140737488355328) (st : St) : ∀ (r d : List UInt8), s = d ++ r →
    (E tab).C f586L0 [(0, .str s), (5, .int .i64 s.length), (6, .int .i64 d.length)] st =
      some (if r.all mayC then (.exit 0, [(0, .str s), (5, .int .i64 s.length), (6, .int .i64 s.length), (7, .bool false)], st) else (.ret, [(2, .bool false)], st)) := by
  intro r
  induction r with
  | nil =>
    intro d hd
    rw [C_turn (L := f586L0) rfl]
    simp [f586B0, hd]
  | cons c r ih =>
    intro d hd
    have h0 : d.length < s.length := by simp [hd]
    have hw : IntKind.i64.wrap ((d.length : Int) + 1) = ((d ++ [c]).length : Nat) := by rw [i64w (by omega)]; simp
    have hg : s[d.length] = c := by simp [hd]
    have hJ := ih (d ++ [c]) (by simp [hd])
    rw [C_turn (L := f586L0) rfl]
    cases hm : mayB c.toNat with
    | false => simp [f586B0, h0, hg, may596, hm, mayC]
    | true =>
      simp [mayC, hm] at hJ ⊢
      simp [f586B0, h0, hg, may596, hm, hw, hJ]

theorem may586 (s : List UInt8) (hs : s.length ≤ 140737488355328) (st : St) : (E tab).F 586 [.str s] st = some (.bool (s.all mayC), st) := by
  rw [F_run at586 rfl]
  have h := L586_0 s hs (pst st [] []) s [] rfl
  simp at h
  cases hm : s.all mayC with
  | true =>
    rw [if_pos (by simpa using hm)] at h
    simp [f586, h]
  | false =>
    rw [if_neg (by simpa using hm)] at h
    simp [f586, h]

/-! Texts -/
abbrev Str := List UInt8
def prt (s : Str) : DV := .agg [.str s]
@[simp] theorem prt_leaves (s : Str) : (prt s).leaves = [.str s] := rfl
theorem el_prt (s : Str) : IsEl 1 true (prt s) := ⟨rfl, rfl, rfl⟩

structure LW where
  t : Nat
  n : Nat
  tk : Tk
  nn : Bool
def LW.ok {α : Type} (w : LW) (n : Nat) (xs : List α) : Prop := (w.nn = true → w.n = n) ∧ (w.nn = false → xs = [])
theorem LW.ok.n {α : Type} {w : LW} {n : Nat} {xs : List α} (h : w.ok n xs) (hx : xs ≠ []) : w.n = n := by
  cases e : w.nn with
  | true => exact h.1 e
  | false => exact absurd (h.2 e) hx

/-- All bytes of pieces. -/
def tot (ps : List Str) : Nat := ps.flatten.length
def txC (w : LW) (ps : List Str) : List DV := [.bool true, .list w.t w.n w.tk w.nn (ps.map prt), .int .i64 (tot ps)]
/-- A text of such pieces lies there. -/
def TextAt (H : List HO) (k : Nat) (ps : List Str) : Prop := ∃ w : LW, w.ok 1 ps ∧ rowAt H k = some (.plain, txC w ps)
/-- Pieces that may be. -/
def Ps (ps : List Str) : Prop := (∀ p ∈ ps, p ≠ []) ∧ tot ps ≤ 4096

theorem tot_cons (p : Str) (r : List Str) : tot (p :: r) = p.length + tot r := by simp [tot]
theorem tot_app (a b : List Str) : tot (a ++ b) = tot a + tot b := by simp [tot]
theorem len_le_tot : ∀ {ps : List Str}, (∀ p ∈ ps, p ≠ []) → ps.length ≤ tot ps
  | [], _ => by simp
  | p :: r, h => by
    have := len_le_tot (ps := r) fun q hq => h q (List.mem_cons_of_mem _ hq)
    have h1 : 0 < p.length := List.length_pos_iff.2 (h p (List.mem_cons_self ..))
    rw [tot_cons, List.length_cons]; omega

section
variable {st : St} {H : List HO} {K : List Nat} {k : Nat} {ps : List Str}

theorem none587 (h : TextAt H k ps) : (E tab).F 587 [.ptr (st.heap.length + k) 0] (pst st H K) = some (.bool false, pst st H K) := by
  obtain ⟨w, _, h⟩ := h
  rw [F_go at587 rfl]
  simp [f587, h, txC, eqD]

theorem len601 (h : TextAt H k ps) : (E tab).F 601 [.ptr (st.heap.length + k) 0] (pst st H K) = some (.int .i64 (tot ps), pst st H K) := by
  have h1 := none587 (st := st) (K := K) h
  obtain ⟨w, _, h⟩ := h
  rw [F_go at601 rfl]
  simp [f601, h1, h, txC]

theorem pieces595 (h : TextAt H k ps) : (E tab).F 595 [.ptr (st.heap.length + k) 0] (pst st H K) = some (.int .i64 ps.length, pst st H K) := by
  have h1 := none587 (st := st) (K := K) h
  obtain ⟨w, _, h⟩ := h
  rw [F_go at595 rfl]
  simp [f595, h1, h, txC]
end

theorem litp1 (x : X) (s : Str) (fr : Fr) (st : St) (T : Tab) (h : x.ev fr = .agg [.str s]) : opE T (.lit 1 true [.str []] 1 [(0, x)]) fr st = some (.list st.cur 1 .tight true [prt s], st) := by
  simp [op_lit, stepD, h, repl, chunk, prt]
theorem litp2 (x y : X) (s t : Str) (fr : Fr) (st : St) (T : Tab) (h : x.ev fr = .agg [.str s]) (h2 : y.ev fr = .agg [.str t]) : opE T (.lit 1 true [.str []] 2 [(0, x), (1, y)]) fr st = some (.list st.cur 1 .tight true [prt s, prt t], st) := by
  simp [op_lit, stepD, h, h2, repl, chunk, prt]

def new1 (s : Str) : List Str := if s = [] then [] else [s]
theorem new1_flat (s : Str) : (new1 s).flatten = s := by unfold new1; split <;> simp_all
theorem new1_ps {s : Str} (h : s.length ≤ 4096) : Ps (new1 s) := by
  unfold new1 Ps tot
  split <;> simp_all

def newO (st : St) (s : Str) : HO := .cells .plain (if s = [] then txC ⟨0, 0, .no, false⟩ [] else txC ⟨st.cur, 1, .tight, true⟩ [s])
theorem newO_at (st : St) (s : Str) (H : List HO) : TextAt (H ++ [newO st s]) H.length (new1 s) := by
  by_cases he : s = []
  · exact ⟨⟨0, 0, .no, false⟩, ⟨by simp, by simp [new1, he]⟩, by simp [newO, he, new1]⟩
  · exact ⟨⟨st.cur, 1, .tight, true⟩, ⟨by simp, by simp⟩, by simp [newO, he, new1]⟩

theorem new577 {st : St} {H : List HO} {K : List Nat} {s : Str} (hm : s.all mayC = true) (hl : s.length ≤ 4096) :
    (E tab).F 577 [.str s] (pst st H K) = some (.tuple [.ptr (st.heap.length + H.length) 0, .int .i64 0], pst st (H ++ [newO st s]) K) := by
  rw [F_go at577 rfl]
  have h1 := may586 s (by omega) (pst st H K)
  have hl2 : ¬ (4096 < (s.length : Int)) := by omega
  by_cases he : s = []
  · subst he
    simp [f577, h1, eqD, newO, txC, tot]
  · have he2 : s.isEmpty = false := by simpa using he
    simp [f577, h1, hm, hl, hl2, he, he2, eqD, newO, txC, tot, litp1 (.t 21) s]
theorem new577n {st : St} {H : List HO} {K : List Nat} {s : Str} (hs : s.length ≤ 140737488355328) (h : ¬ (s.all mayC = true ∧ s.length ≤ 4096)) :
    (E tab).F 577 [.str s] (pst st H K) = some (.tuple [.nilp, .int .i64 (if s.all mayC = true then 8 else 4)], pst st H K) := by
  rw [F_go at577 rfl]
  have h1 := may586 s hs (pst st H K)
  cases hm : s.all mayC with
  | false => simp [f577, h1, hm]
  | true =>
    have hl2 : 4096 < (s.length : Int) := by
      have : ¬ s.length ≤ 4096 := fun e => h ⟨hm, e⟩
      omega
    simp [f577, h1, hm, hl2]

theorem slice_uu {n en t : Nat} {tk : Tk} {nn : Bool} {xs : List DV} {k k' : IntKind} {hi : Int} (hn : nn = true → en = n) (h0 : 0 ≤ hi) (h2 : hi ≤ xs.length) :
    sliceD false n (.list t en tk nn xs) none (some (.int k hi)) (some (.int k' hi)) = some (.list t en .tight nn (xs.take hi.toNat)) := by
  have e1 : ¬ (nn = true ∧ en ≠ n) := fun h => h.2 (hn h.1)
  simp [sliceD, e1, bnd_int (k := k') h0 h2, bnd_int (k := k) (m := hi.toNat) h0 (by omega)]

def f593A : RC := (.seq (.region f593r3 [2, 3, 4, 5, 6, 13]) (.region f593r4 [2, 3, 4, 5, 6, 7]))
def f593K : RC := (.block 1 (.seq (.seq (.region f593r5 [2, 3, 4, 5, 6, 7, 16]) (.cond (.t 16) (.seq (.region f593r6 [4]) .ret) .skip)) (.seq (.seq (.region f593r7 [2, 4, 5, 7, 8]) (.seq (.region f593r8 [2, 4, 5, 7, 8, 25]) (.cond (.t 25) (.seq (.dregion f593r9 [] [] [2, 4, 5, 9]) (.seq (.dregion f593r10 [] [(0, [1])] [4, 5]) (.seq (.region f593r11 [4]) .ret))) .skip))) (.region f593r12 []))))
theorem f593_body : f593.body = (.seq (.region f593r0 [2, 3, 4]) (.seq (.region f593r1 [2, 3, 4, 5]) (.seq (.seq (.region f593r2 [2, 3, 4, 5, 11]) (.block 0 (.rfunc (.t 11) [12, 13] f593A f593K [2, 3, 4, 5, 11]))) (.seq (.region f593r13 [4]) .ret)))) := rfl

def iv (n : Int) : HO := .cells .plain [.int .i64 n]
def pv (b : Nat) : HO := .cells .plain [.ptr b 0]
def sv (s : Str) : HO := .cells .plain [.str s]
/-- The loop's object. -/
def cLo (b h k : Nat) (state : Nat) (p : Option Ex) : LoopObj := ⟨[(2, .ptr (b + h) 0), (3, .ptr (b + (h + 1)) 0), (4, .ptr (b + (h + 2)) 0), (5, .ptr (b + (h + 3)) 0), (11, .fn 588 [.ptr (b + k) 0] [])], [12, 13], f593A, f593K, state, p⟩
def cH (b : Nat) (H : List HO) (k : Nat) (place x i : Int) (state : Nat) (p : Option Ex) (J : List HO) : List HO :=
  H ++ pv (b + k) :: iv place :: iv x :: iv i :: .loop (cLo b H.length k state p) :: J

section
variable {st : St} {H : List HO} {K : List Nat} {k : Nat} {ps : List Str} {place off i : Int} {J : List HO} {p : Str}

theorem cutA (hp : place ≤ off) : (E tab).V (.yield (st.heap.length + (H.length + 4))) [.int .i64 off, prt p] (pst st (cH st.heap.length H k place 0 i 0 none J) K) =
    some (.bool false, pst st (cH st.heap.length H k place i i 2 (some .ret) (J ++ [sv p])) K) := by
  rw [V_yield (lo := cLo st.heap.length H.length k 0 none) (by simp [cH]) rfl]
  simp [cH, cLo, f593A, f593K, prt, iv, pv, sv, hp]

/-- Appended onto a list whose room is shut. -/
theorem app_tight (st : St) (K : List Nat) (t0 t n : Nat) (tk : Tk) (xs ys : List Str) (hl : xs.length + ys.length ≤ 10000) (hn : n = 1) (nn : Bool) (hnn : nn = false → ys = []) :
    ∃ (t' : Nat) (tk' : Tk) (K' : List Nat), ∀ H, appendD (pst st H K) 1 true 16 (.list t0 1 .tight true (xs.map prt)) (.list t n tk nn (ys.map prt)) = some (.list t' 1 tk' true ((xs ++ ys).map prt), pst st H K') := by
  subst hn
  by_cases hy : ys = []
  · subst hy
    refine ⟨t0, .tight, K, fun H => ?_⟩
    simp [appendD, newsD, flat]
  · have : nn = true := by
      cases nn with
      | true => rfl
      | false => exact absurd (hnn rfl) hy
    subst this
    refine ⟨st.cur, .own (st.toks.length + K.length) 0, K ++ [0], fun H => ?_⟩
    rw [app_new (.inr ⟨rfl, rfl, rfl⟩) (by omega) (by simpa using hy) (fun y hy => ?_) (by simp [roomD]; omega) (by simp [roomD]; omega)]
    · simp
    · obtain ⟨s, _, rfl⟩ := List.mem_map.1 hy
      exact el_prt s

theorem cutC (h0 : ¬ place ≤ off) (h1 : off + p.length ≤ place) (hb : 0 ≤ off ∧ place ≤ 4096) (hi : 0 ≤ i ∧ i ≤ 4096) : (E tab).V (.yield (st.heap.length + (H.length + 4))) [.int .i64 off, prt p] (pst st (cH st.heap.length H k place 0 i 0 none J) K) =
    some (.bool true, pst st (cH st.heap.length H k place 0 (i + 1) 0 none (J ++ [sv p])) K) := by
  rw [V_yield (lo := cLo st.heap.length H.length k 0 none) (by simp [cH]) rfl]
  have w1 : IntKind.i64.wrap (place - off) = place - off := i64w (by omega)
  have w2 : IntKind.i64.wrap (i + 1) = i + 1 := i64w (by omega)
  have h2 : ¬ (place - off < p.length) := by omega
  simp [cH, cLo, f593A, f593K, prt, iv, pv, sv, h0, w1, w2, h2]

theorem cH_at (b s : Nat) (x : Int) (q : Option Ex) : (cH b H k place x i s q J)[H.length + 4]? = some (.loop (cLo b H.length k s q)) := by simp [cH]
theorem cH_put (b s s' : Nat) (x : Int) (q q' : Option Ex) : (cH b H k place x i s q J).set (H.length + 4) (.loop (cLo b H.length k s' q')) = cH b H k place x i s' q' J := by simp [cH]

theorem V_cut {H' : List HO} {K' : List Nat} {x i' : Int} {a b : DV} {J1 J2 : List HO} {e : Ex} {fr1 : Fr} {q : Option Ex} {s : Nat} {t : Bool} (he : (e = .normal ∧ s = 0 ∧ q = none ∧ t = true) ∨ (e = .ret ∧ s = 2 ∧ q = some .ret ∧ t = false)) (hH : H'.length = H.length)
    (hA : (E tab).C f593A (setParams (cLo st.heap.length H.length k 0 none).fr [12, 13] [a, b]) (pst st (cH st.heap.length H k place 0 i 0 none J) K) = some (.normal, fr1, pst st (cH st.heap.length H k place 0 i 0 none J1) K))
    (hK : ∃ fr2, (E tab).C f593K fr1 (pst st (cH st.heap.length H k place 0 i 1 none J1) K) = some (e, fr2, pst st (cH st.heap.length H' k place x i' 1 none J2) K')) :
    (E tab).V (.yield (st.heap.length + (H.length + 4))) [a, b] (pst st (cH st.heap.length H k place 0 i 0 none J) K) = some (.bool t, pst st (cH st.heap.length H' k place x i' s q J2) K') := by
  rw [V_yield (lo := cLo st.heap.length H.length k 0 none) (cH_at _ _ _ _) rfl]
  obtain ⟨fr2, hK⟩ := hK
  have eA : (cLo st.heap.length H.length k 0 none).assign = f593A := rfl
  have eP : (cLo st.heap.length H.length k 0 none).params = [12, 13] := rfl
  have eK : (cLo st.heap.length H.length k 0 none).body = f593K := rfl
  have eS : (cLo st.heap.length H.length k 0 none).state = 0 := rfl
  have hK1 : (E tab).C f593K fr1 (pst st ((cH st.heap.length H k place 0 i 0 none J1).set (H.length + 4) (.loop (cLo st.heap.length H.length k 1 none))) K) = some (e, fr2, pst st (cH st.heap.length H' k place x i' 1 none J2) K') := by rw [cH_put]; exact hK
  have at' : (cH st.heap.length H' k place x i' 1 none J2)[H.length + 4]? = some (.loop (cLo st.heap.length H.length k 1 none)) := by rw [← hH]; exact cH_at _ _ _ _
  have put' : ∀ s' q', (cH st.heap.length H' k place x i' 1 none J2).set (H.length + 4) (.loop (cLo st.heap.length H.length k s' q')) = cH st.heap.length H' k place x i' s' q' J2 := by
    intro s' q'; rw [← hH]; exact cH_put _ _ _ _ _ _
  rw [eA, eP, hA]
  simp only [pst_heap, cH_at, eS, if_true, pst_putH]
  erw [hK1]
  rcases he with ⟨rfl, rfl, rfl, rfl⟩ | ⟨rfl, rfl, rfl, rfl⟩
  · simp only [pst_heap, at', pst_putH]
    exact congrArg (fun x => some (DV.bool true, pst st x K')) (put' 0 none)
  · simp only [pst_heap, at', pst_putH]
    exact congrArg (fun x => some (DV.bool false, pst st x K')) (put' 2 (some .ret))

theorem cutB {d r : List Str} (ht : TextAt H k (d ++ p :: r)) (hl : (d ++ p :: r).length ≤ 4096) (h0 : ¬ place ≤ off) (h1 : place < off + p.length) (hb : 0 ≤ off ∧ place ≤ 4096) : ∃ o K', (E tab).V (.yield (st.heap.length + (H.length + 4))) [.int .i64 off, prt p] (pst st (cH st.heap.length H k place 0 d.length 0 none J) K) =
    some (.bool false, pst st (cH st.heap.length (H.set k o) k place (d.length + 1) d.length 2 (some .ret) (J ++ [sv p])) K') ∧ TextAt (H.set k o) k (d ++ p.take (place - off).toNat :: p.drop (place - off).toNat :: r) := by
  have w1 : IntKind.i64.wrap (place - off) = place - off := i64w (by omega)
  have hl' : d.length + (r.length + 1) ≤ 4096 := by simpa using hl
  have w2 : IntKind.i64.wrap ((d.length : Int) + 1) = d.length + 1 := i64w (by omega)
  have h2 : place - off < p.length := by omega
  have hk : k < H.length := let ⟨_, _, h⟩ := ht; rowAt_lt h
  obtain ⟨w, hw, ht⟩ := ht
  have hn := hw.n (by simp)
  have hnn : w.nn = true := by
    cases e : w.nn with
    | true => rfl
    | false => have := hw.2 e; simp at this
  have s1 := slice_su (n := 1) (s := p) (k := .i64) (hi := place - off) (by omega) (by omega)
  have s2 := slice_s (n := 1) (s := p) (k := .i64) (lo := place - off) (by omega) (by omega)
  have s4 := slice_uu (n := 1) (en := w.n) (t := w.t) (tk := w.tk) (nn := w.nn) (xs := (d ++ p :: r).map prt) (k := .i64) (k' := .i64) (hi := (d.length : Int)) (fun _ => hn) (by omega) (by simp; omega)
  have hrow : ∀ X, rowAt (H ++ X) k = some (.plain, txC w (d ++ p :: r)) := row_at ht
  have e1 : ((d.length : Int) + 1).toNat = d.length + 1 := by omega
  have e2 : ((d.length : Int)).toNat = d.length := by omega
  have e3 : ((d ++ p :: r).map prt).drop (d.length + 1) = r.map prt := by simp [List.drop_append]
  have e4 : ((d ++ p :: r).map prt).take d.length = d.map prt := by simp
  obtain ⟨tk0, s3⟩ : ∃ tk0, sliceD false 1 (.list w.t w.n w.tk w.nn (d.map prt ++ prt p :: r.map prt)) (some (.int .i64 ((d.length : Int) + 1))) none none = some (.list w.t w.n tk0 w.nn (r.map prt)) := by
    have h := slice_l (n := 1) (en := w.n) (t := w.t) (tk := w.tk) (nn := w.nn) (xs := d.map prt ++ prt p :: r.map prt) (k := .i64) (lo := (d.length : Int) + 1) (fun _ => hn) (by omega) (by simp; omega)
    rw [e1] at h
    have h3 : (d.map prt ++ prt p :: r.map prt).drop (d.length + 1) = r.map prt := by simp [List.drop_append]
    rw [h3] at h
    exact ⟨_, h⟩
  obtain ⟨t1, tk1, K1, a1⟩ := app_tight st K st.cur w.t w.n tk0 [p.take (place - off).toNat, p.drop (place - off).toNat] r (by simp; omega) hn w.nn (by simp [hnn])
  obtain ⟨t2, tk2, K2, a2⟩ := app_tight st K1 w.t t1 1 tk1 d (p.take (place - off).toNat :: p.drop (place - off).toNat :: r) (by simp; omega) rfl true (by simp)
  rw [e2, e4] at s4
  simp only [List.map_append, List.map_cons] at s4
  generalize hD : p.take (place - off).toNat = pa at *
  generalize hE : p.drop (place - off).toNat = pb at *
  have htot : tot (d ++ pa :: pb :: r) = tot (d ++ p :: r) := by
    rw [← hD, ← hE]; simp [tot]; omega
  have a1' : ∀ H, appendD (pst st H K) 1 true 16 (.list st.cur 1 .tight true [prt pa, prt pb]) (.list w.t w.n tk0 w.nn (r.map prt)) = some (.list t1 1 tk1 true (prt pa :: prt pb :: r.map prt), pst st H K1) := fun H => by simpa using a1 H
  have a2' : ∀ H, appendD (pst st H K1) 1 true 16 (.list w.t w.n .tight w.nn (d.map prt)) (.list t1 1 tk1 true (prt pa :: prt pb :: r.map prt)) = some (.list t2 1 tk2 true ((d ++ pa :: pb :: r).map prt), pst st H K2) := fun H => by rw [hn, hnn]; simpa using a2 H
  refine ⟨.cells .plain (txC ⟨t2, 1, tk2, true⟩ (d ++ pa :: pb :: r)), K2, V_cut (fr1 := [(2, .ptr (st.heap.length + H.length) 0), (3, .ptr (st.heap.length + (H.length + 1)) 0), (4, .ptr (st.heap.length + (H.length + 2)) 0), (5, .ptr (st.heap.length + (H.length + 3)) 0), (6, .int .i64 off), (7, .ptr (st.heap.length + (H.length + (J.length + 5))) 0)]) (.inr ⟨rfl, rfl, rfl, rfl⟩) (by simp) (J1 := J ++ [sv p]) ?_ ?_, ⟨⟨t2, 1, tk2, true⟩, ⟨fun _ => rfl, by simp⟩, rowAt_set hk _ _⟩⟩
  · simp [cLo, cH, f593A, prt, iv, pv, sv]
  · generalize cLo st.heap.length H.length k 1 none = lo
    simp [cH, f593K, iv, pv, sv, h0, w1, w2, h2, s1, s2, s3, s4, hrow, txC, litp2 (.t 30) (.t 35) pa pb, hD, hE, a1', a2', C_dregionN, S_cons, A_cons, K_cons, loudD, set_left hk, htot, rowAt_set hk]
end

def cutAt : List Str → Nat → Option (List Str × List Str)
  | [], _ => none
  | p :: r, n => if n = 0 then some ([], p :: r) else if n < p.length then some ([p.take n], p.drop n :: r) else (cutAt r (n - p.length)).map fun (a, b) => (p :: a, b)

/-- All but one row as it was. -/
def Upd (H : List HO) (k : Nat) (H' : List HO) : Prop := H'.length = H.length ∧ ∀ j, j ≠ k → H'[j]? = H[j]?
theorem Upd.refl (H : List HO) (k : Nat) : Upd H k H := ⟨rfl, fun _ _ => rfl⟩
theorem Upd.set (H : List HO) (k : Nat) (o : HO) : Upd H k (H.set k o) := ⟨by simp, fun j hj => by rw [List.getElem?_set_ne (fun h => hj h.symm)]⟩
theorem Upd.trans {H H' H'' : List HO} {k : Nat} (h : Upd H k H') (h' : Upd H' k H'') : Upd H k H'' := ⟨h'.1.trans h.1, fun j hj => (h'.2 j hj).trans (h.2 j hj)⟩
theorem Upd.row {H H' : List HO} {k j : Nat} (h : Upd H k H') (hj : j ≠ k) : rowAt H' j = rowAt H j := by
  unfold rowAt; rw [h.2 j hj]

theorem cH_push (b : Nat) (H : List HO) (k : Nat) (place x i : Int) (s : Nat) (q : Option Ex) (J : List HO) (o : HO) : cH b H k place x i s q J ++ [o] = cH b H k place x i s q (J ++ [o]) := by simp [cH]
theorem cH_len (b : Nat) (H : List HO) (k : Nat) (place x i : Int) (s : Nat) (q : Option Ex) (J : List HO) : (cH b H k place x i s q J).length = H.length + (J.length + 5) := by simp [cH]
theorem cH_row (b : Nat) (H : List HO) (k : Nat) (place x i : Int) (s : Nat) (q : Option Ex) (J : List HO) (j : Nat) : rowAt (cH b H k place x i s q J) (H.length + (j + 5)) = rowAt J j := by
  rw [cH, rowAt_right]; rfl
theorem cH_set (b : Nat) (H : List HO) (k : Nat) (place x i : Int) (s : Nat) (q : Option Ex) (J : List HO) (j : Nat) (o : HO) : (cH b H k place x i s q J).set (H.length + (j + 5)) o = cH b H k place x i s q (J.set j o) := by
  rw [cH, set_right]; rfl

section
variable {st : St} {H : List HO} {K : List Nat} {k : Nat} {ps : List Str} {place : Nat}

theorem L588_0 (w : LW) (hw : w.ok 1 ps) (hk : TextAt H k ps) (hps : Ps ps) (hpl : place ≤ 4096) : ∀ (r d : List Str) (n : Nat) (J : List HO), ps = d ++ r → place = tot d + n →
    match cutAt r n with
    | none => ∃ (J' : List HO) (fr : Fr), (E tab).C f588L0 [(1, .yield (st.heap.length + (H.length + 4))), (4, .int .i64 (tot d)), (10, .list w.t w.n w.tk w.nn (ps.map prt)), (11, .int .i64 ps.length), (12, .int .i64 d.length)] (pst st (cH st.heap.length H k place 0 d.length 0 none J) K) =
        some (.exit 0, fr, pst st (cH st.heap.length H k place 0 ps.length 0 none J') K)
    | some (a, b) => ∃ (J' H' : List HO) (K' : List Nat) (i' : Int), Upd H k H' ∧ TextAt H' k (d ++ (a ++ b)) ∧ ∃ fr, (E tab).C f588L0 [(1, .yield (st.heap.length + (H.length + 4))), (4, .int .i64 (tot d)), (10, .list w.t w.n w.tk w.nn (ps.map prt)), (11, .int .i64 ps.length), (12, .int .i64 d.length)] (pst st (cH st.heap.length H k place 0 d.length 0 none J) K) =
        some (.ret, fr, pst st (cH st.heap.length H' k place (d.length + a.length : Nat) i' 2 (some .ret) J') K') := by
  have hlen : ps.length ≤ 4096 := Nat.le_trans (len_le_tot hps.1) hps.2
  intro r
  induction r with
  | nil =>
    intro d n J hd hp
    refine ⟨J, ?_⟩
    rw [C_turn (L := f588L0) rfl]
    simp [f588B0, hd]
  | cons p r ih =>
    intro d n J hd hp
    have hn1 := hw.n (by simp [hd])
    have hpn : p ≠ [] := hps.1 p (by simp [hd])
    have hp1 : 0 < p.length := List.length_pos_iff.2 hpn
    have hl0 : d.length < ps.length := by simp [hd]
    have hg : ps[d.length] = p := by simp [hd]
    have htd : tot d + p.length ≤ 4096 := by
      have := hps.2
      rw [hd, tot_app, tot_cons] at this
      omega
    by_cases h0 : n = 0
    · have hA := cutA (st := st) (H := H) (K := K) (k := k) (place := place) (off := tot d) (i := d.length) (J := J ++ [sv p]) (p := p) (by omega)
      simp only [cutAt, h0, if_true]
      simp [sv, prt] at hA
      refine ⟨J ++ [sv p] ++ [sv p], H, K, d.length, Upd.refl _ _, by rw [List.nil_append, ← hd]; exact hk, ?_⟩
      rw [C_turn (L := f588L0) rfl]
      simp [f588B0, hl0, hg, hn1, prt, cH_push, cH_len, cH_row, cH_set, hA, sv]
    · by_cases h1 : n < p.length
      · obtain ⟨o, K', hB, hT⟩ := cutB (st := st) (H := H) (K := K) (k := k) (place := place) (off := tot d) (J := J ++ [sv p]) (p := p) (d := d) (r := r) (by rw [← hd]; exact hk) (by rw [← hd]; omega) (by omega) (by omega) (by omega)
        have e : ((place : Int) - tot d).toNat = n := by omega
        rw [e] at hT
        simp only [cutAt, h0, h1, if_true, if_false]
        simp [sv, prt] at hB
        refine ⟨J ++ [sv p] ++ [sv p], H.set k o, K', d.length, Upd.set _ _ _, hT, ?_⟩
        rw [C_turn (L := f588L0) rfl]
        simp [f588B0, hl0, hg, hn1, prt, cH_push, cH_len, cH_row, cH_set, hB, sv]
      · have hC := cutC (st := st) (H := H) (K := K) (k := k) (place := place) (off := tot d) (i := d.length) (J := J ++ [sv p]) (p := p) (by omega) (by omega) (by omega) (by omega)
        have w1 : IntKind.i64.wrap ((tot d : Int) + p.length) = (tot (d ++ [p]) : Nat) := by rw [i64w (by omega)]; simp [tot]
        have w2 : IntKind.i64.wrap ((d.length : Int) + 1) = ((d ++ [p]).length : Nat) := by rw [i64w (by omega)]; simp
        have hJ := ih (d ++ [p]) (n - p.length) (J ++ [sv p] ++ [sv p]) (by simp [hd]) (by simp [tot]; simp [tot] at hp; omega)
        simp only [cutAt, h0, h1, if_false]
        have hgo : ∀ R : Ex × St, (∃ fr, (E tab).C f588L0 [(1, .yield (st.heap.length + (H.length + 4))), (4, .int .i64 (tot (d ++ [p]))), (10, .list w.t w.n w.tk w.nn (ps.map prt)), (11, .int .i64 ps.length), (12, .int .i64 (d ++ [p]).length)] (pst st (cH st.heap.length H k place 0 (d ++ [p]).length 0 none (J ++ [sv p] ++ [sv p])) K) = some (R.1, fr, R.2)) →
            ∃ fr, (E tab).C f588L0 [(1, .yield (st.heap.length + (H.length + 4))), (4, .int .i64 (tot d)), (10, .list w.t w.n w.tk w.nn (ps.map prt)), (11, .int .i64 ps.length), (12, .int .i64 d.length)] (pst st (cH st.heap.length H k place 0 d.length 0 none J) K) = some (R.1, fr, R.2) := by
          intro R hR
          rw [C_turn (L := f588L0) rfl]
          simp [sv, prt] at hC hR
          simp [f588B0, hl0, hg, hn1, prt, cH_push, cH_len, cH_row, cH_set, hC, w1, w2]
          simpa [hn1] using hR
        cases hc : cutAt r (n - p.length) with
        | none =>
          rw [hc] at hJ
          obtain ⟨J', hJ⟩ := hJ
          exact ⟨J', hgo (.exit 0, _) hJ⟩
        | some ab =>
          obtain ⟨a, b⟩ := ab
          rw [hc] at hJ
          obtain ⟨J', H', K', i', hU, hT, hJ⟩ := hJ
          refine ⟨J', H', K', i', hU, by simpa using hT, ?_⟩
          have := hgo (.ret, pst st _ K') hJ
          simpa [Nat.add_assoc, Nat.add_comm 1] using this
end

def cutI (ps : List Str) (n : Nat) : Nat × List Str := match cutAt ps n with | some (a, b) => (a.length, a ++ b) | none => (ps.length, ps)

theorem cutAt_flat : ∀ {ps : List Str} {n : Nat} {a b : List Str}, cutAt ps n = some (a, b) → a.flatten = ps.flatten.take n ∧ b.flatten = ps.flatten.drop n
  | [], n, a, b, h => by cases h
  | p :: r, n, a, b, h => by
    unfold cutAt at h
    split at h
    · rename_i e; subst e; cases h; simp
    · split at h
      · cases h
        rename_i h1
        simp [List.take_append_of_le_length (Nat.le_of_lt h1), List.drop_append_of_le_length (Nat.le_of_lt h1)]
      · rename_i h1
        simp only [Option.map_eq_some_iff] at h
        obtain ⟨⟨a', b'⟩, h, e⟩ := h
        cases e
        have := cutAt_flat h
        simp [List.take_append, List.drop_append, this, List.take_of_length_le (show p.length ≤ n by omega), List.drop_eq_nil_of_le (show p.length ≤ n by omega)]
theorem cutAt_none : ∀ {ps : List Str} {n : Nat}, cutAt ps n = none → tot ps ≤ n
  | [], n, h => by simp [tot]
  | p :: r, n, h => by
    unfold cutAt at h
    split at h
    · cases h
    · split at h
      · cases h
      · simp only [Option.map_eq_none_iff] at h
        have := cutAt_none h
        rw [tot_cons]; omega
theorem cutAt_ne : ∀ {ps : List Str} {n : Nat} {a b : List Str}, (∀ p ∈ ps, p ≠ []) → cutAt ps n = some (a, b) → ∀ p ∈ a ++ b, p ≠ []
  | [], n, a, b, hp, h => by cases h
  | p :: r, n, a, b, hp, h => by
    unfold cutAt at h
    split at h
    · cases h; exact hp
    · split at h
      · cases h
        rename_i h0 h1
        intro q hq
        simp at hq
        rcases hq with rfl | rfl | hq
        · intro e
          rcases List.take_eq_nil_iff.1 e with e | e
          · exact h0 e
          · exact hp p (List.mem_cons_self ..) e
        · intro e; have := congrArg List.length e; simp at this; omega
        · exact hp q (List.mem_cons_of_mem _ hq)
      · simp only [Option.map_eq_some_iff] at h
        obtain ⟨⟨a', b'⟩, h, e⟩ := h
        cases e
        have := cutAt_ne (fun q hq => hp q (List.mem_cons_of_mem _ hq)) h
        intro q hq
        simp only [List.cons_append, List.mem_cons] at hq
        rcases hq with rfl | hq
        · exact hp _ (List.mem_cons_self ..)
        · exact this q hq

/-- What a cut does: the pieces' bytes as they were, parted at the place. -/
theorem cutI_is {ps : List Str} {n : Nat} (hp : Ps ps) (hn : n ≤ tot ps) : Ps (cutI ps n).2 ∧ (cutI ps n).1 ≤ (cutI ps n).2.length ∧ ((cutI ps n).2.take (cutI ps n).1).flatten = ps.flatten.take n ∧ ((cutI ps n).2.drop (cutI ps n).1).flatten = ps.flatten.drop n := by
  unfold cutI
  cases h : cutAt ps n with
  | none =>
    have := cutAt_none h
    have e : n = ps.flatten.length := Nat.le_antisymm hn this
    refine ⟨hp, Nat.le_refl _, ?_, ?_⟩
    · simp only [List.take_length]; rw [e, List.take_length]
    · simp only [List.drop_length]; rw [e, List.drop_length]; rfl
  | some ab =>
    obtain ⟨a, b⟩ := ab
    have h1 := cutAt_flat h
    have h2 := cutAt_ne hp.1 h
    refine ⟨⟨h2, ?_⟩, by simp, by simpa using h1.1, by simpa using h1.2⟩
    have : tot (a ++ b) = tot ps := by
      unfold tot
      rw [List.flatten_append, h1.1, h1.2, List.take_append_drop]
    show tot (a ++ b) ≤ 4096
    rw [this]; exact hp.2

section
variable {st : St} {H : List HO} {K : List Nat} {k : Nat} {ps : List Str} {place : Nat}

theorem all588 (hk : TextAt H k ps) (hps : Ps ps) (hpl : place ≤ 4096) : ∃ (J' H' : List HO) (K' : List Nat) (i' : Int) (s : Nat) (q : Option Ex), Upd H k H' ∧ TextAt H' k (cutI ps place).2 ∧
    (E tab).F 588 [.ptr (st.heap.length + k) 0, .yield (st.heap.length + (H.length + 4))] (pst st (cH st.heap.length H k place 0 0 0 none []) K) = some (.tuple [], pst st (cH st.heap.length H' k place (match q with | none => 0 | some _ => (cutI ps place).1) i' s q J') K') ∧ ((q = none ∧ s = 0 ∧ i' = (cutI ps place).1) ∨ (q = some .ret ∧ s = 2)) := by
  obtain ⟨w, hw, hr⟩ := id hk
  have h := L588_0 (st := st) (K := K) w hw hk hps hpl ps [] place [] rfl (by simp [tot])
  have hrow : rowAt (cH st.heap.length H k place 0 0 0 none []) k = some (.plain, txC w ps) := row_at hr _
  simp only [F_go at588 rfl]
  unfold cutI
  cases hc : cutAt ps place with
  | none =>
    rw [hc] at h
    obtain ⟨J', fr, h⟩ := h
    refine ⟨J', H, K, ps.length, 0, none, Upd.refl _ _, hk, ?_, .inl ⟨rfl, rfl, rfl⟩⟩
    simp [tot] at h
    simp [f588, hrow, txC, h]
  | some ab =>
    obtain ⟨a, b⟩ := ab
    rw [hc] at h
    obtain ⟨J', H', K', i', hU, hT, fr, h⟩ := h
    refine ⟨J', H', K', i', 2, some .ret, hU, by simpa using hT, ?_, .inr ⟨rfl, rfl⟩⟩
    simp [tot] at h
    simp [f588, hrow, txC, h]

theorem R593 {H' J' : List HO} {K' : List Nat} {x i' : Int} {s : Nat} {q : Option Ex} {e : Ex} (hl : H'.length = H.length) (hq : (q = none ∧ s = 0 ∧ e = .normal) ∨ (q = some e ∧ s = 2))
    (hF : (E tab).F 588 [.ptr (st.heap.length + k) 0, .yield (st.heap.length + (H.length + 4))] (pst st (cH st.heap.length H k place 0 0 0 none []) K) = some (.tuple [], pst st (cH st.heap.length H' k place x i' s q J') K')) :
    (E tab).C (.rfunc (.t 11) [12, 13] f593A f593K [2, 3, 4, 5, 11]) [(2, .ptr (st.heap.length + H.length) 0), (3, .ptr (st.heap.length + (H.length + 1)) 0), (4, .ptr (st.heap.length + (H.length + 2)) 0), (5, .ptr (st.heap.length + (H.length + 3)) 0), (11, .fn 588 [.ptr (st.heap.length + k) 0] [])] (pst st (H ++ [.cells .plain [.ptr (st.heap.length + k) 0], .cells .plain [.int .i64 place], .cells .plain [.int .i64 0], .cells .plain [.int .i64 0]]) K) =
      some (e, [(2, .ptr (st.heap.length + H.length) 0), (3, .ptr (st.heap.length + (H.length + 1)) 0), (4, .ptr (st.heap.length + (H.length + 2)) 0), (5, .ptr (st.heap.length + (H.length + 3)) 0), (11, .fn 588 [.ptr (st.heap.length + k) 0] [])], pst st (cH st.heap.length H' k place x i' 3 q J') K') := by
  rw [C_rfunc (by rfl) at588]
  have e : (pst st (H ++ [.cells .plain [.ptr (st.heap.length + k) 0], .cells .plain [.int .i64 place], .cells .plain [.int .i64 0], .cells .plain [.int .i64 0]]) K).heap.length = st.heap.length + (H.length + 4) := by simp
  have e2 : (pst st (H ++ [.cells .plain [.ptr (st.heap.length + k) 0], .cells .plain [.int .i64 place], .cells .plain [.int .i64 0], .cells .plain [.int .i64 0]]) K).push (.loop (cLo st.heap.length H.length k 0 none)) = pst st (cH st.heap.length H k place 0 0 0 none []) K := by simp [cH, pv, iv]
  rw [e]
  erw [e2]
  show (match (E tab).F 588 [.ptr (st.heap.length + k) 0, .yield (st.heap.length + (H.length + 4))] _ with | some (_, st') => _ | none => none) = _
  rw [hF]
  have at' : (cH st.heap.length H' k place x i' s q J')[H.length + 4]? = some (.loop (cLo st.heap.length H.length k s q)) := by rw [← hl]; exact cH_at _ _ _ _
  have put' : ∀ s', (cH st.heap.length H' k place x i' s q J').set (H.length + 4) (.loop (cLo st.heap.length H.length k s' q)) = cH st.heap.length H' k place x i' s' q J' := by
    intro s'; rw [← hl]; exact cH_put _ _ _ _ _ _
  rcases hq with ⟨rfl, rfl, rfl⟩ | ⟨rfl, rfl⟩
  · simp only [pst_heap, at', pst_putH]
    exact congrArg (fun x => some (Ex.normal, _, pst st x K')) (put' 3)
  · simp only [pst_heap, at', pst_putH]
    exact congrArg (fun x => some (_, _, pst st x K')) (put' 3)

theorem cut593 (hk : TextAt H k ps) (hps : Ps ps) (hpl : place ≤ 4096) : ∃ (H1 J : List HO) (K' : List Nat), Upd H k H1 ∧ TextAt H1 k (cutI ps place).2 ∧ (E tab).F 593 [.ptr (st.heap.length + k) 0, .int .i64 place] (pst st H K) = some (.int .i64 (cutI ps place).1, pst st (H1 ++ J) K') := by
  obtain ⟨J', H', K', i', s, q, hU, hT, hF, hq⟩ := all588 (st := st) (K := K) hk hps hpl
  rw [F_go at593 rfl, f593_body]
  have r1 : ∀ X j, rowAt (H' ++ X) (H.length + j) = rowAt X j := fun X j => by rw [← hU.1]; exact rowAt_right j
  have r0 : ∀ X, rowAt (H' ++ X) H.length = rowAt X 0 := fun X => r1 X 0
  have s1 : ∀ X j x, (H' ++ X).set (H.length + j) x = H' ++ X.set j x := fun X j x => by rw [← hU.1]; exact set_right j x
  have s0 : ∀ X x, (H' ++ X).set H.length x = H' ++ X.set 0 x := fun X x => s1 X 0 x
  rcases hq with ⟨rfl, rfl, rfl⟩ | ⟨rfl, rfl⟩
  · have hR := R593 (e := .normal) hU.1 (.inl ⟨rfl, rfl, rfl⟩) hF
    refine ⟨H', pv (st.heap.length + k) :: iv place :: iv (cutI ps place).1 :: iv (cutI ps place).1 :: .loop (cLo st.heap.length H'.length k 3 none) :: J', K', hU, hT, ?_⟩
    simp [hU.1, hR, cH, pv, iv, r1, r0, s1, s0, f593]
  · have hR := R593 (e := .ret) hU.1 (.inr ⟨rfl, rfl⟩) hF
    refine ⟨H', pv (st.heap.length + k) :: iv place :: iv (cutI ps place).1 :: iv i' :: .loop (cLo st.heap.length H'.length k 3 (some .ret)) :: J', K', hU, hT, ?_⟩
    simp [hU.1, hR, cH, pv, iv, r1, r0, s1, s0, f593]
end

theorem lw_take {w : LW} {xs : List Str} (hw : w.ok 1 xs) {k : Nat} (hk : k ≤ xs.length) :
    sliceD false 1 (.list w.t w.n w.tk w.nn (xs.map prt)) none (some (.int .i64 k)) (some (.int .i64 k)) = some (.list w.t w.n .tight w.nn ((xs.take k).map prt)) := by
  have h := slice_uu (n := 1) (en := w.n) (t := w.t) (tk := w.tk) (nn := w.nn) (xs := xs.map prt) (k := .i64) (k' := .i64) (hi := k) hw.1 (by omega) (by simp; omega)
  rw [h]; simp
theorem lw_drop {w : LW} {xs : List Str} (hw : w.ok 1 xs) {k : Nat} (hk : k ≤ xs.length) :
    ∃ tk', sliceD false 1 (.list w.t w.n w.tk w.nn (xs.map prt)) (some (.int .i64 k)) none none = some (.list w.t w.n tk' w.nn ((xs.drop k).map prt)) := by
  have h := slice_l (n := 1) (en := w.n) (t := w.t) (tk := w.tk) (nn := w.nn) (xs := xs.map prt) (k := .i64) (lo := k) hw.1 (by omega) (by simp; omega)
  rw [Int.toNat_natCast, ← List.map_drop] at h
  exact ⟨_, h⟩
theorem LW.ok.take {w : LW} {xs : List Str} (hw : w.ok 1 xs) (k : Nat) (tk : Tk) : LW.ok ⟨w.t, w.n, tk, w.nn⟩ 1 (xs.take k) := ⟨hw.1, fun h => by rw [hw.2 h]; simp⟩
theorem LW.ok.drop {w : LW} {xs : List Str} (hw : w.ok 1 xs) (k : Nat) (tk : Tk) : LW.ok ⟨w.t, w.n, tk, w.nn⟩ 1 (xs.drop k) := ⟨hw.1, fun h => by rw [hw.2 h]; simp⟩

theorem lw_app (st : St) (K : List Nat) {w0 w : LW} (ht : w0.tk = .tight) {xs ys : List Str} (h0 : w0.ok 1 xs) (h1 : w.ok 1 ys) (hl : xs.length + ys.length ≤ 10000) :
    ∃ (w' : LW) (K' : List Nat), w'.ok 1 (xs ++ ys) ∧ (w0.nn = true → w'.nn = true) ∧ ∀ H, appendD (pst st H K) 1 true 16 (.list w0.t w0.n .tight w0.nn (xs.map prt)) (.list w.t w.n w.tk w.nn (ys.map prt)) = some (.list w'.t w'.n w'.tk w'.nn ((xs ++ ys).map prt), pst st H K') := by
  by_cases hy : ys = []
  · subst hy
    refine ⟨w0, K, by simpa using h0, fun h => h, fun H => ?_⟩
    have hq : w.nn = false ∨ w.n = 1 := by
      cases e : w.nn with
      | false => exact .inl rfl
      | true => exact .inr (h1.1 e)
    rcases hq with e | e <;> simp [appendD, newsD, flat, ht, e]
  · have hnn : w.nn = true := by
      cases e : w.nn with
      | true => rfl
      | false => exact absurd (h1.2 e) hy
    have hn := h1.1 hnn
    refine ⟨⟨st.cur, 1, .own (st.toks.length + K.length) 0, true⟩, K ++ [0], ⟨fun _ => rfl, by simp⟩, fun _ => rfl, fun H => ?_⟩
    rw [hn, hnn, app_new (xs := xs.map prt) (ys := ys.map prt) (by cases e : w0.nn with | false => exact .inl rfl | true => exact .inr ⟨rfl, rfl, h0.1 e⟩) (by omega) (by simpa using hy) (fun y hy => ?_) (by simp [roomD]; omega) (by simp [roomD]; omega)]
    · simp
    · obtain ⟨s, _, rfl⟩ := List.mem_map.1 hy
      exact el_prt s

/-- What an insertion tells, and the pieces after it. -/
def insP (ps : List Str) (a : Int) (s : Str) : Nat × List Str :=
  if a < 0 ∨ tot ps < a then (5, ps)
  else if s.all mayC = false then (4, ps)
  else if 4096 - tot ps < s.length then (8, ps)
  else if s = [] then (0, ps)
  else (0, (cutI ps a.toNat).2.take (cutI ps a.toNat).1 ++ s :: (cutI ps a.toNat).2.drop (cutI ps a.toNat).1)

section
variable {st : St} {H : List HO} {K : List Nat} {k : Nat} {ps : List Str}

theorem ins581 (hk : TextAt H k ps) (hps : Ps ps) (a : Int) (s : Str) (hs : s.length ≤ 140737488355328) : ∃ (H' : List HO) (K' : List Nat), TextAt H' k (insP ps a s).2 ∧ (E tab).F 581 [.ptr (st.heap.length + k) 0, .int .i64 a, .str s] (pst st H K) = some (.int .i64 (insP ps a s).1, pst st H' K') := by
  have hN := none587 (st := st) (K := K) hk
  have hM := may586 s hs (pst st H K)
  have hT := hps.2
  obtain ⟨w, hw, hr⟩ := id hk
  unfold insP
  by_cases h1 : a < 0
  · refine ⟨H, K, by simp [h1, hk], ?_⟩
    rw [F_go at581 rfl]
    simp [f581, hN, hr, txC, h1]
  by_cases h2 : (tot ps : Int) < a
  · refine ⟨H, K, by simp [h1, h2, hk], ?_⟩
    rw [F_go at581 rfl]
    simp [f581, hN, hr, txC, h1, h2]
  rw [if_neg (by simp [h1, h2])]
  cases hm : s.all mayC with
  | false =>
    refine ⟨H, K, by simp [hk], ?_⟩
    rw [F_go at581 rfl]
    simp [f581, hN, hr, txC, h1, h2, hM, hm]
  | true =>
    have w1 : IntKind.i64.wrap (4096 - (tot ps : Int)) = 4096 - tot ps := i64w (by omega)
    by_cases h3 : 4096 - tot ps < s.length
    · refine ⟨H, K, by simp [hk, h3], ?_⟩
      rw [F_go at581 rfl]
      have h3' : (4096 - (tot ps : Int)) < s.length := by omega
      simp [f581, hN, hr, txC, h1, h2, hM, hm, w1, h3', h3]
    · have h3' : ¬ (4096 - (tot ps : Int)) < s.length := by omega
      by_cases h4 : s = []
      · subst h4
        refine ⟨H, K, by simp [hk], ?_⟩
        rw [F_go at581 rfl]
        simp at hM
        have h3'' : ¬ (4096 - (tot ps : Int)) < 0 := by omega
        simp [f581, hN, hr, txC, h1, h2, hM, w1, h3'']
      · have he2 : s.isEmpty = false := by simpa using h4
        have hl1 : tot ps ≤ 4096 := hT
        have ha : a.toNat ≤ tot ps := by omega
        have ea : ((a.toNat : Nat) : Int) = a := by omega
        obtain ⟨hp', hle, hf1, hf2⟩ := cutI_is hps ha
        obtain ⟨H1, J, K1, hU, hT1, hF⟩ := cut593 (st := st) (K := K) hk hps (place := a.toNat) (by omega)
        rw [ea] at hF
        have hlen := len_le_tot hp'.1
        have hlen2 := hp'.2
        generalize cutI ps a.toNat = c at *
        obtain ⟨i, qs⟩ := c
        simp only at *
        obtain ⟨wc, hw1, hr1⟩ := hT1
        have hk1 := rowAt_lt hr1
        have htot : tot qs = tot ps := by
          have := congrArg List.length (show (qs.take i).flatten ++ (qs.drop i).flatten = ps.flatten.take a.toNat ++ ps.flatten.drop a.toNat by rw [hf1, hf2])
          rwa [← List.flatten_append, List.take_append_drop, List.take_append_drop] at this
        obtain ⟨tkd, sl2⟩ := lw_drop hw1 hle
        have sl1 := lw_take hw1 hle
        obtain ⟨wA, KA, okA, nnA, a1⟩ := lw_app st K1 (w0 := ⟨st.cur, 1, .tight, true⟩) (w := ⟨wc.t, wc.n, tkd, wc.nn⟩) rfl (xs := [s]) (ys := qs.drop i) ⟨fun _ => rfl, by simp⟩ (hw1.drop _ _) (by simp; omega)
        obtain ⟨wB, KB, okB, _, a2⟩ := lw_app st KA (w0 := ⟨wc.t, wc.n, .tight, wc.nn⟩) (w := wA) rfl (xs := qs.take i) (ys := [s] ++ qs.drop i) (hw1.take _ _) okA (by simp; omega)
        have e1 : tot (qs.take i ++ s :: qs.drop i) = tot ps + s.length := by
          rw [← htot, tot_app, tot_cons]
          have : tot qs = tot (qs.take i) + tot (qs.drop i) := by rw [← tot_app, List.take_append_drop]
          omega
        have hr1' : ∀ X, rowAt (H1 ++ X) k = some (.plain, txC wc qs) := row_at hr1
        have wz : IntKind.i64.wrap ((tot ps : Int) + s.length) = tot ps + s.length := i64w (by omega)
        refine ⟨H1.set k (.cells .plain (txC wB (qs.take i ++ s :: qs.drop i))) ++ J, KB, ?_, ?_⟩
        · simp only [h3, h4, if_false]
          exact ⟨wB, by simpa using okB, row_at (rowAt_set hk1 _ _) _⟩
        rw [F_go at581 rfl]
        simp at a1 a2 sl1 sl2
        simp [f581, hN, hr, txC, h1, h2, hM, hm, w1, h3', h3, h4, he2, hF, hr1', htot, C_dregionN, S_cons, A_cons, K_cons, loudD, sl1, sl2, a1, a2, litp1 (.t 50) s, e1, wz, set_left hk1, rowAt_setl hk1, set_setl hk1, eqD]
end

/-- What taking out tells, and the pieces after it. -/
def delP (ps : List Str) (a n : Int) : Nat × List Str :=
  if a < 0 ∨ n < 0 ∨ tot ps < a ∨ tot ps - a < n then (5, ps)
  else if n = 0 then (0, ps)
  else
    (0, (cutI (cutI ps a.toNat).2 (a + n).toNat).2.take (cutI ps a.toNat).1 ++ (cutI (cutI ps a.toNat).2 (a + n).toNat).2.drop (cutI (cutI ps a.toNat).2 (a + n).toNat).1)

theorem cutAt_le : ∀ {ps : List Str} {n : Nat} {a b : List Str}, cutAt ps n = some (a, b) → a.length + b.length ≤ ps.length + 1
  | [], n, a, b, h => by cases h
  | p :: r, n, a, b, h => by
    unfold cutAt at h
    split at h
    · cases h; simp
    · split at h
      · cases h; simp; omega
      · simp only [Option.map_eq_some_iff] at h
        obtain ⟨⟨a', b'⟩, h, e⟩ := h
        cases e
        have := cutAt_le h
        simp; omega
theorem cutI_le (ps : List Str) (n : Nat) : (cutI ps n).2.length ≤ ps.length + 1 := by
  unfold cutI
  cases h : cutAt ps n with
  | none => simp
  | some ab => obtain ⟨a, b⟩ := ab; simpa using cutAt_le h

/-- A second cut behind the first leaves what is before the first. -/
theorem cut_far : ∀ {ps : List Str} {m : Nat} {i : Nat}, i ≤ ps.length → tot (ps.take i) ≤ m → (cutI ps m).2.take i = ps.take i
  | [], m, i, _, _ => by simp [cutI, cutAt]
  | p :: r, m, 0, _, _ => by simp
  | p :: r, m, i + 1, hi, hm => by
    simp only [List.length_cons, Nat.add_le_add_iff_right] at hi
    rw [List.take_succ_cons, tot_cons] at hm
    have ih := cut_far (ps := r) (m := m - p.length) (i := i) hi (by omega)
    by_cases h0 : m = 0
    · simp [cutI, cutAt, h0]
    · have h1 : ¬ m < p.length := by omega
      unfold cutI at ih ⊢
      simp only [cutAt, h0, h1, if_false]
      cases h : cutAt r (m - p.length) with
      | none => simp
      | some ab =>
        obtain ⟨a, b⟩ := ab
        rw [h] at ih
        simp only [Option.map_some, List.cons_append, List.take_succ_cons] at ih ⊢
        rw [ih]

section
variable {st : St} {H : List HO} {K : List Nat} {k : Nat} {ps : List Str}

theorem del582 (hk : TextAt H k ps) (hps : Ps ps) (a n : Int) (hb : (Lit.int .i64 a).wf = true) (hb' : (Lit.int .i64 n).wf = true) : ∃ (H' : List HO) (K' : List Nat), TextAt H' k (delP ps a n).2 ∧ (E tab).F 582 [.ptr (st.heap.length + k) 0, .int .i64 a, .int .i64 n] (pst st H K) = some (.int .i64 (delP ps a n).1, pst st H' K') := by
  have hN := none587 (st := st) (K := K) hk
  have hT := hps.2
  obtain ⟨w, hw, hr⟩ := id hk
  have ha := i64_of hb
  have hn := i64_of hb'
  unfold delP
  by_cases h1 : a < 0
  · refine ⟨H, K, by simp [h1, hk], ?_⟩
    rw [F_go at582 rfl]
    simp [f582, hN, hr, txC, h1]
  by_cases h2 : n < 0
  · refine ⟨H, K, by simp [h1, h2, hk], ?_⟩
    rw [F_go at582 rfl]
    simp [f582, hN, hr, txC, h1, h2]
  by_cases h3 : (tot ps : Int) < a
  · refine ⟨H, K, by simp [h1, h2, h3, hk], ?_⟩
    rw [F_go at582 rfl]
    simp [f582, hN, hr, txC, h1, h2, h3]
  have w1 : IntKind.i64.wrap ((tot ps : Int) - a) = tot ps - a := i64w (by omega)
  by_cases h4 : (tot ps : Int) - a < n
  · refine ⟨H, K, by simp [h1, h2, h3, h4, hk], ?_⟩
    rw [F_go at582 rfl]
    simp [f582, hN, hr, txC, h1, h2, h3, w1, h4]
  rw [if_neg (by simp only [h1, h2, h3, h4]; simp)]
  by_cases h5 : n = 0
  · subst h5
    refine ⟨H, K, by simp [hk], ?_⟩
    rw [F_go at582 rfl]
    simp [f582, hN, hr, txC, h1, h3, w1, h4]
  rw [if_neg h5]
  have hl1 : tot ps ≤ 4096 := hT
  have hna : a.toNat ≤ tot ps := by omega
  have ea : ((a.toNat : Nat) : Int) = a := by omega
  have eb : (((a + n).toNat : Nat) : Int) = a + n := by omega
  have w2 : IntKind.i64.wrap (a + n) = a + n := i64w (by omega)
  obtain ⟨hp', hle, hf1, hf2⟩ := cutI_is hps hna
  obtain ⟨H1, J, K1, hU, hT1, hF⟩ := cut593 (st := st) (K := K) hk hps (place := a.toNat) (by omega)
  rw [ea] at hF
  have ht2 : tot (cutI ps a.toNat).2 = tot ps := by
    have := congrArg List.length (show (((cutI ps a.toNat).2).take (cutI ps a.toNat).1).flatten ++ ((cutI ps a.toNat).2.drop (cutI ps a.toNat).1).flatten = ps.flatten.take a.toNat ++ ps.flatten.drop a.toNat by rw [hf1, hf2])
    rwa [← List.flatten_append, List.take_append_drop, List.take_append_drop] at this
  generalize cutI ps a.toNat = c at *
  obtain ⟨i, qs⟩ := c
  simp only at *
  have hnb : (a + n).toNat ≤ tot qs := by omega
  obtain ⟨hp2, hle2, hg1, hg2⟩ := cutI_is hp' hnb
  have hT1' : TextAt (H1 ++ J) k qs := let ⟨w, hw, hr⟩ := hT1; ⟨w, hw, row_at hr _⟩
  have hcl := cut_far (ps := qs) (m := (a + n).toNat) (i := i) hle (by
    have : tot (qs.take i) = a.toNat := by unfold tot; rw [hf1, List.length_take]; exact Nat.min_eq_left hna
    omega)
  obtain ⟨H2, J2, K2, hU2, hT2, hF2⟩ := cut593 (st := st) (K := K1) hT1' hp' (place := (a + n).toNat) (by omega)
  rw [eb] at hF2
  have ht3 : tot (cutI qs (a + n).toNat).2 = tot qs := by
    have := congrArg List.length (show (((cutI qs (a + n).toNat).2).take (cutI qs (a + n).toNat).1).flatten ++ ((cutI qs (a + n).toNat).2.drop (cutI qs (a + n).toNat).1).flatten = qs.flatten.take (a + n).toNat ++ qs.flatten.drop (a + n).toNat by rw [hg1, hg2])
    rwa [← List.flatten_append, List.take_append_drop, List.take_append_drop] at this
  have hlen := len_le_tot hp2.1
  have hlen2 := hp2.2
  generalize cutI qs (a + n).toNat = c at *
  obtain ⟨j, rs⟩ := c
  simp only at *
  obtain ⟨wc, hw1, hr1⟩ := hT2
  have hk1 := rowAt_lt hr1
  have hir : i ≤ rs.length := by
    have := congrArg List.length hcl
    simp at this; omega
  obtain ⟨tkd, sl2⟩ := lw_drop hw1 hle2
  have sl1 := lw_take hw1 hir
  obtain ⟨wA, KA, okA, nnA, a1⟩ := lw_app st K2 (w0 := ⟨wc.t, wc.n, .tight, wc.nn⟩) (w := ⟨wc.t, wc.n, tkd, wc.nn⟩) rfl (xs := rs.take i) (ys := rs.drop j) (hw1.take _ _) (hw1.drop _ _) (by simp; omega)
  have e1 : ((tot (rs.take i ++ rs.drop j) : Nat) : Int) = tot ps - n := by
    have q1 : tot (rs.take i) = a.toNat := by rw [hcl]; unfold tot; rw [hf1, List.length_take]; exact Nat.min_eq_left hna
    have q2 : tot (rs.drop j) = tot qs - (a + n).toNat := by unfold tot; rw [hg2, List.length_drop]
    rw [tot_app, q1, q2]; omega
  have hr1' : ∀ X, rowAt (H2 ++ X) k = some (.plain, txC wc rs) := row_at hr1
  have wz : IntKind.i64.wrap ((tot ps : Int) - n) = tot ps - n := i64w (by omega)
  refine ⟨H2.set k (.cells .plain (txC wA (rs.take i ++ rs.drop j))) ++ J2, KA, ⟨wA, okA, row_at (rowAt_set hk1 _ _) _⟩, ?_⟩
  rw [F_go at582 rfl]
  have et : tot rs = tot ps := by omega
  simp at a1 sl1 sl2
  simp [f582, hN, hr, txC, h1, h2, h3, h4, h5, w1, w2, hF, hF2, hr1', et, C_dregionN, S_cons, A_cons, K_cons, loudD, sl1, sl2, a1, e1, wz, set_left hk1, rowAt_setl hk1, set_setl hk1, eqD]
end

/-! strings.Builder -/
theorem at463 : tab 463 = some (.code f463) := by kernel_rfl
theorem at465 : tab 465 = some (.code f465) := by kernel_rfl
theorem at472 : tab 472 = some (.code f472) := by kernel_rfl
theorem at478 : tab 478 = some (.prim noEscapeD) := by kernel_rfl
theorem esc478 (v : DV) (st : St) : (E tab).F 478 [v] st = some (v, st) := by
  rw [EF]
  simp only [callFR, at478]
  rfl

def bV (s : Str) : List DV := s.map fun b => .int .u8 b.toNat
theorem bV_len (s : Str) : (bV s).length = s.length := by simp [bV]
theorem bytesR : ∀ s : Str, bytesOfR (bV s) = some s
  | [] => rfl
  | c :: r => by
    have h : (bV (c :: r)) = .int .u8 c.toNat :: bV r := rfl
    have hc : (c.toNat : Int) ≤ 255 := by have : c.toNat < 256 := c.toNat_lt; omega
    rw [h, bytesOfR, bytesR r]
    simp [hc]

/-- A builder lies there, and what was written to it. -/
def SB (N : Nat) (H : List HO) (k : Nat) (s : Str) : Prop :=
  ∃ p l, H[k]? = some (.cells (.typed 56) [p, l]) ∧ (p = .nilp ∨ p = .ptr (N + k) 0) ∧ ((s = [] ∧ l = .list 0 0 .no false []) ∨ (s ≠ [] ∧ ∃ j, j ≠ k ∧ H[j]? = some (.cells (.frz 5) (bV s)) ∧ l = .hsl 1 false (N + j) 0 s.length none))
/-- All but one row and the builders' bytes as it was. -/
def Kp (H : List HO) (k : Nat) (H' : List HO) : Prop := H.length ≤ H'.length ∧ ∀ j o, j ≠ k → H[j]? = some o → (∀ t vs, o ≠ .cells (.frz t) vs) → H'[j]? = some o
theorem Kp.refl (H : List HO) (k : Nat) : Kp H k H := ⟨Nat.le_refl _, fun _ _ _ h _ => h⟩
theorem Kp.trans {H H' H'' : List HO} {k : Nat} (h : Kp H k H') (h' : Kp H' k H'') : Kp H k H'' := ⟨Nat.le_trans h.1 h'.1, fun j o hj ho hn => h'.2 j o hj (h.2 j o hj ho hn) hn⟩
theorem Kp.app (H : List HO) (k : Nat) (X : List HO) : Kp H k (H ++ X) := ⟨by simp, fun j o _ h _ => by rw [List.getElem?_append_left (List.getElem?_eq_some_iff.1 h).1]; exact h⟩
theorem Kp.set (H : List HO) (k : Nat) (o : HO) : Kp H k (H.set k o) := ⟨by simp, fun j o' hj h _ => by rw [List.getElem?_set_ne (fun e => hj e.symm)]; exact h⟩
theorem Kp.row {H H' : List HO} {k j : Nat} {vs : List DV} (h : Kp H k H') (hj : j ≠ k) (hr : rowAt H j = some (.plain, vs)) : rowAt H' j = some (.plain, vs) := by
  unfold rowAt at hr
  split at hr
  · rename_i g vs' e
    simp only [Option.some.injEq, Prod.mk.injEq] at hr
    obtain ⟨rfl, rfl⟩ := hr
    have := h.2 j _ hj e (by intro t vs' e; injection e with e _; cases e)
    unfold rowAt; rw [this]
  · cases hr
theorem SB.app {N : Nat} {H : List HO} {k : Nat} {s : Str} (h : SB N H k s) (X : List HO) : SB N (H ++ X) k s := by
  obtain ⟨p, l, h1, h2, h3⟩ := h
  have e : ∀ {j : Nat} {o : HO}, H[j]? = some o → (H ++ X)[j]? = some o := fun h => by rw [List.getElem?_append_left (List.getElem?_eq_some_iff.1 h).1]; exact h
  refine ⟨p, l, e h1, h2, ?_⟩
  rcases h3 with h3 | ⟨h3, j, hj, h4, h5⟩
  · exact .inl h3
  · exact .inr ⟨h3, j, hj, e h4, h5⟩
theorem row_of {H : List HO} {k : Nat} {g : CK} {vs : List DV} (h : H[k]? = some (.cells g vs)) : rowAt H k = some (g, vs) := by unfold rowAt; rw [h]
theorem newSB (N : Nat) (H : List HO) : SB N (H ++ [.cells (.typed 56) [.nilp, .list 0 0 .no false []]]) H.length [] := ⟨_, _, by simp, .inl rfl, .inl ⟨rfl, rfl⟩⟩

section
variable {st : St} {H : List HO} {K : List Nat} {k : Nat} {s : Str}

theorem appB_nil {t n : Nat} {tk : Tk} {x : Str} (hx : x ≠ []) (hl : x.length ≤ 10000) : appendBD (pst st H K) 5 1 (.list t n tk false []) (.str x) = some (.hsl 1 false (st.heap.length + H.length) 0 x.length none, pst st (H ++ [.cells (.frz 5) (bV x)]) K) := by
  have hx0 : ¬ x.length = 0 := fun e => hx (List.length_eq_zero_iff.1 e)
  have hroom : x.length ≤ roomD := by simp [roomD]; omega
  simp [appendBD, newsD, hx0, hroom, bV]
  simp [pst]
theorem appB_own {j : Nat} {x : Str} (hx : x ≠ []) (hl : s.length + x.length ≤ 10000) (hj : H[j]? = some (.cells (.frz 5) (bV s))) : appendBD (pst st H K) 5 1 (.hsl 1 false (st.heap.length + j) 0 s.length none) (.str x) = some (.hsl 1 false (st.heap.length + H.length) 0 (s.length + x.length) none, pst st (H.set j .gone ++ [.cells (.frz 5) (bV (s ++ x))]) K) := by
  have hx0 : ¬ x.length = 0 := fun e => hx (List.length_eq_zero_iff.1 e)
  have hroom : s.length + x.length ≤ roomD := by simp [roomD]; omega
  simp [appendBD, newsD, hx0, hroom, row_of hj, bV_len]
  simp [pst, bV, List.set_append_right]
theorem copy472 {p l : DV} (h1 : H[k]? = some (.cells (.typed 56) [p, l])) (h2 : p = .nilp ∨ p = .ptr (st.heap.length + k) 0) :
    (E tab).F 472 [.ptr (st.heap.length + k) 0] (pst st H K) = some (.tuple [], pst st (H.set k (.cells (.typed 56) [.ptr (st.heap.length + k) 0, l])) K) := by
  have hr := row_of h1
  rw [F_go at472 rfl]
  rcases h2 with rfl | rfl
  · simp [f472, hr, eqD, convD, h1, esc478]
  · have e : H.set k (.cells (.typed 56) [.ptr (st.heap.length + k) 0, l]) = H := by
      obtain ⟨hk, h⟩ := List.getElem?_eq_some_iff.1 h1
      rw [← h, List.set_getElem_self]
    simp [f472, hr, eqD, e]

theorem write463 (h : SB st.heap.length H k s) (x : Str) (hx : x ≠ []) (hl : s.length + x.length ≤ 10000) :
    ∃ H', (E tab).F 463 [.ptr (st.heap.length + k) 0, .str x] (pst st H K) = some (.tuple [.int .i64 x.length, .niliface], pst st H' K) ∧ SB st.heap.length H' k (s ++ x) ∧ Kp H k H' := by
  obtain ⟨p, l, h1, h2, h3⟩ := h
  have hc := copy472 (K := K) h1 h2
  have hk := (List.getElem?_eq_some_iff.1 h1).1
  rcases h3 with ⟨rfl, rfl⟩ | ⟨hs, j, hj, h4, rfl⟩
  · refine ⟨H.set k (.cells (.typed 56) [.ptr (st.heap.length + k) 0, .hsl 1 false (st.heap.length + H.length) 0 x.length none]) ++ [.cells (.frz 5) (bV x)], ?_, ⟨.ptr (st.heap.length + k) 0, .hsl 1 false (st.heap.length + H.length) 0 x.length none, ?_, .inr rfl, .inr ⟨by simpa using hx, H.length, by omega, by simp, rfl⟩⟩, (Kp.set _ _ _).trans (Kp.app _ _ _)⟩
    · rw [F_go at463 rfl]
      have ha := appB_nil (st := st) (H := H.set k (.cells (.typed 56) [.ptr (st.heap.length + k) 0, .list 0 0 .no false []])) (K := K) (t := 0) (n := 0) (tk := .no) hx (by simpa using hl)
      rw [List.length_set] at ha
      simp [f463, hc, rowAt_set hk, ha, rowAt_setl hk, set_setl hk]
    · rw [List.getElem?_append_left (by simpa using hk), List.getElem?_set_self hk]
  · have hj' := (List.getElem?_eq_some_iff.1 h4).1
    refine ⟨(H.set k (.cells (.typed 56) [.ptr (st.heap.length + k) 0, .hsl 1 false (st.heap.length + H.length) 0 (s.length + x.length) none])).set j .gone ++ [.cells (.frz 5) (bV (s ++ x))], ?_, ⟨.ptr (st.heap.length + k) 0, .hsl 1 false (st.heap.length + H.length) 0 (s.length + x.length) none, ?_, .inr rfl, .inr ⟨by simp [hx], H.length, by omega, by simp, by simp⟩⟩, ?_⟩
    · rw [F_go at463 rfl]
      have ha := appB_own (st := st) (H := H.set k (.cells (.typed 56) [.ptr (st.heap.length + k) 0, .hsl 1 false (st.heap.length + j) 0 s.length none])) (K := K) (j := j) hx hl (by rw [List.getElem?_set_ne (fun e => hj e.symm), h4])
      rw [List.length_set, List.set_comm _ _ (fun e => hj e.symm)] at ha
      have hk2 : k < (H.set j .gone).length := by simpa using hk
      simp [f463, hc, rowAt_set hk, ha, rowAt_setl hk2, set_setl hk2]
      rw [List.set_comm _ _ hj]
    · rw [List.getElem?_append_left (by simpa using hk), List.getElem?_set_ne hj, List.getElem?_set_self hk]
    · refine ⟨by simp, fun i o hi ho hn => ?_⟩
      have hij : j ≠ i := by
        rintro rfl
        rw [h4] at ho
        injection ho with ho
        exact hn _ _ ho.symm
      rw [List.getElem?_append_left (by simpa using (List.getElem?_eq_some_iff.1 ho).1), List.getElem?_set_ne hij, List.getElem?_set_ne (fun e => hi e.symm)]
      exact ho
end

section
variable {st : St} {H : List HO} {K : List Nat} {k : Nat} {s : Str}
theorem string465 (h : SB st.heap.length H k s) (hl : s.length ≤ 10000) : (E tab).F 465 [.ptr (st.heap.length + k) 0] (pst st H K) = some (.str s, pst st H K) := by
  obtain ⟨p, l, h1, h2, h3⟩ := h
  have hr := row_of h1
  rw [F_go at465 rfl]
  rcases h3 with ⟨rfl, rfl⟩ | ⟨hs, j, hj, h4, rfl⟩
  · simp [f465, hr, sldataD, ustrD]
  · have h0 : 0 < s.length := List.length_pos_iff.2 hs
    have h0' : ¬ s.length = 0 := by omega
    have hroom : s.length ≤ roomD := by simp [roomD]; omega
    simp [f465, hr, sldataD, h0, ustrD, h0', row_of h4, hroom, bV_len, List.take_of_length_le, bytesR]
end

/-- A walk over all pieces, whoever looks at them. -/
theorem all_gen (st : St) (y : DV) (ps : List Str) (w : LW) (hw : w.ok 1 ps) (hps : Ps ps) (P : Nat → List HO → List Nat → Prop) (Q : List HO → List Nat → Prop)
    (hq : ∀ H K, P ps.length H K → Q H K)
    (step : ∀ i (hi : i < ps.length) H K, P i H K →
      (∃ H' K', (E tab).V y [.int .i64 (tot (ps.take i)), prt ps[i]] (pst st (H ++ [sv ps[i]]) K) = some (.bool true, pst st H' K') ∧ rowAt H' H.length = some (.plain, [.str ps[i]]) ∧ P (i + 1) H' K') ∨
      (∃ H' K', (E tab).V y [.int .i64 (tot (ps.take i)), prt ps[i]] (pst st (H ++ [sv ps[i]]) K) = some (.bool false, pst st H' K') ∧ Q H' K')) :
    ∀ n i H K, i + n = ps.length → P i H K → ∃ H' K', Q H' K' ∧
      ∃ e fr, ((e = .ret ∨ e = .exit 0) ∧ (E tab).C f588L0 [(1, y), (4, .int .i64 (tot (ps.take i))), (10, .list w.t w.n w.tk w.nn (ps.map prt)), (11, .int .i64 ps.length), (12, .int .i64 i)] (pst st H K) = some (e, fr, pst st H' K')) := by
  have hlen : ps.length ≤ 4096 := Nat.le_trans (len_le_tot hps.1) hps.2
  intro n
  induction n with
  | zero =>
    intro i H K hi hP
    have : i = ps.length := by omega
    subst this
    refine ⟨H, K, hq H K hP, .exit 0, ?_⟩
    rw [C_turn (L := f588L0) rfl]
    simp [f588B0]
  | succ n ih =>
    intro i H K hi hP
    have hi' : i < ps.length := by omega
    have hn1 := hw.n (by intro e; rw [e] at hi'; cases hi')
    have ht : tot (ps.take (i + 1)) = tot (ps.take i) + ps[i].length := by
      rw [List.take_succ_eq_append_getElem hi', tot_app]; simp [tot]
    have htl : tot (ps.take (i + 1)) ≤ 4096 := by
      have : tot ps = tot (ps.take (i + 1)) + tot (ps.drop (i + 1)) := by rw [← tot_app, List.take_append_drop]
      have := hps.2
      omega
    rcases step i hi' H K hP with ⟨H', K', hV, hr, hP'⟩ | ⟨H', K', hV, hQ⟩
    · obtain ⟨H2, K2, hQ, e, fr, he, hJ⟩ := ih (i + 1) H' K' (by omega) hP'
      refine ⟨H2, K2, hQ, e, fr, he, ?_⟩
      have w1 : IntKind.i64.wrap ((tot (ps.take i) : Int) + ps[i].length) = (tot (ps.take (i + 1)) : Nat) := by rw [i64w (by omega), ht]; simp
      have w2 : IntKind.i64.wrap ((i : Int) + 1) = (i + 1 : Nat) := by rw [i64w (by omega)]; simp
      rw [C_turn (L := f588L0) rfl]
      simp only [sv, prt] at hV
      simp [f588B0, hi', hn1, prt, hV, hr, w1, w2]
      simpa [hn1] using hJ
    · refine ⟨H', K', hQ, .ret, ?_⟩
      rw [C_turn (L := f588L0) rfl]
      simp only [sv, prt] at hV
      simp [f588B0, hi', hn1, prt, hV]

/-- The same, called. -/
theorem all_call (st : St) (y : DV) (ps : List Str) (hps : Ps ps) (P : Nat → List HO → List Nat → Prop) (Q : List HO → List Nat → Prop)
    (hq : ∀ H K, P ps.length H K → Q H K)
    (step : ∀ i (hi : i < ps.length) H K, P i H K →
      (∃ H' K', (E tab).V y [.int .i64 (tot (ps.take i)), prt ps[i]] (pst st (H ++ [sv ps[i]]) K) = some (.bool true, pst st H' K') ∧ rowAt H' H.length = some (.plain, [.str ps[i]]) ∧ P (i + 1) H' K') ∨
      (∃ H' K', (E tab).V y [.int .i64 (tot (ps.take i)), prt ps[i]] (pst st (H ++ [sv ps[i]]) K) = some (.bool false, pst st H' K') ∧ Q H' K'))
    {H : List HO} {K : List Nat} {k : Nat} (hk : TextAt H k ps) (hP : P 0 H K) :
    ∃ H' K', Q H' K' ∧ (E tab).F 588 [.ptr (st.heap.length + k) 0, y] (pst st H K) = some (.tuple [], pst st H' K') := by
  obtain ⟨w, hw, hr⟩ := hk
  obtain ⟨H', K', hQ, e, fr, he, hJ⟩ := all_gen st y ps w hw hps P Q hq step ps.length 0 H K (by omega) hP
  refine ⟨H', K', hQ, ?_⟩
  rw [F_go at588 rfl]
  simp [tot] at hJ
  rcases he with rfl | rfl <;> simp [f588, hr, txC, hJ]

variable {T : Tab}

def mkLo (fr : Fr) (params : List Nat) (assign body : RC) (s : Nat) (q : Option Ex) : LoopObj := ⟨fr, params, assign, body, s, q⟩

/-- What a client's turn tells. -/
def yT : Ex → Option Ex
  | .normal => none
  | e => some e

theorem V_client {st : St} {H H1 H2 : List HO} {K K1 K2 : List Nat} {k : Nat} {fr : Fr} {params : List Nat} {assign body : RC} {args : List DV} {fr1 : Fr} {e : Ex}
    (h : H[k]? = some (.loop (mkLo fr params assign body 0 none))) (hl : args.length = params.length)
    (hA : (E T).C assign (setParams fr params args) (pst st H K) = some (.normal, fr1, pst st H1 K1)) (h1 : H1[k]? = some (.loop (mkLo fr params assign body 0 none)))
    (hB : ∃ fr2, (E T).C body fr1 (pst st (H1.set k (.loop (mkLo fr params assign body 1 none))) K1) = some (e, fr2, pst st H2 K2)) (h2 : H2[k]? = some (.loop (mkLo fr params assign body 1 none))) :
    (E T).V (.yield (st.heap.length + k)) args (pst st H K) = some (.bool (yT e).isNone, pst st (H2.set k (.loop (mkLo fr params assign body (if (yT e).isNone then 0 else 2) (yT e)))) K2) := by
  obtain ⟨fr2, hB⟩ := hB
  rw [V_yield h hl]
  have e1 : (mkLo fr params assign body 0 none).assign = assign := rfl
  have e2 : (mkLo fr params assign body 0 none).params = params := rfl
  have e3 : (mkLo fr params assign body 0 none).fr = fr := rfl
  have e4 : (mkLo fr params assign body 0 none).state = 0 := rfl
  have hB1 : (E T).C (mkLo fr params assign body 0 none).body fr1 (pst st (H1.set k (.loop (mkLo fr params assign body 1 none))) K1) = some (e, fr2, pst st H2 K2) := hB
  rw [e1, e2, e3, hA]
  simp only [pst_heap, h1, e4, if_true, pst_putH]
  erw [hB1]
  cases e <;> simp only [pst_heap, h2, pst_putH] <;> rfl

theorem C_rfunc_pst {st : St} {H H' : List HO} {K K' : List Nat} {f : X} {params live : List Nat} {assign body : RC} {fr : Fr} {g : Nat} {first captured : List DV} {F : RFunc} {v : DV} {s : Nat} {q : Option Ex} (hf : f.ev (fr.keep live) = .fn g first captured) (hg : T g = some (.code F))
    (hF : (E T).F g (first ++ [.yield (st.heap.length + H.length)] ++ captured) (pst st (H ++ [.loop (mkLo (fr.keep live) params assign body 0 none)]) K) = some (v, pst st H' K'))
    (h2 : H'[H.length]? = some (.loop (mkLo (fr.keep live) params assign body s q))) (hs : s ≠ 1) :
    (E T).C (.rfunc f params assign body live) fr (pst st H K) = some (q.getD .normal, fr.keep live, pst st (H'.set H.length (.loop (mkLo (fr.keep live) params assign body 3 q))) K') := by
  rw [C_rfunc hf hg]
  have e1 : (pst st H K).heap.length = st.heap.length + H.length := by simp
  have e2 : (pst st H K).push (.loop (mkLo (fr.keep live) params assign body 0 none)) = pst st (H ++ [.loop (mkLo (fr.keep live) params assign body 0 none)]) K := by simp
  rw [e1]
  erw [e2]
  rw [hF]
  have e3 : (mkLo (fr.keep live) params assign body s q).state = s := rfl
  cases q with
  | none => simp only [pst_heap, h2, e3, hs, if_false, pst_putH]; rfl
  | some e => simp only [pst_heap, h2, e3, hs, if_false, pst_putH]; rfl

def f578A : RC := (.seq (.region f578r7 [4, 5, 8, 9, 35]) (.region f578r8 [4, 5, 8, 9, 10]))
def f578K : RC := (.block 2 (.seq (.seq (.region f578r9 [4, 5, 8, 9, 10, 38]) (.cond (.t 38) (.exit 1) .skip)) (.seq (.dregion f578r10 [] [] [8, 10, 11, 12]) (.seq (.region f578r11 [8, 10, 11, 12, 52]) (.cond (.t 52) (.region f578r12 []) .skip)))))
theorem f578_body : f578.body = (.seq (.region f578r0 [0, 4, 5]) (.seq (.block 0 (.seq (.region f578r1 [0, 4, 5, 13]) (.cond (.t 13) (.seq (.region f578r2 [6, 7]) .ret) (.seq (.dregion f578r3 [] [] [0, 4, 5, 16]) (.cond (.t 16) (.seq (.region f578r4 [6, 7]) .ret) .skip))))) (.seq (.region f578r5 [0, 4, 5, 8]) (.seq (.seq (.region f578r6 [4, 5, 8, 33]) (.block 1 (.rfunc (.t 33) [34, 35] f578A f578K [4, 5, 8, 33]))) (.seq (.region f578r13 [6, 7]) .ret))))) := rfl

def slFr (N h k : Nat) : Fr := [(4, .ptr (N + h) 0), (5, .ptr (N + (h + 1)) 0), (8, .ptr (N + (h + 2)) 0), (33, .fn 588 [.ptr (N + k) 0] [])]
abbrev slLo (N h k : Nat) (s : Nat) (q : Option Ex) : HO := .loop (mkLo (slFr N h k) [34, 35] f578A f578K s q)

structure SlS (N h k : Nat) (a b : Int) (ps : List Str) (bs : Str) (s : Nat) (q : Option Ex) (G : List HO) : Prop where
  r0 : rowAt G h = some (.plain, [.int .i64 a])
  r1 : rowAt G (h + 1) = some (.plain, [.int .i64 b])
  sb : SB N G (h + 2) bs
  lo : G[h + 3]? = some (slLo N h k s q)
  tx : TextAt G k ps
  hk : k < h

section
variable {N h k : Nat} {a b : Int} {ps : List Str} {bs bs' : Str} {s s' : Nat} {q q' : Option Ex} {G G' : List HO}
theorem TextAt.app (h : TextAt G k ps) (X : List HO) : TextAt (G ++ X) k ps := let ⟨w, hw, hr⟩ := h; ⟨w, hw, row_at hr X⟩
theorem SlS.app (h0 : SlS N h k a b ps bs s q G) (X : List HO) : SlS N h k a b ps bs s q (G ++ X) :=
  ⟨row_at h0.r0 X, row_at h0.r1 X, h0.sb.app X, by rw [List.getElem?_append_left (List.getElem?_eq_some_iff.1 h0.lo).1]; exact h0.lo, h0.tx.app X, h0.hk⟩
theorem rowAt_ne {j i : Nat} {o : HO} (h : j ≠ i) : rowAt (G.set i o) j = rowAt G j := by
  unfold rowAt; rw [List.getElem?_set_ne (fun e => h e.symm)]
theorem SB.set {i : Nat} {lo : LoopObj} {p : Nat} (h : SB N G p bs) (hi : i ≠ p) (hl : ∃ l, G[i]? = some (.loop l)) : SB N (G.set i (.loop lo)) p bs := by
  obtain ⟨p', l, h1, h2, h3⟩ := h
  refine ⟨p', l, by rw [List.getElem?_set_ne hi]; exact h1, h2, ?_⟩
  rcases h3 with h3 | ⟨h3, j, hj, h4, h5⟩
  · exact .inl h3
  · refine .inr ⟨h3, j, hj, ?_, h5⟩
    have : i ≠ j := by
      rintro rfl
      obtain ⟨l, hl⟩ := hl
      rw [hl] at h4; cases h4
    rw [List.getElem?_set_ne this]; exact h4
theorem SlS.put (h0 : SlS N h k a b ps bs s q G) (s' : Nat) (q' : Option Ex) : SlS N h k a b ps bs s' q' (G.set (h + 3) (slLo N h k s' q')) := by
  have hk := h0.hk
  refine ⟨by rw [rowAt_ne (by omega)]; exact h0.r0, by rw [rowAt_ne (by omega)]; exact h0.r1, h0.sb.set (by omega) ⟨_, h0.lo⟩, by rw [List.getElem?_set_self (List.getElem?_eq_some_iff.1 h0.lo).1], ?_, h0.hk⟩
  obtain ⟨w, hw, hr⟩ := h0.tx
  exact ⟨w, hw, by rw [rowAt_ne (by omega)]; exact hr⟩
theorem SlS.write (h0 : SlS N h k a b ps bs s q G) (hK : Kp G (h + 2) G') (hS : SB N G' (h + 2) bs') : SlS N h k a b ps bs' s q G' := by
  have hk := h0.hk
  refine ⟨hK.row (by omega) h0.r0, hK.row (by omega) h0.r1, hS, hK.2 _ _ (by omega) h0.lo (by intro t vs e; cases e), ?_, h0.hk⟩
  obtain ⟨w, hw, hr⟩ := h0.tx
  exact ⟨w, hw, hK.row (by omega) hr⟩
end

theorem fmax (k : IntKind) (x y : Int) : foldD max2D [.int k x, .int k y] = some (.int k (max x y)) := by
  have : (if y > x then y else x) = max x y := by split <;> omega
  simp [foldD, max2D, this]
theorem fmin (k : IntKind) (x y : Int) : foldD min2D [.int k x, .int k y] = some (.int k (min x y)) := by
  have : (if y < x then y else x) = min x y := by split <;> omega
  simp [foldD, min2D, this]

/-- The part that is asked for. -/
def part (x : Str) (a b : Nat) : Str := (x.take b).drop a
theorem part_app {X p : Str} {a b : Nat} (h : X.length ≤ b) : part (X ++ p) a b = part X a b ++ (p.drop (a - X.length)).take (min (b - X.length) p.length - (a - X.length)) := by
  unfold part
  rw [List.take_append, List.take_of_length_le h, List.drop_append, List.drop_take]
  congr 1
  by_cases h1 : b - X.length ≤ p.length
  · rw [Nat.min_eq_left h1]
  · rw [Nat.min_eq_right (by omega), List.take_of_length_le (by rw [List.length_drop]; omega), List.take_of_length_le (by rw [List.length_drop]; omega)]

section
variable {st : St} {H : List HO} {K : List Nat} {k h : Nat} {ps : List Str} {a b : Nat}

theorem sl_step (hps : Ps ps) (hb : b ≤ tot ps) (hab : a ≤ b) (i : Nat) (hi : i < ps.length) (G : List HO) (hG : SlS st.heap.length h k a b ps (part (ps.take i).flatten a b) 0 none G) :
    ∃ G', ((E tab).V (.yield (st.heap.length + (h + 3))) [.int .i64 (tot (ps.take i)), prt ps[i]] (pst st (G ++ [sv ps[i]]) K) = some (.bool true, pst st G' K) ∧ rowAt G' G.length = some (.plain, [.str ps[i]]) ∧ SlS st.heap.length h k a b ps (part (ps.take (i + 1)).flatten a b) 0 none G') ∨
      ((E tab).V (.yield (st.heap.length + (h + 3))) [.int .i64 (tot (ps.take i)), prt ps[i]] (pst st (G ++ [sv ps[i]]) K) = some (.bool false, pst st G' K) ∧ SlS st.heap.length h k a b ps (part ps.flatten a b) 2 (some (.exit 1)) G') := by
  have ht : tot (ps.take (i + 1)) = tot (ps.take i) + ps[i].length := by
    rw [List.take_succ_eq_append_getElem hi, tot_app]; simp [tot]
  have htt : tot ps = tot (ps.take (i + 1)) + tot (ps.drop (i + 1)) := by rw [← tot_app, List.take_append_drop]
  have h4096 := hps.2
  have hX : (ps.take i).flatten.length = tot (ps.take i) := rfl
  have hfl : (ps.take (i + 1)).flatten = (ps.take i).flatten ++ ps[i] := by rw [List.take_succ_eq_append_getElem hi, List.flatten_append, List.flatten_cons, List.flatten_nil, List.append_nil]
  generalize hp : ps[i] = p at *
  generalize ho : tot (ps.take i) = o at *
  -- the state in which the body begins
  have h1 : SlS st.heap.length h k a b ps (part (ps.take i).flatten a b) 0 none (G ++ [sv p] ++ [sv p]) := (hG.app _).app _
  have h2 := h1.put 1 none
  have hgl : h + 3 < G.length := (List.getElem?_eq_some_iff.1 hG.lo).1
  have q1 : rowAt ((G ++ [sv p] ++ [sv p]).set (h + 3) (slLo st.heap.length h k 1 none)) (G.length + 1) = some (.plain, [.str p]) := by
    rw [rowAt_ne (by omega)]; simp [rowAt, sv]
  have q0 : rowAt ((G ++ [sv p] ++ [sv p]).set (h + 3) (slLo st.heap.length h k 1 none)) G.length = some (.plain, [.str p]) := by
    rw [rowAt_ne (by omega)]; simp [rowAt, sv]
  have hA : (E tab).C f578A (setParams (slFr st.heap.length h k) [34, 35] [.int .i64 o, prt p]) (pst st (G ++ [sv p]) K) = some (.normal, [(4, .ptr (st.heap.length + h) 0), (5, .ptr (st.heap.length + (h + 1)) 0), (8, .ptr (st.heap.length + (h + 2)) 0), (9, .int .i64 o), (10, .ptr (st.heap.length + (G.length + 1)) 0)], pst st (G ++ [sv p] ++ [sv p]) K) := by
    simp [f578A, slFr, prt, sv]
  generalize hg : (G ++ [sv p] ++ [sv p]).set (h + 3) (slLo st.heap.length h k 1 none) = G1 at *
  have fin := fun (e : Ex) (G2 : List HO) (hB : ∃ fr2, (E tab).C f578K [(4, .ptr (st.heap.length + h) 0), (5, .ptr (st.heap.length + (h + 1)) 0), (8, .ptr (st.heap.length + (h + 2)) 0), (9, .int .i64 o), (10, .ptr (st.heap.length + (G.length + 1)) 0)] (pst st G1 K) = some (e, fr2, pst st G2 K)) (h3 : G2[h + 3]? = some (slLo st.heap.length h k 1 none)) =>
    V_client (T := tab) (st := st) (H := G ++ [sv p]) (K := K) (k := h + 3) (args := [.int .i64 o, prt p]) (e := e) (hG.app _).lo rfl hA h1.lo (by rw [hg]; exact hB) h3
  by_cases hbo : b ≤ o
  · have := fin (.exit 1) G1 (by simp [f578K, h2.r1, hbo]) h2.lo
    refine ⟨_, .inr ⟨this, ?_⟩⟩
    have hpt : part (ps.take i).flatten a b = part ps.flatten a b := by
      unfold part
      have e : ps.flatten = (ps.take i).flatten ++ (ps.drop i).flatten := by rw [← List.flatten_append, List.take_append_drop]
      rw [e, List.take_append_of_le_length (by omega)]
    rw [hpt] at h2
    exact h2.put 2 (some (.exit 1))
  · have hpa := part_app (X := (ps.take i).flatten) (p := p) (a := a) (b := b) (by omega)
    rw [hX] at hpa
    have w1 : IntKind.i64.wrap ((a : Int) - o) = a - o := i64w (by omega)
    have w2 : IntKind.i64.wrap ((b : Int) - o) = b - o := i64w (by omega)
    have fm1 := fmax .i64 ((a : Int) - o) 0
    have fm2 := fmin .i64 ((b : Int) - o) p.length
    by_cases hlt : max ((a : Int) - o) 0 < min ((b : Int) - o) p.length
    · have hlt2 : a - o < min (b - o) p.length := by omega
      have eF : (max ((a : Int) - o) 0) = ((a - o : Nat) : Int) := by omega
      have eT : (min ((b : Int) - o) (p.length : Int)) = ((min (b - o) p.length : Nat) : Int) := by omega
      have hsl := slice_ss (n := 1) (s := p) (k := .i64) (k' := .i64) (lo := ((a - o : Nat) : Int)) (hi := ((min (b - o) p.length : Nat) : Int)) (by omega) (by omega) (by omega)
      rw [Int.toNat_natCast, Int.toNat_natCast] at hsl
      have hxne : (p.drop (a - o)).take (min (b - o) p.length - (a - o)) ≠ [] := by
        intro e
        have := congrArg List.length e
        rw [List.length_take, List.length_drop] at this
        simp at this; omega
      have hpl : (part (ps.take i).flatten a b).length ≤ 4096 := by
        unfold part; rw [List.length_drop, List.length_take, hX]; omega
      obtain ⟨G2, hW, hS, hK⟩ := write463 (K := K) h2.sb _ hxne (by rw [List.length_take, List.length_drop]; omega)
      rw [← hpa, ← hfl] at hS
      have h3 := h2.write hK hS
      have q2 : rowAt G2 G.length = some (.plain, [.str p]) := hK.row (by omega) q0
      have hB : ∃ fr2, (E tab).C f578K [(4, .ptr (st.heap.length + h) 0), (5, .ptr (st.heap.length + (h + 1)) 0), (8, .ptr (st.heap.length + (h + 2)) 0), (9, .int .i64 o), (10, .ptr (st.heap.length + (G.length + 1)) 0)] (pst st G1 K) = some (.normal, fr2, pst st G2 K) := by
        rw [eF] at fm1
        rw [eT] at fm2
        have hlt3 : (((a - o : Nat) : Int)) < ((min (b - o) p.length : Nat) : Int) := by omega
        generalize a - o = x1 at *
        generalize min (b - o) p.length = x2 at *
        have hlt4 : x1 < x2 := by omega
        simp [f578K, h2.r0, h2.r1, hbo, q1, w1, w2, C_dregion0, fm1, fm2, hlt4, hsl, hW]
      have := fin .normal G2 hB h3.lo
      exact ⟨_, .inl ⟨this, by rw [rowAt_ne (by omega)]; exact q2, h3.put 0 none⟩⟩
    · have hB : ∃ fr2, (E tab).C f578K [(4, .ptr (st.heap.length + h) 0), (5, .ptr (st.heap.length + (h + 1)) 0), (8, .ptr (st.heap.length + (h + 2)) 0), (9, .int .i64 o), (10, .ptr (st.heap.length + (G.length + 1)) 0)] (pst st G1 K) = some (.normal, fr2, pst st G1 K) := by
        generalize max ((a : Int) - o) 0 = x1 at *
        generalize min ((b : Int) - o) (p.length : Int) = x2 at *
        simp [f578K, h2.r0, h2.r1, hbo, q1, w1, w2, C_dregion0, fm1, fm2, hlt]
      have := fin .normal G1 hB h2.lo
      have e0 : (p.drop (a - o)).take (min (b - o) p.length - (a - o)) = [] := by
        rw [show min (b - o) p.length - (a - o) = 0 by omega]; simp
      rw [e0, List.append_nil, ← hfl] at hpa
      rw [← hpa] at h2
      exact ⟨_, .inl ⟨this, by rw [rowAt_ne (by omega)]; exact q0, h2.put 0 none⟩⟩
end

section
variable {st : St} {H : List HO} {K : List Nat} {k : Nat} {ps : List Str}

theorem sl_all (hk : TextAt H k ps) (hps : Ps ps) {a b : Nat} (hb : b ≤ tot ps) (hab : a ≤ b) (h : Nat) (hh : h = H.length) (hkh : k < h) :
    ∃ G s q, (s ≠ 1 ∧ (q = none ∨ q = some (.exit 1))) ∧ SlS st.heap.length h k a b ps (part ps.flatten a b) s q G ∧
      (E tab).F 588 [.ptr (st.heap.length + k) 0, .yield (st.heap.length + (h + 3))] (pst st (H ++ [iv a, iv b, .cells (.typed 56) [.nilp, .list 0 0 .no false []], slLo st.heap.length h k 0 none]) K) = some (.tuple [], pst st G K) := by
  have h0 : SlS st.heap.length h k a b ps (part (ps.take 0).flatten a b) 0 none (H ++ [iv a, iv b, .cells (.typed 56) [.nilp, .list 0 0 .no false []], slLo st.heap.length h k 0 none]) := by
    subst hh
    refine ⟨by rw [show H.length = H.length + 0 from rfl, rowAt_right]; rfl, by rw [rowAt_right]; rfl, ⟨.nilp, .list 0 0 .no false [], by simp, .inl rfl, .inl ⟨by simp [part], rfl⟩⟩, by simp, hk.app _, hkh⟩
  obtain ⟨G, K', ⟨rfl, s, q, hs, hG⟩, hF⟩ := all_call st (.yield (st.heap.length + (h + 3))) ps hps
    (fun i G K' => K' = K ∧ SlS st.heap.length h k a b ps (part (ps.take i).flatten a b) 0 none G)
    (fun G K' => K' = K ∧ ∃ s q, (s ≠ 1 ∧ (q = none ∨ q = some (.exit 1))) ∧ SlS st.heap.length h k a b ps (part ps.flatten a b) s q G)
    (by
      rintro G K' ⟨rfl, hG⟩
      rw [List.take_length] at hG
      exact ⟨rfl, 0, none, ⟨by omega, .inl rfl⟩, hG⟩)
    (by
      rintro i hi G K' ⟨rfl, hG⟩
      obtain ⟨G', hV | hV⟩ := sl_step (K := K') hps hb hab i hi G hG
      · exact .inl ⟨G', K', hV.1, hV.2.1, rfl, hV.2.2⟩
      · exact .inr ⟨G', K', hV.1, rfl, 2, some (.exit 1), ⟨by omega, .inr rfl⟩, hV.2⟩)
    (hk.app _) ⟨rfl, h0⟩
  exact ⟨G, s, q, hs, hG, hF⟩

/-- What a part tells. -/
def slP (ps : List Str) (a b : Int) : Str × Nat := if a < 0 ∨ b < a ∨ tot ps < b then ([], 5) else (part ps.flatten a.toNat b.toNat, 0)

theorem slice578 (hk : TextAt H k ps) (hps : Ps ps) (a b : Int) : ∃ G, TextAt G k ps ∧ (E tab).F 578 [.ptr (st.heap.length + k) 0, .int .i64 a, .int .i64 b] (pst st H K) = some (.tuple [.str (slP ps a b).1, .int .i64 (slP ps a b).2], pst st G K) := by
  have hN := none587 (st := st) (K := K) (hk.app [.cells .plain [.int .i64 a], .cells .plain [.int .i64 b]])
  have hkl : k < H.length := let ⟨_, _, h⟩ := hk; rowAt_lt h
  have hT := hps.2
  obtain ⟨w, hw, hr⟩ := id hk
  have hr' : ∀ X, rowAt (H ++ X) k = some (.plain, txC w ps) := row_at hr
  unfold slP
  by_cases h1 : a < 0
  · refine ⟨H ++ [.cells .plain [.int .i64 a], .cells .plain [.int .i64 b]], hk.app _, ?_⟩
    rw [F_go at578 rfl, f578_body]
    simp [hN, hr', txC, h1, C_dregion0, f578]
  by_cases h2 : b < a
  · refine ⟨H ++ [.cells .plain [.int .i64 a], .cells .plain [.int .i64 b]], hk.app _, ?_⟩
    rw [F_go at578 rfl, f578_body]
    simp [hN, hr', txC, h1, h2, C_dregion0, f578]
  by_cases h3 : (tot ps : Int) < b
  · refine ⟨H ++ [.cells .plain [.int .i64 a], .cells .plain [.int .i64 b]], hk.app _, ?_⟩
    rw [F_go at578 rfl, f578_body]
    simp [hN, hr', txC, h1, h2, h3, C_dregion0, f578]
  rw [if_neg (by simp only [h1, h2, h3]; simp)]
  obtain ⟨G, s, q, ⟨hs, hq⟩, hG, hF⟩ := sl_all (st := st) (K := K) hk hps (a := a.toNat) (b := b.toNat) (by omega) (by omega) H.length rfl hkl
  have ea : ((a.toNat : Nat) : Int) = a := by omega
  have eb : ((b.toNat : Nat) : Int) = b := by omega
  rw [ea, eb] at hF
  have hR := C_rfunc_pst (T := tab) (f := .t 33) (params := [34, 35]) (live := [4, 5, 8, 33]) (assign := f578A) (body := f578K) (fr := slFr st.heap.length H.length k) (st := st) (H := H ++ [iv a, iv b, .cells (.typed 56) [.nilp, .list 0 0 .no false []]]) (K := K) (K' := K) (g := 588) (first := [.ptr (st.heap.length + k) 0]) (captured := []) (by rfl) at588 (v := .tuple []) (H' := G) (s := s) (q := q) (by simpa [slLo, slFr] using hF) (by simpa [slLo, slFr] using hG.lo) hs
  have h4 := hG.put 3 q
  have hl : (H ++ [iv a, iv b, HO.cells (.typed 56) [.nilp, .list 0 0 .no false []]]).length = H.length + 3 := by simp
  rw [hl] at hR
  have e1 : (slFr st.heap.length H.length k).keep [4, 5, 8, 33] = slFr st.heap.length H.length k := by rfl
  rw [e1] at hR
  have hpl : (part ps.flatten a.toNat b.toNat).length ≤ 10000 := by
    unfold part
    have : ps.flatten.length ≤ 4096 := hT
    rw [List.length_drop, List.length_take]; omega
  have hS := string465 (K := K) h4.sb hpl
  refine ⟨G.set (H.length + 3) (slLo st.heap.length H.length k 3 q), h4.tx, ?_⟩
  generalize hX : G.set (H.length + 3) (slLo st.heap.length H.length k 3 q) = X at *
  have hR' : (E tab).C (.rfunc (.t 33) [34, 35] f578A f578K [4, 5, 8, 33]) [(4, .ptr (st.heap.length + H.length) 0), (5, .ptr (st.heap.length + (H.length + 1)) 0), (8, .ptr (st.heap.length + (H.length + 2)) 0), (33, .fn 588 [.ptr (st.heap.length + k) 0] [])] (pst st (H ++ [.cells .plain [.int .i64 a], .cells .plain [.int .i64 b], .cells (.typed 56) [.nilp, .list 0 0 .no false []]]) K) = some (q.getD .normal, [(4, .ptr (st.heap.length + H.length) 0), (5, .ptr (st.heap.length + (H.length + 1)) 0), (8, .ptr (st.heap.length + (H.length + 2)) 0), (33, .fn 588 [.ptr (st.heap.length + k) 0] [])], pst st X K) := by
    exact hR
  rw [F_go at578 rfl, f578_body]
  rcases hq with rfl | rfl <;>
  simp [hN, hr', txC, h1, h2, h3, C_dregion0, f578, hR', hS]

theorem whole594 (hk : TextAt H k ps) (hps : Ps ps) : ∃ G, TextAt G k ps ∧ (E tab).F 594 [.ptr (st.heap.length + k) 0] (pst st H K) = some (.str ps.flatten, pst st G K) := by
  obtain ⟨G, hG, hF⟩ := slice578 (st := st) (K := K) hk hps 0 (tot ps)
  have hL := len601 (st := st) (K := K) hk
  have e : slP ps 0 (tot ps) = (ps.flatten, 0) := by
    unfold slP
    rw [if_neg (by omega)]
    simp only [part]
    rw [show ((tot ps : Nat) : Int).toNat = ps.flatten.length from rfl]
    simp only [Int.toNat_zero, List.drop_zero]
    rw [List.take_length]
  rw [e] at hF
  refine ⟨G, hG, ?_⟩
  rw [F_go at594 rfl]
  simp [f594, hL, hF]
end

theorem at580 : tab 580 = some (.code f580) := by kernel_rfl
theorem at589 : tab 589 = some (.code f589) := by kernel_rfl
theorem at591 : tab 591 = some (.code f591) := by kernel_rfl
theorem at592 : tab 592 = some (.code f592) := by kernel_rfl
theorem at598 : tab 598 = some (.code f598) := by kernel_rfl
theorem at600 : tab 600 = some (.code f600) := by kernel_rfl
theorem at602 : tab 602 = some (.prim (makeNoZeroD 5)) := by kernel_rfl

theorem pure602 : isPure tab 602 = false := by kernel_rfl
theorem wz : IntKind.i64.wrap 0 = 0 := by decide

theorem u64w {m : Nat} (h : m < 18446744073709551616) : IntKind.u64.wrap (m : Int) = m := by
  simp [IntKind.wrap, IntKind.bits, IntKind.signed]
  omega
theorem and32 {m : Nat} (h : m < 4294967296) : bitsD .and .u64 (m : Int) 4294967295 = some (m : Int) := by
  have e1 : (BitVec.ofInt IntKind.u64.bits (m : Int) &&& BitVec.ofInt IntKind.u64.bits 4294967295).toNat = m := by
    have h64 : IntKind.u64.bits = 64 := rfl
    rw [h64]
    rw [BitVec.toNat_and]
    have a1 : (BitVec.ofInt 64 (m : Int)).toNat = m := by simp [BitVec.toNat_ofInt]; omega
    have a2 : (BitVec.ofInt 64 4294967295).toNat = 2 ^ 32 - 1 := by decide
    rw [a1, a2, Nat.and_two_pow_sub_one_eq_mod]
    omega
  simp only [bitsD, e1, u64w (show m < 18446744073709551616 by omega)]
theorem shr32 {m : Nat} (h : m < 4294967296) : shiftD .shr .u64 (m : Int) 32 = some (.int .u64 0) := by
  have : (m : Int).fdiv (2 ^ (min (32 : Int).toNat IntKind.u64.bits)) = 0 := by
    rw [show min (32 : Int).toNat IntKind.u64.bits = 32 from rfl, Int.fdiv_eq_ediv_of_nonneg _ (by decide)]
    omega
  simp [shiftD]
  exact this

theorem shrB {m : Nat} (h : m < 4294967296) : binD .shr (.int .u64 (m : Int)) (.int .u64 32) = some (.int .u64 0) := shr32 h

theorem mul598 (m : Nat) (h : m ≤ 5000) (st : St) : (E tab).F 598 [.int .u64 1, .int .u64 m] st = some (.tuple [.int .u64 0, .int .u64 m], st) := by
  rw [F_run at598 rfl]
  have a1 := and32 (m := 1) (by omega)
  have a2 := and32 (m := m) (by omega)
  have a0 := and32 (m := 0) (by omega)
  have s1 := shrB (m := 1) (by omega)
  have s2 := shrB (m := m) (by omega)
  have s0 := shrB (m := 0) (by omega)
  have w := u64w (m := m) (by omega)
  have w0 := u64w (m := 0) (by omega)
  simp at a0 a1 s0 s1 w0
  simp [f598, a1, a2, a0, s1, s2, s0, w, w0]
theorem mul589 (m : Nat) (h : m ≤ 5000) (st : St) : (E tab).F 589 [.int .u64 1, .int .u64 m] st = some (.tuple [.int .u64 0, .int .u64 m], st) := by
  rw [F_run at589 rfl]
  simp [f589, mul598 m h]

section
variable {st : St} {H : List HO} {K : List Nat} {k : Nat}
theorem make602 (n : Nat) (hn : n ≤ 140737488355328) : (E tab).F 602 [.int .i64 n] (pst st H K) = some (.hsl 1 false (st.heap.length + H.length) 0 n none, pst st (H ++ [.cells (.frz 5) []]) K) := by
  rw [EF]
  simp only [callFR, at602]
  have : (n : Int) ≤ 140737488355328 := by omega
  simp [makeNoZeroD, this]

theorem grow600 {p : DV} {n : Nat} (h1 : H[k]? = some (.cells (.typed 56) [p, .list 0 0 .no false []])) (hn : n ≤ 5000) :
    (E tab).F 600 [.ptr (st.heap.length + k) 0, .int .i64 n] (pst st H K) = some (.tuple [], pst st (H.set k (.cells (.typed 56) [p, .hsl 1 false (st.heap.length + H.length) 0 0 none]) ++ [.cells (.frz 5) []]) K) := by
  have hr := row_of h1
  have hk := rowAt_lt hr
  have hm := make602 (st := st) (H := H) (K := K) n (by omega)
  have w1 : IntKind.i64.wrap (n : Int) = n := i64w (by omega)
  rw [F_go at600 rfl]
  simp [f600, C_dregionN, S_cons, A_cons, K_cons, loudD, hr, hm, w1, row_at hr, pure602, wz, copyD, newsD, sliceD, bnd, set_left hk]
theorem grow591 {p : DV} {n : Nat} (h1 : H[k]? = some (.cells (.typed 56) [p, .list 0 0 .no false []])) (h2 : p = .nilp ∨ p = .ptr (st.heap.length + k) 0) (hn : n ≤ 5000) (hn1 : 1 ≤ n) :
    (E tab).F 591 [.ptr (st.heap.length + k) 0, .int .i64 n] (pst st H K) = some (.tuple [], pst st (H.set k (.cells (.typed 56) [.ptr (st.heap.length + k) 0, .hsl 1 false (st.heap.length + H.length) 0 0 none]) ++ [.cells (.frz 5) []]) K) := by
  have hc := copy472 (K := K) h1 h2
  have hk := rowAt_lt (row_of h1)
  have hg := grow600 (st := st) (H := H.set k (.cells (.typed 56) [.ptr (st.heap.length + k) 0, .list 0 0 .no false []])) (K := K) (k := k) (p := .ptr (st.heap.length + k) 0) (n := n) (by rw [List.getElem?_set_self hk]) hn
  rw [List.length_set, List.set_set] at hg
  have hn0 : ¬ (n : Int) < 0 := by omega
  rw [F_go at591 rfl]
  simp [f591, hc, hg, C_dregion0, rowAt_set hk, hn0, wz, show 0 < n by omega]
end

/-- A builder that has grown. -/
def SBg (N : Nat) (H : List HO) (k : Nat) (s : Str) : Prop :=
  ∃ p j, H[k]? = some (.cells (.typed 56) [p, .hsl 1 false (N + j) 0 s.length none]) ∧ (p = .nilp ∨ p = .ptr (N + k) 0) ∧ j ≠ k ∧ H[j]? = some (.cells (.frz 5) (bV s))

section
variable {st : St} {H : List HO} {K : List Nat} {k : Nat} {s : Str}
theorem gwrite463 (h : SBg st.heap.length H k s) (x : Str) (hx : x ≠ []) (hl : s.length + x.length ≤ 10000) :
    ∃ H', (E tab).F 463 [.ptr (st.heap.length + k) 0, .str x] (pst st H K) = some (.tuple [.int .i64 x.length, .niliface], pst st H' K) ∧ SBg st.heap.length H' k (s ++ x) := by
  obtain ⟨p, j, h1, h2, hj, h4⟩ := h
  have hc := copy472 (K := K) h1 h2
  have hk := (List.getElem?_eq_some_iff.1 h1).1
  have hj' := (List.getElem?_eq_some_iff.1 h4).1
  refine ⟨(H.set k (.cells (.typed 56) [.ptr (st.heap.length + k) 0, .hsl 1 false (st.heap.length + H.length) 0 (s.length + x.length) none])).set j .gone ++ [.cells (.frz 5) (bV (s ++ x))], ?_, ⟨.ptr (st.heap.length + k) 0, H.length, ?_, .inr rfl, by omega, by simp⟩⟩
  · rw [F_go at463 rfl]
    have ha := appB_own (st := st) (H := H.set k (.cells (.typed 56) [.ptr (st.heap.length + k) 0, .hsl 1 false (st.heap.length + j) 0 s.length none])) (K := K) (j := j) hx hl (by rw [List.getElem?_set_ne (fun e => hj e.symm), h4])
    rw [List.length_set, List.set_comm _ _ (fun e => hj e.symm)] at ha
    have hk2 : k < (H.set j .gone).length := by simpa using hk
    simp [f463, hc, rowAt_set hk, ha, rowAt_setl hk2, set_setl hk2]
    rw [List.set_comm _ _ hj]
  · rw [List.getElem?_append_left (by simpa using hk), List.getElem?_set_ne hj, List.getElem?_set_self hk, List.length_append]
theorem gstring465 (h : SBg st.heap.length H k s) (hs : s ≠ []) (hl : s.length ≤ 10000) : (E tab).F 465 [.ptr (st.heap.length + k) 0] (pst st H K) = some (.str s, pst st H K) := by
  obtain ⟨p, j, h1, h2, hj, h4⟩ := h
  have hr := row_of h1
  rw [F_go at465 rfl]
  have h0 : 0 < s.length := List.length_pos_iff.2 hs
  have h0' : ¬ s.length = 0 := by omega
  have hroom : s.length ≤ roomD := by simp [roomD]; omega
  simp [f465, hr, sldataD, h0, ustrD, h0', row_of h4, hroom, bV_len, List.take_of_length_le, bytesR]
theorem glen592 (h : SBg st.heap.length H k s) : (E tab).F 592 [.ptr (st.heap.length + k) 0] (pst st H K) = some (.int .i64 s.length, pst st H K) := by
  obtain ⟨p, j, h1, h2, hj, h4⟩ := h
  have hr := row_of h1
  rw [F_go at592 rfl]
  simp [f592, hr]
end

theorem fmin3 (k : IntKind) (x y z : Int) : foldD min2D [.int k x, .int k y, .int k z] = some (.int k (min (min x y) z)) := by
  have e1 : (if y < x then y else x) = min x y := by split <;> omega
  have e2 : (if z < min x y then z else min x y) = min (min x y) z := by split <;> omega
  simp [foldD, min2D, e1, e2]

section
variable {st : St}
theorem L580_0 (c : UInt8) (n : Nat) (hn : n ≤ 5000) (K : List Nat) : ∀ (d m : Nat) (H : List HO), n = m + d → 1 ≤ m → SBg st.heap.length H 0 (List.replicate m c) →
    ∃ H', SBg st.heap.length H' 0 (List.replicate n c) ∧ (E tab).C f580L0 [(7, .int .i64 n), (8, .int .i64 n), (9, .ptr st.heap.length 0)] (pst st H K) = some (.exit 3, [(7, .int .i64 n), (8, .int .i64 n), (9, .ptr st.heap.length 0), (113, .bool false)], pst st H' K) := by
  intro d
  induction d using Nat.strongRecOn with
  | _ d ih =>
    intro m H hd hm hS
    have hL := glen592 (K := K) hS
    have hG := gstring465 (K := K) hS (by intro e; have := congrArg List.length e; simp at this; omega) (by simp; omega)
    simp at hL hG
    by_cases h0 : d = 0
    · subst h0
      have e : n = m := by omega
      subst e
      refine ⟨H, hS, ?_⟩
      rw [C_turn (L := f580L0) rfl]
      simp [f580B0, hL]
    · have hlt : m < n := by omega
      have w1 : IntKind.i64.wrap ((n : Int) - m) = n - m := i64w (by omega)
      have fm := fmin3 .i64 ((n : Int) - m) m n
      have e : min (min ((n : Int) - m) m) n = ((min d m : Nat) : Int) := by omega
      rw [e] at fm
      have hc1 : 1 ≤ min d m := by omega
      have hc2 : min d m ≤ m := by omega
      have hc3 : min d m ≤ d := by omega
      generalize min d m = q at *
      have hsl := slice_su (n := 1) (s := List.replicate m c) (k := .i64) (hi := (q : Int)) (by omega) (by simp; omega)
      have ht : (List.replicate m c).take q = List.replicate q c := by rw [List.take_replicate, Nat.min_eq_left hc2]
      rw [Int.toNat_natCast, ht] at hsl
      obtain ⟨H1, hW, hS1⟩ := gwrite463 (K := K) hS (List.replicate q c) (by intro e; have := congrArg List.length e; simp at this; omega) (by simp; omega)
      rw [List.replicate_append_replicate] at hS1
      obtain ⟨H2, hS2, hJ⟩ := ih (d - q) (by omega) (m + q) H1 (by omega) (by omega) hS1
      refine ⟨H2, hS2, ?_⟩
      simp at hW
      rw [C_turn (L := f580L0) rfl]
      simp [f580B0, hL, hlt, hG, w1, fm, hsl, hW, hJ]

theorem rep580 (c : UInt8) (hc : c = 97 ∨ c = 98) (n : Nat) (hn : n ≤ 5000) : (E tab).F 580 [.str [c], .int .i64 n] st = some (.str (List.replicate n c), st) := by
  rw [F_run at580 rfl]
  by_cases h0 : n = 0
  · subst h0; simp [f580]
  by_cases h1 : n = 1
  · subst h1; simp [f580]
  have h0' : ¬ (n : Int) = 0 := by omega
  have h1' : ¬ (n : Int) = 1 := by omega
  have hm := mul589 n hn
  have hu : IntKind.u64.wrap (n : Int) = n := u64w (by omega)
  have hi : IntKind.i64.wrap (n : Int) = n := i64w (by omega)
  have hg := grow591 (st := st) (H := [.cells (.typed 56) [.nilp, .list 0 0 .no false []]]) (K := []) (k := 0) (p := .nilp) (n := n) (by simp) (.inl rfl) hn (by omega)
  have hS0 : SBg st.heap.length [.cells (.typed 56) [.ptr st.heap.length 0, .hsl 1 false (st.heap.length + 1) 0 0 none], .cells (.frz 5) []] 0 [] := ⟨_, 1, rfl, .inr rfl, by omega, rfl⟩
  obtain ⟨H1, hW, hS1⟩ := gwrite463 (K := []) hS0 [c] (by simp) (by simp)
  obtain ⟨H2, hS2, hJ⟩ := L580_0 (st := st) c n hn [] (n - 1) 1 H1 (by omega) (by omega) hS1
  have hG := gstring465 (K := []) hS2 (by intro e; have := congrArg List.length e; simp at this; omega) (by simp; omega)
  simp at hg hW hG
  have b1 : ¬ (9223372036854775807 : Int) < n := by omega
  have b2 : ¬ (8192 : Int) < n := by omega
  have b3 : ¬ 9223372036854775807 < n := by omega
  have b4 : ¬ 8192 < n := by omega
  have u1 : IntKind.u64.wrap 1 = 1 := by decide
  have b0 : ¬ (n : Int) < 0 := by omega
  rcases hc with rfl | rfl
  · simp [f580, h0, h1, h0', h1', hm, hu, hi, hg, hW, hJ, hG, b0, b1, b2, b3, b4, u1]
  · simp [f580, h0, h1, h0', h1', hm, hu, hi, hg, hW, hJ, hG, b0, b1, b2, b3, b4, u1]
end

/-- How a stretch of code ends, run by the kernel: it tells true. -/
noncomputable def tellsC (T : Tab) (n : Nat) (c : RC) (fr : Fr) (st : St) : Bool :=
  match (fastK T n).C c fr st with
  | some (.ret, fr', _) => DV.beq (fr'.get 0) (.bool true)
  | _ => false
theorem C_tells {T : Tab} {n : Nat} {c : RC} {fr : Fr} {st : St} (h : tellsC T n c fr st = true) : ∃ fr' st', (E T).C c fr st = some (.ret, fr', st') ∧ fr'.get 0 = .bool true := by
  unfold tellsC at h
  rw [fastK_eq] at h
  cases hr : (fastR T n).C c fr st with
  | none => rw [hr] at h; cases h
  | some p =>
    obtain ⟨e, fr', st'⟩ := p
    rw [hr] at h
    cases e with
    | ret => exact ⟨fr', st', ev_const ((fast_E T n).C _ _ _ _ hr), DV.beq_eq _ _ h⟩
    | normal => cases h
    | exit i => cases h

theorem at579 : tab 579 = some (.code f579) := by kernel_rfl
theorem at576 : tab 576 = some (.code f576) := by kernel_rfl

def f576S : RC := (.seq (.region f576r7 [1, 9]) (.seq (.region f576r8 [0]) .ret))
theorem f576_body : f576.body = (.seq (.region f576r0 []) (.seq (.region f576r1 [1]) (.seq (.seq (.region f576r2 [1, 15]) (.cond (.t 15) (.seq (.region f576r3 [0]) .ret) .skip)) (.seq (.region f576r4 [1, 4]) (.seq (.region f576r5 [1, 4, 6]) (.seq (.region f576r6 [1, 4, 6, 8]) f576S)))))) := rfl

def adH : List HO := [newO st0 [97, 100], .cells .plain [.int .i64 2], .cells .plain [.int .i64 1]]
theorem tail_runs : tellsC tab 100000 f576S [(1, .ptr 0 0), (4, .int .i64 5), (6, .int .i64 5), (8, .int .i64 8)] (pst st0 adH []) = true := by kernel_rfl

section
variable {st : St} {H : List HO} {K : List Nat} {k : Nat} {ps : List Str}
theorem slice578n (hk : TextAt H k ps) {a b : Int} (h1 : 0 ≤ a) (h2 : b < a) : (E tab).F 578 [.ptr (st.heap.length + k) 0, .int .i64 a, .int .i64 b] (pst st H K) = some (.tuple [.str [], .int .i64 5], pst st (H ++ [.cells .plain [.int .i64 a], .cells .plain [.int .i64 b]]) K) := by
  have hN := none587 (st := st) (K := K) (hk.app [.cells .plain [.int .i64 a], .cells .plain [.int .i64 b]])
  obtain ⟨w, hw, hr⟩ := id hk
  have hr' : ∀ X, rowAt (H ++ X) k = some (.plain, txC w ps) := row_at hr
  have h1' : ¬ a < 0 := by omega
  rw [F_go at578 rfl, f578_body]
  simp [hN, hr', txC, h1', h2, C_dregion0, f578]
theorem byte579n (hk : TextAt H k ps) {a : Int} (h1 : 0 ≤ a) (h2 : tot ps ≤ a) : (E tab).F 579 [.ptr (st.heap.length + k) 0, .int .i64 a] (pst st H K) = some (.tuple [.int .u8 0, .int .i64 5], pst st H K) := by
  have hN := none587 (st := st) (K := K) hk
  obtain ⟨w, hw, hr⟩ := id hk
  have h1' : ¬ a < 0 := by omega
  rw [F_go at579 rfl]
  simp [hN, hr, txC, h1', h2, f579]
end

theorem law_run : ∃ st', (E tab).F 576 [] st0 = some (.bool true, st') := by
  refine ⟨st0, ?_⟩
  rw [F_run at576 rfl, f576_body]
  have hnew := new577 (st := st0) (H := []) (K := []) (s := [97, 100]) (by decide) (by decide)
  have hT0 : TextAt [newO st0 [97, 100]] 0 (new1 [97, 100]) := newO_at st0 _ []
  have hS := slice578n (st := st0) (K := []) hT0 (a := 2) (b := 1) (by decide) (by decide)
  have hT1 : TextAt adH 0 (new1 [97, 100]) := hT0.app _
  have hB := byte579n (st := st0) (K := []) hT1 (a := 2) (by decide) (by decide)
  have hR : (E tab).F 580 [.str [97], .int .i64 4097] (pst st0 adH []) = some (.str (List.replicate 4097 97), pst st0 adH []) := rep580 (st := pst st0 adH []) 97 (.inl rfl) 4097 (by decide)
  have hm : (List.replicate 4097 (97 : UInt8)).all mayC = true := by
    rw [List.all_eq_true]; intro x hx; rw [List.eq_of_mem_replicate hx]; rfl
  have hN := new577n (st := st0) (H := adH) (K := []) (s := List.replicate 4097 97) (by rw [List.length_replicate]; omega) (by rw [List.length_replicate]; omega)
  rw [hm, if_pos rfl] at hN
  obtain ⟨fr', st', hC, hg⟩ := C_tells tail_runs
  generalize List.replicate 4097 (97 : UInt8) = big at *
  have e0 : st0.heap.length = 0 := rfl
  simp [e0] at hnew hS hB
  simp only [adH] at hB hR hN hC
  simp [hnew, eqD, hS, hB, hR, hN, hC, hg, show f576.results = [.t 0] from rfl, X.ev]


end Go.D.Tab
