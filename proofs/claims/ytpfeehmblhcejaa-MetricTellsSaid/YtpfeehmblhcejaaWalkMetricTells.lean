/-
What the law MetricTells runs through, walked: both sides tell the same of every text, bytes and size.
-/
import Derived.Test.YtpfeehmblhcejaaTab
import Derived.Test.YtpfeehmblhcejaaFwDOver
import Derived.KernelRfl
import Derived.IntWalk
namespace Go.D.Tab

/-- A byte's em. -/
def emL : List Nat := [0, 0, 0, 0, 0, 0, 0, 0, 0, 0, 0, 0, 0, 0, 0, 0, 0, 0, 0, 0, 0, 0, 0, 0, 0, 0, 0, 0, 0, 0, 0, 0, 3, 2, 3, 6, 6, 6, 6, 2, 3, 3, 6, 6, 2, 3, 2, 6, 5, 5, 5, 5, 5, 5, 5, 5, 5, 5, 2, 2, 6, 6, 6, 6, 6, 6, 6, 6, 6, 6, 6, 6, 6, 3, 6, 6, 6, 8, 6, 6, 6, 6, 6, 6, 6, 6, 6, 8, 6, 6, 6, 3, 6, 3, 3, 3, 3, 5, 5, 5, 5, 5, 3, 5, 5, 2, 2, 5, 2, 7, 5, 5, 5, 5, 3, 5, 3, 5, 5, 7, 5, 5, 5, 3, 2, 3, 3, 0, 0, 0, 0, 0, 0, 0, 0, 0, 0, 0, 0, 0, 0, 0, 0, 0, 0, 0, 0, 0, 0, 0, 0, 0, 0, 0, 0, 0, 0, 0, 0, 0, 0, 0, 0, 0, 0, 0, 0, 0, 0, 0, 0, 0, 0, 0, 0, 0, 0, 0, 0, 0, 0, 0, 0, 0, 0, 0, 0, 0, 0, 0, 0, 0, 0, 0, 0, 0, 0, 0, 0, 0, 0, 0, 0, 0, 0, 0, 0, 0, 0, 0, 0, 0, 0, 0, 0, 0, 0, 0, 0, 0, 0, 0, 0, 0, 0, 0, 0, 0, 0, 0, 0, 0, 0, 0, 0, 0, 0, 0, 0, 0, 0, 0, 0, 0, 0, 0, 0, 0, 0, 0, 0, 0, 0, 0, 0, 0]
def em (c : Nat) : Int := Int.ofNat (emL.getD c 0)

theorem em_runs : ((List.range 256).all fun c => tells tree.get 1000 21 [.int .u8 (.ofNat c)] st0 (.int .i64 (em c)) && tells tree.get 1000 22 [.int .u8 (.ofNat c)] st0 (.int .i64 (em c))) = true := by kernel_rfl

/-- What Em tells. -/
def emP : List DV → Option DV
  | [.int .u8 (.ofNat c)] => if c < 256 then some (.int .i64 (em c)) else none
  | _ => none

theorem emP_ran (g : Nat) (hg : g = 21 ∨ g = 22) : ∀ as v, emP as = some v → Ran tree.get g as v := by
  intro as v h
  unfold emP at h
  split at h
  · rename_i c
    split at h
    · rename_i hc
      injection h with h
      subst h
      have := List.all_eq_true.1 em_runs c (List.mem_range.2 hc)
      rw [Bool.and_eq_true] at this
      rcases hg with rfl | rfl
      · exact ran_of rfl rfl this.1
      · exact ran_of rfl rfl this.2
    · cases h
  · cases h

theorem awake_runs : tells tree.get 100000 16 [] st0 (.bool true) = true := by kernel_rfl

def awakeP : List DV → Option DV
  | [] => some (.bool true)
  | _ => none

def known : List (Nat × (List DV → Option DV)) := [(21, emP), (22, emP), (16, awakeP)]
def tab : Tab := over tree.get known

theorem known_ran : ∀ x ∈ known, ∀ as v, x.2 as = some v → Ran tree.get x.1 as v := by
  intro x hx
  simp only [known, List.mem_cons, List.not_mem_nil, or_false] at hx
  rcases hx with rfl | rfl | rfl
  · exact emP_ran 21 (.inl rfl)
  · exact emP_ran 22 (.inr rfl)
  · intro as v h
    cases as with
    | nil => cases h; exact ran_of rfl rfl awake_runs
    | cons a r => cases h

theorem known_pure : ∀ x ∈ known, isPure tree.get x.1 = true := by
  intro x hx
  simp only [known, List.mem_cons, List.not_mem_nil, or_false] at hx
  rcases hx with rfl | rfl | rfl <;> kernel_rfl

theorem at51 : tab 51 = some (.code f51) := by kernel_rfl
theorem at30 : tab 30 = some (.code f30) := by kernel_rfl
theorem at37 : tab 37 = some (.code f37) := by kernel_rfl
theorem at31 : tab 31 = some (.code f31) := by kernel_rfl
theorem at38 : tab 38 = some (.code f38) := by kernel_rfl
theorem at17 : tab 17 = some (.code f17) := by kernel_rfl
theorem at18 : tab 18 = some (.code f18) := by kernel_rfl
theorem at21 : tab 21 = some (.pprim emP) := by kernel_rfl
theorem at22 : tab 22 = some (.pprim emP) := by kernel_rfl

theorem sized_run (n : Int) (st : St) : (E tab).F 51 [.int .i64 n] st = some (.bool (decide (1 ≤ n ∧ n ≤ 64)), st) := by
  refine F_pure (e := .ret) (fr := [(2, .bool (decide (1 ≤ n ∧ n ≤ 64)))]) (st' := st.enter) (v := .bool (decide (1 ≤ n ∧ n ≤ 64))) _ _ at51 rfl ?_ (.inl rfl) rfl rfl
  by_cases h1 : 1 ≤ n <;> by_cases h2 : n ≤ 64 <;>
  simp [f51, h1, h2]

theorem em21 (c : UInt8) (st : St) : (E tab).F 21 [.int .u8 (c.toNat : Int)] st = some (.int .i64 (em c.toNat), st) :=
  F_prim at21 (by show (if c.toNat < 256 then _ else _) = _; rw [if_pos (by exact c.toNat_lt)])
theorem em22 (c : UInt8) (st : St) : (E tab).F 22 [.int .u8 (c.toNat : Int)] st = some (.int .i64 (em c.toNat), st) :=
  F_prim at22 (by show (if c.toNat < 256 then _ else _) = _; rw [if_pos (by exact c.toNat_lt)])

/-- A byte's width. -/
def wd (c : UInt8) (size : Int) : Int := IntKind.i64.wrap ((IntKind.i64.wrap (em c.toNat * size)).tdiv 8)
theorem wide_run (c : UInt8) (n : Int) (st : St) : (E tab).F 30 [.int .u8 (c.toNat : Int), .int .i64 n] st = some (.int .i64 (wd c n), st) := by
  refine F_pure (e := .ret) (fr := [(4, .int .i64 (wd c n))]) (st' := st.enter) (v := .int .i64 (wd c n)) _ _ at30 rfl ?_ (.inl rfl) rfl rfl
  simp [f30, em21, wd]
theorem byteWidth_run (c : UInt8) (n : Int) (st : St) : (E tab).F 37 [.int .u8 (c.toNat : Int), .int .i64 n] st = some (.int .i64 (wd c n), st) := by
  refine F_pure (e := .ret) (fr := [(4, .int .i64 (wd c n))]) (st' := st.enter) (v := .int .i64 (wd c n)) _ _ at37 rfl ?_ (.inl rfl) rfl rfl
  simp [f37, em22, wd]

/-- A text's width, from a number on. -/
def tw (n : Int) : Int → List UInt8 → Int
  | a, [] => a
  | a, c :: r => tw n (IntKind.i64.wrap (a + wd c n)) r

def L31 : RC := (.loop [1, 5, 9, 10, 11] (.seq (.region f31r3 [1, 5, 9, 10, 11, 12]) (.seq (.cond (.t 12) .skip (.exit 0)) (.seq (.block 1 (.seq (.region f31r4 [1, 5, 7, 9, 10, 11]) (.region f31r5 [1, 5, 9, 10, 11]))) (.region f31r6 [1, 5, 9, 10, 11])))))

theorem L31_run (n : Int) (bs : List UInt8) (hb : bs.length ≤ 4096) (st : St) (cur : Nat) : ∀ (r d : List UInt8) (a : Int), bs = d ++ r →
    (E tab).C L31 [(1, .int .i64 n), (5, .int .i64 a), (9, .list cur 1 .no true (bs.map fun b => .int .u8 b.toNat)), (10, .int .i64 bs.length), (11, .int .i64 d.length)] st =
      some (.exit 0, [(1, .int .i64 n), (5, .int .i64 (tw n a r)), (9, .list cur 1 .no true (bs.map fun b => .int .u8 b.toNat)), (10, .int .i64 bs.length), (11, .int .i64 bs.length), (12, .bool false)], st) := by
  intro r
  induction r with
  | nil =>
    intro d a hd
    unfold L31
    rw [C_loop]
    simp [hd, tw]
  | cons c r ih =>
    intro d a hd
    have hl : d.length < bs.length := by rw [hd]; simp
    have hg : bs[d.length] = c := by simp [hd]
    have hw : IntKind.i64.wrap ((d.length : Int) + 1) = ((d ++ [c]).length : Nat) := by rw [IntWalk.i64_in _ (by omega)]; simp
    rw [tw, ← ih (d ++ [c]) (IntKind.i64.wrap (a + wd c n)) (by simp [hd])]
    conv => lhs; unfold L31
    rw [C_loop]
    simp [hl, hg, wide_run, hw]
    rfl

theorem text_run (bs : List UInt8) (hb : bs.length ≤ 4096) (n : Int) (st : St) : (E tab).F 31 [.str bs, .int .i64 n] st = some (.int .i64 (tw n 0 bs), st) := by
  refine F_pure (e := .ret) (fr := [(4, .int .i64 (tw n 0 bs))]) (st' := st.enter) (v := .int .i64 (tw n 0 bs)) _ _ at31 rfl ?_ (.inl rfl) rfl rfl
  have h := L31_run n bs hb st.enter st.enter.cur bs [] 0 rfl
  unfold L31 at h
  simp at h
  simp [f31, h]

theorem at57 : tab 57 = some (.code f57) := by kernel_rfl
theorem at60 : tab 60 = some (.code f60) := by kernel_rfl
theorem at39 : tab 39 = some (.code f39) := by kernel_rfl
theorem at32 : tab 32 = some (.code f32) := by kernel_rfl
theorem at19 : tab 19 = some (.code f19) := by kernel_rfl
theorem at20 : tab 20 = some (.code f20) := by kernel_rfl
theorem at16 : tab 16 = some (.pprim awakeP) := by kernel_rfl
theorem at4 : tab 4 = some (.code f4) := by kernel_rfl

def L38 : RC := (.loop [0, 1, 5, 6] (.seq (.seq (.region f38r3 [0, 1, 5, 6, 10]) (.cond (.t 10) .skip (.exit 0))) (.seq (.block 1 (.region f38r4 [0, 1, 5, 6])) (.region f38r5 [0, 1, 5, 6]))))

theorem L38_run (n : Int) (bs : List UInt8) (hb : bs.length ≤ 4096) (st : St) : ∀ (r d : List UInt8) (a : Int), bs = d ++ r →
    (E tab).C L38 [(0, .str bs), (1, .int .i64 n), (5, .int .i64 a), (6, .int .i64 d.length)] st =
      some (.exit 0, [(0, .str bs), (1, .int .i64 n), (5, .int .i64 (tw n a r)), (6, .int .i64 bs.length), (10, .bool false)], st) := by
  intro r
  induction r with
  | nil =>
    intro d a hd
    unfold L38
    rw [C_loop]
    simp [hd, tw]
  | cons c r ih =>
    intro d a hd
    have hl : d.length < bs.length := by rw [hd]; simp
    have hg : bs[d.length] = c := by simp [hd]
    have hw : IntKind.i64.wrap ((d.length : Int) + 1) = ((d ++ [c]).length : Nat) := by rw [IntWalk.i64_in _ (by omega)]; simp
    rw [tw, ← ih (d ++ [c]) (IntKind.i64.wrap (a + wd c n)) (by simp [hd])]
    conv => lhs; unfold L38
    rw [C_loop]
    simp [hl, hg, byteWidth_run, hw]
    rfl

theorem textWidth_run (bs : List UInt8) (hb : bs.length ≤ 4096) (n : Int) (st : St) : (E tab).F 38 [.str bs, .int .i64 n] st = some (.int .i64 (tw n 0 bs), st) := by
  refine F_pure (e := .ret) (fr := [(4, .int .i64 (tw n 0 bs))]) (st' := st.enter) (v := .int .i64 (tw n 0 bs)) _ _ at38 rfl ?_ (.inl rfl) rfl rfl
  have h := L38_run n bs hb st.enter bs [] 0 rfl
  unfold L38 at h
  simp at h
  simp [f38, h]

/-- What Width tells. -/
def widthV (bs : List UInt8) (n : Int) : DV :=
  if 1 ≤ n ∧ n ≤ 64 then (if 4096 < bs.length then .tuple [.int .i64 0, .int .i64 3] else .tuple [.int .i64 (tw n 0 bs), .int .i64 0]) else .tuple [.int .i64 0, .int .i64 5]

theorem width17 (bs : List UInt8) (n : Int) (st : St) : (E tab).F 17 [.str bs, .int .i64 n] st = some (widthV bs n, st) := by
  by_cases h1 : 1 ≤ n ∧ n ≤ 64
  · by_cases h2 : 4096 < bs.length
    · refine F_pure (e := .ret) (fr := [(4, .int .i64 0), (5, .int .i64 3)]) (st' := st.enter) (v := widthV bs n) _ _ at17 rfl ?_ (.inl rfl) (by simp [widthV, h1, h2, f17, resD, resAll, resOne]) (by simp [widthV, h1, h2]; rfl)
      have h3 : (4096 : Int) < bs.length := by omega
      simp [f17, sized_run, h1, h3]
    · refine F_pure (e := .ret) (fr := [(4, .int .i64 (tw n 0 bs)), (5, .int .i64 0)]) (st' := st.enter) (v := widthV bs n) _ _ at17 rfl ?_ (.inl rfl) (by simp [widthV, h1, h2, f17, resD, resAll, resOne]) (by simp [widthV, h1, h2]; rfl)
      have h3 : ¬ (4096 : Int) < bs.length := by omega
      simp [f17, sized_run, h1, h3, text_run bs (by omega)]
  · refine F_pure (e := .ret) (fr := [(4, .int .i64 0), (5, .int .i64 5)]) (st' := st.enter) (v := widthV bs n) _ _ at17 rfl ?_ (.inl rfl) (by simp [widthV, h1, f17, resD, resAll, resOne]) (by simp [widthV, h1]; rfl)
    simp [f17, sized_run, h1]

theorem width18 (bs : List UInt8) (n : Int) (st : St) : (E tab).F 18 [.str bs, .int .i64 n] st = some (widthV bs n, st) := by
  by_cases h1 : 1 ≤ n ∧ n ≤ 64
  · have a1 : ¬ n < 1 := by omega
    have a2 : ¬ 64 < n := by omega
    by_cases h2 : 4096 < bs.length
    · refine F_pure (e := .ret) (fr := [(4, .int .i64 0), (5, .int .i64 3)]) (st' := st.enter) (v := widthV bs n) _ _ at18 rfl ?_ (.inl rfl) (by simp [widthV, h1, h2, f18, resD, resAll, resOne]) (by simp [widthV, h1, h2]; rfl)
      have h3 : (4096 : Int) < bs.length := by omega
      simp [f18, a1, a2, h3]
    · refine F_pure (e := .ret) (fr := [(4, .int .i64 (tw n 0 bs)), (5, .int .i64 0)]) (st' := st.enter) (v := widthV bs n) _ _ at18 rfl ?_ (.inl rfl) (by simp [widthV, h1, h2, f18, resD, resAll, resOne]) (by simp [widthV, h1, h2]; rfl)
      have h3 : ¬ (4096 : Int) < bs.length := by omega
      simp [f18, a1, a2, h3, textWidth_run bs (by omega)]
  · refine F_pure (e := .ret) (fr := [(4, .int .i64 0), (5, .int .i64 5)]) (st' := st.enter) (v := widthV bs n) _ _ at18 rfl ?_ (.inl rfl) (by simp [widthV, h1, f18, resD, resAll, resOne]) (by simp [widthV, h1]; rfl)
    by_cases a1 : n < 1
    · simp [f18, a1]
    · have a2 : 64 < n := by omega
      simp [f18, a1, a2]

/-! Pairs -/
def pr (a b : UInt8) : List UInt8 → Bool
  | x :: y :: _ :: r => (x == a && y == b) || pr a b r
  | _ => false

def L57 : RC := (.loop [0, 1, 2, 7] (.seq (.seq (.region f57r2 [0, 1, 2, 7, 12]) (.cond (.t 12) .skip (.exit 0))) (.seq (.block 1 (.seq (.region f57r3 [0, 1, 2, 7, 27]) (.cond (.t 27) (.seq (.region f57r4 [6]) .ret) .skip))) (.region f57r5 [0, 1, 2, 7]))))

theorem u8_eq (x a : UInt8) : ((x.toNat : Int) == (a.toNat : Int)) = (x == a) := by
  rw [Bool.eq_iff_iff]
  simp only [beq_iff_eq]
  constructor
  · intro h; exact UInt8.toNat_inj.1 (by omega)
  · rintro rfl; rfl

theorem L57_run (s : List UInt8) (hs : s.length ≤ 1000) (a b : UInt8) (st : St) : ∀ (k : Nat) (r d : List UInt8), r.length = 3 * k → s = d ++ r →
    (E tab).C L57 [(0, .str s), (1, .int .u8 a.toNat), (2, .int .u8 b.toNat), (7, .int .i64 d.length)] st =
      some (if pr a b r then (.ret, [(6, .bool true)], st) else (.exit 0, [(0, .str s), (1, .int .u8 a.toNat), (2, .int .u8 b.toNat), (7, .int .i64 s.length), (12, .bool false)], st)) := by
  intro k
  induction k with
  | zero =>
    intro r d hr hd
    obtain rfl : r = [] := List.length_eq_zero_iff.1 (by omega)
    have hw : IntKind.i64.wrap ((d.length : Int) + 1) = d.length + 1 := by rw [IntWalk.i64_in _ (by simp at hd; subst hd; omega)]
    unfold L57
    rw [C_loop]
    simp at hd
    subst hd
    have hn : ¬ (s.length : Int) + 1 < s.length := by omega
    simp [pr, hw, hn]
  | succ k ih =>
    intro r d hr hd
    match r, hr with
    | x :: y :: z :: r, hr =>
      have e0 : d.length + 3 + r.length = s.length := by simp [hd]; omega
      have hw : IntKind.i64.wrap ((d.length : Int) + 1) = d.length + 1 := by rw [IntWalk.i64_in _ (by omega)]
      have hw3 : IntKind.i64.wrap ((d.length : Int) + 3) = ((d ++ [x, y, z]).length : Nat) := by rw [IntWalk.i64_in _ (by omega)]; simp
      have hl : d.length < s.length := by omega
      have hl1 : d.length + 1 < s.length := by omega
      have hl2 : (d.length : Int) + 1 < s.length := by omega
      have hg : s[d.length] = x := by simp [hd]
      have hg1 : s[d.length + 1] = y := by simp [hd]
      have ht : ((d.length : Int) + 1).toNat = d.length + 1 := by omega
      have h0 : (0 : Int) ≤ (d.length : Int) + 1 := by omega
      conv => lhs; unfold L57
      rw [C_loop]
      by_cases hx : x = a
      · by_cases hy : y = b
        · simp [hw, hl, hl1, hl2, hg, hg1, ht, h0, pr, hx, hy]
        · have := ih r (d ++ [x, y, z]) (by simp at hr; omega) (by simp [hd])
          unfold L57 at this
          simp [hw, hl, hl1, hl2, hg, hg1, ht, h0, u8_eq, pr, hx, hy, hw3] at this ⊢
          exact this
      · have := ih r (d ++ [x, y, z]) (by simp at hr; omega) (by simp [hd])
        unfold L57 at this
        simp [hw, hl, hl2, hg, u8_eq, pr, hx, hw3] at this ⊢
        exact this

theorem paired_run (s : List UInt8) (k : Nat) (hk : s.length = 3 * k) (hs : s.length ≤ 1000) (a b : UInt8) (st : St) : (E tab).F 57 [.str s, .int .u8 a.toNat, .int .u8 b.toNat] st = some (.bool (pr a b s), st) := by
  refine F_pure (e := .ret) (fr := [(6, .bool (pr a b s))]) (st' := st.enter) (v := .bool (pr a b s)) _ _ at57 rfl ?_ (.inl rfl) rfl rfl
  have h := L57_run s hs a b st.enter k s [] hk rfl
  unfold L57 at h
  simp at h
  by_cases hp : pr a b s = true
  · simp only [hp, if_true] at h
    simp [f57, h, hp]
  · simp only [hp] at h
    simp [f57, h, hp]

def P19 : List (UInt8 × UInt8) := [(65, 84), (65, 86), (65, 87), (65, 89), (84, 65), (86, 65), (87, 65), (89, 65), (76, 84), (76, 86), (76, 89), (80, 65), (84, 111), (84, 97), (84, 101), (86, 111), (86, 97), (89, 111), (89, 97)]
def P10 : List (UInt8 × UInt8) := [(114, 46), (114, 44), (102, 46), (102, 44), (118, 46), (121, 46), (65, 118), (65, 121), (111, 118), (118, 111)]
def isP (l : List (UInt8 × UInt8)) (a b : UInt8) : Bool := l.any fun p => p.1 == a && p.2 == b
def txt (l : List (UInt8 × UInt8)) : List UInt8 := l.flatMap fun p => [p.1, p.2, 32]
def two (l : List (UInt8 × UInt8)) : List (List UInt8) := l.map fun p => [p.1, p.2]

theorem pr_txt (a b : UInt8) : ∀ l, pr a b (txt l) = isP l a b
  | [] => rfl
  | p :: r => by
    have := pr_txt a b r
    unfold txt isP at *
    simp only [List.flatMap_cons, List.cons_append, List.nil_append, pr, List.any_cons, this]

theorem two_in (a b : UInt8) : ∀ l, (two l).any (fun s => s == [a, b]) = isP l a b
  | [] => rfl
  | p :: r => by
    have := two_in a b r
    unfold two isP at *
    simp only [List.map_cons, List.any_cons, this]
    congr 1
    simp [List.cons_beq_cons]

theorem disjoint (a b : UInt8) (h : isP P19 a b = true) : isP P10 a b = false := by
  unfold isP at *
  rw [List.any_eq_true] at h
  obtain ⟨p, hp, h⟩ := h
  rw [Bool.and_eq_true] at h
  have h1 := eq_of_beq h.1
  have h2 := eq_of_beq h.2
  subst h1; subst h2
  revert p
  decide

def L60 : RC := (.loop [0, 1, 5] (.seq (.seq (.region f60r2 [0, 1, 5, 9]) (.cond (.t 9) .skip (.exit 0))) (.seq (.block 1 (.seq (.region f60r3 [0, 1, 5, 17]) (.cond (.t 17) (.seq (.region f60r4 [4]) .ret) .skip))) (.region f60r5 [0, 1, 5]))))

theorem L60_run (l : List (List UInt8)) (hl : l.length ≤ 1000) (s : List UInt8) (cur : Nat) (tk : Tk) (st : St) : ∀ (r d : List (List UInt8)), l = d ++ r →
    (E tab).C L60 [(0, .list cur 1 tk true (l.map .str)), (1, .str s), (5, .int .i64 d.length)] st =
      some (if r.any (· == s) then (.ret, [(4, .bool true)], st) else (.exit 0, [(0, .list cur 1 tk true (l.map .str)), (1, .str s), (5, .int .i64 l.length), (9, .bool false)], st)) := by
  intro r
  induction r with
  | nil =>
    intro d hd
    simp at hd
    subst hd
    unfold L60
    rw [C_loop]
    simp
  | cons x r ih =>
    intro d hd
    have h0 : d.length < l.length := by simp [hd]
    have hw : IntKind.i64.wrap ((d.length : Int) + 1) = ((d ++ [x]).length : Nat) := by rw [IntWalk.i64_in _ (by omega)]; simp
    have hg : l[d.length] = x := by simp [hd]
    conv => lhs; unfold L60
    rw [C_loop]
    by_cases hx : x = s
    · simp [h0, hg, hx]
    · have := ih (d ++ [x]) (by simp [hd])
      unfold L60 at this
      simp [h0, hg, hx, hw] at this ⊢
      exact this

theorem pair_run (l : List (List UInt8)) (hl : l.length ≤ 1000) (s : List UInt8) (cur : Nat) (tk : Tk) (st : St) : (E tab).F 60 [.list cur 1 tk true (l.map .str), .str s] st = some (.bool (l.any (· == s)), st) := by
  refine F_pure (e := .ret) (fr := [(4, .bool (l.any (· == s)))]) (st' := st.enter) (v := .bool (l.any (· == s))) _ _ at60 rfl ?_ (.inl rfl) rfl rfl
  have h := L60_run l hl s cur tk st.enter l [] rfl
  unfold L60 at h
  generalize (l.any (· == s)) = v at h ⊢
  simp at h
  cases v <;> simp [f60, h]

/-- How much nearer. -/
def nearV (a b : UInt8) (n : Int) : Int := if isP P10 a b then -(n / 16) else if isP P19 a b then -(2 * n / 16) else 0

theorem nearer_run (a b : UInt8) (n : Int) (hn : 1 ≤ n ∧ n ≤ 64) (st : St) : (E tab).F 32 [.int .u8 a.toNat, .int .u8 b.toNat, .int .i64 n] st = some (.int .i64 (nearV a b n), st) := by
  refine F_pure (e := .ret) (fr := [(6, .int .i64 (nearV a b n))]) (st' := st.enter) (v := .int .i64 (nearV a b n)) _ _ at32 rfl ?_ (.inl rfl) rfl rfl
  have h19 := paired_run (txt P19) 19 (by rfl) (by decide) a b st.enter
  have h10 := paired_run (txt P10) 10 (by rfl) (by decide) a b st.enter
  rw [pr_txt] at h19 h10
  simp only [show txt P19 = [65, 84, 32, 65, 86, 32, 65, 87, 32, 65, 89, 32, 84, 65, 32, 86, 65, 32, 87, 65, 32, 89, 65, 32, 76, 84, 32, 76, 86, 32, 76, 89, 32, 80, 65, 32, 84, 111, 32, 84, 97, 32, 84, 101, 32, 86, 111, 32, 86, 97, 32, 89, 111, 32, 89, 97, 32] from rfl] at h19
  simp only [show txt P10 = [114, 46, 32, 114, 44, 32, 102, 46, 32, 102, 44, 32, 118, 46, 32, 121, 46, 32, 65, 118, 32, 65, 121, 32, 111, 118, 32, 118, 111, 32] from rfl] at h10
  have w1 : IntKind.i64.wrap n = n := IntWalk.i64_in _ (by omega)
  have w2 : IntKind.i64.wrap (2 * n) = 2 * n := IntWalk.i64_in _ (by omega)
  have w3 : IntKind.i64.wrap ((2 * n).tdiv 16) = 2 * n / 16 := IntWalk.i64_quo _ _ (by omega)
  have w4 : IntKind.i64.wrap (n.tdiv 16) = n / 16 := IntWalk.i64_quo _ _ (by omega)
  have w5 : IntKind.i64.wrap (-(n / 16)) = -(n / 16) := IntWalk.i64_in _ (by omega)
  have w6 : IntKind.i64.wrap (-(2 * n / 16)) = -(2 * n / 16) := IntWalk.i64_in _ (by omega)
  have w7 : IntKind.i64.wrap 0 = 0 := by decide
  cases e1 : isP P19 a b <;> cases e2 : isP P10 a b <;> rw [e1] at h19 <;> rw [e2] at h10 <;>
  simp [f32, h19, h10, nearV, e1, e2, w1, w2, w3, w4, w5, w6, w7]

theorem lit2 (a b : UInt8) (r : Fr) (st : St) (T : Tab) : opE T (.lit 1 false [.int .u8 0] 2 [(0, .t 8), (1, .t 9)]) ((9, .int .u8 b.toNat) :: (8, .int .u8 a.toNat) :: r) st = some (.list st.cur 1 .tight true [.int .u8 a.toNat, .int .u8 b.toNat], st) := by
  rfl

theorem str2 (a b : UInt8) (r : Fr) (st : St) (c : Nat) (T : Tab) : opE T (.b2s (.t 10)) ((10, .list c 1 .tight true [.int .u8 a.toNat, .int .u8 b.toNat]) :: r) st = some (.str [a, b], st) := by
  simp [op_b2s, newsD, flat, bytesOfD]

theorem l19 (fr : Fr) (st : St) (T : Tab) : opE T (.lit 1 false [(.str [])] 19 [(0, (.c (.str [65, 84]))), (1, (.c (.str [65, 86]))), (2, (.c (.str [65, 87]))), (3, (.c (.str [65, 89]))), (4, (.c (.str [84, 65]))), (5, (.c (.str [86, 65]))), (6, (.c (.str [87, 65]))), (7, (.c (.str [89, 65]))), (8, (.c (.str [76, 84]))), (9, (.c (.str [76, 86]))), (10, (.c (.str [76, 89]))), (11, (.c (.str [80, 65]))), (12, (.c (.str [84, 111]))), (13, (.c (.str [84, 97]))), (14, (.c (.str [84, 101]))), (15, (.c (.str [86, 111]))), (16, (.c (.str [86, 97]))), (17, (.c (.str [89, 111]))), (18, (.c (.str [89, 97])))]) fr st = some (.list st.cur 1 .tight true ((two P19).map .str), st) := by kernel_rfl
theorem l10 (fr : Fr) (st : St) (T : Tab) : opE T (.lit 1 false [(.str [])] 10 [(0, (.c (.str [114, 46]))), (1, (.c (.str [114, 44]))), (2, (.c (.str [102, 46]))), (3, (.c (.str [102, 44]))), (4, (.c (.str [118, 46]))), (5, (.c (.str [121, 46]))), (6, (.c (.str [65, 118]))), (7, (.c (.str [65, 121]))), (8, (.c (.str [111, 118]))), (9, (.c (.str [118, 111])))]) fr st = some (.list st.cur 1 .tight true ((two P10).map .str), st) := by kernel_rfl

theorem Pair_run (a b : UInt8) (n : Int) (hn : 1 ≤ n ∧ n ≤ 64) (st : St) : (E tab).F 39 [.int .u8 a.toNat, .int .u8 b.toNat, .int .i64 n] st = some (.int .i64 (nearV a b n), st) := by
  refine F_pure (e := .ret) (fr := [(6, .int .i64 (nearV a b n))]) (st' := st.enter) (v := .int .i64 (nearV a b n)) _ _ at39 rfl ?_ (.inl rfl) rfl rfl
  have h19 := pair_run (two P19) (by decide) [a, b] st.enter.cur .tight st.enter
  have h10 := pair_run (two P10) (by decide) [a, b] st.enter.cur .tight st.enter
  rw [two_in] at h19 h10
  have w2 : IntKind.i64.wrap (2 * n) = 2 * n := IntWalk.i64_in _ (by omega)
  have w3 : IntKind.i64.wrap ((2 * n).tdiv 16) = 2 * n / 16 := IntWalk.i64_quo _ _ (by omega)
  have w4 : IntKind.i64.wrap (n.tdiv 16) = n / 16 := IntWalk.i64_quo _ _ (by omega)
  have w5 : IntKind.i64.wrap (-(n / 16)) = -(n / 16) := IntWalk.i64_in _ (by omega)
  have w6 : IntKind.i64.wrap (-(2 * n / 16)) = -(2 * n / 16) := IntWalk.i64_in _ (by omega)
  have hd := disjoint a b
  cases e1 : isP P19 a b <;> cases e2 : isP P10 a b <;> rw [e1] at h19 hd <;> rw [e2] at h10 hd <;> simp at hd
  all_goals
    simp [f39, intBinD, unD, lit2, str2, l19, l10, h19, h10, nearV, e1, e2, w2, w3, w4, w5, w6]

/-- What Kern tells. -/
def kernV (a b : UInt8) (n : Int) : DV :=
  if 1 ≤ n ∧ n ≤ 64 then .tuple [.int .i64 (nearV a b n), .int .i64 0] else .tuple [.int .i64 0, .int .i64 5]

theorem kern19 (a b : UInt8) (n : Int) (st : St) : (E tab).F 19 [.int .u8 a.toNat, .int .u8 b.toNat, .int .i64 n] st = some (kernV a b n, st) := by
  by_cases h1 : 1 ≤ n ∧ n ≤ 64
  · refine F_pure (e := .ret) (fr := [(6, .int .i64 (nearV a b n)), (7, .int .i64 0)]) (st' := st.enter) (v := kernV a b n) _ _ at19 rfl ?_ (.inl rfl) (by simp [kernV, h1, f19, resD, resAll, resOne]) (by simp [kernV, h1]; rfl)
    simp [f19, sized_run, h1, nearer_run a b n h1]
  · refine F_pure (e := .ret) (fr := [(6, .int .i64 0), (7, .int .i64 5)]) (st' := st.enter) (v := kernV a b n) _ _ at19 rfl ?_ (.inl rfl) (by simp [kernV, h1, f19, resD, resAll, resOne]) (by simp [kernV, h1]; rfl)
    simp [f19, sized_run, h1]

theorem kern20 (a b : UInt8) (n : Int) (st : St) : (E tab).F 20 [.int .u8 a.toNat, .int .u8 b.toNat, .int .i64 n] st = some (kernV a b n, st) := by
  by_cases h1 : 1 ≤ n ∧ n ≤ 64
  · have a1 : ¬ n < 1 := by omega
    have a2 : ¬ 64 < n := by omega
    refine F_pure (e := .ret) (fr := [(6, .int .i64 (nearV a b n)), (7, .int .i64 0)]) (st' := st.enter) (v := kernV a b n) _ _ at20 rfl ?_ (.inl rfl) (by simp [kernV, h1, f20, resD, resAll, resOne]) (by simp [kernV, h1]; rfl)
    simp [f20, a1, a2, Pair_run a b n h1]
  · refine F_pure (e := .ret) (fr := [(6, .int .i64 0), (7, .int .i64 5)]) (st' := st.enter) (v := kernV a b n) _ _ at20 rfl ?_ (.inl rfl) (by simp [kernV, h1, f20, resD, resAll, resOne]) (by simp [kernV, h1]; rfl)
    by_cases a1 : n < 1
    · simp [f20, a1]
    · have a2 : 64 < n := by omega
      simp [f20, a1, a2]

theorem awake_run (st : St) : (E tab).F 16 [] st = some (.bool true, st) := F_prim at16 rfl

theorem pairV (P : DV → Prop) (bs : List UInt8) (n : Int) (h : ∀ x y : Int, P (.tuple [.int .i64 x, .int .i64 y])) : P (widthV bs n) := by
  unfold widthV
  split
  · split <;> exact h _ _
  · exact h _ _

theorem law_run (bs : List UInt8) (a b : UInt8) (n : Int) (st : St) : (E tab).F 4 [.str bs, .int .u8 a.toNat, .int .u8 b.toNat, .int .i64 n] st = some (.bool true, st) := by
  refine F_pure (e := .ret) (fr := [(8, .bool true)]) (st' := st.enter) (v := .bool true) _ _ at4 rfl ?_ (.inl rfl) rfl rfl
  have hw : ∃ x y : Int, widthV bs n = .tuple [.int .i64 x, .int .i64 y] := by
    unfold widthV
    split
    · split <;> exact ⟨_, _, rfl⟩
    · exact ⟨_, _, rfl⟩
  have hk : ∃ x y : Int, kernV a b n = .tuple [.int .i64 x, .int .i64 y] := by
    unfold kernV
    split <;> exact ⟨_, _, rfl⟩
  obtain ⟨x, y, hw⟩ := hw
  obtain ⟨z, w, hk⟩ := hk
  simp [f4, width17, width18, kern19, kern20, em21, em22, awake_run, hw, hk]


end Go.D.Tab
