/-
What the law GridTells runs through, walked: the functions that it calls (part 0).
-/
import Derived.Test.YtpmjmbpcdacamaaTab
import Derived.Test.YtpmjmbpcdacamaaFwDOver
import Derived.KernelRfl
import Derived.Test.YtpmjmbpcdacamaaFwDX
set_option linter.unusedSimpArgs false
set_option linter.unusedVariables false
set_option linter.unnecessarySimpa false
namespace Go.D.Tab

/-! Functions of one byte: told once for each byte. -/
def byteP (F : Nat → DV) : List DV → Option DV
  | [.int .u8 (.ofNat c)] => if c < 256 then some (F c) else none
  | _ => none

theorem byteP_ran {g : Nat} {F : Nat → DV} (hr : ((List.range 256).all fun c => tells tree.get 1000 g [.int .u8 (.ofNat c)] st0 (F c)) = true) (hf : ∀ c, (F c).free = true) : ∀ as v, byteP F as = some v → Ran tree.get g as v := by
  intro as v h
  unfold byteP at h
  split at h
  · rename_i c
    split at h
    · rename_i hc
      injection h with h
      subst h
      exact ran_of rfl (hf c) (List.all_eq_true.1 hr c (List.mem_range.2 hc))
    · cases h
  · cases h

/-- A byte's em. -/
def emL : List Nat := [0, 0, 0, 0, 0, 0, 0, 0, 0, 0, 0, 0, 0, 0, 0, 0, 0, 0, 0, 0, 0, 0, 0, 0, 0, 0, 0, 0, 0, 0, 0, 0, 3, 2, 3, 6, 6, 6, 6, 2, 3, 3, 6, 6, 2, 3, 2, 6, 5, 5, 5, 5, 5, 5, 5, 5, 5, 5, 2, 2, 6, 6, 6, 6, 6, 6, 6, 6, 6, 6, 6, 6, 6, 3, 6, 6, 6, 8, 6, 6, 6, 6, 6, 6, 6, 6, 6, 8, 6, 6, 6, 3, 6, 3, 3, 3, 3, 5, 5, 5, 5, 5, 3, 5, 5, 2, 2, 5, 2, 7, 5, 5, 5, 5, 3, 5, 3, 5, 5, 7, 5, 5, 5, 3, 2, 3, 3, 0, 0, 0, 0, 0, 0, 0, 0, 0, 0, 0, 0, 0, 0, 0, 0, 0, 0, 0, 0, 0, 0, 0, 0, 0, 0, 0, 0, 0, 0, 0, 0, 0, 0, 0, 0, 0, 0, 0, 0, 0, 0, 0, 0, 0, 0, 0, 0, 0, 0, 0, 0, 0, 0, 0, 0, 0, 0, 0, 0, 0, 0, 0, 0, 0, 0, 0, 0, 0, 0, 0, 0, 0, 0, 0, 0, 0, 0, 0, 0, 0, 0, 0, 0, 0, 0, 0, 0, 0, 0, 0, 0, 0, 0, 0, 0, 0, 0, 0, 0, 0, 0, 0, 0, 0, 0, 0, 0, 0, 0, 0, 0, 0, 0, 0, 0, 0, 0, 0, 0, 0, 0, 0, 0, 0, 0, 0, 0, 0]
def em (c : Nat) : Int := Int.ofNat (emL.getD c 0)
def emV (c : Nat) : DV := .int .i64 (em c)
/-- What a byte is. -/
def kdL : List Nat := [0, 6, 7, 8, 0, 0, 0, 0, 0, 4, 0, 0, 0, 0, 0, 0, 0, 0, 0, 0, 0, 0, 0, 0, 0, 0, 0, 0, 0, 0, 0, 5, 3, 2, 2, 2, 2, 2, 2, 2, 2, 2, 2, 2, 2, 2, 2, 2, 2, 2, 2, 2, 2, 2, 2, 2, 2, 2, 2, 2, 2, 2, 2, 2, 2, 1, 1, 1, 1, 1, 1, 1, 1, 1, 1, 1, 1, 1, 1, 1, 1, 1, 1, 1, 1, 1, 1, 1, 1, 1, 1, 2, 2, 2, 2, 2, 2, 1, 1, 1, 1, 1, 1, 1, 1, 1, 1, 1, 1, 1, 1, 1, 1, 1, 1, 1, 1, 1, 1, 1, 1, 1, 1, 2, 2, 2, 2, 0, 0, 0, 0, 0, 0, 0, 0, 0, 0, 0, 0, 0, 0, 0, 0, 0, 0, 0, 0, 0, 0, 0, 0, 0, 0, 0, 0, 0, 0, 0, 0, 0, 0, 0, 0, 0, 0, 0, 0, 0, 0, 0, 0, 0, 0, 0, 0, 0, 0, 0, 0, 0, 0, 0, 0, 0, 0, 0, 0, 0, 0, 0, 0, 0, 0, 0, 0, 0, 0, 0, 0, 0, 0, 0, 0, 0, 0, 0, 0, 0, 0, 0, 0, 0, 0, 0, 0, 0, 0, 0, 0, 0, 0, 0, 0, 0, 0, 0, 0, 0, 0, 0, 0, 0, 0, 0, 0, 0, 0, 0, 0, 0, 0, 0, 0, 0, 0, 0, 0, 0, 0, 0, 0, 0, 0, 0, 0, 0]
def kd (c : Nat) : Int := Int.ofNat (kdL.getD c 0)
def kdV (c : Nat) : DV := .int .i64 (kd c)
/-- An accent. -/
def isAcc (c : Nat) : Bool := c == 94 || c == 96 || c == 126
def accV (c : Nat) : DV := .bool (isAcc c)

theorem em_runs21 : ((List.range 256).all fun c => tells tree.get 1000 21 [.int .u8 (.ofNat c)] st0 (emV c)) = true := by kernel_rfl
theorem em_runs22 : ((List.range 256).all fun c => tells tree.get 1000 22 [.int .u8 (.ofNat c)] st0 (emV c)) = true := by kernel_rfl
theorem kd_runs68 : ((List.range 256).all fun c => tells tree.get 1000 68 [.int .u8 (.ofNat c)] st0 (kdV c)) = true := by kernel_rfl
theorem kd_runs58 : ((List.range 256).all fun c => tells tree.get 1000 58 [.int .u8 (.ofNat c)] st0 (kdV c)) = true := by kernel_rfl
theorem acc_runs70 : ((List.range 256).all fun c => tells tree.get 1000 70 [.int .u8 (.ofNat c)] st0 (accV c)) = true := by kernel_rfl
theorem acc_runs59 : ((List.range 256).all fun c => tells tree.get 1000 59 [.int .u8 (.ofNat c)] st0 (accV c)) = true := by kernel_rfl

def knownBytes : List (Nat × (List DV → Option DV)) := [(21, byteP emV), (22, byteP emV), (68, byteP kdV), (58, byteP kdV), (70, byteP accV), (59, byteP accV)]

theorem knownBytes_ran : ∀ x ∈ knownBytes, ∀ as v, x.2 as = some v → Ran tree.get x.1 as v := by
  intro x hx
  simp only [knownBytes, List.mem_cons, List.not_mem_nil, or_false] at hx
  rcases hx with rfl | rfl | rfl | rfl | rfl | rfl
  · exact byteP_ran em_runs21 fun _ => rfl
  · exact byteP_ran em_runs22 fun _ => rfl
  · exact byteP_ran kd_runs68 fun _ => rfl
  · exact byteP_ran kd_runs58 fun _ => rfl
  · exact byteP_ran acc_runs70 fun _ => rfl
  · exact byteP_ran acc_runs59 fun _ => rfl

theorem knownBytes_pure : ∀ x ∈ knownBytes, isPure tree.get x.1 = true := by
  intro x hx
  simp only [knownBytes, List.mem_cons, List.not_mem_nil, or_false] at hx
  rcases hx with rfl | rfl | rfl | rfl | rfl | rfl <;> kernel_rfl

/-- A law, or a part of one, without parameters that tells true. -/
def trueP : List DV → Option DV
  | [] => some (.bool true)
  | _ => none

theorem trueP_ran {g : Nat} (h : ∃ n, tells tree.get n g [] st0 (.bool true) = true) : ∀ as v, trueP as = some v → Ran tree.get g as v := by
  intro as v e
  obtain ⟨n, h⟩ := h
  cases as with
  | nil => cases e; exact ran_of rfl rfl h
  | cons a r => cases e

theorem gknown_runs : tells tree.get 1000000 615 [] st0 (.bool true) = true := by kernel_rfl

def known : List (Nat × (List DV → Option DV)) := [(615, trueP)] ++ knownBytes
def tab : Tab := over tree.get known

theorem known_ran : ∀ x ∈ known, ∀ as v, x.2 as = some v → Ran tree.get x.1 as v := by
  intro x hx
  rcases List.mem_append.1 hx with hx | hx
  · simp only [List.mem_cons, List.not_mem_nil, or_false] at hx
    rcases hx with rfl
    exact trueP_ran ⟨_, gknown_runs⟩
  · exact knownBytes_ran x hx

theorem known_pure : ∀ x ∈ known, isPure tree.get x.1 = true := by
  intro x hx
  rcases List.mem_append.1 hx with hx | hx
  · simp only [List.mem_cons, List.not_mem_nil, or_false] at hx
    rcases hx with rfl
    kernel_rfl
  · exact knownBytes_pure x hx

theorem at615 : tab 615 = some (.pprim trueP) := by kernel_rfl
theorem known_run (st : St) : (E tab).F 615 [] st = some (.bool true, st) := F_prim at615 rfl

theorem at30 : tab 30 = some (.code f30) := by kernel_rfl
theorem at37 : tab 37 = some (.code f37) := by kernel_rfl
theorem at31 : tab 31 = some (.code f31) := by kernel_rfl
theorem at38 : tab 38 = some (.code f38) := by kernel_rfl
theorem at21 : tab 21 = some (.pprim (byteP emV)) := by kernel_rfl
theorem at22 : tab 22 = some (.pprim (byteP emV)) := by kernel_rfl

theorem em21 (c : UInt8) (st : St) : (E tab).F 21 [.int .u8 (c.toNat : Int)] st = some (.int .i64 (em c.toNat), st) :=
  F_prim at21 (by show (if c.toNat < 256 then some (emV c.toNat) else _) = _; rw [if_pos (by exact c.toNat_lt)]; rfl)
theorem em22 (c : UInt8) (st : St) : (E tab).F 22 [.int .u8 (c.toNat : Int)] st = some (.int .i64 (em c.toNat), st) :=
  F_prim at22 (by show (if c.toNat < 256 then some (emV c.toNat) else _) = _; rw [if_pos (by exact c.toNat_lt)]; rfl)

/-- A byte's width. -/
def wd (c : UInt8) (size : Int) : Int := IntKind.i64.wrap ((IntKind.i64.wrap (em c.toNat * size)).tdiv 8)
theorem wide_run (c : UInt8) (n : Int) (st : St) : (E tab).F 30 [.int .u8 (c.toNat : Int), .int .i64 n] st = some (.int .i64 (wd c n), st) := by
  refine F_pure (e := .ret) (fr := [(4, .int .i64 (wd c n))]) (st' := st.enter) (v := .int .i64 (wd c n)) _ _ at30 rfl ?_ (.inl rfl) rfl rfl
  simp [f30, em21, wd]
theorem byteWidth_run (c : UInt8) (n : Int) (st : St) : (E tab).F 37 [.int .u8 (c.toNat : Int), .int .i64 n] st = some (.int .i64 (wd c n), st) := by
  refine F_pure (e := .ret) (fr := [(4, .int .i64 (wd c n))]) (st' := st.enter) (v := .int .i64 (wd c n)) _ _ at37 rfl ?_ (.inl rfl) rfl rfl
  simp [f37, em22, wd]

/-- A text's width, from a number on. -/
def tw (n : Int) : Int → List UInt8 → Int
  | a, [] => a
  | a, c :: r => tw n (IntKind.i64.wrap (a + wd c n)) r

theorem L31_run (n : Int) (bs : List UInt8) (hb : bs.length ≤ 4096) (st : St) (cur : Nat) : ∀ (r d : List UInt8) (a : Int), bs = d ++ r →
    (E tab).C f31L0 [(1, .int .i64 n), (5, .int .i64 a), (9, .list cur 1 .no true (bs.map fun b => .int .u8 b.toNat)), (10, .int .i64 bs.length), (11, .int .i64 d.length)] st =
      some (.exit 0, [(1, .int .i64 n), (5, .int .i64 (tw n a r)), (9, .list cur 1 .no true (bs.map fun b => .int .u8 b.toNat)), (10, .int .i64 bs.length), (11, .int .i64 bs.length), (12, .bool false)], st) := by
  intro r
  induction r with
  | nil =>
    intro d a hd
    rw [C_turn (L := f31L0) rfl]
    simp [f31B0, hd, tw]
  | cons c r ih =>
    intro d a hd
    have hl : d.length < bs.length := by rw [hd]; simp
    have hg : bs[d.length] = c := by simp [hd]
    have hw : IntKind.i64.wrap ((d.length : Int) + 1) = ((d ++ [c]).length : Nat) := by rw [IntWalk.i64_in _ (by omega)]; simp
    rw [tw, ← ih (d ++ [c]) (IntKind.i64.wrap (a + wd c n)) (by simp [hd])]
    rw [C_turn (L := f31L0) rfl]
    simp [f31B0, hl, hg, wide_run, hw]

theorem text_run (bs : List UInt8) (hb : bs.length ≤ 4096) (n : Int) (st : St) : (E tab).F 31 [.str bs, .int .i64 n] st = some (.int .i64 (tw n 0 bs), st) := by
  refine F_pure (e := .ret) (fr := [(4, .int .i64 (tw n 0 bs))]) (st' := st.enter) (v := .int .i64 (tw n 0 bs)) _ _ at31 rfl ?_ (.inl rfl) rfl rfl
  have h := L31_run n bs hb st.enter st.enter.cur bs [] 0 rfl
  simp at h
  simp [f31, h]

theorem at57 : tab 57 = some (.code f57) := by kernel_rfl
theorem at60 : tab 60 = some (.code f60) := by kernel_rfl
theorem at39 : tab 39 = some (.code f39) := by kernel_rfl
theorem at32 : tab 32 = some (.code f32) := by kernel_rfl
theorem L38_run (n : Int) (bs : List UInt8) (hb : bs.length ≤ 4096) (st : St) : ∀ (r d : List UInt8) (a : Int), bs = d ++ r →
    (E tab).C f38L0 [(0, .str bs), (1, .int .i64 n), (5, .int .i64 a), (6, .int .i64 d.length)] st =
      some (.exit 0, [(0, .str bs), (1, .int .i64 n), (5, .int .i64 (tw n a r)), (6, .int .i64 bs.length), (10, .bool false)], st) := by
  intro r
  induction r with
  | nil =>
    intro d a hd
    rw [C_turn (L := f38L0) rfl]
    simp [f38B0, hd, tw]
  | cons c r ih =>
    intro d a hd
    have hl : d.length < bs.length := by rw [hd]; simp
    have hg : bs[d.length] = c := by simp [hd]
    have hw : IntKind.i64.wrap ((d.length : Int) + 1) = ((d ++ [c]).length : Nat) := by rw [IntWalk.i64_in _ (by omega)]; simp
    rw [tw, ← ih (d ++ [c]) (IntKind.i64.wrap (a + wd c n)) (by simp [hd])]
    rw [C_turn (L := f38L0) rfl]
    simp [f38B0, hl, hg, byteWidth_run, hw]

theorem textWidth_run (bs : List UInt8) (hb : bs.length ≤ 4096) (n : Int) (st : St) : (E tab).F 38 [.str bs, .int .i64 n] st = some (.int .i64 (tw n 0 bs), st) := by
  refine F_pure (e := .ret) (fr := [(4, .int .i64 (tw n 0 bs))]) (st' := st.enter) (v := .int .i64 (tw n 0 bs)) _ _ at38 rfl ?_ (.inl rfl) rfl rfl
  have h := L38_run n bs hb st.enter bs [] 0 rfl
  simp at h
  simp [f38, h]

/-- What Width tells. -/
def widthV (bs : List UInt8) (n : Int) : DV :=
  if 1 ≤ n ∧ n ≤ 64 then (if 4096 < bs.length then .tuple [.int .i64 0, .int .i64 3] else .tuple [.int .i64 (tw n 0 bs), .int .i64 0]) else .tuple [.int .i64 0, .int .i64 5]

/-! Pairs -/
def pr (a b : UInt8) : List UInt8 → Bool
  | x :: y :: _ :: r => (x == a && y == b) || pr a b r
  | _ => false

theorem u8_eq (x a : UInt8) : ((x.toNat : Int) == (a.toNat : Int)) = (x == a) := by
  rw [Bool.eq_iff_iff]
  simp only [beq_iff_eq]
  constructor
  · intro h; exact UInt8.toNat_inj.1 (by omega)
  · rintro rfl; rfl

theorem L57_run (s : List UInt8) (hs : s.length ≤ 1000) (a b : UInt8) (st : St) : ∀ (k : Nat) (r d : List UInt8), r.length = 3 * k → s = d ++ r →
    (E tab).C f57L0 [(0, .str s), (1, .int .u8 a.toNat), (2, .int .u8 b.toNat), (7, .int .i64 d.length)] st =
      some (if pr a b r then (.ret, [(6, .bool true)], st) else (.exit 0, [(0, .str s), (1, .int .u8 a.toNat), (2, .int .u8 b.toNat), (7, .int .i64 s.length), (12, .bool false)], st)) := by
  intro k
  induction k with
  | zero =>
    intro r d hr hd
    obtain rfl : r = [] := List.length_eq_zero_iff.1 (by omega)
    have hw : IntKind.i64.wrap ((d.length : Int) + 1) = d.length + 1 := by rw [IntWalk.i64_in _ (by simp at hd; subst hd; omega)]
    rw [C_turn (L := f57L0) rfl]
    simp at hd
    subst hd
    have hn : ¬ (s.length : Int) + 1 < s.length := by omega
    simp [f57B0, pr, hw, hn]
  | succ k ih =>
    intro r d hr hd
    match r, hr with
    | x :: y :: z :: r, hr =>
      have e0 : d.length + 3 + r.length = s.length := by simp [hd]; omega
      have hw : IntKind.i64.wrap ((d.length : Int) + 1) = d.length + 1 := by rw [IntWalk.i64_in _ (by omega)]
      have hw3 : IntKind.i64.wrap ((d.length : Int) + 3) = ((d ++ [x, y, z]).length : Nat) := by rw [IntWalk.i64_in _ (by omega)]; simp
      have hl : d.length < s.length := by omega
      have hl1 : d.length + 1 < s.length := by omega
      have hl2 : (d.length : Int) + 1 < s.length := by omega
      have hg : s[d.length] = x := by simp [hd]
      have hg1 : s[d.length + 1] = y := by simp [hd]
      have ht : ((d.length : Int) + 1).toNat = d.length + 1 := by omega
      have h0 : (0 : Int) ≤ (d.length : Int) + 1 := by omega
      rw [C_turn (L := f57L0) rfl]
      by_cases hx : x = a
      · by_cases hy : y = b
        · simp [f57B0, hw, hl, hl1, hl2, hg, hg1, ht, h0, pr, hx, hy]
        · have := ih r (d ++ [x, y, z]) (by simp at hr; omega) (by simp [hd])
          simp [f57B0, hw, hl, hl1, hl2, hg, hg1, ht, h0, u8_eq, pr, hx, hy, hw3] at this ⊢
          exact this
      · have := ih r (d ++ [x, y, z]) (by simp at hr; omega) (by simp [hd])
        simp [f57B0, hw, hl, hl2, hg, u8_eq, pr, hx, hw3] at this ⊢
        exact this

theorem paired_run (s : List UInt8) (k : Nat) (hk : s.length = 3 * k) (hs : s.length ≤ 1000) (a b : UInt8) (st : St) : (E tab).F 57 [.str s, .int .u8 a.toNat, .int .u8 b.toNat] st = some (.bool (pr a b s), st) := by
  refine F_pure (e := .ret) (fr := [(6, .bool (pr a b s))]) (st' := st.enter) (v := .bool (pr a b s)) _ _ at57 rfl ?_ (.inl rfl) rfl rfl
  have h := L57_run s hs a b st.enter k s [] hk rfl
  simp at h
  by_cases hp : pr a b s = true
  · simp only [hp, if_true] at h
    simp [f57, h, hp]
  · simp only [hp] at h
    simp [f57, h, hp]

def P19 : List (UInt8 × UInt8) := [(65, 84), (65, 86), (65, 87), (65, 89), (84, 65), (86, 65), (87, 65), (89, 65), (76, 84), (76, 86), (76, 89), (80, 65), (84, 111), (84, 97), (84, 101), (86, 111), (86, 97), (89, 111), (89, 97)]
def P10 : List (UInt8 × UInt8) := [(114, 46), (114, 44), (102, 46), (102, 44), (118, 46), (121, 46), (65, 118), (65, 121), (111, 118), (118, 111)]
def isP (l : List (UInt8 × UInt8)) (a b : UInt8) : Bool := l.any fun p => p.1 == a && p.2 == b
def txt (l : List (UInt8 × UInt8)) : List UInt8 := l.flatMap fun p => [p.1, p.2, 32]
def two (l : List (UInt8 × UInt8)) : List (List UInt8) := l.map fun p => [p.1, p.2]

theorem pr_txt (a b : UInt8) : ∀ l, pr a b (txt l) = isP l a b
  | [] => rfl
  | p :: r => by
    have := pr_txt a b r
    unfold txt isP at *
    simp only [List.flatMap_cons, List.cons_append, List.nil_append, pr, List.any_cons, this]

theorem two_in (a b : UInt8) : ∀ l, (two l).any (fun s => s == [a, b]) = isP l a b
  | [] => rfl
  | p :: r => by
    have := two_in a b r
    unfold two isP at *
    simp only [List.map_cons, List.any_cons, this]
    congr 1
    simp [List.cons_beq_cons]

theorem disjoint (a b : UInt8) (h : isP P19 a b = true) : isP P10 a b = false := by
  unfold isP at *
  rw [List.any_eq_true] at h
  obtain ⟨p, hp, h⟩ := h
  rw [Bool.and_eq_true] at h
  have h1 := eq_of_beq h.1
  have h2 := eq_of_beq h.2
  subst h1; subst h2
  revert p
  decide

theorem L60_run (l : List (List UInt8)) (hl : l.length ≤ 1000) (s : List UInt8) (cur : Nat) (tk : Tk) (st : St) : ∀ (r d : List (List UInt8)), l = d ++ r →
    (E tab).C f60L0 [(0, .list cur 1 tk true (l.map .str)), (1, .str s), (5, .int .i64 d.length)] st =
      some (if r.any (· == s) then (.ret, [(4, .bool true)], st) else (.exit 0, [(0, .list cur 1 tk true (l.map .str)), (1, .str s), (5, .int .i64 l.length), (9, .bool false)], st)) := by
  intro r
  induction r with
  | nil =>
    intro d hd
    simp at hd
    subst hd
    rw [C_turn (L := f60L0) rfl]
    simp [f60B0]
  | cons x r ih =>
    intro d hd
    have h0 : d.length < l.length := by simp [hd]
    have hw : IntKind.i64.wrap ((d.length : Int) + 1) = ((d ++ [x]).length : Nat) := by rw [IntWalk.i64_in _ (by omega)]; simp
    have hg : l[d.length] = x := by simp [hd]
    rw [C_turn (L := f60L0) rfl]
    by_cases hx : x = s
    · simp [f60B0, h0, hg, hx]
    · have := ih (d ++ [x]) (by simp [hd])
      simp [f60B0, h0, hg, hx, hw] at this ⊢
      exact this

theorem pair_run (l : List (List UInt8)) (hl : l.length ≤ 1000) (s : List UInt8) (cur : Nat) (tk : Tk) (st : St) : (E tab).F 60 [.list cur 1 tk true (l.map .str), .str s] st = some (.bool (l.any (· == s)), st) := by
  refine F_pure (e := .ret) (fr := [(4, .bool (l.any (· == s)))]) (st' := st.enter) (v := .bool (l.any (· == s))) _ _ at60 rfl ?_ (.inl rfl) rfl rfl
  have h := L60_run l hl s cur tk st.enter l [] rfl
  generalize (l.any (· == s)) = v at h ⊢
  simp at h
  cases v <;> simp [f60, h]

/-- How much nearer. -/
def nearV (a b : UInt8) (n : Int) : Int := if isP P10 a b then -(n / 16) else if isP P19 a b then -(2 * n / 16) else 0

theorem nearer_run (a b : UInt8) (n : Int) (hn : 1 ≤ n ∧ n ≤ 64) (st : St) : (E tab).F 32 [.int .u8 a.toNat, .int .u8 b.toNat, .int .i64 n] st = some (.int .i64 (nearV a b n), st) := by
  refine F_pure (e := .ret) (fr := [(6, .int .i64 (nearV a b n))]) (st' := st.enter) (v := .int .i64 (nearV a b n)) _ _ at32 rfl ?_ (.inl rfl) rfl rfl
  have h19 := paired_run (txt P19) 19 (by rfl) (by decide) a b st.enter
  have h10 := paired_run (txt P10) 10 (by rfl) (by decide) a b st.enter
  rw [pr_txt] at h19 h10
  simp only [show txt P19 = [65, 84, 32, 65, 86, 32, 65, 87, 32, 65, 89, 32, 84, 65, 32, 86, 65, 32, 87, 65, 32, 89, 65, 32, 76, 84, 32, 76, 86, 32, 76, 89, 32, 80, 65, 32, 84, 111, 32, 84, 97, 32, 84, 101, 32, 86, 111, 32, 86, 97, 32, 89, 111, 32, 89, 97, 32] from rfl] at h19
  simp only [show txt P10 = [114, 46, 32, 114, 44, 32, 102, 46, 32, 102, 44, 32, 118, 46, 32, 121, 46, 32, 65, 118, 32, 65, 121, 32, 111, 118, 32, 118, 111, 32] from rfl] at h10
  have w1 : IntKind.i64.wrap n = n := IntWalk.i64_in _ (by omega)
  have w2 : IntKind.i64.wrap (2 * n) = 2 * n := IntWalk.i64_in _ (by omega)
  have w3 : IntKind.i64.wrap ((2 * n).tdiv 16) = 2 * n / 16 := IntWalk.i64_quo _ _ (by omega)
  have w4 : IntKind.i64.wrap (n.tdiv 16) = n / 16 := IntWalk.i64_quo _ _ (by omega)
  have w5 : IntKind.i64.wrap (-(n / 16)) = -(n / 16) := IntWalk.i64_in _ (by omega)
  have w6 : IntKind.i64.wrap (-(2 * n / 16)) = -(2 * n / 16) := IntWalk.i64_in _ (by omega)
  have w7 : IntKind.i64.wrap 0 = 0 := by decide
  cases e1 : isP P19 a b <;> cases e2 : isP P10 a b <;> rw [e1] at h19 <;> rw [e2] at h10 <;>
  simp [f32, h19, h10, nearV, e1, e2, w1, w2, w3, w4, w5, w6, w7]

theorem lit2 (a b : UInt8) (r : Fr) (st : St) (T : Tab) : opE T (.lit 1 false [.int .u8 0] 2 [(0, .t 8), (1, .t 9)]) ((9, .int .u8 b.toNat) :: (8, .int .u8 a.toNat) :: r) st = some (.list st.cur 1 .tight true [.int .u8 a.toNat, .int .u8 b.toNat], st) := by
  rfl

theorem str2 (a b : UInt8) (r : Fr) (st : St) (c : Nat) (T : Tab) : opE T (.b2s (.t 10)) ((10, .list c 1 .tight true [.int .u8 a.toNat, .int .u8 b.toNat]) :: r) st = some (.str [a, b], st) := by
  simp [op_b2s, newsD, flat, bytesOfD]

theorem l19 (fr : Fr) (st : St) (T : Tab) : opE T (.lit 1 false [(.str [])] 19 [(0, (.c (.str [65, 84]))), (1, (.c (.str [65, 86]))), (2, (.c (.str [65, 87]))), (3, (.c (.str [65, 89]))), (4, (.c (.str [84, 65]))), (5, (.c (.str [86, 65]))), (6, (.c (.str [87, 65]))), (7, (.c (.str [89, 65]))), (8, (.c (.str [76, 84]))), (9, (.c (.str [76, 86]))), (10, (.c (.str [76, 89]))), (11, (.c (.str [80, 65]))), (12, (.c (.str [84, 111]))), (13, (.c (.str [84, 97]))), (14, (.c (.str [84, 101]))), (15, (.c (.str [86, 111]))), (16, (.c (.str [86, 97]))), (17, (.c (.str [89, 111]))), (18, (.c (.str [89, 97])))]) fr st = some (.list st.cur 1 .tight true ((two P19).map .str), st) := by kernel_rfl
theorem l10 (fr : Fr) (st : St) (T : Tab) : opE T (.lit 1 false [(.str [])] 10 [(0, (.c (.str [114, 46]))), (1, (.c (.str [114, 44]))), (2, (.c (.str [102, 46]))), (3, (.c (.str [102, 44]))), (4, (.c (.str [118, 46]))), (5, (.c (.str [121, 46]))), (6, (.c (.str [65, 118]))), (7, (.c (.str [65, 121]))), (8, (.c (.str [111, 118]))), (9, (.c (.str [118, 111])))]) fr st = some (.list st.cur 1 .tight true ((two P10).map .str), st) := by kernel_rfl

theorem Pair_run (a b : UInt8) (n : Int) (hn : 1 ≤ n ∧ n ≤ 64) (st : St) : (E tab).F 39 [.int .u8 a.toNat, .int .u8 b.toNat, .int .i64 n] st = some (.int .i64 (nearV a b n), st) := by
  refine F_pure (e := .ret) (fr := [(6, .int .i64 (nearV a b n))]) (st' := st.enter) (v := .int .i64 (nearV a b n)) _ _ at39 rfl ?_ (.inl rfl) rfl rfl
  have h19 := pair_run (two P19) (by decide) [a, b] st.enter.cur .tight st.enter
  have h10 := pair_run (two P10) (by decide) [a, b] st.enter.cur .tight st.enter
  rw [two_in] at h19 h10
  have w2 : IntKind.i64.wrap (2 * n) = 2 * n := IntWalk.i64_in _ (by omega)
  have w3 : IntKind.i64.wrap ((2 * n).tdiv 16) = 2 * n / 16 := IntWalk.i64_quo _ _ (by omega)
  have w4 : IntKind.i64.wrap (n.tdiv 16) = n / 16 := IntWalk.i64_quo _ _ (by omega)
  have w5 : IntKind.i64.wrap (-(n / 16)) = -(n / 16) := IntWalk.i64_in _ (by omega)
  have w6 : IntKind.i64.wrap (-(2 * n / 16)) = -(2 * n / 16) := IntWalk.i64_in _ (by omega)
  have hd := disjoint a b
  cases e1 : isP P19 a b <;> cases e2 : isP P10 a b <;> rw [e1] at h19 hd <;> rw [e2] at h10 hd <;> simp at hd
  all_goals
    simp [f39, intBinD, unD, lit2, str2, l19, l10, h19, h10, nearV, e1, e2, w2, w3, w4, w5, w6]

theorem at23 : tab 23 = some (.code f23) := by kernel_rfl
/-- A mass. -/
structure Mass where
  a : Int
  b : Int
  k : Int
  s : Int
  w : Int
  e : Int
  deriving DecidableEq

def Mass.cs (m : Mass) : List DV := [.int .i64 m.a, .int .i64 m.b, .int .i64 m.k, .int .i64 m.s, .int .i64 m.w, .int .i64 m.e]
def Mass.dv (m : Mass) : DV := .agg m.cs
@[simp] theorem Mass.leaves (m : Mass) : m.dv.leaves = m.cs := rfl

def okM (m : Mass) : Bool := decide (0 ≤ m.w ∧ m.w ≤ 4095 ∧ -64 ≤ m.e ∧ m.e ≤ 0)

/-- A run's width, from a number on ('o': nothing stands ahead). -/
def runGo (o : Bool) (n : Int) : List Mass → Int
  | [] => n
  | m :: r => runGo false (if o then n + m.w else n + m.w + m.e) r

theorem L23_0 (l : List Mass) (hl : l.length ≤ 4096) (x y : DV) (t n6 : Nat) (tk : Tk) (nn : Bool) (h6 : l ≠ [] → n6 = 6) (st : St) (K : List Nat) : ∀ (r d : List Mass) (H : List HO), l = d ++ r →
    ∃ J, (E tab).C f23L0 [(0, .list t n6 tk nn (l.map Mass.dv)), (1, x), (2, y), (16, .list t n6 tk nn (l.map Mass.dv)), (17, .int .i64 l.length), (18, .int .i64 d.length)] (pst st H K) =
      some (if r.all okM then (.exit 0, [(0, .list t n6 tk nn (l.map Mass.dv)), (1, x), (2, y), (16, .list t n6 tk nn (l.map Mass.dv)), (17, .int .i64 l.length), (18, .int .i64 l.length), (19, .bool false)], pst st (H ++ J) K)
        else (.ret, [(6, .int .i64 0), (7, .int .i64 2)], pst st (H ++ J) K)) := by
  intro r
  induction r with
  | nil =>
    intro d H hd
    refine ⟨[], ?_⟩
    rw [C_turn (L := f23L0) rfl]
    simp [f23B0, hd]
  | cons m r ih =>
    intro d H hd
    obtain rfl : n6 = 6 := h6 (by simp [hd])
    have h0 : d.length < l.length := by simp [hd]
    have hw : IntKind.i64.wrap ((d.length : Int) + 1) = ((d ++ [m]).length : Nat) := by rw [i64w (by omega)]; simp
    have hg : l[d.length] = m := by simp [hd]
    by_cases ho : okM m = true
    · obtain ⟨J, hJ⟩ := ih (d ++ [m]) (H ++ [.cells .plain m.cs]) (by simp [hd])
      refine ⟨.cells .plain m.cs :: J, ?_⟩
      rw [C_turn (L := f23L0) rfl]
      obtain ⟨o1, o2, o3, o4⟩ : 0 ≤ m.w ∧ m.w ≤ 4095 ∧ -64 ≤ m.e ∧ m.e ≤ 0 := by simpa [okM] using ho
      have o1' : ¬ m.w < 0 := by omega
      have o2' : ¬ 4095 < m.w := by omega
      have o3' : ¬ m.e < -64 := by omega
      have o4' : ¬ 0 < m.e := by omega
      simp [f23B0, h0, hg, hw, Mass.cs, o1', o2', o3', o4', ho] at hJ ⊢
      exact hJ
    · refine ⟨[.cells .plain m.cs], ?_⟩
      rw [C_turn (L := f23L0) rfl]
      simp [okM] at ho
      by_cases o1 : m.w < 0
      · simp [f23B0, h0, hg, Mass.cs, o1, okM, show ¬ 0 ≤ m.w by omega]
      by_cases o2 : 4095 < m.w
      · simp [f23B0, h0, hg, Mass.cs, o1, o2, okM, show ¬ m.w ≤ 4095 by omega]
      by_cases o3 : m.e < -64
      · simp [f23B0, h0, hg, Mass.cs, o1, o2, o3, okM, show ¬ -64 ≤ m.e by omega]
      have o4 : 0 < m.e := by omega
      simp [f23B0, h0, hg, Mass.cs, o1, o2, o3, o4, okM, show ¬ m.e ≤ 0 by omega]

theorem L23_1 (l : List Mass) (hl : l.length ≤ 4096) (hok : l.all okM = true) (t n6 : Nat) (tk : Tk) (nn : Bool) (h6 : l ≠ [] → n6 = 6) (st : St) (K : List Nat) : ∀ (r d : List Mass) (H : List HO) (n : Int), l = d ++ r → -64 * (d.length : Int) ≤ n → n ≤ 4095 * d.length →
    ∃ J, (E tab).C f23L1 [(10, .int .i64 n), (57, .list t n6 tk nn (l.map Mass.dv)), (58, .int .i64 l.length), (59, .int .i64 d.length)] (pst st H K) =
      some (.exit 2, [(10, .int .i64 (runGo d.isEmpty n r)), (57, .list t n6 tk nn (l.map Mass.dv)), (58, .int .i64 l.length), (59, .int .i64 l.length), (60, .bool false)], pst st (H ++ J) K) := by
  intro r
  induction r with
  | nil =>
    intro d H n hd _ _
    refine ⟨[], ?_⟩
    rw [C_turn (L := f23L1) rfl]
    simp [f23B1, hd, runGo]
  | cons m r ih =>
    intro d H n hd h1 h2
    obtain rfl : n6 = 6 := h6 (by simp [hd])
    have h0 : d.length < l.length := by simp [hd]
    have hw : IntKind.i64.wrap ((d.length : Int) + 1) = ((d ++ [m]).length : Nat) := by rw [i64w (by omega)]; simp
    have hg : l[d.length] = m := by simp [hd]
    have hm : okM m = true := List.all_eq_true.1 hok m (by simp [hd])
    obtain ⟨o1, o2, o3, o4⟩ : 0 ≤ m.w ∧ m.w ≤ 4095 ∧ -64 ≤ m.e ∧ m.e ≤ 0 := by simpa [okM] using hm
    have hd' : d.length + r.length + 1 = l.length := by simp [hd]; omega
    have hw1 : IntKind.i64.wrap (n + m.w) = n + m.w := i64w (by omega)
    have hw2 : IntKind.i64.wrap (n + m.w + m.e) = n + m.w + m.e := i64w (by omega)
    obtain ⟨J, hJ⟩ := ih (d ++ [m]) (H ++ [.cells .plain m.cs]) (if d.isEmpty then n + m.w else n + m.w + m.e) (by simp [hd]) (by split <;> simp <;> omega) (by split <;> simp <;> omega)
    refine ⟨.cells .plain m.cs :: J, ?_⟩
    have hE : (d ++ [m]).isEmpty = false := by cases d <;> rfl
    rw [hE] at hJ
    rw [C_turn (L := f23L1) rfl]
    by_cases he : d = []
    · subst he
      simp at h0 hg hw
      simp [f23B1, h0, hg, hw, Mass.cs, hw1, runGo] at hJ ⊢
      exact hJ
    · have hp : 0 < d.length := List.length_pos_iff.2 he
      simp [f23B1, h0, hg, hw, Mass.cs, hw1, hw2, runGo, he, hp] at hJ ⊢
      exact hJ

/-- What Natural tells. -/
def natV (l : List Mass) (x y : Int) : DV :=
  if 4096 < l.length then .tuple [.int .i64 0, .int .i64 3] else
  if l.all okM = false then .tuple [.int .i64 0, .int .i64 2] else
  if 0 ≤ x ∧ x ≤ y ∧ y ≤ l.length then .tuple [.int .i64 (runGo true 0 ((l.drop x.toNat).take (y.toNat - x.toNat))), .int .i64 0] else .tuple [.int .i64 0, .int .i64 5]

theorem natural23 (l : List Mass) (x y : Int) (t n6 : Nat) (tk : Tk) (nn : Bool) (h6 : l ≠ [] → n6 = 6) (h7 : nn = true → n6 = 6) (st : St) :
    (E tab).F 23 [.list t n6 tk nn (l.map Mass.dv), .int .i64 x, .int .i64 y] st = some (natV l x y, st) := by
  rw [F_run at23 rfl]
  by_cases h1 : 4096 < l.length
  · have h1' : (4096 : Int) < l.length := by omega
    simp [f23, h1', natV, h1]
  have h1' : ¬ (4096 : Int) < l.length := by omega
  obtain ⟨J, hJ⟩ := L23_0 l (by omega) (.int .i64 x) (.int .i64 y) t n6 tk nn h6 st [] l [] [] rfl
  simp at hJ
  by_cases h2 : l.all okM = true
  · rw [List.all_eq_true] at h2
    rw [if_pos h2] at hJ
    rw [← List.all_eq_true] at h2
    by_cases a1 : x < 0
    · simp [f23, h1', natV, h1, hJ, h2, a1, show ¬ 0 ≤ x by omega]
    by_cases a2 : y < x
    · simp [f23, h1', natV, h1, hJ, h2, a1, a2, show ¬ x ≤ y by omega]
    by_cases a3 : l.length < y
    · simp [f23, h1', natV, h1, hJ, h2, a1, a2, a3, show ¬ y ≤ l.length by omega]
    have a4 : sliceD false 6 (.list t n6 tk nn (l.map Mass.dv)) (some (.int .i64 x)) (some (.int .i64 y)) none = _ := slice_ll h7 (by omega) (by omega) (by simp; omega)
    rw [← List.map_drop, ← List.map_take] at a4
    have hq : ((l.drop x.toNat).take (y.toNat - x.toNat)).all okM = true := by
      rw [List.all_eq_true] at h2 ⊢
      exact fun m hm => h2 m (List.mem_of_mem_drop (List.mem_of_mem_take hm))
    have hl : ((l.drop x.toNat).take (y.toNat - x.toNat)).length ≤ 4096 := by simp; omega
    have hb : 0 ≤ x ∧ x ≤ y ∧ y ≤ l.length := by omega
    obtain ⟨J2, hJ2⟩ := L23_1 _ hl hq t n6 (slTk tk l.length x.toNat y.toNat) nn (fun h => h6 (fun e => h (by rw [e]; simp))) st [] _ [] J 0 rfl (by simp) (by simp)
    have e1 : min (y.toNat - x.toNat) (l.length - x.toNat) = y.toNat - x.toNat := by omega
    simp [e1] at hJ2 a4
    simp [f23, h1', natV, h1, hJ, h2, a1, a2, a3, a4, hb, hJ2, e1]
  · have h3 : l.all okM = false := by simpa using h2
    rw [List.all_eq_true] at h2
    rw [if_neg h2] at hJ
    simp [f23, h1', natV, h1, hJ, h3]

theorem at53 : tab 53 = some (.code f53) := by kernel_rfl

theorem L53_0 (l : List Mass) (hl : l.length ≤ 4096) (hok : l.all okM = true) (x y : Nat) (hy : y ≤ l.length) (t n6 : Nat) (tk : Tk) (nn : Bool) (h6 : l ≠ [] → n6 = 6) (st : St) : ∀ (k i : Nat) (n : Int), y = i + k → x ≤ i → -64 * (i : Int) ≤ n → n ≤ 4095 * i →
    (E tab).C f53L0 [(0, .list t n6 tk nn (l.map Mass.dv)), (1, .int .i64 x), (2, .int .i64 y), (7, .int .i64 n), (8, .int .i64 i)] st =
      some (.exit 0, [(0, .list t n6 tk nn (l.map Mass.dv)), (1, .int .i64 x), (2, .int .i64 y), (7, .int .i64 (runGo (i == x) n ((l.drop i).take k))), (8, .int .i64 y), (12, .bool false)], st) := by
  intro k
  induction k with
  | zero =>
    intro i n hi _ _ _
    subst hi
    rw [C_turn (L := f53L0) rfl]
    simp [f53B0, runGo]
  | succ k ih =>
    intro i n hi hx h1 h2
    have h0 : i < l.length := by omega
    obtain rfl : n6 = 6 := h6 (fun e => by rw [e] at h0; simp at h0)
    have h0' : i < y := by omega
    have hw : IntKind.i64.wrap ((i : Int) + 1) = ((i + 1 : Nat) : Int) := by rw [i64w (by omega)]; simp
    have hg : (l.drop i).take (k + 1) = l[i] :: (l.drop (i + 1)).take k := by rw [List.drop_eq_getElem_cons h0, List.take_succ_cons]
    generalize hm : l[i] = m at *
    have ho : okM m = true := List.all_eq_true.1 hok m (by rw [← hm]; exact List.getElem_mem h0)
    obtain ⟨o1, o2, o3, o4⟩ : 0 ≤ m.w ∧ m.w ≤ 4095 ∧ -64 ≤ m.e ∧ m.e ≤ 0 := by simpa [okM] using ho
    have hw1 : IntKind.i64.wrap (n + m.w) = n + m.w := i64w (by omega)
    have hw2 : IntKind.i64.wrap (n + m.w + m.e) = n + m.w + m.e := i64w (by omega)
    have e1 : ((i + 1) == x) = false := by simp; omega
    rw [C_turn (L := f53L0) rfl, hg]
    by_cases he : x = i
    · subst he
      have hJ := ih (x + 1) (n + m.w) (by omega) (by omega) (by omega) (by omega)
      rw [e1] at hJ
      simp [f53B0, h0, h0', hw, hm, Mass.cs, hw1, runGo] at hJ ⊢
      exact hJ
    · have hp : x < i := by omega
      have hJ := ih (i + 1) (n + m.w + m.e) (by omega) (by omega) (by omega) (by omega)
      rw [e1] at hJ
      simp [f53B0, h0, h0', hw, hm, Mass.cs, hw1, hw2, runGo, hp, show ¬ i = x by omega] at hJ ⊢
      exact hJ

theorem run53 (l : List Mass) (hl : l.length ≤ 4096) (hok : l.all okM = true) (x y : Nat) (hx : x ≤ y) (hy : y ≤ l.length) (t n6 : Nat) (tk : Tk) (nn : Bool) (h6 : l ≠ [] → n6 = 6) (st : St) :
    (E tab).F 53 [.list t n6 tk nn (l.map Mass.dv), .int .i64 x, .int .i64 y] st = some (.int .i64 (runGo true 0 ((l.drop x).take (y - x))), st) := by
  rw [F_run at53 rfl]
  have h := L53_0 l hl hok x y hy t n6 tk nn h6 (pst st [] []) (y - x) x 0 (by omega) (by omega) (by omega) (by omega)
  simp at h
  simp [f53, h]

theorem el_mass (m : Mass) : IsEl 6 true m.dv := ⟨rfl, rfl, rfl⟩

theorem at54 : tab 54 = some (.code f54) := by kernel_rfl
theorem at45 : tab 45 = some (.code f45) := by kernel_rfl
theorem at27 : tab 27 = some (.code f27) := by kernel_rfl
theorem at55 : tab 55 = some (.code f55) := by kernel_rfl
theorem at69 : tab 69 = some (.code f69) := by kernel_rfl
theorem at33 : tab 33 = some (.code f33) := by kernel_rfl
theorem at68 : tab 68 = some (.pprim (byteP kdV)) := by kernel_rfl
theorem at58 : tab 58 = some (.pprim (byteP kdV)) := by kernel_rfl
theorem at70 : tab 70 = some (.pprim (byteP accV)) := by kernel_rfl
theorem at59 : tab 59 = some (.pprim (byteP accV)) := by kernel_rfl

theorem byte_run {g : Nat} {F : Nat → DV} (h : tab g = some (.pprim (byteP F))) (c : UInt8) (st : St) : (E tab).F g [.int .u8 (c.toNat : Int)] st = some (F c.toNat, st) :=
  F_prim h (by show (if c.toNat < 256 then some (F c.toNat) else _) = _; rw [if_pos (by exact c.toNat_lt)])
theorem kd68 (c : UInt8) (st : St) : (E tab).F 68 [.int .u8 (c.toNat : Int)] st = some (.int .i64 (kd c.toNat), st) := byte_run at68 c st
theorem kd58 (c : UInt8) (st : St) : (E tab).F 58 [.int .u8 (c.toNat : Int)] st = some (.int .i64 (kd c.toNat), st) := byte_run at58 c st
theorem acc70 (c : UInt8) (st : St) : (E tab).F 70 [.int .u8 (c.toNat : Int)] st = some (.bool (isAcc c.toNat), st) := byte_run at70 c st
theorem acc59 (c : UInt8) (st : St) : (E tab).F 59 [.int .u8 (c.toNat : Int)] st = some (.bool (isAcc c.toNat), st) := byte_run at59 c st

/-- May a byte stand in a text? -/
def mayK (c : UInt8) : Bool := !(kd c.toNat == 0)
/-- What is wrong with a text. -/
def wrongN (s : List UInt8) : Int := if 4096 < s.length then 3 else if s.all mayK then 0 else 4

theorem L54_0 (s : List UInt8) (hs : s.length ≤ 4096) (st : St) (cur : Nat) : ∀ (r d : List UInt8), s = d ++ r →
    (E tab).C f54L0 [(9, .list cur 1 .no true (s.map fun b => .int .u8 b.toNat)), (10, .int .i64 s.length), (11, .int .i64 d.length)] st =
      some (if r.all mayK then (.exit 0, [(9, .list cur 1 .no true (s.map fun b => .int .u8 b.toNat)), (10, .int .i64 s.length), (11, .int .i64 s.length), (12, .bool false)], st) else (.ret, [(2, .int .i64 4)], st)) := by
  intro r
  induction r with
  | nil =>
    intro d hd
    rw [C_turn (L := f54L0) rfl]
    simp [f54B0, hd]
  | cons c r ih =>
    intro d hd
    have h0 : d.length < s.length := by simp [hd]
    have hw : IntKind.i64.wrap ((d.length : Int) + 1) = ((d ++ [c]).length : Nat) := by rw [i64w (by omega)]; simp
    have hg : s[d.length] = c := by simp [hd]
    rw [C_turn (L := f54L0) rfl]
    have hJ := ih (d ++ [c]) (by simp [hd])
    by_cases hk : kd c.toNat = 0
    · simp [f54B0, h0, hg, kd68, hk, mayK]
    · simp [f54B0, h0, hg, hw, kd68, hk, mayK] at hJ ⊢
      exact hJ

theorem wrong54 (s : List UInt8) (st : St) : (E tab).F 54 [.str s] st = some (.int .i64 (wrongN s), st) := by
  rw [F_run at54 rfl]
  by_cases h1 : 4096 < s.length
  · simp [f54, wrongN, h1, show (4096 : Int) < s.length by omega]
  · have h := L54_0 s (by omega) (pst st [] []) st.cur s [] rfl
    simp at h
    cases h2 : s.all mayK with
    | true =>
      rw [if_pos (by simpa using h2)] at h
      simp [f54, wrongN, h1, show ¬ (4096 : Int) < s.length by omega, h, h2]
    | false =>
      rw [if_neg (by simpa using h2)] at h
      simp [f54, wrongN, h1, show ¬ (4096 : Int) < s.length by omega, h, h2]

theorem L45_0 (s : List UInt8) (hs : s.length ≤ 4096) (st : St) : ∀ (r d : List UInt8), s = d ++ r →
    (E tab).C f45L0 [(0, .str s), (3, .int .i64 d.length)] st =
      some (if r.all mayK then (.exit 0, [(0, .str s), (3, .int .i64 s.length), (10, .bool false)], st) else (.ret, [(2, .int .i64 4)], st)) := by
  intro r
  induction r with
  | nil =>
    intro d hd
    rw [C_turn (L := f45L0) rfl]
    simp [f45B0, hd]
  | cons c r ih =>
    intro d hd
    have h0 : d.length < s.length := by simp [hd]
    have hw : IntKind.i64.wrap ((d.length : Int) + 1) = ((d ++ [c]).length : Nat) := by rw [i64w (by omega)]; simp
    have hg : s[d.length] = c := by simp [hd]
    rw [C_turn (L := f45L0) rfl]
    have hJ := ih (d ++ [c]) (by simp [hd])
    by_cases hk : kd c.toNat = 0
    · simp [f45B0, h0, hg, kd58, hk, mayK]
    · simp [f45B0, h0, hg, hw, kd58, hk, mayK] at hJ ⊢
      exact hJ

theorem wrong45 (s : List UInt8) (st : St) : (E tab).F 45 [.str s] st = some (.int .i64 (wrongN s), st) := by
  rw [F_run at45 rfl]
  by_cases h1 : 4096 < s.length
  · simp [f45, wrongN, h1, show (4096 : Int) < s.length by omega]
  · have h := L45_0 s (by omega) (pst st [] []) s [] rfl
    simp at h
    cases h2 : s.all mayK with
    | true =>
      rw [if_pos (by simpa using h2)] at h
      simp [f45, wrongN, h1, show ¬ (4096 : Int) < s.length by omega, h, h2]
    | false =>
      rw [if_neg (by simpa using h2)] at h
      simp [f45, wrongN, h1, show ¬ (4096 : Int) < s.length by omega, h, h2]

/-! Clusters -/
structure Clu where
  a : Nat
  b : Nat
  k : Int
  deriving DecidableEq
def Clu.cs (c : Clu) : List DV := [.int .i64 c.a, .int .i64 c.b, .int .i64 c.k]
def Clu.dv (c : Clu) : DV := .agg c.cs
@[simp] theorem Clu.leaves (c : Clu) : c.dv.leaves = c.cs := rfl
theorem el_clu (c : Clu) : IsEl 3 true c.dv := ⟨rfl, rfl, rfl⟩

/-- Where a cluster ends that so many accents may still join. -/
def adv (s : List UInt8) (k : Int) : Nat → Nat → Nat
  | 0, t => t
  | n + 1, t => if k = 1 ∧ t < s.length ∧ isAcc (s.getD t 0).toNat = true then adv s k n (t + 1) else t
def kdAt (s : List UInt8) (i : Nat) : Int := kd (s.getD i 0).toNat
def cTo (s : List UInt8) (i : Nat) : Nat := adv s (kdAt s i) 2 (i + 1)
def clusF (s : List UInt8) : Nat → Nat → List Clu
  | 0, _ => []
  | n + 1, i => if i < s.length then ⟨i, cTo s i, kdAt s i⟩ :: clusF s n (cTo s i) else []
def clus (s : List UInt8) : List Clu := clusF s s.length 0

theorem adv_le (s : List UInt8) (k : Int) : ∀ n t, t ≤ adv s k n t ∧ adv s k n t ≤ t + n ∧ (t ≤ s.length → adv s k n t ≤ s.length)
  | 0, t => ⟨Nat.le_refl _, Nat.le_refl _, id⟩
  | n + 1, t => by
    unfold adv
    split
    · rename_i h
      have := adv_le s k n (t + 1)
      exact ⟨by omega, by omega, fun _ => this.2.2 (by omega)⟩
    · exact ⟨Nat.le_refl _, by omega, id⟩

theorem byteAt {s : List UInt8} {i : Nat} (h : i < s.length) : s[i]? = some (s.getD i 0) := by
  simp [List.getElem?_eq_getElem h]

theorem L33_0 (s : List UInt8) (hs : s.length ≤ 4096) (v : DV) (st : St) (A : List HO) (K : List Nat) (a : Nat) (ha : a < s.length) (k : Int) : ∀ (n t : Nat), t + n = a + 3 → 1 ≤ t →
    (E tab).C f33L0 [(0, .str s), (5, v), (6, .int .i64 a), (7, .ptr (st.heap.length + A.length) 0)] (pst st (A ++ [.cells .plain [.int .i64 a, .int .i64 t, .int .i64 k]]) K) =
      some (.exit 2, [(0, .str s), (5, v), (6, .int .i64 a), (7, .ptr (st.heap.length + A.length) 0), (48, .bool false)], pst st (A ++ [.cells .plain [.int .i64 a, .int .i64 (adv s k n t), .int .i64 k]]) K) := by
  intro n
  induction n with
  | zero =>
    intro t ht _
    have hw : IntKind.i64.wrap ((a : Int) + 3) = (a : Int) + 3 := i64w (by omega)
    have h1 : ¬ (t : Int) < a + 3 := by omega
    rw [C_turn (L := f33L0) rfl]
    by_cases hk : k = 1
    · by_cases hl : t < s.length
      · simp [f33B0, hk, hl, hw, h1, adv]
      · simp [f33B0, hk, hl, adv]
    · simp [f33B0, hk, adv]
  | succ n ih =>
    intro t ht h0
    have hw : IntKind.i64.wrap ((a : Int) + 3) = (a : Int) + 3 := i64w (by omega)
    have h1 : (t : Int) < a + 3 := by omega
    rw [C_turn (L := f33L0) rfl]
    by_cases hk : k = 1
    · by_cases hl : t < s.length
      · have hw2 : IntKind.i64.wrap ((t : Int) + 1) = ((t + 1 : Nat) : Int) := by rw [i64w (by omega)]; simp
        cases hac : isAcc (s[t]).toNat with
        | true =>
          have hJ := ih (t + 1) (by omega) (by omega)
          simp [f33B0, hk, hl, hw, h1, acc59, hac, hw2, adv] at hJ ⊢
          exact hJ
        | false => simp [f33B0, hk, hl, hw, h1, acc59, hac, adv]
      · simp [f33B0, hk, hl, adv]
    · simp [f33B0, hk, adv]

theorem L33_1 (s : List UInt8) (hs : s.length ≤ 4096) (st : St) : ∀ (n i : Nat) (H : List HO) (K : List Nat) (xs : List Clu) (v : DV), s.length ≤ i + n → i ≤ s.length → xs.length ≤ i → Acc st K 3 (xs.map Clu.dv) v →
    ∃ v' J K', (E tab).C f33L1 [(0, .str s), (5, v), (6, .int .i64 i)] (pst st H K) =
      some (.exit 0, [(0, .str s), (5, v'), (6, .int .i64 s.length), (16, .bool false)], pst st (H ++ J) K') ∧ Acc st K' 3 ((xs ++ clusF s n i).map Clu.dv) v' := by
  intro n
  induction n with
  | zero =>
    intro i H K xs v h1 h2 h3 hA
    obtain rfl : i = s.length := by omega
    refine ⟨v, [], K, ?_, by simpa [clusF] using hA⟩
    rw [C_turn (L := f33L1) rfl]
    simp [f33B1]
  | succ n ih =>
    intro i H K xs v h1 h2 h3 hA
    by_cases hi : i < s.length
    · have hw : IntKind.i64.wrap ((i : Int) + 1) = ((i + 1 : Nat) : Int) := by rw [i64w (by omega)]; simp
      have ht := adv_le s (kdAt s i) 2 (i + 1)
      have hL := L33_0 s hs v st H K i hi (kdAt s i) 2 (i + 1) (by omega) (by omega)
      obtain ⟨v2, K2, e2, hA2⟩ := acc_app (H := H ++ [.cells .plain (Clu.cs ⟨i, cTo s i, kdAt s i⟩)]) (t := st.cur) (by_ := 24) (ag := true) (tk := .tight) (ys := [Clu.dv ⟨i, cTo s i, kdAt s i⟩]) hA (by omega) (by simp) (by simp [el_clu]) (by simp [roomD]; omega) (by simp [roomD]; omega)
      obtain ⟨v3, J, K3, e3, hA3⟩ := ih (cTo s i) (H ++ [.cells .plain (Clu.cs ⟨i, cTo s i, kdAt s i⟩)]) K2 (xs ++ [⟨i, cTo s i, kdAt s i⟩]) v2 (by unfold cTo; omega) (by unfold cTo; omega) (by unfold cTo; simp; omega) (by simpa using hA2)
      refine ⟨v3, .cells .plain (Clu.cs ⟨i, cTo s i, kdAt s i⟩) :: J, K3, ?_, by simpa [clusF, hi] using hA3⟩
      rw [C_turn (L := f33L1) rfl]
      have hg : kdAt s i = kd (s[i]).toNat := by simp [kdAt, hi]
      simp [Clu.cs, Clu.dv, cTo] at e2 e3 hL ⊢
      simp [f33B1, hi, hw, kd58, hL, ← hg, op_lit, repl, fillD, chunk, e2, e3]
    · obtain rfl : i = s.length := by omega
      refine ⟨v, [], K, ?_, by simpa [clusF] using hA⟩
      rw [C_turn (L := f33L1) rfl]
      simp [f33B1]

theorem wrongN_zero {s : List UInt8} (h : wrongN s = 0) : s.length ≤ 4096 ∧ s.all mayK = true := by
  unfold wrongN at h
  split at h
  · simp at h
  · split at h
    · rename_i h1 h2; exact ⟨by omega, h2⟩
    · simp at h

/-- What Split tells: 'v' the list's place and kind aside. -/
def SplitV (s : List UInt8) (v : DV) : Prop := ∃ t n' tk nn, v = .tuple [.list t n' tk nn ((if wrongN s = 0 then clus s else []).map Clu.dv), .int .i64 (wrongN s)] ∧ (nn = true → n' = 3) ∧ (nn = false → (if wrongN s = 0 then clus s else []) = [])

theorem split33 (s : List UInt8) (st : St) : ∃ v, (E tab).F 33 [.str s] st = some (v, st) ∧ SplitV s v := by
  rw [F_run at33 rfl]
  by_cases hw : wrongN s = 0
  · obtain ⟨hs, _⟩ := wrongN_zero hw
    obtain ⟨v', J, K', h1, h2⟩ := L33_1 s hs st s.length 0 [] [] [] nilList (by omega) (by omega) (by simp) (acc_nil _ _ _ _ _ _)
    obtain ⟨t, n', tk, nn, e1, e2, e3, e4⟩ := acc_ex (st' := pst st J K') h2
    obtain ⟨t', n'', tk', nn', rfl⟩ := acc_len h2
    refine ⟨.tuple [.list t n' tk nn ((clus s).map Clu.dv), .int .i64 0], ?_, t, n', tk, nn, by simp [hw], e3, by simpa [hw, clus] using e2⟩
    simp at h1 e1
    simp [f33, wrong45, hw, h1, e1, clus]
  · exact ⟨.tuple [.list 0 0 .no false [], .int .i64 (wrongN s)], by simp [f33, wrong45, hw], 0, 0, .no, false, by simp [hw], by simp, by simp [hw]⟩

/-! The walk through clusters -/
theorem L69_0 (s : List UInt8) (hs : s.length ≤ 4096) (y : DV) (st : St) (A : List HO) (hA : ∀ o, rowAt (A ++ [o]) 1 = some (.plain, [.str s])) (K : List Nat) (a : Nat) (ha : a < s.length) (k : Int) : ∀ (n t : Nat), t + n = a + 3 → 1 ≤ t →
    (E tab).C f69L0 [(0, y), (1, .ptr (st.heap.length + 1) 0), (3, .int .i64 a), (4, .ptr (st.heap.length + A.length) 0)] (pst st (A ++ [.cells .plain [.int .i64 a, .int .i64 t, .int .i64 k]]) K) =
      some (.exit 2, [(0, y), (1, .ptr (st.heap.length + 1) 0), (3, .int .i64 a), (4, .ptr (st.heap.length + A.length) 0), (40, .bool false)], pst st (A ++ [.cells .plain [.int .i64 a, .int .i64 (adv s k n t), .int .i64 k]]) K) := by
  intro n
  induction n with
  | zero =>
    intro t ht _
    have hw : IntKind.i64.wrap ((a : Int) + 3) = (a : Int) + 3 := i64w (by omega)
    have h1 : ¬ (t : Int) < a + 3 := by omega
    rw [C_turn (L := f69L0) rfl]
    by_cases hk : k = 1
    · by_cases hl : t < s.length
      · simp [f69B0, hk, hl, hw, h1, adv, hA]
      · simp [f69B0, hk, hl, adv, hA]
    · simp [f69B0, hk, adv]
  | succ n ih =>
    intro t ht h0
    have hw : IntKind.i64.wrap ((a : Int) + 3) = (a : Int) + 3 := i64w (by omega)
    have h1 : (t : Int) < a + 3 := by omega
    rw [C_turn (L := f69L0) rfl]
    by_cases hk : k = 1
    · by_cases hl : t < s.length
      · have hw2 : IntKind.i64.wrap ((t : Int) + 1) = ((t + 1 : Nat) : Int) := by rw [i64w (by omega)]; simp
        cases hac : isAcc (s[t]).toNat with
        | true =>
          have hJ := ih (t + 1) (by omega) (by omega)
          simp [f69B0, hk, hl, hw, h1, acc70, hac, hw2, adv, hA] at hJ ⊢
          exact hJ
        | false => simp [f69B0, hk, hl, hw, h1, acc70, hac, adv, hA]
      · simp [f69B0, hk, hl, adv, hA]
    · simp [f69B0, hk, adv]

/-- Split's loop over a function. -/
def lo27 (st : St) : LoopObj := ⟨[(5, .ptr st.heap.length 0), (13, .fn 69 [] [.ptr (st.heap.length + 1) 0])], [14], .region f27r6 [5, 6], .block 1 (.region f27r7 []), 0, none⟩

theorem yield27 (s : List UInt8) (c : Clu) (st : St) (J : List HO) (K : List Nat) (xs : List Clu) (v : DV) (hx : xs.length ≤ 4096) (hA : Acc st K 3 (xs.map Clu.dv) v) :
    ∃ v' K', (E tab).V (.yield (st.heap.length + 2)) [c.dv] (pst st (.cells .plain [v] :: .cells .plain [.str s] :: .loop (lo27 st) :: J) K) =
      some (.bool true, pst st (.cells .plain [v'] :: .cells .plain [.str s] :: .loop (lo27 st) :: (J ++ [.cells .plain c.cs])) K') ∧ Acc st K' 3 ((xs ++ [c]).map Clu.dv) v' := by
  obtain ⟨v2, K2, e2, hA2⟩ := acc_app (H := .cells .plain [v] :: .cells .plain [.str s] :: .loop { lo27 st with state := 1 } :: (J ++ [.cells .plain c.cs])) (t := st.cur) (by_ := 24) (ag := true) (tk := .tight) (ys := [c.dv]) hA (by omega) (by simp) (by simp [el_clu]) (by simp [roomD]; omega) (by simp [roomD]; omega)
  refine ⟨v2, K2, ?_, by simpa using hA2⟩
  obtain ⟨t', n', tk', nn', rfl⟩ := acc_len hA2
  rw [V_yield (lo := lo27 st) rfl rfl]
  simp [lo27, Clu.cs, Clu.dv] at e2 ⊢
  simp [op_lit, repl, fillD, chunk, e2]

theorem L69_1 (s : List UInt8) (hs : s.length ≤ 4096) (st : St) : ∀ (n i : Nat) (J : List HO) (K : List Nat) (xs : List Clu) (v : DV), s.length ≤ i + n → i ≤ s.length → xs.length ≤ i → Acc st K 3 (xs.map Clu.dv) v →
    ∃ v' J' K', (E tab).C f69L1 [(0, .yield (st.heap.length + 2)), (1, .ptr (st.heap.length + 1) 0), (3, .int .i64 i)] (pst st (.cells .plain [v] :: .cells .plain [.str s] :: .loop (lo27 st) :: J) K) =
      some (.exit 0, [(0, .yield (st.heap.length + 2)), (1, .ptr (st.heap.length + 1) 0), (3, .int .i64 s.length), (8, .bool false)], pst st (.cells .plain [v'] :: .cells .plain [.str s] :: .loop (lo27 st) :: J') K') ∧ Acc st K' 3 ((xs ++ clusF s n i).map Clu.dv) v' := by
  intro n
  induction n with
  | zero =>
    intro i J K xs v h1 h2 h3 hA
    obtain rfl : i = s.length := by omega
    refine ⟨v, J, K, ?_, by simpa [clusF] using hA⟩
    rw [C_turn (L := f69L1) rfl]
    simp [f69B1]
  | succ n ih =>
    intro i J K xs v h1 h2 h3 hA
    by_cases hi : i < s.length
    · have hw : IntKind.i64.wrap ((i : Int) + 1) = ((i + 1 : Nat) : Int) := by rw [i64w (by omega)]; simp
      have ht := adv_le s (kdAt s i) 2 (i + 1)
      have hL := L69_0 s hs (.yield (st.heap.length + 2)) st (.cells .plain [v] :: .cells .plain [.str s] :: .loop (lo27 st) :: J) (fun o => rfl) K i hi (kdAt s i) 2 (i + 1) (by omega) (by omega)
      have hg : kdAt s i = kd (s[i]).toNat := by simp [kdAt, hi]
      obtain ⟨v2, K2, e2, hA2⟩ := yield27 s ⟨i, cTo s i, kdAt s i⟩ st (J ++ [.cells .plain (Clu.cs ⟨i, cTo s i, kdAt s i⟩)]) K xs v (by omega) hA
      obtain ⟨v3, J3, K3, e3, hA3⟩ := ih (cTo s i) (J ++ [.cells .plain (Clu.cs ⟨i, cTo s i, kdAt s i⟩)] ++ [.cells .plain (Clu.cs ⟨i, cTo s i, kdAt s i⟩)]) K2 (xs ++ [⟨i, cTo s i, kdAt s i⟩]) v2 (by unfold cTo; omega) (by unfold cTo; omega) (by unfold cTo; simp; omega) (by simpa using hA2)
      refine ⟨v3, J3, K3, ?_, by simpa [clusF, hi] using hA3⟩
      rw [C_turn (L := f69L1) rfl]
      simp [Clu.cs, Clu.dv, cTo] at e2 e3 hL ⊢
      simp [f69B1, hi, hw, kd68, hL, ← hg, e2, e3]
    · obtain rfl : i = s.length := by omega
      refine ⟨v, J, K, ?_, by simpa [clusF] using hA⟩
      rw [C_turn (L := f69L1) rfl]
      simp [f69B1]

theorem split27 (s : List UInt8) (st : St) : ∃ v, (E tab).F 27 [.str s] st = some (v, st) ∧ SplitV s v := by
  rw [F_run at27 rfl]
  by_cases hw : wrongN s = 0
  · obtain ⟨hs, _⟩ := wrongN_zero hw
    obtain ⟨v', J, K', h1, h2⟩ := L69_1 s hs st s.length 0 [] [] [] nilList (by omega) (by omega) (by simp) (acc_nil _ _ _ _ _ _)
    obtain ⟨t, n', tk, nn, e1, e2, e3, e4⟩ := acc_ex (st' := pst st (.cells .plain [v'] :: .cells .plain [.str s] :: .loop { lo27 st with state := 3 } :: J) K') h2
    obtain ⟨t', n'', tk', nn', rfl⟩ := acc_len h2
    refine ⟨.tuple [.list t n' tk nn ((clus s).map Clu.dv), .int .i64 0], ?_, t, n', tk, nn, by simp [hw], e3, by simpa [hw, clus] using e2⟩
    have h55 : ∀ (H : List HO) (K : List Nat), (E tab).F 55 [.str s] (pst st H K) = some (.fn 69 [] [.ptr (st.heap.length + H.length) 0], pst st (H ++ [.cells .plain [.str s]]) K) := by
      intro H K
      rw [F_go at55 rfl]
      simp [f55]
    have h69 : (E tab).F 69 [.yield (st.heap.length + 2), .ptr (st.heap.length + 1) 0] (pst st [.cells .plain [nilList], .cells .plain [.str s], .loop (lo27 st)] []) = some (.tuple [], pst st (.cells .plain [.list t' n'' tk' nn' (([] ++ clusF s s.length 0).map Clu.dv)] :: .cells .plain [.str s] :: .loop (lo27 st) :: J) K') := by
      rw [F_go at69 rfl]
      simp at h1
      simp [f69, h1]
    simp [lo27] at h69 e1
    have hr : ∀ (fr : Fr) (H : List HO), (E tab).C (.rfunc (.t 13) [14] (.region f27r6 [5, 6]) (.block 1 (.region f27r7 [])) [5, 13]) [(5, .ptr st.heap.length 0), (13, .fn 69 [] [.ptr (st.heap.length + 1) 0])] (pst st [.cells .plain [nilList], .cells .plain [.str s]] []) = some (.normal, [(5, .ptr st.heap.length 0), (13, .fn 69 [] [.ptr (st.heap.length + 1) 0])], pst st (.cells .plain [.list t' n'' tk' nn' ((clusF s s.length 0).map Clu.dv)] :: .cells .plain [.str s] :: .loop { lo27 st with state := 3 } :: J) K') := by
      intro fr H
      rw [C_rfunc (g := 69) (first := []) (captured := [.ptr (st.heap.length + 1) 0]) rfl at69]
      simp [h69, lo27]
    simp [lo27] at hr
    simp [f27, wrong54, hw, h55, hr, clus, e1]
  · exact ⟨.tuple [.list 0 0 .no false [], .int .i64 (wrongN s)], by simp [f27, wrong54, hw], 0, 0, .no, false, by simp [hw], by simp, by simp [hw]⟩

theorem at13 : tab 13 = some (.code f13) := by kernel_rfl
theorem at14 : tab 14 = some (.code f14) := by kernel_rfl
theorem at40 : tab 40 = some (.code f40) := by kernel_rfl
theorem at41 : tab 41 = some (.code f41) := by kernel_rfl
theorem at42 : tab 42 = some (.code f42) := by kernel_rfl
theorem at43 : tab 43 = some (.code f43) := by kernel_rfl
theorem at44 : tab 44 = some (.code f44) := by kernel_rfl
theorem at46 : tab 46 = some (.code f46) := by kernel_rfl
theorem at47 : tab 47 = some (.code f47) := by kernel_rfl
theorem at48 : tab 48 = some (.code f48) := by kernel_rfl
theorem at61 : tab 61 = some (.code f61) := by kernel_rfl
theorem at62 : tab 62 = some (.code f62) := by kernel_rfl
theorem at64 : tab 64 = some (.prim countByteD) := by kernel_rfl
theorem at66 : tab 66 = some (.code f66) := by kernel_rfl
theorem at67 : tab 67 = some (.code f67) := by kernel_rfl
theorem at72 : tab 72 = some (.prim indexByteD) := by kernel_rfl

/-- A number from one to another. -/
def fb (n a b : Int) : Bool := decide (a ≤ n ∧ n ≤ b)
theorem from66 (n a b : Int) (st : St) : (E tab).F 66 [.int .i64 n, .int .i64 a, .int .i64 b] st = some (.bool (fb n a b), st) := by
  rw [F_run at66 rfl]
  by_cases h1 : a ≤ n <;> simp [f66, fb, h1]
theorem bit67 (n : Int) (st : St) : (E tab).F 67 [.int .i64 n] st = some (.bool (fb n 0 1), st) := by
  rw [F_run at67 rfl]
  by_cases h1 : n = 0
  · simp [f67, fb, h1]
  · by_cases h2 : n = 1
    · simp [f67, fb, h1, h2]
    · simp [f67, fb, h1, h2]
      rw [Bool.eq_iff_iff]; simp; omega

/-! Looks -/
structure Look where
  z : Int
  t : Int
  e : Int
  deriving DecidableEq
def Look.cs (c : Look) : List DV := [.int .i64 c.z, .int .i64 c.t, .int .i64 c.e]
def lookOk (c : Look) : Bool := fb c.z 0 64 && fb c.t 0 15 && fb c.e 0 1

theorem look46 (c : Look) (st : St) : (E tab).F 46 [.agg c.cs] st = some (.bool (lookOk c), st) := by
  rw [F_run at46 rfl]
  cases h1 : fb c.z 0 64
  · simp [f46, Look.cs, lookOk, from66, bit67, h1]
  cases h2 : fb c.t 0 15
  · simp [f46, Look.cs, lookOk, from66, bit67, h1, h2]
  simp [f46, Look.cs, lookOk, from66, bit67, h1, h2]

theorem look62 (c : Look) (st : St) : (E tab).F 62 [.agg c.cs] st = some (.bool (lookOk c), st) := by
  rw [F_run at62 rfl]
  by_cases h1 : 0 ≤ c.z
  · by_cases h2 : c.z ≤ 64
    · by_cases h3 : 0 ≤ c.t
      · by_cases h4 : c.t ≤ 15
        · by_cases h5 : c.e = 0
          · simp [f62, Look.cs, lookOk, fb, h1, h2, h3, h4, h5]
          · by_cases h6 : c.e = 1
            · simp [f62, Look.cs, lookOk, fb, h1, h2, h3, h4, h6]
            · simp [f62, Look.cs, lookOk, fb, h1, h2, h3, h4, h5, h6]
              rw [Bool.eq_iff_iff]; simp; omega
        · simp [f62, Look.cs, lookOk, fb, h1, h2, h3, h4]
      · simp [f62, Look.cs, lookOk, fb, h1, h2, h3]
    · simp [f62, Look.cs, lookOk, fb, h1, h2]
  · simp [f62, Look.cs, lookOk, fb, h1]

/-! Properties -/
structure Props where
  size : Int
  pitch : Int
  align : Int
  first : Int
  inn : Int
  out : Int
  before : Int
  after : Int
  next : Int
  whole : Int
  orphan : Int
  widow : Int
  hyphen : Int
  least : Int
  drop : Int
  list : Int
  level : Int
  deriving DecidableEq
def Props.l (p : Props) : List Int := [p.size, p.pitch, p.align, p.first, p.inn, p.out, p.before, p.after, p.next, p.whole, p.orphan, p.widow, p.hyphen, p.least, p.drop, p.list, p.level]
def Props.cs (p : Props) : List DV := [.int .i64 p.size, .int .i64 p.pitch, .int .i64 p.align, .int .i64 p.first, .int .i64 p.inn, .int .i64 p.out, .int .i64 p.before, .int .i64 p.after, .int .i64 p.next, .int .i64 p.whole, .int .i64 p.orphan, .int .i64 p.widow, .int .i64 p.hyphen, .int .i64 p.least, .int .i64 p.drop, .int .i64 p.list, .int .i64 p.level]
def propsOk (p : Props) : Bool := fb p.size 1 64 && fb p.pitch 1 255 && fb p.align 0 3 && fb p.first 0 255 && fb p.inn 0 255 && fb p.out 0 255 && fb p.before 0 255 && fb p.after 0 255 && fb p.next 0 1 && fb p.whole 0 1 && fb p.orphan 1 4 && fb p.widow 1 4 && fb p.hyphen 0 1 && fb p.least 0 1 && fb p.drop 0 4 && fb p.list 0 8 && fb p.level 0 3

def okFrom (ok : Nat → Bool) : Nat → Nat → Bool
  | _, 0 => true
  | i, k + 1 => ok i && okFrom ok (i + 1) k

theorem L42_0 (vs : List DV) (n lo hi : Nat → Int) (hv : ∀ i, i < 17 → (vs.drop (i * 3)).take 3 = [.int .i64 (n i), .int .i64 (lo i), .int .i64 (hi i)]) (hl : vs.length = 51) (st : St) (K : List Nat) : ∀ (k i : Nat) (H : List HO), i + k = 17 →
    ∃ J, (E tab).C f42L0 [(56, .agg vs), (57, .int .i64 i)] (pst st H K) =
      some (if okFrom (fun j => fb (n j) (lo j) (hi j)) i k then (.exit 0, [(56, .agg vs), (57, .int .i64 (17 : Nat)), (58, .bool false)], pst st (H ++ J) K) else (.ret, [(2, .bool false)], pst st (H ++ J) K)) := by
  intro k
  induction k with
  | zero =>
    intro i H hi0
    obtain rfl : i = 17 := by omega
    refine ⟨[], ?_⟩
    rw [C_turn (L := f42L0) rfl]
    simp [f42B0, okFrom]
  | succ k ih =>
    intro i H hi0
    have h0 : (i : Int) < 17 := by omega
    have hw : IntKind.i64.wrap ((i : Int) + 1) = ((i + 1 : Nat) : Int) := by rw [i64w (by omega)]; simp
    have hx := hv i (by omega)
    have hx2 : i * 3 + 3 ≤ vs.length := by omega
    by_cases h1 : n i < lo i
    · refine ⟨[.cells .plain [.int .i64 (n i), .int .i64 (lo i), .int .i64 (hi i)]], ?_⟩
      rw [C_turn (L := f42L0) rfl]
      simp [f42B0, h0, hx, hx2, h1, okFrom, fb, show ¬ lo i ≤ n i by omega]
    by_cases h2 : hi i < n i
    · refine ⟨[.cells .plain [.int .i64 (n i), .int .i64 (lo i), .int .i64 (hi i)]], ?_⟩
      rw [C_turn (L := f42L0) rfl]
      simp [f42B0, h0, hx, hx2, h1, h2, okFrom, fb, show ¬ n i ≤ hi i by omega]
    obtain ⟨J, hJ⟩ := ih (i + 1) (H ++ [.cells .plain [.int .i64 (n i), .int .i64 (lo i), .int .i64 (hi i)]]) (by omega)
    refine ⟨.cells .plain [.int .i64 (n i), .int .i64 (lo i), .int .i64 (hi i)] :: J, ?_⟩
    have e1 : fb (n i) (lo i) (hi i) = true := by simp [fb]; omega
    rw [C_turn (L := f42L0) rfl]
    simp [e1, okFrom] at hJ ⊢
    simp [f42B0, h0, hx, hx2, h1, h2, hw, hJ]

theorem props42 (p : Props) (st : St) : (E tab).F 42 [.agg p.cs] st = some (.bool (propsOk p), st) := by
  rw [F_run at42 rfl]
  obtain ⟨J, hJ⟩ := L42_0 [.int .i64 p.size, .int .i64 1, .int .i64 64, .int .i64 p.pitch, .int .i64 1, .int .i64 255, .int .i64 p.align, .int .i64 0, .int .i64 3, .int .i64 p.first, .int .i64 0, .int .i64 255, .int .i64 p.inn, .int .i64 0, .int .i64 255, .int .i64 p.out, .int .i64 0, .int .i64 255, .int .i64 p.before, .int .i64 0, .int .i64 255, .int .i64 p.after, .int .i64 0, .int .i64 255, .int .i64 p.next, .int .i64 0, .int .i64 1, .int .i64 p.whole, .int .i64 0, .int .i64 1, .int .i64 p.orphan, .int .i64 1, .int .i64 4, .int .i64 p.widow, .int .i64 1, .int .i64 4, .int .i64 p.hyphen, .int .i64 0, .int .i64 1, .int .i64 p.least, .int .i64 0, .int .i64 1, .int .i64 p.drop, .int .i64 0, .int .i64 4, .int .i64 p.list, .int .i64 0, .int .i64 8, .int .i64 p.level, .int .i64 0, .int .i64 3] (fun i => p.l.getD i 0) (fun i => ([1, 1, 0, 0, 0, 0, 0, 0, 0, 0, 1, 1, 0, 0, 0, 0, 0] : List Int).getD i 0) (fun i => ([64, 255, 3, 255, 255, 255, 255, 255, 1, 1, 4, 4, 1, 1, 4, 8, 3] : List Int).getD i 0) (by
    intro i hi
    match i, hi with
    | 0, _ => rfl
    | 1, _ => rfl
    | 2, _ => rfl
    | 3, _ => rfl
    | 4, _ => rfl
    | 5, _ => rfl
    | 6, _ => rfl
    | 7, _ => rfl
    | 8, _ => rfl
    | 9, _ => rfl
    | 10, _ => rfl
    | 11, _ => rfl
    | 12, _ => rfl
    | 13, _ => rfl
    | 14, _ => rfl
    | 15, _ => rfl
    | 16, _ => rfl
    | k + 17, h => omega) rfl st [] 17 0 [.cells .plain p.cs] rfl
  have e : okFrom (fun j => fb (p.l.getD j 0) (([1, 1, 0, 0, 0, 0, 0, 0, 0, 0, 1, 1, 0, 0, 0, 0, 0] : List Int).getD j 0) (([64, 255, 3, 255, 255, 255, 255, 255, 1, 1, 4, 4, 1, 1, 4, 8, 3] : List Int).getD j 0)) 0 17 = propsOk p := by
    simp [okFrom, propsOk, Props.l, Bool.and_assoc]
  rw [e] at hJ
  cases h : propsOk p <;> simp [h, Props.cs] at hJ <;> simp [f42, Props.cs, hJ]

theorem props47 (p : Props) (st : St) : (E tab).F 47 [.agg p.cs] st = some (.bool (propsOk p), st) := by
  rw [F_run at47 rfl]
  have r1 : ∀ (_ : Unit), (E tab).C (.region f47r1 [1, 3]) [(1, .ptr st.heap.length 0)] (pst st [.cells .plain p.cs] []) = some (.normal, [(1, .ptr st.heap.length 0), (3, .bool (fb p.size 1 64 && fb p.pitch 1 255 && fb p.align 0 3))], pst st [.cells .plain p.cs] []) := by
    intro _
    cases h0 : fb p.size 1 64
    · simp [Props.cs, from66, bit67, h0]
    cases h1 : fb p.pitch 1 255
    · simp [Props.cs, from66, bit67, h0, h1]
    simp [Props.cs, from66, bit67, h0, h1]
  have r2 : ∀ (x3 : DV), (E tab).C (.region f47r2 [1, 3, 4]) [(1, .ptr st.heap.length 0), (3, x3)] (pst st [.cells .plain p.cs] []) = some (.normal, [(1, .ptr st.heap.length 0), (3, x3), (4, .bool (fb p.first 0 255 && fb p.inn 0 255 && fb p.out 0 255 && fb p.before 0 255 && fb p.after 0 255))], pst st [.cells .plain p.cs] []) := by
    intro x3
    cases h0 : fb p.first 0 255
    · simp [Props.cs, from66, bit67, h0]
    cases h1 : fb p.inn 0 255
    · simp [Props.cs, from66, bit67, h0, h1]
    cases h2 : fb p.out 0 255
    · simp [Props.cs, from66, bit67, h0, h1, h2]
    cases h3 : fb p.before 0 255
    · simp [Props.cs, from66, bit67, h0, h1, h2, h3]
    simp [Props.cs, from66, bit67, h0, h1, h2, h3]
  have r3 : ∀ (x3 x4 : DV), (E tab).C (.region f47r3 [1, 3, 4, 5]) [(1, .ptr st.heap.length 0), (3, x3), (4, x4)] (pst st [.cells .plain p.cs] []) = some (.normal, [(1, .ptr st.heap.length 0), (3, x3), (4, x4), (5, .bool (fb p.next 0 1 && fb p.whole 0 1 && fb p.hyphen 0 1 && fb p.least 0 1))], pst st [.cells .plain p.cs] []) := by
    intro x3 x4
    cases h0 : fb p.next 0 1
    · simp [Props.cs, from66, bit67, h0]
    cases h1 : fb p.whole 0 1
    · simp [Props.cs, from66, bit67, h0, h1]
    cases h2 : fb p.hyphen 0 1
    · simp [Props.cs, from66, bit67, h0, h1, h2]
    simp [Props.cs, from66, bit67, h0, h1, h2]
  have r4 : ∀ (b1 b2 b3 : Bool), (E tab).C (.region f47r4 [2]) [(1, .ptr st.heap.length 0), (3, .bool b1), (4, .bool b2), (5, .bool b3)] (pst st [.cells .plain p.cs] []) = some (.normal, [(2, .bool (b1 && b2 && b3 && fb p.orphan 1 4 && fb p.widow 1 4 && fb p.drop 0 4 && fb p.list 0 8 && fb p.level 0 3))], pst st [.cells .plain p.cs] []) := by
    intro b1 b2 b3
    cases b1
    · simp [Props.cs, from66, bit67]
    cases b2
    · simp [Props.cs, from66, bit67]
    cases b3
    · simp [Props.cs, from66, bit67]
    cases h0 : fb p.orphan 1 4
    · simp [Props.cs, from66, bit67, h0]
    cases h1 : fb p.widow 1 4
    · simp [Props.cs, from66, bit67, h0, h1]
    cases h2 : fb p.drop 0 4
    · simp [Props.cs, from66, bit67, h0, h1, h2]
    cases h3 : fb p.list 0 8
    · simp [Props.cs, from66, bit67, h0, h1, h2, h3]
    simp [Props.cs, from66, bit67, h0, h1, h2, h3]
  have r1' := r1 ()
  simp only [Props.cs] at r1' r2 r3 r4
  have hb : (E tab).C f47.body (frame0 [.agg p.cs] 0) (pst st [] []) = some (.ret, [(2, .bool (propsOk p))], pst st [.cells .plain p.cs] []) := by
    have r0 : (E tab).C (.region f47r0 [1]) (frame0 [.agg p.cs] 0) (pst st [] []) = some (.normal, [(1, .ptr st.heap.length 0)], pst st [.cells .plain p.cs] []) := by simp [Props.cs]
    show (E tab).C (.seq (.region f47r0 [1]) (.seq (.region f47r1 [1, 3]) (.seq (.region f47r2 [1, 3, 4]) (.seq (.region f47r3 [1, 3, 4, 5]) (.seq (.region f47r4 [2]) .ret))))) _ _ = _
    rw [C_seq, r0]
    simp only [Props.cs]
    rw [C_seq, r1']
    simp only
    rw [C_seq, r2]
    simp only
    rw [C_seq, r3]
    simp only
    rw [C_seq, r4]
    simp only [C_ret]
    congr 5
    simp [propsOk, Bool.and_assoc, Bool.and_comm, Bool.and_left_comm]
  rw [hb]
  simp [f47]

/-! Bytes that show -/
def shownC (c : UInt8) : Bool := decide (33 ≤ c.toNat ∧ c.toNat ≤ 126)
def shownOk (s : List UInt8) (n : Int) : Bool := s.all shownC && decide ((s.length : Int) ≤ n)

theorem L43_0 (s : List UInt8) (hs : s.length ≤ 140737488355328) (x y : DV) (st : St) (cur : Nat) : ∀ (r d : List UInt8), s = d ++ r →
    (E tab).C f43L0 [(0, x), (1, y), (8, .list cur 1 .no true (s.map fun b => .int .u8 b.toNat)), (9, .int .i64 s.length), (10, .int .i64 d.length)] st =
      some (if r.all shownC then (.exit 0, [(0, x), (1, y), (8, .list cur 1 .no true (s.map fun b => .int .u8 b.toNat)), (9, .int .i64 s.length), (10, .int .i64 s.length), (11, .bool false)], st) else (.ret, [(4, .bool false)], st)) := by
  intro r
  induction r with
  | nil =>
    intro d hd
    rw [C_turn (L := f43L0) rfl]
    simp [f43B0, hd]
  | cons c r ih =>
    intro d hd
    have h0 : d.length < s.length := by simp [hd]
    have hw : IntKind.i64.wrap ((d.length : Int) + 1) = ((d ++ [c]).length : Nat) := by rw [i64w (by omega)]; simp
    have hg : s[d.length] = c := by simp [hd]
    rw [C_turn (L := f43L0) rfl]
    have hJ := ih (d ++ [c]) (by simp [hd])
    by_cases h1 : (c.toNat : Int) ≤ 32
    · simp [f43B0, h0, hg, h1, shownC, show ¬ 33 ≤ c.toNat by omega]
    by_cases h2 : (126 : Int) < c.toNat
    · simp [f43B0, h0, hg, h1, h2, shownC, show ¬ c.toNat ≤ 126 by omega]
    have e1 : shownC c = true := by simp [shownC]; omega
    simp [e1] at hJ ⊢
    simp [f43B0, h0, hg, h1, h2, hw, hJ]

theorem shown43 (s : List UInt8) (hs : s.length ≤ 140737488355328) (n : Int) (st : St) : (E tab).F 43 [.str s, .int .i64 n] st = some (.bool (shownOk s n), st) := by
  rw [F_run at43 rfl]
  have h := L43_0 s hs (.str s) (.int .i64 n) (pst st [] []) st.cur s [] rfl
  simp at h
  cases h2 : s.all shownC with
  | true =>
    rw [if_pos (by simpa using h2)] at h
    simp [f43, shownOk, h, h2]
  | false =>
    rw [if_neg (by simpa using h2)] at h
    simp [f43, shownOk, h, h2]

theorem L48_0 (s : List UInt8) (hs : s.length ≤ 140737488355328) (y : DV) (st : St) : ∀ (r d : List UInt8), s = d ++ r →
    (E tab).C f48L0 [(0, .str s), (1, y), (5, .int .i64 d.length)] st =
      some (if r.all shownC then (.exit 0, [(0, .str s), (1, y), (5, .int .i64 s.length), (9, .bool false)], st) else (.ret, [(4, .bool false)], st)) := by
  intro r
  induction r with
  | nil =>
    intro d hd
    rw [C_turn (L := f48L0) rfl]
    simp [f48B0, hd]
  | cons c r ih =>
    intro d hd
    have h0 : d.length < s.length := by simp [hd]
    have hw : IntKind.i64.wrap ((d.length : Int) + 1) = ((d ++ [c]).length : Nat) := by rw [i64w (by omega)]; simp
    have hg : s[d.length] = c := by simp [hd]
    rw [C_turn (L := f48L0) rfl]
    have hJ := ih (d ++ [c]) (by simp [hd])
    by_cases h1 : (c.toNat : Int) < 33
    · simp [f48B0, h0, hg, h1, shownC, show ¬ 33 ≤ c.toNat by omega]
    by_cases h2 : (126 : Int) < c.toNat
    · simp [f48B0, h0, hg, h1, h2, shownC, show ¬ c.toNat ≤ 126 by omega]
    have e1 : shownC c = true := by simp [shownC]; omega
    simp [e1] at hJ ⊢
    simp [f48B0, h0, hg, h1, h2, hw, hJ]

theorem shown48 (s : List UInt8) (hs : s.length ≤ 140737488355328) (n : Int) (st : St) : (E tab).F 48 [.str s, .int .i64 n] st = some (.bool (shownOk s n), st) := by
  rw [F_run at48 rfl]
  have h := L48_0 s hs (.int .i64 n) (pst st [] []) s [] rfl
  simp at h
  cases h2 : s.all shownC with
  | true =>
    rw [if_pos (by simpa using h2)] at h
    simp [f48, shownOk, h, h2]
  | false =>
    rw [if_neg (by simpa using h2)] at h
    simp [f48, shownOk, h, h2]

/-! Bytes that are looked for -/
theorem F_primS {g : Nat} {p : List DV → St → Option (DV × St)} {args : List DV} {st : St} (h : tab g = some (.prim p)) : (E tab).F g args st = p args st := by
  rw [EF]
  simp only [callFR, h]
theorem index40 (s : List UInt8) (c : UInt8) (st : St) : (E tab).F 40 [.str s, .int .u8 (c.toNat : Int)] st = some (.int .i64 (Lib.indexByte s c), st) := by
  have h72 : ∀ st, (E tab).F 72 [.str s, .int .u8 (c.toNat : Int)] st = some (.int .i64 (Lib.indexByte s c), st) := fun st => by
    rw [F_primS at72]; simp [indexByteD]
  have h61 : ∀ st, (E tab).F 61 [.str s, .int .u8 (c.toNat : Int)] st = some (.int .i64 (Lib.indexByte s c), st) := fun st => by
    rw [F_run at61 rfl]; simp [f61, h72]
  rw [F_run at40 rfl]; simp [f40, h61]
theorem index_in (c : UInt8) : ∀ s : List UInt8, 0 ≤ Lib.indexByte s c ↔ c ∈ s
  | [] => by simp [Lib.indexByte]
  | b :: r => by
    have := index_in c r
    have h1 := Lib.indexByte_ge r c
    unfold Lib.indexByte
    by_cases h : b = c
    · simp [h]
    · by_cases h2 : c ∈ r
      · have := this.2 h2
        simp [h, h2]
        split <;> omega
      · have h3 : ¬ 0 ≤ Lib.indexByte r c := fun h => h2 (this.1 h)
        have h4 : Lib.indexByte r c = -1 := by omega
        have h5 : ¬ c = b := fun e => h e.symm
        simp [h, h2, h4, h5]
theorem count44 (s : List UInt8) (st : St) : (E tab).F 44 [.str s, .str [2]] st = some (.int .i64 (s.count 2), st) := by
  have h64 : ∀ st, (E tab).F 64 [.str s, .int .u8 2] st = some (.int .i64 (s.count 2), st) := fun st => by
    rw [F_primS at64]; simp [countByteD, Lib.countByte]
  rw [F_run at44 rfl]
  simp [f44, h64]

/-! Runs of looks -/
structure Span where
  n : Int
  c : Look
  deriving DecidableEq
def Span.cs (s : Span) : List DV := [.int .i64 s.n, .int .i64 s.c.z, .int .i64 s.c.t, .int .i64 s.c.e]
def Span.dv (s : Span) : DV := .agg s.cs
@[simp] theorem Span.leaves (s : Span) : s.dv.leaves = s.cs := rfl
theorem el_span (s : Span) : IsEl 4 true s.dv := ⟨rfl, rfl, rfl⟩

/-- What spans leave of so many bytes; none: they may not be. -/
def spansL : Int → List Span → Option Int
  | n, [] => some n
  | n, s :: r => if 1 ≤ s.n ∧ s.n ≤ n ∧ lookOk s.c = true then spansL (n - s.n) r else none

theorem L41_0 (l : List Span) (t n' : Nat) (tk : Tk) (nn : Bool) (hn : l ≠ [] → n' = 4) (st : St) (K : List Nat) : ∀ (r d : List Span) (n : Int) (H : List HO), l = d ++ r → 0 ≤ n → (d.length : Int) + n ≤ 4096 →
    ∃ J fr, (E tab).C f41L0 [(1, .int .i64 n), (7, .list t n' tk nn (l.map Span.dv)), (8, .int .i64 l.length), (9, .int .i64 d.length)] (pst st H K) =
      some (match spansL n r with | some m => (.exit 0, (1, .int .i64 m) :: fr, pst st (H ++ J) K) | none => (.ret, [(4, .bool false)], pst st (H ++ J) K)) := by
  intro r
  induction r with
  | nil =>
    intro d n H hd _ _
    refine ⟨[], [(7, .list t n' tk nn (l.map Span.dv)), (8, .int .i64 l.length), (9, .int .i64 l.length), (10, .bool false)], ?_⟩
    rw [C_turn (L := f41L0) rfl]
    simp [f41B0, hd, spansL]
  | cons c r ih =>
    intro d n H hd h0 h1
    obtain rfl : n' = 4 := hn (by simp [hd])
    have hl : d.length < l.length := by simp [hd]
    have hg : l[d.length] = c := by simp [hd]
    have hw : IntKind.i64.wrap ((d.length : Int) + 1) = ((d ++ [c]).length : Nat) := by rw [i64w (by omega)]; simp
    have h62 := fun st => look62 c.c st
    simp only [Look.cs] at h62
    by_cases a1 : c.n < 1
    · refine ⟨[.cells .plain c.cs], [], ?_⟩
      rw [C_turn (L := f41L0) rfl]
      simp [f41B0, hl, hg, Span.cs, a1, spansL, show ¬ 1 ≤ c.n by omega]
    by_cases a2 : n < c.n
    · refine ⟨[.cells .plain c.cs], [], ?_⟩
      rw [C_turn (L := f41L0) rfl]
      simp [f41B0, hl, hg, Span.cs, a1, a2, spansL, show ¬ c.n ≤ n by omega]
    cases a3 : lookOk c.c with
    | false =>
      refine ⟨[.cells .plain c.cs], [], ?_⟩
      rw [C_turn (L := f41L0) rfl]
      simp [f41B0, hl, hg, Span.cs, a1, a2, a3, h62, spansL]
    | true =>
      obtain ⟨J, fr, hJ⟩ := ih (d ++ [c]) (n - c.n) (H ++ [.cells .plain c.cs]) (by simp [hd]) (by omega) (by simp; omega)
      refine ⟨.cells .plain c.cs :: J, fr, ?_⟩
      have hw2 : IntKind.i64.wrap (n - c.n) = n - c.n := i64w (by omega)
      rw [C_turn (L := f41L0) rfl]
      simp [spansL, a3, show 1 ≤ c.n ∧ c.n ≤ n by omega, Span.cs] at hJ ⊢
      simp [f41B0, hl, hg, Span.cs, a1, a2, a3, h62, hw, hw2, hJ]

theorem spansL_ge : ∀ (r : List Span) (n m : Int), 0 ≤ n → spansL n r = some m → 0 ≤ m ∧ m ≤ n
  | [], n, m, h, e => by simp [spansL] at e; omega
  | s :: r, n, m, h, e => by
    simp only [spansL] at e
    split at e
    · have := spansL_ge r (n - s.n) m (by omega) e
      omega
    · cases e

def spansOk (n : Int) (l : List Span) : Bool := spansL n l == some 0
theorem spans41 (l : List Span) (t n' : Nat) (tk : Tk) (nn : Bool) (hn : l ≠ [] → n' = 4) (n : Int) (h0 : 0 ≤ n) (h1 : n ≤ 4096) (st : St) :
    (E tab).F 41 [.list t n' tk nn (l.map Span.dv), .int .i64 n] st = some (.bool (spansOk n l), st) := by
  rw [F_run at41 rfl]
  obtain ⟨J, fr, h⟩ := L41_0 l t n' tk nn hn st [] l [] n [] rfl h0 (by simpa using h1)
  simp at h
  cases hm : spansL n l with
  | none =>
    rw [hm] at h
    simp [f41, h, spansOk, hm]
  | some m =>
    rw [hm] at h
    simp [f41, h, spansOk, hm]

/-- How a list lies. -/
structure LW where
  t : Nat
  n : Nat
  tk : Tk
  nn : Bool
def LW.dv (w : LW) (xs : List DV) : DV := .list w.t w.n w.tk w.nn xs
def LW.ok {α : Type} (w : LW) (n : Nat) (xs : List α) : Prop := (w.nn = true → w.n = n) ∧ (w.nn = false → xs = [])
theorem LW.ok.n {α : Type} {w : LW} {n : Nat} {xs : List α} (h : w.ok n xs) (hx : xs ≠ []) : w.n = n := by
  cases e : w.nn with
  | true => exact h.1 e
  | false => exact absurd (h.2 e) hx

/-- A paragraph. -/
structure Para where
  text : List UInt8
  spans : List Span
  pr : Props
  label : List UInt8
  marks : List (List UInt8)

def paraCs (p : Para) (w u : LW) : List DV := .str p.text :: w.dv (p.spans.map Span.dv) :: (p.pr.cs ++ [.str p.label, u.dv (p.marks.map .str)])
@[simp high] theorem pc0 (p : Para) (w u : LW) : (paraCs p w u)[0]? = some (.str p.text) := rfl
@[simp high] theorem pc1 (p : Para) (w u : LW) : (paraCs p w u)[1]? = some (.list w.t w.n w.tk w.nn (p.spans.map Span.dv)) := rfl
@[simp high] theorem pc2 (p : Para) (w u : LW) : (paraCs p w u)[2]? = some (.int .i64 p.pr.size) := rfl
@[simp high] theorem pc19 (p : Para) (w u : LW) : (paraCs p w u)[19]? = some (.str p.label) := rfl
@[simp high] theorem pc20 (p : Para) (w u : LW) : (paraCs p w u)[20]? = some (.list u.t u.n u.tk u.nn (p.marks.map .str)) := rfl
@[simp] theorem pcl (p : Para) (w u : LW) : (paraCs p w u).length = 21 := rfl
@[simp] theorem pcP (p : Para) (w u : LW) : ((paraCs p w u).drop 2).take 17 = p.pr.cs := rfl
@[simp] theorem pcA (p : Para) (w u : LW) : (paraCs p w u).take 21 = paraCs p w u := rfl
@[simp high] theorem pcS (p : Para) (w u : LW) : (paraCs p w u).all DV.scal = true := rfl

def markOk (m : List UInt8) : Bool := !(m == []) && shownOk m 8
/-- Why a paragraph may not be. -/
def checkN (p : Para) : Int :=
  if wrongN p.text = 0 then
    if (3 : UInt8) ∈ p.text then 4
    else if spansOk p.text.length p.spans && propsOk p.pr && shownOk p.label 16 && decide (p.marks.length = p.text.count 2) then (if p.marks.all markOk then 0 else 2)
    else 2
  else wrongN p.text

/-- Its texts are not too long. -/
def Para.small (p : Para) : Prop := p.label.length ≤ 140737488355328 ∧ p.marks.length ≤ 140737488355328 ∧ ∀ m ∈ p.marks, m.length ≤ 140737488355328

theorem L13_0 (l : List (List UInt8)) (hs : l.length ≤ 140737488355328) (hm : ∀ m ∈ l, m.length ≤ 140737488355328) (u : LW) (hn : l ≠ [] → u.n = 1) (st : St) : ∀ (r d : List (List UInt8)), l = d ++ r →
    (E tab).C f13L0 [(49, .list u.t u.n u.tk u.nn (l.map .str)), (50, .int .i64 l.length), (51, .int .i64 d.length)] st =
      some (if r.all markOk then (.exit 0, [(49, .list u.t u.n u.tk u.nn (l.map .str)), (50, .int .i64 l.length), (51, .int .i64 l.length), (52, .bool false)], st) else (.ret, [(2, .int .i64 2)], st)) := by
  intro r
  induction r with
  | nil =>
    intro d hd
    rw [C_turn (L := f13L0) rfl]
    simp [f13B0, hd]
  | cons c r ih =>
    intro d hd
    have hu := hn (by simp [hd])
    have h0 : d.length < l.length := by simp [hd]
    have hw : IntKind.i64.wrap ((d.length : Int) + 1) = ((d ++ [c]).length : Nat) := by rw [i64w (by omega)]; simp
    have hg : l[d.length] = c := by simp [hd]
    have h43 := fun st => shown43 c (hm c (by simp [hd])) 8 st
    rw [C_turn (L := f13L0) rfl]
    have hJ := ih (d ++ [c]) (by simp [hd])
    by_cases h1 : c = []
    · simp [f13B0, h0, hg, hu, h1, markOk]
    cases h2 : shownOk c 8 with
    | false => simp [f13B0, h0, hg, hu, h1, h2, h43, markOk]
    | true =>
      simp [markOk, h1, h2, hu] at hJ ⊢
      simp [f13B0, h0, hg, h1, h2, h43, hw, hJ]

theorem check13 (p : Para) (hp : p.small) (w u : LW) (hw : w.ok 4 p.spans) (hu : u.ok 1 p.marks) (st : St) : (E tab).F 13 [.agg (paraCs p w u)] st = some (.int .i64 (checkN p), st) := by
  rw [F_run at13 rfl]
  obtain ⟨v, hv, t, n', tk, nn, rfl, _⟩ := split27 p.text (pst st [.cells .plain (paraCs p w u)] [])
  by_cases h1 : wrongN p.text = 0
  · rw [h1] at hv
    obtain ⟨hlen, _⟩ := wrongN_zero h1
    by_cases h2 : (3 : UInt8) ∈ p.text
    · have h2' := (index_in 3 p.text).2 h2
      have h40 := fun st => index40 p.text 3 st
      simp at h40
      simp [f13, checkN, h1, hv, h2, h40, h2']
    have h2' : ¬ 0 ≤ Lib.indexByte p.text 3 := fun h => h2 ((index_in 3 p.text).1 h)
    have h40 := fun st => index40 p.text 3 st
    simp at h40
    have h41 := fun st => spans41 p.spans w.t w.n w.tk w.nn hw.n p.text.length (by omega) (by omega) st
    have h42 := fun st => props42 p.pr st
    have h43 := fun st => shown43 p.label hp.1 16 st
    have h44 := fun st => count44 p.text st
    cases a1 : spansOk p.text.length p.spans
    · simp [f13, checkN, h1, hv, h2, h40, h2', h41, a1]
    cases a2 : propsOk p.pr
    · simp [f13, checkN, h1, hv, h2, h40, h2', h41, h42, a1, a2]
    cases a3 : shownOk p.label 16
    · simp [f13, checkN, h1, hv, h2, h40, h2', h41, h42, h43, a1, a2, a3]
    by_cases a4 : p.marks.length = p.text.count 2
    · have a4' : (p.marks.length : Int) = p.text.count 2 := by omega
      have h13 := L13_0 p.marks hp.2.1 hp.2.2 u hu.n (pst st [.cells .plain (paraCs p w u)] []) p.marks [] rfl
      simp [a4] at h13
      by_cases a5 : ∀ x ∈ p.marks, markOk x = true
      · rw [if_pos a5] at h13
        simp [f13, checkN, h1, hv, h2, h40, h2', h41, h42, h43, h44, a1, a2, a3, a4, h13]
        exact a5
      · rw [if_neg a5] at h13
        simp [f13, checkN, h1, hv, h2, h40, h2', h41, h42, h43, h44, a1, a2, a3, a4, h13]
        simpa using a5
    · have a4' : ¬ (p.marks.length : Int) = p.text.count 2 := by omega
      simp [f13, checkN, h1, hv, h2, h40, h2', h41, h42, h43, h44, a1, a2, a3, a4, a4']
  · simp [f13, checkN, h1, hv]

/-! The document's own check -/
theorem L14_0 (s : List UInt8) (hs : s.length ≤ 4096) (PC : List DV) (hP : PC[0]? = some (.str s)) (st : St) : ∀ (r d : List UInt8) (n : Nat), s = d ++ r → n ≤ d.length →
    (E tab).C f14L0 [(1, .ptr st.heap.length 0), (4, .int .i64 n), (5, .int .i64 d.length)] (pst st [.cells .plain PC] []) =
      some (if (3 : UInt8) ∈ r then (.ret, [(2, .int .i64 4)], pst st [.cells .plain PC] []) else (.exit 0, [(1, .ptr st.heap.length 0), (4, .int .i64 ((n + r.count 2 : Nat) : Int)), (5, .int .i64 s.length), (20, .bool false)], pst st [.cells .plain PC] [])) := by
  intro r
  induction r with
  | nil =>
    intro d n hd _
    rw [C_turn (L := f14L0) rfl]
    simp [f14B0, hd, hP]
  | cons c r ih =>
    intro d n hd hn
    have h0 : d.length < s.length := by simp [hd]
    have hw : IntKind.i64.wrap ((d.length : Int) + 1) = ((d ++ [c]).length : Nat) := by rw [i64w (by omega)]; simp
    have hw2 : IntKind.i64.wrap ((n : Int) + 1) = ((n + 1 : Nat) : Int) := by rw [i64w (by omega)]; simp
    have hg : s[d.length] = c := by simp [hd]
    rw [C_turn (L := f14L0) rfl]
    by_cases h3 : c = 3
    · simp [f14B0, h0, hg, hP, h3]
    have h3' : ¬ (c.toNat : Int) = 3 := fun h => h3 (UInt8.toNat_inj.1 (by show c.toNat = 3; omega))
    have h3'' : ¬ (3 : UInt8) = c := fun h => h3 h.symm
    by_cases h2 : c = 2
    · have hJ := ih (d ++ [c]) (n + 1) (by simp [hd]) (by simp; omega)
      subst h2
      simp [List.count_cons] at hJ ⊢
      have e : n + 1 + List.count 2 r = n + (List.count 2 r + 1) := by omega
      simp [f14B0, h0, hg, hP, hw, hw2, hJ, show (n : Int) + ((List.count 2 r : Nat) + 1 : Int) = n + 1 + (List.count 2 r : Nat) by omega]
    · have h2' : ¬ (c.toNat : Int) = 2 := fun h => h2 (UInt8.toNat_inj.1 (by show c.toNat = 2; omega))
      have hJ := ih (d ++ [c]) n (by simp [hd]) (by simp; omega)
      have h2'' : ¬ (2 : UInt8) = c := fun h => h2 h.symm
      simp [List.count_cons, h3'', h2] at hJ ⊢
      simp [f14B0, h0, hg, hP, hw, h3', h2', hJ]

theorem L14_1 (l : List Span) (w : LW) (hn : l ≠ [] → w.n = 4) (q : DV) (PC : List DV) (hP : PC[1]? = some (.list w.t w.n w.tk w.nn (l.map Span.dv))) (st : St) : ∀ (r d : List Span) (n : Int) (H : List HO), l = d ++ r → 0 ≤ n → (d.length : Int) + n ≤ 4096 →
    ∃ J fr, (E tab).C f14L1 [(1, .ptr st.heap.length 0), (4, q), (6, .int .i64 n), (7, .int .i64 d.length)] (pst st (.cells .plain PC :: H) []) =
      some (match spansL n r with | some m => (.exit 2, (1, .ptr st.heap.length 0) :: (4, q) :: (6, .int .i64 m) :: fr, pst st (.cells .plain PC :: (H ++ J)) []) | none => (.ret, [(2, .int .i64 2)], pst st (.cells .plain PC :: (H ++ J)) [])) := by
  intro r
  induction r with
  | nil =>
    intro d n H hd _ _
    refine ⟨[], [(7, .int .i64 l.length), (42, .bool false)], ?_⟩
    rw [C_turn (L := f14L1) rfl]
    simp [f14B1, hd, hP, spansL]
  | cons c r ih =>
    intro d n H hd h0 h1
    have hu := hn (by simp [hd])
    have hl : d.length < l.length := by simp [hd]
    have hg : l[d.length] = c := by simp [hd]
    have hw : IntKind.i64.wrap ((d.length : Int) + 1) = ((d ++ [c]).length : Nat) := by rw [i64w (by omega)]; simp
    have h46 := fun st => look46 c.c st
    simp only [Look.cs] at h46
    by_cases a1 : c.n < 1
    · refine ⟨[.cells .plain c.cs], [], ?_⟩
      rw [C_turn (L := f14L1) rfl]
      simp [f14B1, hl, hg, hP, hu, Span.cs, a1, spansL, show ¬ 1 ≤ c.n by omega]
    by_cases a2 : n < c.n
    · refine ⟨[.cells .plain c.cs], [], ?_⟩
      rw [C_turn (L := f14L1) rfl]
      simp [f14B1, hl, hg, hP, hu, Span.cs, a1, a2, spansL, show ¬ c.n ≤ n by omega]
    cases a3 : lookOk c.c with
    | false =>
      refine ⟨[.cells .plain c.cs], [], ?_⟩
      rw [C_turn (L := f14L1) rfl]
      simp [f14B1, hl, hg, hP, hu, Span.cs, a1, a2, a3, h46, spansL]
    | true =>
      obtain ⟨J, fr, hJ⟩ := ih (d ++ [c]) (n - c.n) (H ++ [.cells .plain c.cs]) (by simp [hd]) (by omega) (by simp; omega)
      refine ⟨.cells .plain c.cs :: J, fr, ?_⟩
      have hw2 : IntKind.i64.wrap (n - c.n) = n - c.n := i64w (by omega)
      rw [C_turn (L := f14L1) rfl]
      simp [spansL, a3, show 1 ≤ c.n ∧ c.n ≤ n by omega, Span.cs] at hJ ⊢
      simp [f14B1, hl, hg, hP, hu, Span.cs, a1, a2, a3, h46, hw, hw2, hJ]

theorem L14_2 (l : List (List UInt8)) (hs : l.length ≤ 140737488355328) (hm : ∀ m ∈ l, m.length ≤ 140737488355328) (u : LW) (hn : l ≠ [] → u.n = 1) (PC : List DV) (hP : PC[20]? = some (.list u.t u.n u.tk u.nn (l.map .str))) (st : St) (H : List HO) : ∀ (r d : List (List UInt8)), l = d ++ r →
    ∃ fr, (E tab).C f14L2 [(1, .ptr st.heap.length 0), (9, .int .i64 d.length)] (pst st (.cells .plain PC :: H) []) =
      some (if ∀ x ∈ r, markOk x = true then (.exit 4, fr, pst st (.cells .plain PC :: H) []) else (.ret, [(2, .int .i64 2)], pst st (.cells .plain PC :: H) [])) := by
  intro r
  induction r with
  | nil =>
    intro d hd
    refine ⟨[(1, .ptr st.heap.length 0), (9, .int .i64 l.length), (94, .bool false)], ?_⟩
    rw [C_turn (L := f14L2) rfl]
    simp [f14B2, hd, hP]
  | cons c r ih =>
    intro d hd
    have hu := hn (by simp [hd])
    have h0 : d.length < l.length := by simp [hd]
    have hw : IntKind.i64.wrap ((d.length : Int) + 1) = ((d ++ [c]).length : Nat) := by rw [i64w (by omega)]; simp
    have hg : l[d.length] = c := by simp [hd]
    have h48 := fun st => shown48 c (hm c (by simp [hd])) 8 st
    obtain ⟨fr, hJ⟩ := ih (d ++ [c]) (by simp [hd])
    refine ⟨fr, ?_⟩
    rw [C_turn (L := f14L2) rfl]
    by_cases h1 : c = []
    · simp [f14B2, h0, hg, hP, hu, h1, markOk]
    cases h2 : shownOk c 8 with
    | false => simp [f14B2, h0, hg, hP, hu, h1, h2, h48, markOk]
    | true =>
      have e : markOk c = true := by simp [markOk, h1, h2]
      simp [e, hu] at hJ ⊢
      simp [f14B2, h0, hg, hP, hu, h1, h2, h48, hw, hJ]

theorem check14 (p : Para) (hp : p.small) (w u : LW) (hw : w.ok 4 p.spans) (hu : u.ok 1 p.marks) (st : St) : (E tab).F 14 [.agg (paraCs p w u)] st = some (.int .i64 (checkN p), st) := by
  rw [F_run at14 rfl]
  have h45 := fun st => wrong45 p.text st
  by_cases h1 : wrongN p.text = 0
  · obtain ⟨hlen, _⟩ := wrongN_zero h1
    have hc := L14_0 p.text hlen (paraCs p w u) rfl st p.text [] 0 rfl (by simp)
    simp at hc
    by_cases h2 : (3 : UInt8) ∈ p.text
    · simp [f14, checkN, h1, h45, h2, hc]
    rw [if_neg h2] at hc
    obtain ⟨J, fr, hJ⟩ := L14_1 p.spans w hw.n (.int .i64 (p.text.count 2)) (paraCs p w u) rfl st p.spans [] p.text.length [] rfl (by omega) (by simp; omega)
    simp at hJ
    cases a1 : spansL p.text.length p.spans with
    | none =>
      rw [a1] at hJ
      simp [f14, checkN, h1, h45, h2, hc, hJ, spansOk, a1]
    | some m =>
      rw [a1] at hJ
      have hm := spansL_ge _ _ _ (by omega) a1
      by_cases a2 : 0 < m
      · simp [f14, checkN, h1, h45, h2, hc, hJ, spansOk, a1, a2, show ¬ m = 0 by omega]
      obtain rfl : m = 0 := by omega
      have h47 := fun st => props47 p.pr st
      have h48 := fun st => shown48 p.label hp.1 16 st
      cases a3 : propsOk p.pr
      · simp [f14, checkN, h1, h45, h2, hc, hJ, spansOk, a1, h47, a3]
      cases a4 : shownOk p.label 16
      · simp [f14, checkN, h1, h45, h2, hc, hJ, spansOk, a1, h47, h48, a3, a4]
      by_cases a5 : p.marks.length = p.text.count 2
      · obtain ⟨fr2, hK⟩ := L14_2 p.marks hp.2.1 hp.2.2 u hu.n (paraCs p w u) rfl st J p.marks [] rfl
        simp at hK
        by_cases a6 : ∀ x ∈ p.marks, markOk x = true
        · rw [if_pos a6] at hK
          simp [f14, checkN, h1, h45, h2, hc, hJ, spansOk, a1, h47, h48, a3, a4, a5, hK]
          exact a6
        · rw [if_neg a6] at hK
          simp [f14, checkN, h1, h45, h2, hc, hJ, spansOk, a1, h47, h48, a3, a4, a5, hK]
          simpa using a6
      · have a5' : ¬ (p.marks.length : Int) = p.text.count 2 := by omega
        simp [f14, checkN, h1, h45, h2, hc, hJ, spansOk, a1, h47, h48, a3, a4, a5, a5']
  · simp [f14, checkN, h1, h45]

theorem at10 : tab 10 = some (.code f10) := by kernel_rfl
theorem at11 : tab 11 = some (.code f11) := by kernel_rfl
theorem at29 : tab 29 = some (.code f29) := by kernel_rfl
theorem at34 : tab 34 = some (.code f34) := by kernel_rfl
theorem at35 : tab 35 = some (.code f35) := by kernel_rfl
theorem at36 : tab 36 = some (.code f36) := by kernel_rfl
theorem at56 : tab 56 = some (.code f56) := by kernel_rfl

/-- The look of a byte, among spans that begin at a place. -/
def findLook : Int → List Span → Int → Option Look
  | _, [], _ => none
  | e, s :: r, i => if i < e + s.n then some s.c else findLook (e + s.n) r i
def look0 : Look := ⟨0, 0, 0⟩
def lookAt (l : List Span) (i : Int) : Look := (findLook 0 l i).getD look0

/-- What spans are together. -/
def sumN : List Span → Int
  | [] => 0
  | s :: r => s.n + sumN r
/-- Spans that may be. -/
def SpOk (l : List Span) : Prop := ∀ s ∈ l, 1 ≤ s.n ∧ lookOk s.c = true

theorem spansL_ok : ∀ (r : List Span) (n m : Int), spansL n r = some m → SpOk r ∧ sumN r = n - m
  | [], n, m, e => by
    simp [spansL] at e
    exact ⟨fun s hs => (by cases hs), by simp [sumN]; omega⟩
  | s :: r, n, m, e => by
    simp only [spansL] at e
    split at e
    · rename_i h
      obtain ⟨h1, h2⟩ := spansL_ok r _ m e
      refine ⟨fun x hx => ?_, by simp [sumN]; omega⟩
      rcases List.mem_cons.1 hx with rfl | hx
      · exact ⟨h.1, h.2.2⟩
      · exact h1 x hx
    · cases e

theorem sumN_ge : ∀ {l : List Span}, SpOk l → (l.length : Int) ≤ sumN l
  | [], _ => by simp [sumN]
  | s :: r, h => by
    have := sumN_ge (l := r) fun x hx => h x (List.mem_cons_of_mem _ hx)
    have := (h s (List.mem_cons_self ..)).1
    simp [sumN]; omega

theorem L35_0 (l : List Span) (w : LW) (hn : l ≠ [] → w.n = 4) (PC : List DV) (hP : PC[1]? = some (.list w.t w.n w.tk w.nn (l.map Span.dv))) (i : Int) (st : St) : ∀ (r d : List Span) (e : Int), l = d ++ r → SpOk r → (d.length : Int) ≤ e → e + sumN r ≤ 4096 →
    ∃ fr, (E tab).C f35L0 [(1, .int .i64 i), (2, .ptr st.heap.length 0), (4, .ptr (st.heap.length + 1) 0), (5, .int .i64 e), (6, .int .i64 d.length)] (pst st [.cells .plain PC, .cells .plain look0.cs] []) =
      some (match findLook e r i with
        | some c => (.ret, [(4, .ptr (st.heap.length + 1) 0)], pst st [.cells .plain PC, .cells .plain c.cs] [])
        | none => (.exit 0, (1, .int .i64 i) :: (2, .ptr st.heap.length 0) :: (4, .ptr (st.heap.length + 1) 0) :: fr, pst st [.cells .plain PC, .cells .plain look0.cs] [])) := by
  intro r
  induction r with
  | nil =>
    intro d e hd _ _ _
    refine ⟨[(5, .int .i64 e), (6, .int .i64 l.length), (11, .bool false)], ?_⟩
    rw [C_turn (L := f35L0) rfl]
    simp [f35B0, hd, hP, findLook]
  | cons c r ih =>
    intro d e hd hok h0 h1
    have hu := hn (by simp [hd])
    have hl : d.length < l.length := by simp [hd]
    have hg : l[d.length] = c := by simp [hd]
    have hc := (hok c (List.mem_cons_self ..)).1
    have hr : SpOk r := fun x hx => hok x (List.mem_cons_of_mem _ hx)
    have hs := sumN_ge hr
    simp only [sumN] at h1
    have hw : IntKind.i64.wrap ((d.length : Int) + 1) = ((d ++ [c]).length : Nat) := by rw [i64w (by omega)]; simp
    have hw2 : IntKind.i64.wrap (e + c.n) = e + c.n := i64w (by omega)
    obtain ⟨fr, hJ⟩ := ih (d ++ [c]) (e + c.n) (by simp [hd]) hr (by simp; omega) (by omega)
    refine ⟨fr, ?_⟩
    rw [C_turn (L := f35L0) rfl]
    by_cases a : i < e + c.n
    · simp [f35B0, hl, hg, hP, hu, Span.cs, hw2, a, findLook, look0, Look.cs]
    · simp [look0, Look.cs] at hJ ⊢
      simp [f35B0, hl, hg, hP, hu, Span.cs, hw, hw2, a, findLook, hJ]

theorem look35 (p : Para) (w u : LW) (hw : w.ok 4 p.spans) (h1 : SpOk p.spans) (h2 : sumN p.spans ≤ 4096) (i : Int) (st : St) : (E tab).F 35 [.agg (paraCs p w u), .int .i64 i] st = some (.agg (lookAt p.spans i).cs, st) := by
  rw [F_run at35 rfl]
  obtain ⟨fr, h⟩ := L35_0 p.spans w hw.n (paraCs p w u) rfl i st p.spans [] 0 rfl h1 (by simp) (by omega)
  simp [look0, Look.cs] at h
  cases hf : findLook 0 p.spans i with
  | some c =>
    rw [hf] at h
    simp [f35, h, lookAt, hf, Look.cs]
  | none =>
    rw [hf] at h
    simp [f35, h, lookAt, hf, Look.cs, look0]

def sizeOf (p : Para) (i : Int) : Int := if (lookAt p.spans i).z = 0 then p.pr.size else (lookAt p.spans i).z
theorem size34 (p : Para) (w u : LW) (hw : w.ok 4 p.spans) (h1 : SpOk p.spans) (h2 : sumN p.spans ≤ 4096) (i : Int) (st : St) : (E tab).F 34 [.agg (paraCs p w u), .int .i64 i] st = some (.int .i64 (sizeOf p i), st) := by
  rw [F_run at34 rfl]
  have h35 := fun st => look35 p w u hw h1 h2 i st
  by_cases hz : (lookAt p.spans i).z = 0
  · simp [f34, h35, Look.cs, hz, sizeOf]
  · simp [f34, h35, Look.cs, hz, sizeOf]

/-- Does a kind show something? -/
def shows (k : Int) : Bool := k == 1 || k == 2
theorem vis36 (k : Int) (st : St) : (E tab).F 36 [.int .i64 k] st = some (.bool (shows k), st) := by
  rw [F_run at36 rfl]
  by_cases h : k = 1 <;> simp [f36, shows, h]

/-! The function that tells looks of places that rise -/
theorem L56_0 (x0 : HO) (i : Int) (w : LW) (st : St) (K : List Nat) (J : List HO) : ∀ (r : List Span) (s : Span) (e : Int) (tk : Tk), SpOk (s :: r) → 0 ≤ e → e + sumN (s :: r) ≤ 4096 → e ≤ i → i < e + sumN (s :: r) →
    ∃ e' s' r' tk' fr, (E tab).C f56L0 [(0, .int .i64 i), (1, .ptr (st.heap.length + 1) 0), (2, .ptr (st.heap.length + 2) 0), (4, .ptr (st.heap.length + (J.length + 3)) 0)] (pst st (x0 :: .cells .plain [.list w.t 4 tk true ((s :: r).map Span.dv)] :: .cells .plain [.int .i64 (e + s.n)] :: (J ++ [.cells .plain look0.cs])) K) =
      some (.exit 0, (0, .int .i64 i) :: (1, .ptr (st.heap.length + 1) 0) :: (2, .ptr (st.heap.length + 2) 0) :: (4, .ptr (st.heap.length + (J.length + 3)) 0) :: fr, pst st (x0 :: .cells .plain [.list w.t 4 tk' true ((s' :: r').map Span.dv)] :: .cells .plain [.int .i64 (e' + s'.n)] :: (J ++ [.cells .plain look0.cs])) K) ∧
      SpOk (s' :: r') ∧ e ≤ e' ∧ e' + sumN (s' :: r') = e + sumN (s :: r) ∧ e' ≤ i ∧ i < e' + s'.n ∧ (∀ j, i ≤ j → findLook e (s :: r) j = findLook e' (s' :: r') j) := by
  intro r
  induction r with
  | nil =>
    intro s e tk h1 h2 h3 h4 h5
    refine ⟨e, s, [], tk, [(12, .bool false)], ?_, h1, Int.le_refl _, rfl, h4, by simpa [sumN] using h5, fun _ _ => rfl⟩
    rw [C_turn (L := f56L0) rfl]
    simp [f56B0]
  | cons c r ih =>
    intro s e tk h1 h2 h3 h4 h5
    by_cases a : e + s.n ≤ i
    · have hc : SpOk (c :: r) := fun x hx => h1 x (List.mem_cons_of_mem _ hx)
      have hs := (h1 s (List.mem_cons_self ..)).1
      have hg := sumN_ge hc
      simp only [sumN] at h3 h5 hg
      have hcn := (hc c (List.mem_cons_self ..)).1
      simp only [List.length_cons] at hg
      have hw2 : IntKind.i64.wrap (e + s.n + c.n) = e + s.n + c.n := i64w (by have := sumN_ge (l := r) (fun x hx => hc x (List.mem_cons_of_mem _ hx)); omega)
      obtain ⟨e', s', r', tk', fr, k1, k2, k3, k4, k5, k6, k7⟩ := ih c (e + s.n) (slTk tk (r.length + 2) 1 (r.length + 2)) hc (by omega) (by simp only [sumN]; omega) a (by simp only [sumN]; omega)
      refine ⟨e', s', r', tk', fr, ?_, k2, by omega, ?_, k5, k6, fun j hj => ?_⟩
      · rw [C_turn (L := f56L0) rfl]
        have hsl : sliceD false 4 (.list w.t 4 tk true (s.dv :: c.dv :: r.map Span.dv)) (some (.int .i64 1)) none none = _ := slice_l (fun _ => rfl) (by omega) (by simp; omega)
        simp [look0, Look.cs] at k1 hsl ⊢
        simp [f56B0, a, hsl, hw2, Span.cs, k1, show (1 : Int) < r.length + 1 + 1 by omega]
      · rw [k4]; simp only [sumN]; omega
      · rw [← k7 j hj]
        simp only [findLook]
        rw [if_neg (by omega)]
    · refine ⟨e, s, c :: r, tk, [(12, .bool false)], ?_, h1, Int.le_refl _, rfl, h4, by omega, fun _ _ => rfl⟩
      rw [C_turn (L := f56L0) rfl]
      simp [f56B0, a, show (1 : Int) < r.length + 1 + 1 by omega]

/-- What the walk through looks stands at: a place, and the spans from there on. -/
structure LkAt (l : List Span) (i : Int) (e : Int) (s : Span) (r : List Span) : Prop where
  ok : SpOk (s :: r)
  e0 : 0 ≤ e
  ei : e ≤ i
  sum : e + sumN (s :: r) = sumN l
  same : ∀ j, i ≤ j → findLook 0 l j = findLook e (s :: r) j

theorem look56 (l : List Span) (x0 : HO) (i : Int) (w : LW) (st : St) (K : List Nat) (J : List HO) (r : List Span) (s : Span) (e i0 : Int) (tk : Tk) (h : LkAt l i0 e s r) (hi : i0 ≤ i) (h3 : sumN l ≤ 4096) (h5 : i < sumN l) :
    ∃ e' s' r' tk', (E tab).F 56 [.int .i64 i, .ptr (st.heap.length + 1) 0, .ptr (st.heap.length + 2) 0] (pst st (x0 :: .cells .plain [.list w.t 4 tk true ((s :: r).map Span.dv)] :: .cells .plain [.int .i64 (e + s.n)] :: J) K) =
      some (.agg (lookAt l i).cs, pst st (x0 :: .cells .plain [.list w.t 4 tk' true ((s' :: r').map Span.dv)] :: .cells .plain [.int .i64 (e' + s'.n)] :: (J ++ [.cells .plain (lookAt l i).cs])) K) ∧ LkAt l i e' s' r' := by
  obtain ⟨e', s', r', tk', fr, k1, k2, k3, k4, k5, k6, k7⟩ := L56_0 x0 i w st K J r s e tk h.ok h.e0 (by have := h.sum; omega) (by have := h.ei; omega) (by have := h.sum; omega)
  have hlk : lookAt l i = s'.c := by
    unfold lookAt
    rw [h.same i hi, k7 i (Int.le_refl _)]
    simp [findLook, k6]
  refine ⟨e', s', r', tk', ?_, k2, by have := h.e0; omega, k5, by rw [k4]; exact h.sum, fun j hj => by rw [h.same j (by omega), k7 j hj]⟩
  rw [F_go at56 rfl, hlk]
  simp [look0, Look.cs] at k1 ⊢
  simp [f56, k1, Span.cs]

def firstN : List Span → Int
  | [] => 0
  | s :: _ => s.n

theorem looks29 (x0 : HO) (w : LW) (l : List Span) (hw : w.ok 4 l) (st : St) (K : List Nat) : (E tab).F 29 [.list w.t w.n w.tk w.nn (l.map Span.dv)] (pst st [x0] K) =
    some (.fn 56 [] [.ptr (st.heap.length + 1) 0, .ptr (st.heap.length + 2) 0], pst st [x0, .cells .plain [.list w.t w.n w.tk w.nn (l.map Span.dv)], .cells .plain [.int .i64 (firstN l)]] K) := by
  rw [F_go at29 rfl]
  cases l with
  | nil => simp [f29, firstN]
  | cons s r =>
    have := hw.n (by simp)
    simp [f29, this, firstN, Span.cs, show (0 : Int) < r.length + 1 by omega]

theorem sizeOf_in (p : Para) (hp : propsOk p.pr = true) (h1 : SpOk p.spans) (i : Int) : 1 ≤ sizeOf p i ∧ sizeOf p i ≤ 64 ∧ 0 ≤ (lookAt p.spans i).t ∧ (lookAt p.spans i).t ≤ 15 := by
  have hs : 1 ≤ p.pr.size ∧ p.pr.size ≤ 64 := by
    simp only [propsOk, Bool.and_eq_true, fb, decide_eq_true_eq] at hp
    omega
  have : ∀ (l : List Span) (e : Int), SpOk l → lookOk ((findLook e l i).getD look0) = true := by
    intro l
    induction l with
    | nil => intro e _; rfl
    | cons s r ih =>
      intro e h
      simp only [findLook]
      split
      · exact (h s (List.mem_cons_self ..)).2
      · exact ih _ fun x hx => h x (List.mem_cons_of_mem _ hx)
  have := this p.spans 0 h1
  change lookOk (lookAt p.spans i) = true at this
  simp only [lookOk, Bool.and_eq_true, fb, decide_eq_true_eq] at this
  unfold sizeOf
  split <;> omega

/-- A byte of a text. -/
def bAt (s : List UInt8) (i : Nat) : UInt8 := s.getD i 0

def massW (p : Para) (mk : List (List UInt8)) (c : Clu) : Int :=
  if shows c.k || c.k == 3 then IntKind.i64.wrap (wd (bAt p.text c.a) (sizeOf p c.a) + (lookAt p.spans c.a).t)
  else if c.k = 7 then tw (sizeOf p c.a) 0 (mk.headD []) else 0
def massE (p : Para) (kr : Bool) (bf : UInt8) (ps : Int) (c : Clu) : Int :=
  if shows c.k && (lookAt p.spans c.a).e == 1 && kr && ps == sizeOf p c.a then nearV bf (bAt p.text c.a) (sizeOf p c.a) else 0
def massOf (p : Para) (kr : Bool) (bf : UInt8) (ps : Int) (mk : List (List UInt8)) (c : Clu) : Mass := ⟨c.a, c.b, c.k, sizeOf p c.a, massW p mk c, massE p kr bf ps c⟩
def krOf (p : Para) (c : Clu) : Bool := shows c.k && (lookAt p.spans c.a).e == 1
def mkOf (mk : List (List UInt8)) (c : Clu) : List (List UInt8) := if c.k = 7 then mk.tail else mk
/-- The masses of clusters: is the one ahead kerned, its byte, its size; the marks that are left. -/
def massGo (p : Para) : Bool → UInt8 → Int → List (List UInt8) → List Clu → List Mass
  | _, _, _, _, [] => []
  | kr, bf, ps, mk, c :: r => massOf p kr bf ps mk c :: massGo p (krOf p c) (bAt p.text c.a) (sizeOf p c.a) (mkOf mk c) r
def masses (p : Para) : List Mass := massGo p false 0 0 p.marks (clus p.text)

theorem K10_2 (x0 x1 x2 x3 : HO) (J : List HO) (K : List Nat) (st : St) (p : Para) (c : Clu) (mk : List (List UInt8)) (u : LW) (tk : Tk) (hu : c.k = 7 → mk ≠ []) (hn : mk ≠ [] → u.n = 1 ∧ u.nn = true) (hm : ∀ m ∈ mk, m.length ≤ 4096) (y1 y7 y9 y10 y11 y34 y35 y36 : DV) :
    ∃ tk' fr, (E tab).C f10K2 [(1, y1), (7, y7), (8, .list u.t u.n tk u.nn (mk.map .str)), (9, y9), (10, y10), (11, y11), (13, .ptr (st.heap.length + (J.length + 3)) 0), (14, .ptr (st.heap.length + (J.length + 5)) 0), (15, .ptr (st.heap.length + (J.length + 6)) 0), (16, .int .u8 (bAt p.text c.a).toNat), (17, .bool (shows c.k)), (34, y34), (35, y35), (36, y36)]
      (pst st (x0 :: x1 :: x2 :: (J ++ [.cells .plain c.cs, x3, .cells .plain (lookAt p.spans c.a).cs, .cells .plain [.int .i64 c.a, .int .i64 c.b, .int .i64 c.k, .int .i64 (sizeOf p c.a), .int .i64 0, .int .i64 0]])) K) =
      some (.normal, [(1, y1), (7, y7), (8, .list u.t u.n tk' u.nn ((mkOf mk c).map .str)), (9, y9), (10, y10), (11, y11), (14, .ptr (st.heap.length + (J.length + 5)) 0), (15, .ptr (st.heap.length + (J.length + 6)) 0), (16, .int .u8 (bAt p.text c.a).toNat), (17, .bool (shows c.k)), (34, y34), (35, y35), (36, y36)] ++ fr,
        pst st (x0 :: x1 :: x2 :: (J ++ [.cells .plain c.cs, x3, .cells .plain (lookAt p.spans c.a).cs, .cells .plain [.int .i64 c.a, .int .i64 c.b, .int .i64 c.k, .int .i64 (sizeOf p c.a), .int .i64 (massW p mk c), .int .i64 0]])) K) := by
  have h30 := fun st => wide_run (bAt p.text c.a) (sizeOf p c.a) st
  by_cases h1 : shows c.k = true
  · refine ⟨tk, [], ?_⟩
    have h7 : ¬ c.k = 7 := by intro h; rw [h] at h1; cases h1
    simp [f10K2, Clu.cs, Look.cs, h1, h30, massW, mkOf, h7]
  · have h1' : shows c.k = false := by simpa using h1
    by_cases h3 : c.k = 3
    · refine ⟨tk, [], ?_⟩
      simp [f10K2, Clu.cs, Look.cs, show shows 3 = false from rfl, h3, h30, massW, mkOf]
    · by_cases h7 : c.k = 7
      · have hne := hu h7
        obtain ⟨hn1, hn2⟩ := hn hne
        match mk, hne with
        | m :: ms, _ =>
          have h31 := fun st => text_run m (hm m (List.mem_cons_self ..)) (sizeOf p c.a) st
          have hsl : sliceD false 1 (.list u.t 1 tk true (.str m :: ms.map .str)) (some (.int .i64 1)) none none = _ := slice_l (fun _ => rfl) (by omega) (by simp; omega)
          refine ⟨slTk tk (ms.length + 1) 1 (ms.length + 1), [], ?_⟩
          simp at hsl
          simp [f10K2, Clu.cs, Look.cs, show shows 7 = false from rfl, h7, h31, massW, mkOf, hn1, hn2, hsl]
      · refine ⟨tk, [(88, .bool false)], ?_⟩
        simp [f10K2, Clu.cs, Look.cs, h1', h3, h7, massW, mkOf]

/-- Clusters, from a place on. -/
def CluOk (s : List UInt8) : Nat → List Clu → Prop
  | _, [] => True
  | i, c :: r => i ≤ c.a ∧ c.a < s.length ∧ CluOk s c.a r
def refN (l : List Clu) : Nat := (l.filter fun c => c.k == 7).length

theorem mkOf_len {mk : List (List UInt8)} {c : Clu} {r : List Clu} (h : mk.length = refN (c :: r)) : (mkOf mk c).length = refN r ∧ (c.k = 7 → mk ≠ []) := by
  unfold refN at h ⊢
  unfold mkOf
  by_cases h7 : c.k = 7
  · simp [h7] at h ⊢
    refine ⟨by omega, fun e => by simp [e] at h⟩
  · simp [h7] at h ⊢
    exact h

theorem mkOf_sub {mk : List (List UInt8)} {c : Clu} {m : List UInt8} (h : m ∈ mkOf mk c) : m ∈ mk := by
  unfold mkOf at h
  split at h
  · exact List.mem_of_mem_tail h
  · exact h

def H10 (p : Para) (w u : LW) (tk : Tk) (s : Span) (sp : List Span) (e : Int) (J : List HO) : List HO :=
  .cells .plain (paraCs p w u) :: .cells .plain [.list w.t 4 tk true ((s :: sp).map Span.dv)] :: .cells .plain [.int .i64 (e + s.n)] :: J

set_option maxHeartbeats 8000000 in
theorem L10_0 (p : Para) (w u : LW) (hpr : propsOk p.pr = true) (hSp : SpOk p.spans) (hsum : sumN p.spans = p.text.length) (hlen : p.text.length ≤ 4096) (cs : List Clu) (hcs : cs.length ≤ 4096) (ct cn : Nat) (ctk : Tk) (cnn : Bool) (hcn : cs ≠ [] → cn = 3) (st : St) :
    ∀ (r d : List Clu) (J : List HO) (K : List Nat) (xs : List Mass) (kr : Bool) (bf : UInt8) (ps : Int) (mk : List (List UInt8)) (tk tk2 : Tk) (s : Span) (sp : List Span) (e : Int) (i0 : Nat) (v : DV),
    cs = d ++ r → CluOk p.text i0 r → LkAt p.spans i0 e s sp → Acc st K 6 (xs.map Mass.dv) v → xs.length = d.length → (kr = true → ∃ ys m, xs = ys ++ [m] ∧ m.s = ps) → mk.length = refN r → (∀ m ∈ mk, m.length ≤ 4096) → (mk ≠ [] → u.n = 1 ∧ u.nn = true) →
    ∃ v' H' K' y8 fr, (E tab).C f10L0 [(1, .ptr st.heap.length 0), (7, .fn 56 [] [.ptr (st.heap.length + 1) 0, .ptr (st.heap.length + 2) 0]), (8, .list u.t u.n tk u.nn (mk.map .str)), (9, v), (10, .bool kr), (11, .int .u8 bf.toNat), (34, .list ct cn ctk cnn (cs.map Clu.dv)), (35, .int .i64 cs.length), (36, .int .i64 d.length)]
        (pst st (H10 p w u tk2 s sp e J) K) =
      some (.exit 0, (1, .ptr st.heap.length 0) :: (7, .fn 56 [] [.ptr (st.heap.length + 1) 0, .ptr (st.heap.length + 2) 0]) :: (8, y8) :: (9, v') :: fr, pst st H' K') ∧ Acc st K' 6 ((xs ++ massGo p kr bf ps mk r).map Mass.dv) v' := by
  intro r
  induction r with
  | nil =>
    intro d J K xs kr bf ps mk tk tk2 s sp e i0 v hd _ _ hA _ _ _ _ _
    refine ⟨v, H10 p w u tk2 s sp e J, K, .list u.t u.n tk u.nn (mk.map .str), [(10, .bool kr), (11, .int .u8 bf.toNat), (34, .list ct cn ctk cnn (cs.map Clu.dv)), (35, .int .i64 cs.length), (36, .int .i64 cs.length), (37, .bool false)], ?_, by simpa [massGo] using hA⟩
    rw [C_turn (L := f10L0) rfl]
    simp [f10B0, hd]
  | cons c r ih =>
    intro d J K xs kr bf ps mk tk tk2 s sp e i0 v hd hC hL hA hxl hkr hmk hml hmn
    obtain ⟨c1, c2, c3⟩ := hC
    obtain rfl : cn = 3 := hcn (by simp [hd])
    have h0 : d.length < cs.length := by simp [hd]
    have hw : IntKind.i64.wrap ((d.length : Int) + 1) = ((d ++ [c]).length : Nat) := by rw [i64w (by omega)]; simp
    have hg : cs[d.length] = c := by simp [hd]
    obtain ⟨e', s', sp', tk2', h56, hL'⟩ := look56 p.spans (.cells .plain (paraCs p w u)) c.a w st K (J ++ [.cells .plain c.cs]) sp s e i0 tk2 hL (by omega) (by omega) (by omega)
    have hsz := sizeOf_in p hpr hSp c.a
    have hb : p.text[c.a]? = some (bAt p.text c.a) := byteAt c2
    obtain ⟨tk', fr', hK⟩ := K10_2 (.cells .plain (paraCs p w u)) (.cells .plain [.list w.t 4 tk2' true ((s' :: sp').map Span.dv)]) (.cells .plain [.int .i64 (e' + s'.n)]) (.cells .plain (lookAt p.spans c.a).cs) J K st p c mk u tk (mkOf_len hmk).2 hmn hml
      (.ptr st.heap.length 0) (.fn 56 [] [.ptr (st.heap.length + 1) 0, .ptr (st.heap.length + 2) 0]) v (.bool kr) (.int .u8 bf.toNat) (.list ct 3 ctk cnn (cs.map Clu.dv)) (.int .i64 cs.length) (.int .i64 d.length)
    have h32 := fun st => nearer_run bf (bAt p.text c.a) (sizeOf p c.a) ⟨hsz.1, hsz.2.1⟩ st
    obtain ⟨v2, K2, e2, hA2⟩ := acc_app (H := .cells .plain (paraCs p w u) :: .cells .plain [.list w.t 4 tk2' true ((s' :: sp').map Span.dv)] :: .cells .plain [.int .i64 (e' + s'.n)] :: (J ++ [.cells .plain c.cs, .cells .plain (lookAt p.spans c.a).cs, .cells .plain (lookAt p.spans c.a).cs, .cells .plain (massOf p kr bf ps mk c).cs]))
      (t := st.cur) (by_ := 48) (ag := true) (tk := .tight) (ys := [(massOf p kr bf ps mk c).dv]) hA (by omega) (by simp) (by simp [el_mass]) (by simp [roomD]; omega) (by simp [roomD]; omega)
    obtain ⟨v3, H3, K3, y8, fr, e3, hA3⟩ := ih (d ++ [c]) (J ++ [.cells .plain c.cs, .cells .plain (lookAt p.spans c.a).cs, .cells .plain (lookAt p.spans c.a).cs, .cells .plain (massOf p kr bf ps mk c).cs]) K2 (xs ++ [massOf p kr bf ps mk c]) (krOf p c) (bAt p.text c.a) (sizeOf p c.a) (mkOf mk c) tk' tk2' s' sp' e' c.a v2
      (by simp [hd]) c3 hL' (by simpa using hA2) (by simp [hxl]) (fun _ => ⟨xs, _, rfl, rfl⟩) (mkOf_len hmk).1 (fun m hm => hml m (mkOf_sub hm)) (fun hne => hmn fun h => hne (by rw [h]; unfold mkOf; split <;> rfl))
    refine ⟨v3, H3, K3, y8, fr, ?_, by simpa [massGo] using hA3⟩
    obtain ⟨vt, vn, vtk, vnn, rfl⟩ := acc_len hA
    rw [C_turn (L := f10L0) rfl]
    unfold H10 at e3 ⊢
    by_cases hz : (lookAt p.spans c.a).z = 0
    · have hq : p.pr.size = sizeOf p c.a := by simp [sizeOf, hz]
      by_cases q1 : c.k = 1
      · have k1 : shows c.k = true := by rw [q1]; rfl
        by_cases k2 : (lookAt p.spans c.a).e = 1
        · have hk : krOf p c = true := by simp [krOf, k1, k2]
          cases kr with
          | false =>
            have hE : massE p false bf ps c = 0 := by simp [massE]
            simp [Mass.dv, Mass.cs, massOf, Clu.cs, Clu.dv, Look.cs, hz, hq, show shows 1 = true from rfl, q1, k1, k2, hk, hE] at e2 e3 hK h56 ⊢
            simp [f10B0, V_fn, Mass.dv, Mass.cs, massOf, Clu.cs, Clu.dv, Look.cs, h0, hg, hw, hb, h56, hK, h32, op_lit, repl, chunk, e2, e3, hz, hq, show shows 1 = true from rfl, q1, k1, k2, hk, hE]
          | true =>
            obtain ⟨ys, m0, rfl, rfl⟩ := hkr rfl
            obtain ⟨rfl, rfl⟩ : vn = 6 ∧ vnn = true := by
              rcases hA with ⟨h, _⟩ | ⟨k, q, h, _⟩
              · simp at h
              · injection h with _ h2 _ h4; exact ⟨h2, h4⟩
            simp only [List.map_append, List.map_cons, List.map_nil] at e2 hK h56
            have hyl : IntKind.i64.wrap (ys.length : Int) = ys.length := i64w (by simp at hxl; omega)
            by_cases k3 : m0.s = sizeOf p c.a
            · have hE : massE p true bf (sizeOf p c.a) c = nearV bf (bAt p.text c.a) (sizeOf p c.a) := by simp [massE, k1, k2]
              simp [Mass.dv, Mass.cs, massOf, Clu.cs, Clu.dv, Look.cs, hz, hq, show shows 1 = true from rfl, q1, k1, k2, hk, hE, k3, hyl] at e2 e3 hK h56 ⊢
              simp [f10B0, V_fn, Mass.dv, Mass.cs, massOf, Clu.cs, Clu.dv, Look.cs, h0, hg, hw, hb, h56, hK, h32, op_lit, repl, chunk, e2, e3, hz, hq, show shows 1 = true from rfl, q1, k1, k2, hk, hE, k3, hyl]
            · have hE : massE p true bf m0.s c = 0 := by simp [massE, k3]
              simp [Mass.dv, Mass.cs, massOf, Clu.cs, Clu.dv, Look.cs, hz, hq, show shows 1 = true from rfl, q1, k1, k2, hk, hE, k3, hyl] at e2 e3 hK h56 ⊢
              simp [f10B0, V_fn, Mass.dv, Mass.cs, massOf, Clu.cs, Clu.dv, Look.cs, h0, hg, hw, hb, h56, hK, h32, op_lit, repl, chunk, e2, e3, hz, hq, show shows 1 = true from rfl, q1, k1, k2, hk, hE, k3, hyl]
        · have k2' : ((lookAt p.spans c.a).e == 1) = false := by simp [k2]
          have hE : massE p kr bf ps c = 0 := by simp [massE, k2]
          have hk : krOf p c = false := by simp [krOf, k2]
          simp [Mass.dv, Mass.cs, massOf, Clu.cs, Clu.dv, Look.cs, hz, hq, show shows 1 = true from rfl, q1, k1, k2, k2', hk, hE] at e2 e3 hK h56 ⊢
          simp [f10B0, V_fn, Mass.dv, Mass.cs, massOf, Clu.cs, Clu.dv, Look.cs, h0, hg, hw, hb, h56, hK, h32, op_lit, repl, chunk, e2, e3, hz, hq, show shows 1 = true from rfl, q1, k1, k2, k2', hk, hE]
      by_cases q2 : c.k = 2
      · have k1 : shows c.k = true := by rw [q2]; rfl
        by_cases k2 : (lookAt p.spans c.a).e = 1
        · have hk : krOf p c = true := by simp [krOf, k1, k2]
          cases kr with
          | false =>
            have hE : massE p false bf ps c = 0 := by simp [massE]
            simp [Mass.dv, Mass.cs, massOf, Clu.cs, Clu.dv, Look.cs, hz, hq, show shows 2 = true from rfl, q2, k1, k2, hk, hE] at e2 e3 hK h56 ⊢
            simp [f10B0, V_fn, Mass.dv, Mass.cs, massOf, Clu.cs, Clu.dv, Look.cs, h0, hg, hw, hb, h56, hK, h32, op_lit, repl, chunk, e2, e3, hz, hq, show shows 2 = true from rfl, q2, k1, k2, hk, hE]
          | true =>
            obtain ⟨ys, m0, rfl, rfl⟩ := hkr rfl
            obtain ⟨rfl, rfl⟩ : vn = 6 ∧ vnn = true := by
              rcases hA with ⟨h, _⟩ | ⟨k, q, h, _⟩
              · simp at h
              · injection h with _ h2 _ h4; exact ⟨h2, h4⟩
            simp only [List.map_append, List.map_cons, List.map_nil] at e2 hK h56
            have hyl : IntKind.i64.wrap (ys.length : Int) = ys.length := i64w (by simp at hxl; omega)
            by_cases k3 : m0.s = sizeOf p c.a
            · have hE : massE p true bf (sizeOf p c.a) c = nearV bf (bAt p.text c.a) (sizeOf p c.a) := by simp [massE, k1, k2]
              simp [Mass.dv, Mass.cs, massOf, Clu.cs, Clu.dv, Look.cs, hz, hq, show shows 2 = true from rfl, q2, k1, k2, hk, hE, k3, hyl] at e2 e3 hK h56 ⊢
              simp [f10B0, V_fn, Mass.dv, Mass.cs, massOf, Clu.cs, Clu.dv, Look.cs, h0, hg, hw, hb, h56, hK, h32, op_lit, repl, chunk, e2, e3, hz, hq, show shows 2 = true from rfl, q2, k1, k2, hk, hE, k3, hyl]
            · have hE : massE p true bf m0.s c = 0 := by simp [massE, k3]
              simp [Mass.dv, Mass.cs, massOf, Clu.cs, Clu.dv, Look.cs, hz, hq, show shows 2 = true from rfl, q2, k1, k2, hk, hE, k3, hyl] at e2 e3 hK h56 ⊢
              simp [f10B0, V_fn, Mass.dv, Mass.cs, massOf, Clu.cs, Clu.dv, Look.cs, h0, hg, hw, hb, h56, hK, h32, op_lit, repl, chunk, e2, e3, hz, hq, show shows 2 = true from rfl, q2, k1, k2, hk, hE, k3, hyl]
        · have k2' : ((lookAt p.spans c.a).e == 1) = false := by simp [k2]
          have hE : massE p kr bf ps c = 0 := by simp [massE, k2]
          have hk : krOf p c = false := by simp [krOf, k2]
          simp [Mass.dv, Mass.cs, massOf, Clu.cs, Clu.dv, Look.cs, hz, hq, show shows 2 = true from rfl, q2, k1, k2, k2', hk, hE] at e2 e3 hK h56 ⊢
          simp [f10B0, V_fn, Mass.dv, Mass.cs, massOf, Clu.cs, Clu.dv, Look.cs, h0, hg, hw, hb, h56, hK, h32, op_lit, repl, chunk, e2, e3, hz, hq, show shows 2 = true from rfl, q2, k1, k2, k2', hk, hE]
      have k1' : shows c.k = false := by simp [shows, q1, q2]
      have hE : massE p kr bf ps c = 0 := by simp [massE, k1']
      have hk : krOf p c = false := by simp [krOf, k1']
      simp [Mass.dv, Mass.cs, massOf, Clu.cs, Clu.dv, Look.cs, hz, hq, q1, q2, k1', hk, hE, show (c.k == 2) = false by simp [q2]] at e2 e3 hK h56 ⊢
      simp [f10B0, V_fn, Mass.dv, Mass.cs, massOf, Clu.cs, Clu.dv, Look.cs, h0, hg, hw, hb, h56, hK, h32, op_lit, repl, chunk, e2, e3, hz, hq, q1, q2, k1', hk, hE, show (c.k == 2) = false by simp [q2]]
    · have hq : (lookAt p.spans c.a).z = sizeOf p c.a := by simp [sizeOf, hz]
      have hz' : ¬ sizeOf p c.a = 0 := by omega
      by_cases q1 : c.k = 1
      · have k1 : shows c.k = true := by rw [q1]; rfl
        by_cases k2 : (lookAt p.spans c.a).e = 1
        · have hk : krOf p c = true := by simp [krOf, k1, k2]
          cases kr with
          | false =>
            have hE : massE p false bf ps c = 0 := by simp [massE]
            simp [Mass.dv, Mass.cs, massOf, Clu.cs, Clu.dv, Look.cs, hz', hq, show shows 1 = true from rfl, q1, k1, k2, hk, hE] at e2 e3 hK h56 ⊢
            simp [f10B0, V_fn, Mass.dv, Mass.cs, massOf, Clu.cs, Clu.dv, Look.cs, h0, hg, hw, hb, h56, hK, h32, op_lit, repl, chunk, e2, e3, hz', hq, show shows 1 = true from rfl, q1, k1, k2, hk, hE]
          | true =>
            obtain ⟨ys, m0, rfl, rfl⟩ := hkr rfl
            obtain ⟨rfl, rfl⟩ : vn = 6 ∧ vnn = true := by
              rcases hA with ⟨h, _⟩ | ⟨k, q, h, _⟩
              · simp at h
              · injection h with _ h2 _ h4; exact ⟨h2, h4⟩
            simp only [List.map_append, List.map_cons, List.map_nil] at e2 hK h56
            have hyl : IntKind.i64.wrap (ys.length : Int) = ys.length := i64w (by simp at hxl; omega)
            by_cases k3 : m0.s = sizeOf p c.a
            · have hE : massE p true bf (sizeOf p c.a) c = nearV bf (bAt p.text c.a) (sizeOf p c.a) := by simp [massE, k1, k2]
              simp [Mass.dv, Mass.cs, massOf, Clu.cs, Clu.dv, Look.cs, hz', hq, show shows 1 = true from rfl, q1, k1, k2, hk, hE, k3, hyl] at e2 e3 hK h56 ⊢
              simp [f10B0, V_fn, Mass.dv, Mass.cs, massOf, Clu.cs, Clu.dv, Look.cs, h0, hg, hw, hb, h56, hK, h32, op_lit, repl, chunk, e2, e3, hz', hq, show shows 1 = true from rfl, q1, k1, k2, hk, hE, k3, hyl]
            · have hE : massE p true bf m0.s c = 0 := by simp [massE, k3]
              simp [Mass.dv, Mass.cs, massOf, Clu.cs, Clu.dv, Look.cs, hz', hq, show shows 1 = true from rfl, q1, k1, k2, hk, hE, k3, hyl] at e2 e3 hK h56 ⊢
              simp [f10B0, V_fn, Mass.dv, Mass.cs, massOf, Clu.cs, Clu.dv, Look.cs, h0, hg, hw, hb, h56, hK, h32, op_lit, repl, chunk, e2, e3, hz', hq, show shows 1 = true from rfl, q1, k1, k2, hk, hE, k3, hyl]
        · have k2' : ((lookAt p.spans c.a).e == 1) = false := by simp [k2]
          have hE : massE p kr bf ps c = 0 := by simp [massE, k2]
          have hk : krOf p c = false := by simp [krOf, k2]
          simp [Mass.dv, Mass.cs, massOf, Clu.cs, Clu.dv, Look.cs, hz', hq, show shows 1 = true from rfl, q1, k1, k2, k2', hk, hE] at e2 e3 hK h56 ⊢
          simp [f10B0, V_fn, Mass.dv, Mass.cs, massOf, Clu.cs, Clu.dv, Look.cs, h0, hg, hw, hb, h56, hK, h32, op_lit, repl, chunk, e2, e3, hz', hq, show shows 1 = true from rfl, q1, k1, k2, k2', hk, hE]
      by_cases q2 : c.k = 2
      · have k1 : shows c.k = true := by rw [q2]; rfl
        by_cases k2 : (lookAt p.spans c.a).e = 1
        · have hk : krOf p c = true := by simp [krOf, k1, k2]
          cases kr with
          | false =>
            have hE : massE p false bf ps c = 0 := by simp [massE]
            simp [Mass.dv, Mass.cs, massOf, Clu.cs, Clu.dv, Look.cs, hz', hq, show shows 2 = true from rfl, q2, k1, k2, hk, hE] at e2 e3 hK h56 ⊢
            simp [f10B0, V_fn, Mass.dv, Mass.cs, massOf, Clu.cs, Clu.dv, Look.cs, h0, hg, hw, hb, h56, hK, h32, op_lit, repl, chunk, e2, e3, hz', hq, show shows 2 = true from rfl, q2, k1, k2, hk, hE]
          | true =>
            obtain ⟨ys, m0, rfl, rfl⟩ := hkr rfl
            obtain ⟨rfl, rfl⟩ : vn = 6 ∧ vnn = true := by
              rcases hA with ⟨h, _⟩ | ⟨k, q, h, _⟩
              · simp at h
              · injection h with _ h2 _ h4; exact ⟨h2, h4⟩
            simp only [List.map_append, List.map_cons, List.map_nil] at e2 hK h56
            have hyl : IntKind.i64.wrap (ys.length : Int) = ys.length := i64w (by simp at hxl; omega)
            by_cases k3 : m0.s = sizeOf p c.a
            · have hE : massE p true bf (sizeOf p c.a) c = nearV bf (bAt p.text c.a) (sizeOf p c.a) := by simp [massE, k1, k2]
              simp [Mass.dv, Mass.cs, massOf, Clu.cs, Clu.dv, Look.cs, hz', hq, show shows 2 = true from rfl, q2, k1, k2, hk, hE, k3, hyl] at e2 e3 hK h56 ⊢
              simp [f10B0, V_fn, Mass.dv, Mass.cs, massOf, Clu.cs, Clu.dv, Look.cs, h0, hg, hw, hb, h56, hK, h32, op_lit, repl, chunk, e2, e3, hz', hq, show shows 2 = true from rfl, q2, k1, k2, hk, hE, k3, hyl]
            · have hE : massE p true bf m0.s c = 0 := by simp [massE, k3]
              simp [Mass.dv, Mass.cs, massOf, Clu.cs, Clu.dv, Look.cs, hz', hq, show shows 2 = true from rfl, q2, k1, k2, hk, hE, k3, hyl] at e2 e3 hK h56 ⊢
              simp [f10B0, V_fn, Mass.dv, Mass.cs, massOf, Clu.cs, Clu.dv, Look.cs, h0, hg, hw, hb, h56, hK, h32, op_lit, repl, chunk, e2, e3, hz', hq, show shows 2 = true from rfl, q2, k1, k2, hk, hE, k3, hyl]
        · have k2' : ((lookAt p.spans c.a).e == 1) = false := by simp [k2]
          have hE : massE p kr bf ps c = 0 := by simp [massE, k2]
          have hk : krOf p c = false := by simp [krOf, k2]
          simp [Mass.dv, Mass.cs, massOf, Clu.cs, Clu.dv, Look.cs, hz', hq, show shows 2 = true from rfl, q2, k1, k2, k2', hk, hE] at e2 e3 hK h56 ⊢
          simp [f10B0, V_fn, Mass.dv, Mass.cs, massOf, Clu.cs, Clu.dv, Look.cs, h0, hg, hw, hb, h56, hK, h32, op_lit, repl, chunk, e2, e3, hz', hq, show shows 2 = true from rfl, q2, k1, k2, k2', hk, hE]
      have k1' : shows c.k = false := by simp [shows, q1, q2]
      have hE : massE p kr bf ps c = 0 := by simp [massE, k1']
      have hk : krOf p c = false := by simp [krOf, k1']
      simp [Mass.dv, Mass.cs, massOf, Clu.cs, Clu.dv, Look.cs, hz', hq, q1, q2, k1', hk, hE, show (c.k == 2) = false by simp [q2]] at e2 e3 hK h56 ⊢
      simp [f10B0, V_fn, Mass.dv, Mass.cs, massOf, Clu.cs, Clu.dv, Look.cs, h0, hg, hw, hb, h56, hK, h32, op_lit, repl, chunk, e2, e3, hz', hq, q1, q2, k1', hk, hE, show (c.k == 2) = false by simp [q2]]

theorem checkN_zero {p : Para} (h : checkN p = 0) : wrongN p.text = 0 ∧ ¬ (3 : UInt8) ∈ p.text ∧ spansOk p.text.length p.spans = true ∧ propsOk p.pr = true ∧ shownOk p.label 16 = true ∧ p.marks.length = p.text.count 2 ∧ ∀ m ∈ p.marks, markOk m = true := by
  unfold checkN at h
  by_cases h1 : wrongN p.text = 0
  · rw [if_pos h1] at h
    by_cases h2 : (3 : UInt8) ∈ p.text
    · rw [if_pos h2] at h; simp at h
    rw [if_neg h2] at h
    by_cases h3 : (spansOk p.text.length p.spans && propsOk p.pr && shownOk p.label 16 && decide (p.marks.length = p.text.count 2)) = true
    · rw [if_pos h3] at h
      simp only [Bool.and_eq_true, decide_eq_true_eq] at h3
      by_cases h4 : p.marks.all markOk = true
      · exact ⟨h1, h2, h3.1.1.1, h3.1.1.2, h3.1.2, h3.2, List.all_eq_true.1 h4⟩
      · rw [if_neg h4] at h; simp at h
    · rw [if_neg h3] at h; simp at h
  · rw [if_neg h1] at h; exact absurd h h1

theorem clusF_ok (s : List UInt8) : ∀ (n i : Nat), CluOk s i (clusF s n i) ∧ (clusF s n i).length ≤ n
  | 0, i => ⟨trivial, Nat.le_refl _⟩
  | n + 1, i => by
    unfold clusF
    split
    · rename_i h
      have ih := clusF_ok s n (cTo s i)
      have h1 : i ≤ cTo s i := by have := (adv_le s (kdAt s i) 2 (i + 1)).1; unfold cTo; omega
      refine ⟨⟨Nat.le_refl _, h, ?_⟩, by simp; exact ih.2⟩
      revert ih
      cases clusF s n (cTo s i) with
      | nil => intro _; trivial
      | cons c r => intro ih; exact ⟨Nat.le_trans h1 ih.1.1, ih.1.2⟩
    · exact ⟨trivial, by simp⟩

theorem kd7 : ((List.range 256).all fun c => (kd c == 7) == (c == 2)) = true := by decide +kernel
theorem kd_seven (c : UInt8) : kd c.toNat = 7 ↔ c = 2 := by
  have := List.all_eq_true.1 kd7 c.toNat (List.mem_range.2 c.toNat_lt)
  rw [beq_iff_eq, Bool.eq_iff_iff, beq_iff_eq, beq_iff_eq] at this
  rw [this]
  exact ⟨fun h => UInt8.toNat_inj.1 h, fun h => by rw [h]; rfl⟩

theorem count_adv (s : List UInt8) (k : Int) : ∀ n t, (s.drop (adv s k n t)).count 2 = (s.drop t).count 2
  | 0, t => rfl
  | n + 1, t => by
    unfold adv
    split
    · rename_i h
      rw [count_adv s k n (t + 1)]
      have h1 := List.drop_eq_getElem_cons h.2.1
      have h2 : s[t] ≠ 2 := by
        intro e
        have h3 := h.2.2
        simp [h.2.1, e] at h3
        exact absurd h3 (by decide)
      rw [h1, List.count_cons]
      simp [h2]
    · rfl

theorem refN_clusF (s : List UInt8) : ∀ (n i : Nat), s.length ≤ i + n → refN (clusF s n i) = (s.drop i).count 2
  | 0, i, h => by
    have : s.drop i = [] := List.drop_eq_nil_of_le (by omega)
    simp [clusF, refN, this]
  | n + 1, i, h => by
    unfold clusF
    split
    · rename_i hi
      have h1 : i + 1 ≤ cTo s i := (adv_le s (kdAt s i) 2 (i + 1)).1
      have ih := refN_clusF s n (cTo s i) (by omega)
      have h2 := List.drop_eq_getElem_cons hi
      unfold refN at ih ⊢
      rw [h2, List.count_cons]
      have h3 : (s.drop (cTo s i)).count 2 = (s.drop (i + 1)).count 2 := count_adv s _ 2 (i + 1)
      rw [← h3, ← ih]
      have h4 : kdAt s i = 7 ↔ s[i] = 2 := by
        have := kd_seven s[i]
        simp only [kdAt]
        rw [show s.getD i 0 = s[i] by simp [hi]]
        exact this
      by_cases h5 : s[i] = 2
      · simp [h4.2 h5, h5]
      · have h6 : ¬ kdAt s i = 7 := fun h => h5 (h4.1 h)
        simp [h6, h5]
    · rename_i hi
      have : s.drop i = [] := List.drop_eq_nil_of_le (by omega)
      simp [refN, this]

/-- What Masses tells. -/
def massL (p : Para) : List Mass := if checkN p = 0 then masses p else []
def MassV (p : Para) (v : DV) : Prop := ∃ w : LW, v = .tuple [.list w.t w.n w.tk w.nn ((massL p).map Mass.dv), .int .i64 (checkN p)] ∧ w.ok 6 (massL p)

theorem massV_of {p : Para} {v : DV} (t n' : Nat) (tk : Tk) (nn : Bool) (h : v = .tuple [.list t n' tk nn ((massL p).map Mass.dv), .int .i64 (checkN p)]) (h2 : nn = true → n' = 6) (h3 : nn = false → (massL p).map Mass.dv = []) : MassV p v :=
  ⟨⟨t, n', tk, nn⟩, h, h2, fun e => by simpa using h3 e⟩

/-- The run itself: its list is one that the call owns. -/
theorem masses10raw (p : Para) (hp : p.small) (w u : LW) (hw : w.ok 4 p.spans) (hu : u.ok 1 p.marks) (st : St) :
    ∃ v fr H K, (E tab).C f10.body (frame0 [.agg (paraCs p w u)] 0) (pst st [] []) = some (.ret, (2, v) :: (3, .int .i64 (checkN p)) :: fr, pst st H K) ∧ Acc st K 6 ((massL p).map Mass.dv) v := by
  have h13 := fun st => check13 p hp w u hw hu st
  by_cases hc : checkN p = 0
  · obtain ⟨h1, h2, h3, h4, h5, h6, h7⟩ := checkN_zero hc
    obtain ⟨hlen, _⟩ := wrongN_zero h1
    obtain ⟨hS, hsum⟩ := spansL_ok p.spans p.text.length 0 (by simpa [spansOk] using h3)
    obtain ⟨v27, e27, t, n', tk, nn, rfl, hn1, hn2⟩ := split27 p.text (pst st [.cells .plain (paraCs p w u)] [])
    simp only [h1, if_true] at e27 hn2
    have h29 := looks29 (.cells .plain (paraCs p w u)) w p.spans hw st []
    by_cases he : p.text = []
    · have hcl : clus p.text = [] := by rw [he]; rfl
      have hml : massL p = [] := by simp [massL, masses, hcl, massGo]
      rw [hcl] at e27
      refine ⟨nilList, [], [.cells .plain (paraCs p w u), .cells .plain [.list w.t w.n w.tk w.nn (p.spans.map Span.dv)], .cells .plain [.int .i64 (firstN p.spans)]], [], ?_, by rw [hml]; exact acc_nil _ _ _ _ _ _⟩
      simp at e27
      simp [f10, h13, hc, e27, h29, C_turn (L := f10L0) rfl, f10B0]
    · have hne : p.spans ≠ [] := by
        intro h
        rw [h] at hsum
        have : 0 < p.text.length := List.length_pos_iff.2 he
        simp [sumN] at hsum
        omega
      match hps : p.spans, hne with
      | s :: sp, _ =>
        obtain ⟨hw4, hwt⟩ : w.n = 4 ∧ w.nn = true := by
          have := hw.n (by rw [hps]; simp)
          refine ⟨this, ?_⟩
          cases e : w.nn with
          | true => rfl
          | false => have := hw.2 e; rw [hps] at this; cases this
        have hcs := clusF_ok p.text p.text.length 0
        have hL : LkAt p.spans (0 : Nat) 0 s sp := ⟨by rw [← hps]; exact hS, by simp, by simp, by rw [hps]; omega, fun j _ => by rw [hps]⟩
        obtain ⟨v', H', K', y8, fr, e10, hA⟩ := L10_0 p w u h4 hS (by omega) hlen (clus p.text) (by have := hcs.2; unfold clus; omega) t n' tk nn (fun h => hn1 (by cases nn with | true => rfl | false => exact absurd (hn2 rfl) h)) st
          (clus p.text) [] [] [] [] false 0 0 p.marks u.tk w.tk s sp 0 0 nilList rfl hcs.1 hL (acc_nil _ _ _ _ _ _) rfl (by simp) (by rw [h6, show refN (clus p.text) = _ from refN_clusF p.text p.text.length 0 (by omega)]; simp)
          (fun m hm => by have := h7 m hm; simp [markOk, shownOk] at this; omega) (fun h => ⟨hu.n h, by cases e : u.nn with | true => rfl | false => exact absurd (hu.2 e) h⟩)
        have hml : massL p = massGo p false 0 0 p.marks (clus p.text) := by simp [massL, hc, masses]
        refine ⟨v', [], H', K', ?_, by rw [hml]; simpa using hA⟩
        simp [H10, hw4, hwt] at e10
        simp [hps, hw4, hwt, firstN] at h29
        simp [f10, h13, hc, e27, hps, hw4, hwt, h29, e10]
  · have hml : massL p = [] := by simp [massL, hc]
    refine ⟨nilList, [], [.cells .plain (paraCs p w u)], [], ?_, by rw [hml]; exact acc_nil _ _ _ _ _ _⟩
    simp [f10, h13, hc]

theorem masses10 (p : Para) (hp : p.small) (w u : LW) (hw : w.ok 4 p.spans) (hu : u.ok 1 p.marks) (st : St) : ∃ v, (E tab).F 10 [.agg (paraCs p w u)] st = some (v, st) ∧ MassV p v := by
  obtain ⟨v, fr, H, K, h1, h2⟩ := masses10raw p hp w u hw hu st
  obtain ⟨t9, n9, tk9, nn9, e9, g2, g3, g4⟩ := acc_ex (st' := pst st H K) h2
  obtain ⟨t8, n8, tk8, nn8, rfl⟩ := acc_len h2
  refine ⟨.tuple [.list t9 n9 tk9 nn9 ((massL p).map Mass.dv), .int .i64 (checkN p)], ?_, massV_of t9 n9 tk9 nn9 rfl g3 g2⟩
  rw [F_run at10 rfl, h1]
  simp at e9
  simp [f10, e9]

theorem pure34 : isPure tab 34 = true := by kernel_rfl

def CluIn (s : List UInt8) (l : List Clu) : Prop := ∀ c ∈ l, c.a < s.length
theorem cluIn_of {s : List UInt8} : ∀ {l : List Clu} {i : Nat}, CluOk s i l → CluIn s l
  | [], _, _ => fun c h => by cases h
  | c :: r, i, h => fun x hx => by
    rcases List.mem_cons.1 hx with rfl | hx
    · exact h.2.1
    · exact cluIn_of h.2.2 x hx

set_option maxHeartbeats 8000000 in
theorem L11_0 (p : Para) (w u : LW) (hw4 : w.ok 4 p.spans) (hu1 : u.ok 1 p.marks) (hpr : propsOk p.pr = true) (hSp : SpOk p.spans) (hsum : sumN p.spans ≤ 4096) (hml : ∀ m ∈ p.marks, m.length ≤ 4096) (hmc : p.marks.length ≤ 4096) (cs : List Clu) (hcs : cs.length ≤ 4096) (hci : CluIn p.text cs) (ct cn : Nat) (ctk : Tk) (cnn : Bool) (hcn : cs ≠ [] → cn = 3) (st : St) :
    ∀ (r d : List Clu) (J : List HO) (K : List Nat) (xs : List Mass) (kr : Bool) (bf : UInt8) (ps : Int) (md mk : List (List UInt8)) (v : DV),
    cs = d ++ r → Acc st K 6 (xs.map Mass.dv) v → xs.length = d.length → p.marks = md ++ mk → mk.length = refN r → (d = [] → kr = false) →
    (∀ q, d.length = q + 1 → ∃ c0 m, cs[q]? = some c0 ∧ xs[q]? = some m ∧ m.s = ps ∧ kr = krOf p c0 ∧ bf = bAt p.text c0.a) →
    ∃ v' H' K' fr, (E tab).C f11L0 [(1, .ptr st.heap.length 0), (5, .list ct cn ctk cnn (cs.map Clu.dv)), (7, v), (8, .int .i64 md.length), (9, .int .i64 d.length)] (pst st (.cells .plain (paraCs p w u) :: J) K) =
      some (.exit 0, (1, .ptr st.heap.length 0) :: (5, .list ct cn ctk cnn (cs.map Clu.dv)) :: (7, v') :: fr, pst st H' K') ∧ Acc st K' 6 ((xs ++ massGo p kr bf ps mk r).map Mass.dv) v' := by
  intro r
  induction r with
  | nil =>
    intro d J K xs kr bf ps md mk v hd hA _ _ _ _ _
    refine ⟨v, .cells .plain (paraCs p w u) :: J, K, [(8, .int .i64 md.length), (9, .int .i64 cs.length), (27, .bool false)], ?_, by simpa [massGo] using hA⟩
    rw [C_turn (L := f11L0) rfl]
    simp [f11B0, hd]
  | cons c r ih =>
    intro d J K xs kr bf ps md mk v hd hA hxl hmd hmk hk0 hpv
    obtain rfl : cn = 3 := hcn (by simp [hd])
    have hc : c ∈ cs := by simp [hd]
    have c2 := hci c hc
    have h0 : d.length < cs.length := by simp [hd]
    have hw : IntKind.i64.wrap ((d.length : Int) + 1) = ((d ++ [c]).length : Nat) := by rw [i64w (by omega)]; simp
    have hg : cs[d.length] = c := by simp [hd]
    have hsz := sizeOf_in p hpr hSp c.a
    have hb : p.text[c.a]? = some (bAt p.text c.a) := byteAt c2
    have h34 := fun st => size34 p w u hw4 hSp hsum c.a st
    have h35 := fun st => look35 p w u hw4 hSp hsum c.a st
    have h36 := fun st => vis36 c.k st
    have h37 := fun st => byteWidth_run (bAt p.text c.a) (sizeOf p c.a) st
    obtain ⟨v2, K2, e2, hA2⟩ := acc_app (H := .cells .plain (paraCs p w u) :: (J ++ [.cells .plain c.cs, .cells .plain (massOf p kr bf ps mk c).cs, .cells .plain (lookAt p.spans c.a).cs]))
      (t := st.cur) (by_ := 48) (ag := true) (tk := .tight) (ys := [(massOf p kr bf ps mk c).dv]) hA (by omega) (by simp) (by simp [el_mass]) (by simp [roomD]; omega) (by simp [roomD]; omega)
    obtain ⟨v3, H3, K3, fr, e3, hA3⟩ := ih (d ++ [c]) (J ++ [.cells .plain c.cs, .cells .plain (massOf p kr bf ps mk c).cs, .cells .plain (lookAt p.spans c.a).cs]) K2 (xs ++ [massOf p kr bf ps mk c]) (krOf p c) (bAt p.text c.a) (sizeOf p c.a) (if c.k = 7 then md ++ mk.take 1 else md) (mkOf mk c) v2
      (by simp [hd]) (by simpa using hA2) (by simp [hxl]) (by rw [hmd]; unfold mkOf; split <;> simp; cases mk <;> simp) (mkOf_len hmk).1 (by simp) (fun q hq => by
        simp at hq
        subst hq
        refine ⟨c, massOf p kr bf ps mk c, by simp [hd], by simp [← hxl], rfl, rfl, rfl⟩)
    refine ⟨v3, H3, K3, fr, ?_, by simpa [massGo] using hA3⟩
    obtain ⟨vt, vn, vtk, vnn, rfl⟩ := acc_len hA
    rw [C_turn (L := f11L0) rfl]
    by_cases k1 : shows c.k = true
    · have h7 : ¬ c.k = 7 := by intro h; rw [h] at k1; cases k1
      have hW : massW p mk c = IntKind.i64.wrap (wd (bAt p.text c.a) (sizeOf p c.a) + (lookAt p.spans c.a).t) := by simp [massW, k1]
      by_cases hd0 : d = []
      · subst hd0
        obtain rfl := hk0 rfl
        have hE : massE p false bf ps c = 0 := by simp [massE]
        simp at h0 hg hw
        simp [Mass.dv, Mass.cs, massOf, Clu.cs, Clu.dv, Look.cs, k1, h7, hW, hE] at e2 e3 ⊢
        simp [f11B0, C_dregionN, S_cons, A_cons, K_cons, loudD, pure34, Mass.dv, Mass.cs, massOf, Clu.cs, Clu.dv, Look.cs, h0, hg, hw, hb, h34, h35, h36, h37, op_lit, repl, chunk, e2, e3, k1, h7, hW, hE]
      · skip
        obtain ⟨q, hq⟩ : ∃ q, d.length = q + 1 := ⟨d.length - 1, by have := List.length_pos_iff.2 hd0; omega⟩
        obtain ⟨c0, m0, g1, g2, rfl, rfl, rfl⟩ := hpv q hq
        have q1 : q < cs.length := by omega
        have q2 : cs[q] = c0 := by rw [List.getElem?_eq_getElem q1] at g1; exact Option.some.inj g1
        have q3 : q < xs.length := by omega
        have q4 : xs[q] = m0 := by rw [List.getElem?_eq_getElem q3] at g2; exact Option.some.inj g2
        have q5 : IntKind.i64.wrap ((d.length : Int) - 1) = (q : Int) := by rw [i64w (by omega)]; omega
        have q6 : 0 < d.length := by omega
        obtain ⟨rfl, rfl⟩ : vn = 6 ∧ vnn = true := by
          rcases hA with ⟨h, _⟩ | ⟨k, z, h, _⟩
          · rw [List.map_eq_nil_iff] at h; rw [h] at q3; simp at q3
          · injection h with _ h2 _ h4; exact ⟨h2, h4⟩
        have h36b := fun st => vis36 c0.k st
        have h35b := fun st => look35 p w u hw4 hSp hsum c0.a st
        have h39 := fun st => Pair_run (bAt p.text c0.a) (bAt p.text c.a) (sizeOf p c.a) ⟨hsz.1, hsz.2.1⟩ st
        have hb0 : p.text[c0.a]? = some (bAt p.text c0.a) := byteAt (hci c0 (by rw [← q2]; exact List.getElem_mem q1))
        cases k2 : shows c0.k with
        | false =>
          have hE : massE p (krOf p c0) (bAt p.text c0.a) m0.s c = 0 := by simp [massE, krOf, k2]
          simp [Mass.dv, Mass.cs, massOf, Clu.cs, Clu.dv, Look.cs, k1, h7, hW, q1, q2, q3, q4, q5, q6, h36b, k2, hE] at e2 e3 ⊢
          simp [f11B0, C_dregionN, S_cons, A_cons, K_cons, loudD, pure34, Mass.dv, Mass.cs, massOf, Clu.cs, Clu.dv, Look.cs, h0, hg, hw, hb, h34, h35, h36, h37, op_lit, repl, chunk, e2, e3, k1, h7, hW, q1, q2, q3, q4, q5, q6, h36b, k2, hE]
        | true =>
          by_cases k3 : (lookAt p.spans c.a).e = 1
          · by_cases k4 : (lookAt p.spans c0.a).e = 1
            · have hk0' : krOf p c0 = true := by simp [krOf, k2, k4]
              by_cases k5 : m0.s = sizeOf p c.a
              · have hE : massE p (krOf p c0) (bAt p.text c0.a) m0.s c = nearV (bAt p.text c0.a) (bAt p.text c.a) (sizeOf p c.a) := by simp [massE, k1, k3, k5, hk0']
                simp only [massOf, hE] at e2 e3
                simp [Mass.dv, Mass.cs, massOf, Clu.cs, Clu.dv, Look.cs, k1, h7, hW, q1, q2, q3, q4, q5, q6, h36b, k2, k3, k4, k5, h35b, h39, hb0] at e2 e3 ⊢
                simp [f11B0, C_dregionN, S_cons, A_cons, K_cons, loudD, pure34, Mass.dv, Mass.cs, massOf, Clu.cs, Clu.dv, Look.cs, h0, hg, hw, hb, h34, h35, h36, h37, op_lit, repl, chunk, e2, e3, k1, h7, hW, q1, q2, q3, q4, q5, q6, h36b, k2, k3, k4, k5, h35b, h39, hb0]
              · have hE : massE p (krOf p c0) (bAt p.text c0.a) m0.s c = 0 := by simp [massE, k5]
                simp [Mass.dv, Mass.cs, massOf, Clu.cs, Clu.dv, Look.cs, k1, h7, hW, q1, q2, q3, q4, q5, q6, h36b, k2, k3, k4, k5, h35b, hE] at e2 e3 ⊢
                simp [f11B0, C_dregionN, S_cons, A_cons, K_cons, loudD, pure34, Mass.dv, Mass.cs, massOf, Clu.cs, Clu.dv, Look.cs, h0, hg, hw, hb, h34, h35, h36, h37, op_lit, repl, chunk, e2, e3, k1, h7, hW, q1, q2, q3, q4, q5, q6, h36b, k2, k3, k4, k5, h35b, hE]
            · have hk0' : krOf p c0 = false := by simp [krOf, k4]
              have hE : massE p (krOf p c0) (bAt p.text c0.a) m0.s c = 0 := by simp [massE, hk0']
              simp [Mass.dv, Mass.cs, massOf, Clu.cs, Clu.dv, Look.cs, k1, h7, hW, q1, q2, q3, q4, q5, q6, h36b, k2, k3, k4, h35b, hE] at e2 e3 ⊢
              simp [f11B0, C_dregionN, S_cons, A_cons, K_cons, loudD, pure34, Mass.dv, Mass.cs, massOf, Clu.cs, Clu.dv, Look.cs, h0, hg, hw, hb, h34, h35, h36, h37, op_lit, repl, chunk, e2, e3, k1, h7, hW, q1, q2, q3, q4, q5, q6, h36b, k2, k3, k4, h35b, hE]
          · have hE : massE p (krOf p c0) (bAt p.text c0.a) m0.s c = 0 := by simp [massE, k3]
            simp [Mass.dv, Mass.cs, massOf, Clu.cs, Clu.dv, Look.cs, k1, h7, hW, q1, q2, q3, q4, q5, q6, h36b, k2, k3, hE] at e2 e3 ⊢
            simp [f11B0, C_dregionN, S_cons, A_cons, K_cons, loudD, pure34, Mass.dv, Mass.cs, massOf, Clu.cs, Clu.dv, Look.cs, h0, hg, hw, hb, h34, h35, h36, h37, op_lit, repl, chunk, e2, e3, k1, h7, hW, q1, q2, q3, q4, q5, q6, h36b, k2, k3, hE]
    · have k1 : shows c.k = false := by simpa using k1
      by_cases k3 : c.k = 3
      · have hW : massW p mk c = IntKind.i64.wrap (wd (bAt p.text c.a) (sizeOf p c.a) + (lookAt p.spans c.a).t) := by simp [massW, k3]
        have h36 := fun st => vis36 3 st
        have hE : massE p kr bf ps c = 0 := by simp [massE, k1]
        have hk : krOf p c = false := by simp [krOf, k1]
        by_cases hd0 : d = []
        · subst hd0
          simp at h0 hg hw
          simp [Mass.dv, Mass.cs, massOf, Clu.cs, Clu.dv, Look.cs, k3, hW, show shows 3 = false from rfl, k1, hE, hk] at e2 e3 ⊢
          simp [f11B0, C_dregionN, S_cons, A_cons, K_cons, loudD, pure34, Mass.dv, Mass.cs, massOf, Clu.cs, Clu.dv, Look.cs, h0, hg, hw, hb, h34, h35, h36, h37, op_lit, repl, chunk, e2, e3, k3, hW, show shows 3 = false from rfl, k1, hE, hk]
        · have q6 : 0 < d.length := List.length_pos_iff.2 hd0
          simp [Mass.dv, Mass.cs, massOf, Clu.cs, Clu.dv, Look.cs, k3, hW, show shows 3 = false from rfl, k1, hE, hk, q6] at e2 e3 ⊢
          simp [f11B0, C_dregionN, S_cons, A_cons, K_cons, loudD, pure34, Mass.dv, Mass.cs, massOf, Clu.cs, Clu.dv, Look.cs, h0, hg, hw, hb, h34, h35, h36, h37, op_lit, repl, chunk, e2, e3, k3, hW, show shows 3 = false from rfl, k1, hE, hk, q6]
      by_cases k7 : c.k = 7
      · have hne := (mkOf_len hmk).2 k7
        match mk, hne with
        | m :: ms, _ =>
          have hW : massW p (m :: ms) c = tw (sizeOf p c.a) 0 m := by simp [massW, k1, k7, show shows 7 = false from rfl]
          have hmm : m ∈ p.marks := by rw [hmd]; simp
          have h38 := fun st => textWidth_run m (hml m hmm) (sizeOf p c.a) st
          have p1 : md.length < p.marks.length := by rw [hmd]; simp
          have p2 : p.marks[md.length] = m := by simp [hmd]
          have p3 : IntKind.i64.wrap ((md.length : Int) + 1) = (md.length : Int) + 1 := i64w (by omega)
          have hu1' := hu1.n (fun h => by rw [h] at hmm; cases hmm)
          have h36 := fun st => vis36 7 st
          have hE : massE p kr bf ps c = 0 := by simp [massE, k1]
          have hk : krOf p c = false := by simp [krOf, k1]
          by_cases hd0 : d = []
          · subst hd0
            simp at h0 hg hw
            simp [Mass.dv, Mass.cs, massOf, Clu.cs, Clu.dv, Look.cs, k7, hW, h38, p1, p2, p3, hu1', show shows 7 = false from rfl, k1, hE, hk] at e2 e3 ⊢
            simp [f11B0, C_dregionN, S_cons, A_cons, K_cons, loudD, pure34, Mass.dv, Mass.cs, massOf, Clu.cs, Clu.dv, Look.cs, h0, hg, hw, hb, h34, h35, h36, h37, op_lit, repl, chunk, e2, e3, k7, hW, h38, p1, p2, p3, hu1', show shows 7 = false from rfl, k1, hE, hk]
          · have q6 : 0 < d.length := List.length_pos_iff.2 hd0
            simp [Mass.dv, Mass.cs, massOf, Clu.cs, Clu.dv, Look.cs, k7, hW, h38, p1, p2, p3, hu1', show shows 7 = false from rfl, k1, hE, hk, q6] at e2 e3 ⊢
            simp [f11B0, C_dregionN, S_cons, A_cons, K_cons, loudD, pure34, Mass.dv, Mass.cs, massOf, Clu.cs, Clu.dv, Look.cs, h0, hg, hw, hb, h34, h35, h36, h37, op_lit, repl, chunk, e2, e3, k7, hW, h38, p1, p2, p3, hu1', show shows 7 = false from rfl, k1, hE, hk, q6]
      · have hW : massW p mk c = 0 := by simp [massW, k1, k3, k7]
        have hE : massE p kr bf ps c = 0 := by simp [massE, k1]
        have hk : krOf p c = false := by simp [krOf, k1]
        by_cases hd0 : d = []
        · subst hd0
          simp at h0 hg hw
          simp [Mass.dv, Mass.cs, massOf, Clu.cs, Clu.dv, Look.cs, k3, k7, hW, k1, hE, hk] at e2 e3 ⊢
          simp [f11B0, C_dregionN, S_cons, A_cons, K_cons, loudD, pure34, Mass.dv, Mass.cs, massOf, Clu.cs, Clu.dv, Look.cs, h0, hg, hw, hb, h34, h35, h36, h37, op_lit, repl, chunk, e2, e3, k3, k7, hW, k1, hE, hk]
        · have q6 : 0 < d.length := List.length_pos_iff.2 hd0
          simp [Mass.dv, Mass.cs, massOf, Clu.cs, Clu.dv, Look.cs, k3, k7, hW, k1, hE, hk, q6] at e2 e3 ⊢
          simp [f11B0, C_dregionN, S_cons, A_cons, K_cons, loudD, pure34, Mass.dv, Mass.cs, massOf, Clu.cs, Clu.dv, Look.cs, h0, hg, hw, hb, h34, h35, h36, h37, op_lit, repl, chunk, e2, e3, k3, k7, hW, k1, hE, hk, q6]

theorem masses11 (p : Para) (hp : p.small) (w u : LW) (hw : w.ok 4 p.spans) (hu : u.ok 1 p.marks) (st : St) : ∃ v, (E tab).F 11 [.agg (paraCs p w u)] st = some (v, st) ∧ MassV p v := by
  rw [F_run at11 rfl]
  have h14 := fun st => check14 p hp w u hw hu st
  by_cases hc : checkN p = 0
  · obtain ⟨h1, h2, h3, h4, h5, h6, h7⟩ := checkN_zero hc
    obtain ⟨hlen, _⟩ := wrongN_zero h1
    obtain ⟨hS, hsum⟩ := spansL_ok p.spans p.text.length 0 (by simpa [spansOk] using h3)
    obtain ⟨v33, e33, t, n', tk, nn, rfl, hn1, hn2⟩ := split33 p.text (pst st [.cells .plain (paraCs p w u)] [])
    simp only [h1, if_true] at e33 hn2
    have hcs := clusF_ok p.text p.text.length 0
    have hcnt : p.text.count 2 ≤ p.text.length := List.count_le_length
    obtain ⟨v', H', K', fr, e11, hA⟩ := L11_0 p w u hw hu h4 hS (by omega) (fun m hm => by have := h7 m hm; simp [markOk, shownOk] at this; omega) (by omega) (clus p.text) (by have := hcs.2; unfold clus; omega) (cluIn_of hcs.1) t n' tk nn (fun h => hn1 (by cases nn with | true => rfl | false => exact absurd (hn2 rfl) h)) st
      (clus p.text) [] [] [] [] false 0 0 [] p.marks nilList rfl (acc_nil _ _ _ _ _ _) rfl rfl (by rw [h6, show refN (clus p.text) = _ from refN_clusF p.text p.text.length 0 (by omega)]; simp) (fun _ => rfl) (fun q hq => by simp at hq)
    obtain ⟨t9, n9, tk9, nn9, e9, g2, g3, g4⟩ := acc_ex (st' := pst st H' K') hA
    obtain ⟨t8, n8, tk8, nn8, rfl⟩ := acc_len hA
    have hml : massL p = massGo p false 0 0 p.marks (clus p.text) := by simp [massL, hc, masses]
    refine ⟨.tuple [.list t9 n9 tk9 nn9 ((massL p).map Mass.dv), .int .i64 0], ?_, massV_of t9 n9 tk9 nn9 (by rw [hc]) g3 (by rw [hml]; simpa using g2)⟩
    rw [hml]
    simp at e11 e9
    simp [f11, h14, hc, e33, e11, e9]
  · have hml : massL p = [] := by simp [massL, hc]
    refine ⟨.tuple [.list 0 0 .no false [], .int .i64 (checkN p)], ?_, massV_of 0 0 .no false (by simp [hml]) (by simp) (by simp [hml])⟩
    simp [f11, h14, hc]

/-! What a paragraph's cells stand for -/
def shMass : List Sh := [.int .i64, .int .i64, .int .i64, .int .i64, .int .i64, .int .i64]
theorem fit_mass {vs : List DV} (h : FitFs shMass vs) : ∃ m : Mass, vs = m.cs := by
  obtain ⟨_, _, rfl, ⟨a, rfl, _⟩, _, _, rfl, ⟨b, rfl, _⟩, _, _, rfl, ⟨c, rfl, _⟩, _, _, rfl, ⟨d, rfl, _⟩, _, _, rfl, ⟨e, rfl, _⟩, _, _, rfl, ⟨f, rfl, _⟩, rfl⟩ := h
  exact ⟨⟨a, b, c, d, e, f⟩, rfl⟩
theorem list_of {α : Type} {f : α → DV} : ∀ {xs : List DV}, (∀ x ∈ xs, ∃ a, x = f a) → ∃ l : List α, xs = l.map f
  | [], _ => ⟨[], rfl⟩
  | x :: r, h => by
    obtain ⟨a, rfl⟩ := h x (List.mem_cons_self ..)
    obtain ⟨l, rfl⟩ := list_of fun y hy => h y (List.mem_cons_of_mem _ hy)
    exact ⟨a :: l, rfl⟩
theorem list_of2 {α : Type} {f : α → DV} {P : α → Prop} : ∀ {xs : List DV}, (∀ x ∈ xs, ∃ a, x = f a ∧ P a) → ∃ l : List α, xs = l.map f ∧ ∀ a ∈ l, P a
  | [], _ => ⟨[], rfl, fun a h => by cases h⟩
  | x :: r, h => by
    obtain ⟨a, rfl, ha⟩ := h x (List.mem_cons_self ..)
    obtain ⟨l, rfl, hl⟩ := list_of2 fun y hy => h y (List.mem_cons_of_mem _ hy)
    refine ⟨a :: l, rfl, fun b hb => ?_⟩
    rcases List.mem_cons.1 hb with rfl | hb
    · exact ha
    · exact hl b hb

def shSpan : List Sh := [.int .i64, .int .i64, .int .i64, .int .i64]
theorem fit_span {vs : List DV} (h : FitFs shSpan vs) : ∃ s : Span, vs = s.cs := by
  obtain ⟨_, _, rfl, ⟨a, rfl, _⟩, _, _, rfl, ⟨b, rfl, _⟩, _, _, rfl, ⟨c, rfl, _⟩, _, _, rfl, ⟨d, rfl, _⟩, rfl⟩ := h
  exact ⟨⟨a, ⟨b, c, d⟩⟩, rfl⟩

def shPara : List Sh := [.str, .list true 32 shSpan, .int .i64, .int .i64, .int .i64, .int .i64, .int .i64, .int .i64, .int .i64, .int .i64, .int .i64, .int .i64, .int .i64, .int .i64, .int .i64, .int .i64, .int .i64, .int .i64, .int .i64, .str, .list false 16 [.str]]
theorem fit_para {vs : List DV} (h : Fits shPara vs) : ∃ (p : Para) (w u : LW), vs = paraCs p w u ∧ p.small ∧ w.ok 4 p.spans ∧ u.ok 1 p.marks := by
  obtain ⟨_, _, rfl, ⟨text, rfl, ht⟩, _, _, rfl, ⟨nn, xs, rfl, hnn, _, hlen, hxs⟩, _, _, rfl, ⟨size, rfl, _⟩, _, _, rfl, ⟨pitch, rfl, _⟩, _, _, rfl, ⟨align, rfl, _⟩, _, _, rfl, ⟨first, rfl, _⟩, _, _, rfl, ⟨inn, rfl, _⟩, _, _, rfl, ⟨out, rfl, _⟩, _, _, rfl, ⟨before, rfl, _⟩, _, _, rfl, ⟨after, rfl, _⟩, _, _, rfl, ⟨next, rfl, _⟩, _, _, rfl, ⟨whole, rfl, _⟩, _, _, rfl, ⟨orphan, rfl, _⟩, _, _, rfl, ⟨widow, rfl, _⟩, _, _, rfl, ⟨hyphen, rfl, _⟩, _, _, rfl, ⟨least, rfl, _⟩, _, _, rfl, ⟨drop, rfl, _⟩, _, _, rfl, ⟨list, rfl, _⟩, _, _, rfl, ⟨level, rfl, _⟩, _, _, rfl, ⟨label, rfl, hl⟩, _, _, rfl, ⟨mm, ys, rfl, hmm, _, hmlen, hys⟩, rfl⟩ := h
  obtain ⟨l, rfl⟩ : ∃ l : List Span, xs = l.map Span.dv := list_of fun x hx => by
    obtain ⟨vs, h1, rfl⟩ := hxs x hx
    obtain ⟨m, rfl⟩ := fit_span h1
    exact ⟨m, rfl⟩
  obtain ⟨ms, rfl, hms⟩ : ∃ l : List (List UInt8), ys = l.map .str ∧ ∀ m ∈ l, m.length ≤ reachBytes := list_of2 fun x hx => by
    obtain ⟨vs, h1, rfl⟩ := hys x hx
    obtain ⟨_, _, rfl, ⟨m, rfl, hm⟩, rfl⟩ := h1
    exact ⟨m, rfl, hm⟩
  refine ⟨⟨text, l, ⟨size, pitch, align, first, inn, out, before, after, next, whole, orphan, widow, hyphen, least, drop, list, level⟩, label, ms⟩, ⟨0, 4, .no, nn⟩, ⟨0, 1, .no, mm⟩, rfl, ⟨?_, ?_, ?_⟩, ⟨fun _ => rfl, fun e => by simpa using hnn e⟩, ⟨fun _ => rfl, fun e => by simpa using hmm e⟩⟩
  · show label.length ≤ _
    unfold reachBytes at hl; omega
  · show ms.length ≤ _
    unfold reachBytes at hmlen; simp at hmlen; omega
  · intro m hm
    have := hms m hm
    unfold reachBytes at this; omega

/-! What masses are -/
theorem em8 : (emL.all fun e => decide (e ≤ 8)) = true := by decide +kernel
theorem em_le (c : Nat) : 0 ≤ em c ∧ em c ≤ 8 := by
  unfold em
  have : emL.getD c 0 ≤ 8 := by
    rw [List.getD_eq_getElem?_getD]
    cases h : emL[c]? with
    | none => simp
    | some e =>
      have := List.all_eq_true.1 em8 e (List.mem_of_getElem? h)
      simpa using this
  constructor
  · exact Int.natCast_nonneg _
  · show ((emL.getD c 0 : Nat) : Int) ≤ 8
    omega

theorem wd_le (c : UInt8) {n : Int} (h1 : 1 ≤ n) (h2 : n ≤ 64) : 0 ≤ wd c n ∧ wd c n ≤ 64 ∧ wd c n = em c.toNat * n / 8 := by
  have he := em_le c.toNat
  have h3 : em c.toNat * n ≤ 8 * 64 := Int.mul_le_mul he.2 h2 (by omega) (by omega)
  have h4 : 0 ≤ em c.toNat * n := Int.mul_nonneg he.1 (by omega)
  unfold wd
  rw [i64w (n := em c.toNat * n) (by omega), IntWalk.i64_quo _ _ (by omega)]
  omega

theorem tw_le {n : Int} (h1 : 1 ≤ n) (h2 : n ≤ 64) : ∀ (s : List UInt8) (a : Int), 0 ≤ a → a + 64 * s.length ≤ 1000000 → a ≤ tw n a s ∧ tw n a s ≤ a + 64 * s.length
  | [], a, _, _ => by simp [tw]
  | c :: r, a, h3, h4 => by
    have hw := wd_le c h1 h2
    simp only [List.length_cons] at h4
    have e : IntKind.i64.wrap (a + wd c n) = a + wd c n := i64w (by omega)
    have := tw_le h1 h2 r (a + wd c n) (by omega) (by omega)
    rw [tw, e]
    simp only [List.length_cons]
    omega

theorem near_le (a b : UInt8) {n : Int} (h1 : 1 ≤ n) (h2 : n ≤ 64) : -8 ≤ nearV a b n ∧ nearV a b n ≤ 0 := by
  unfold nearV
  split
  · omega
  · split <;> omega

theorem massOf_ok (p : Para) (hpr : propsOk p.pr = true) (hSp : SpOk p.spans) (kr : Bool) (bf : UInt8) (ps : Int) (mk : List (List UInt8)) (hm : ∀ m ∈ mk, m.length ≤ 8) (c : Clu) : okM (massOf p kr bf ps mk c) = true := by
  have hs := sizeOf_in p hpr hSp c.a
  have h1 : 0 ≤ massW p mk c ∧ massW p mk c ≤ 4095 := by
    unfold massW
    split
    · have := wd_le (bAt p.text c.a) hs.1 hs.2.1
      rw [i64w (by omega)]
      omega
    · split
      · have h8 : (mk.headD []).length ≤ 8 := by
          cases mk with
          | nil => simp
          | cons m r => exact hm m (List.mem_cons_self ..)
        have := tw_le hs.1 hs.2.1 (mk.headD []) 0 (by omega) (by omega)
        omega
      · omega
  have h2 : -64 ≤ massE p kr bf ps c ∧ massE p kr bf ps c ≤ 0 := by
    unfold massE
    split
    · have := near_le bf (bAt p.text c.a) hs.1 hs.2.1
      omega
    · omega
  simp [okM, massOf, h1, h2]

theorem massGo_ok (p : Para) (hpr : propsOk p.pr = true) (hSp : SpOk p.spans) : ∀ (l : List Clu) (kr : Bool) (bf : UInt8) (ps : Int) (mk : List (List UInt8)), (∀ m ∈ mk, m.length ≤ 8) → (massGo p kr bf ps mk l).all okM = true
  | [], _, _, _, _, _ => rfl
  | c :: r, kr, bf, ps, mk, hm => by
    simp only [massGo, List.all_cons, Bool.and_eq_true]
    exact ⟨massOf_ok p hpr hSp kr bf ps mk hm c, massGo_ok p hpr hSp r _ _ _ _ fun m h => hm m (mkOf_sub h)⟩

theorem massL_ok (p : Para) : (massL p).all okM = true := by
  unfold massL
  split
  · rename_i hc
    obtain ⟨h1, h2, h3, h4, h5, h6, h7⟩ := checkN_zero hc
    obtain ⟨hS, hsum⟩ := spansL_ok p.spans p.text.length 0 (by simpa [spansOk] using h3)
    refine massGo_ok p h4 hS _ _ _ _ _ fun m hm => ?_
    have := h7 m hm
    simp [markOk, shownOk] at this
    omega
  · rfl

theorem massGo_clu (p : Para) : ∀ (l : List Clu) (kr : Bool) (bf : UInt8) (ps : Int) (mk : List (List UInt8)), (massGo p kr bf ps mk l).map (fun m => (m.a, m.b, m.k)) = l.map fun c => ((c.a : Int), (c.b : Int), c.k)
  | [], _, _, _, _ => rfl
  | c :: r, kr, bf, ps, mk => by
    simp only [massGo, List.map_cons, massGo_clu p r]
    rfl

theorem massL_len (p : Para) : (massL p).length ≤ 4096 := by
  unfold massL
  split
  · rename_i hc
    have h1 := congrArg List.length (massGo_clu p (clus p.text) false 0 0 p.marks)
    simp at h1
    have h2 := (clusF_ok p.text p.text.length 0).2
    obtain ⟨h3, _⟩ := checkN_zero hc
    have := (wrongN_zero h3).1
    unfold masses
    rw [h1]
    unfold clus
    omega
  · simp

/-! Widths add up -/
theorem runGo_add : ∀ (l : List Mass) (o : Bool) (n k : Int), runGo o (n + k) l = n + runGo o k l
  | [], o, n, k => rfl
  | m :: r, o, n, k => by
    cases o <;> simp only [runGo, if_true, Bool.false_eq_true, if_false]
    · rw [← runGo_add r false n]; congr 1; omega
    · rw [← runGo_add r false n]; congr 1; omega

theorem runGo_app : ∀ (l r : List Mass) (o : Bool) (n : Int), runGo o n (l ++ r) = runGo (o && l.isEmpty) (runGo o n l) r
  | [], r, o, n => by simp [runGo]
  | m :: l, r, o, n => by
    simp only [List.cons_append, runGo]
    rw [runGo_app l r]
    simp

/-- How much nearer two runs stand. -/
def meet : List Mass → List Mass → Int
  | _ :: _, m :: _ => m.e
  | _, _ => 0

theorem runGo_two (s t : List Mass) : runGo true 0 (s ++ t) = runGo true 0 s + runGo true 0 t + meet s t := by
  rw [runGo_app]
  cases s with
  | nil => simp [runGo, meet]
  | cons a s =>
    cases t with
    | nil => simp [runGo, meet]
    | cons m t =>
      have h := runGo_add t false
      simp only [List.isEmpty_cons, Bool.and_false, runGo, meet, Bool.false_eq_true, if_false, if_true]
      rw [show runGo false (0 + a.w) s + m.w + m.e = (runGo false (0 + a.w) s + m.e) + (0 + m.w) by omega, h]
      omega

theorem natV_in {L : List Mass} (hL : L.length ≤ 4096) (hok : L.all okM = true) (x y : Nat) (hx : x ≤ y) (hy : y ≤ L.length) : natV L x y = .tuple [.int .i64 (runGo true 0 ((L.drop x).take (y - x))), .int .i64 0] := by
  unfold natV
  rw [if_neg (by omega), if_neg (by rw [hok]; simp), if_pos (by omega)]
  simp

theorem at458 : tab 458 = some (.code f458) := by kernel_rfl
theorem at470 : tab 470 = some (.code f470) := by kernel_rfl

def cellPr : Props := ⟨8, 10, 0, 0, 0, 0, 0, 0, 0, 0, 1, 1, 0, 0, 0, 0, 0⟩
/-- A cell's paragraph. -/
def cellP (s : List UInt8) : Para := ⟨s, if s = [] then [] else [⟨s.length, ⟨0, 0, 0⟩⟩], cellPr, [], []⟩
def cellW (st : St) (s : List UInt8) : LW := if s = [] then ⟨0, 0, .no, false⟩ else ⟨st.cur, 4, .tight, true⟩
theorem cellW_ok (st : St) (s : List UInt8) : (cellW st s).ok 4 (cellP s).spans := by
  unfold cellW cellP
  by_cases h : s = [] <;> simp [h, LW.ok]
theorem cell458 (s : List UInt8) (st : St) : (E tab).F 458 [.str s] st = some (.agg (paraCs (cellP s) (cellW st s) ⟨0, 0, .no, false⟩), st) := by
  rw [F_run at458 rfl]
  by_cases h : s = []
  · subst h
    simp [f458, paraCs, cellP, cellW, cellPr, Props.cs, LW.dv]
  · have h2 : s.isEmpty = false := by simpa using h
    simp [f458, h, h2, paraCs, cellP, cellW, cellPr, Props.cs, LW.dv, Span.dv, Span.cs, op_lit, repl, chunk]

/-- The greatest of the parts between blanks: what is left, where it begins, where the part began, the greatest so far. -/
def lst (L : List Mass) : List Mass → Nat → Nat → Int → Int
  | [], k, fr, a => max a (runGo true 0 ((L.drop fr).take (k - fr)))
  | m :: r, k, fr, a => if m.k = 3 then lst L r (k + 1) (k + 1) (max a (runGo true 0 ((L.drop fr).take (k - fr)))) else lst L r (k + 1) fr a

theorem gmax (k : IntKind) (x y : Int) : foldD max2D [.int k x, .int k y] = some (.int k (max x y)) := by
  have : (if y > x then y else x) = max x y := by split <;> omega
  simp [foldD, max2D, this]

theorem L470_0 (L : List Mass) (hL : L.length ≤ 4096) (hok : L.all okM = true) (w : LW) (hw : w.ok 6 L) (y : DV) (st : St) : ∀ (r d : List Mass) (fr : Nat) (a : Int) (K : List Nat), L = d ++ r → fr ≤ d.length →
    ∃ fr', (E tab).C f470L0 [(4, .list w.t w.n w.tk w.nn (L.map Mass.dv)), (6, y), (8, .int .i64 a), (9, .int .i64 fr), (10, .int .i64 d.length)] (pst st [] K) =
      some (.exit 0, [(4, .list w.t w.n w.tk w.nn (L.map Mass.dv)), (6, y), (8, .int .i64 (lst L r d.length fr a))] ++ fr', pst st [] K) := by
  intro r
  induction r with
  | nil =>
    intro d fr a K hd hfr
    have hn := fun st => natural23 L fr d.length w.t w.n w.tk w.nn hw.n hw.1 st
    have hv := natV_in hL hok fr d.length hfr (by simp [hd])
    rw [hv] at hn
    have hk : d.length = L.length := by simp [hd]
    have hm := gmax .i64 a (runGo true 0 ((L.drop fr).take (d.length - fr)))
    have w1 : IntKind.i64.wrap ((d.length : Int) + 1) = d.length + 1 := i64w (by omega)
    rw [hk] at hn hm w1 ⊢
    have hlt : ¬ (L.length : Int) + 1 ≤ L.length := by omega
    have hlt2 : ¬ L.length + 1 ≤ L.length := by omega
    rw [C_turn (L := f470L0) rfl]
    simp [f470B0, hn, hm, w1]
    rw [C_turn (L := f470L0) rfl]
    simp [f470B0, lst, hlt, hlt2]
  | cons m r ih =>
    intro d fr a K hd hfr
    have h6 := hw.n (by simp [hd])
    have hlt : d.length < L.length := by simp [hd]
    have hg : L[d.length] = m := by simp [hd]
    have w1 : IntKind.i64.wrap ((d.length : Int) + 1) = ((d ++ [m]).length : Nat) := by rw [i64w (by omega)]; simp
    by_cases hk : m.k = 3
    · have hn := fun st => natural23 L fr d.length w.t w.n w.tk w.nn hw.n hw.1 st
      have hv := natV_in hL hok fr d.length hfr (by omega)
      rw [hv] at hn
      have hm := gmax .i64 a (runGo true 0 ((L.drop fr).take (d.length - fr)))
      obtain ⟨fr', hJ⟩ := ih (d ++ [m]) (d ++ [m]).length (max a (runGo true 0 ((L.drop fr).take (d.length - fr)))) K (by simp [hd]) (Nat.le_refl _)
      refine ⟨fr', ?_⟩
      rw [C_turn (L := f470L0) rfl]
      have hle : d.length ≤ L.length := Nat.le_of_lt hlt
      rw [h6] at hn hJ ⊢
      simp only [List.length_append, List.length_singleton] at hJ w1
      simp [Mass.dv, Mass.cs] at hn hJ
      simp [f470B0, hlt, hle, hg, Mass.dv, Mass.cs, hk, lst, hn, hm, w1, hJ]
    · obtain ⟨fr', hJ⟩ := ih (d ++ [m]) fr a K (by simp [hd]) (by simp; omega)
      refine ⟨fr', ?_⟩
      have hle : d.length ≤ L.length := Nat.le_of_lt hlt
      rw [C_turn (L := f470L0) rfl]
      rw [h6] at hJ ⊢
      simp only [List.length_append, List.length_singleton] at hJ w1
      simp [Mass.dv, Mass.cs] at hJ
      simp [f470B0, hlt, hle, hg, Mass.dv, Mass.cs, hk, lst, w1, hJ]

theorem cell_small (s : List UInt8) : (cellP s).small := ⟨by simp [cellP], by simp [cellP], by simp [cellP]⟩
def cellM (s : List UInt8) : List Mass := massL (cellP s)

theorem widths470 (s : List UInt8) (st : St) : (E tab).F 470 [.str s] st = some (.tuple [.int .i64 (lst (cellM s) (cellM s) 0 0 0), .int .i64 (runGo true 0 (cellM s))], st) := by
  rw [F_run at470 rfl]
  have hc := cell458 s (pst st [] [])
  obtain ⟨v, h10, w, rfl, hw⟩ := masses10 (cellP s) (cell_small s) (cellW (pst st [] []) s) ⟨0, 0, .no, false⟩ (cellW_ok _ _) ⟨by simp, by simp [cellP]⟩ (pst st [] [])
  have hL := massL_len (cellP s)
  have hok := massL_ok (cellP s)
  have hn := fun st => natural23 (massL (cellP s)) (0 : Nat) (massL (cellP s)).length w.t w.n w.tk w.nn hw.n hw.1 st
  rw [natV_in hL hok 0 _ (Nat.zero_le _) (Nat.le_refl _)] at hn
  obtain ⟨fr', hJ⟩ := L470_0 (massL (cellP s)) hL hok w hw (.int .i64 (runGo true 0 (massL (cellP s)))) st (massL (cellP s)) [] 0 0 [] rfl (Nat.le_refl _)
  unfold cellM
  generalize massL (cellP s) = L at *
  simp at hn hJ
  simp [f470, hc, h10, hn, hJ]

@[simp] theorem nat_not_neg (n : Nat) : ¬ ((n : Int) < 0) := by omega
/-! Rows among many -/
theorem rowAt_lt {H : List HO} {k : Nat} {x : CK × List DV} (h : rowAt H k = some x) : k < H.length := by
  unfold rowAt at h
  split at h
  · rename_i e; exact (List.getElem?_eq_some_iff.1 e).1
  · cases h
theorem rowAt_left {H X : List HO} {k : Nat} (h : k < H.length) : rowAt (H ++ X) k = rowAt H k := by
  unfold rowAt
  rw [List.getElem?_append_left h]
theorem rowAt_set {H : List HO} {k : Nat} (h : k < H.length) (g : CK) (vs : List DV) : rowAt (H.set k (.cells g vs)) k = some (g, vs) := by
  unfold rowAt
  rw [List.getElem?_set_self h]
theorem set_left {H X : List HO} {k : Nat} (h : k < H.length) (o : HO) : (H ++ X).set k o = H.set k o ++ X := List.set_append_left _ _ h
theorem row_at {H : List HO} {k : Nat} {g : CK} {vs : List DV} (h : rowAt H k = some (g, vs)) (X : List HO) : rowAt (H ++ X) k = some (g, vs) := by
  rw [rowAt_left (rowAt_lt h), h]

theorem rowAt_setl {H : List HO} {k : Nat} (h : k < H.length) (g : CK) (vs : List DV) (X : List HO) : rowAt (H.set k (.cells g vs) ++ X) k = some (g, vs) := by
  rw [rowAt_left (by simpa using h), rowAt_set h]
theorem set_setl {H : List HO} {k : Nat} (h : k < H.length) (o o' : HO) (X : List HO) : (H.set k o ++ X).set k o' = H.set k o' ++ X := by
  rw [set_left (by simpa using h), List.set_set]
theorem rowAt_right {H X : List HO} (j : Nat) : rowAt (H ++ X) (H.length + j) = rowAt X j := by
  unfold rowAt
  rw [app_at]
theorem set_right {H X : List HO} (j : Nat) (x : HO) : (H ++ X).set (H.length + j) x = H ++ X.set j x := by simp [List.set_append_right]
@[simp] theorem rowAt_set2 (H X : List HO) (k : Nat) (o : HO) (j : Nat) : rowAt (H.set k o ++ X) (H.length + j) = rowAt X j := by
  have h := rowAt_right (H := H.set k o) (X := X) j
  rwa [List.length_set] at h
@[simp] theorem rowAt_set20 (H X : List HO) (k : Nat) (o : HO) : rowAt (H.set k o ++ X) H.length = rowAt X 0 := rowAt_set2 H X k o 0
@[simp] theorem set_set2 (H X : List HO) (k : Nat) (o : HO) (j : Nat) (x : HO) : (H.set k o ++ X).set (H.length + j) x = H.set k o ++ X.set j x := by
  have h := set_right (H := H.set k o) (X := X) j x
  rwa [List.length_set] at h
@[simp] theorem set_set20 (H X : List HO) (k : Nat) (o : HO) (x : HO) : (H.set k o ++ X).set H.length x = H.set k o ++ X.set 0 x := set_set2 H X k o 0 x

theorem splice_one {vs : List DV} {i : Nat} {x : DV} (h : i < vs.length) : splice vs i [x] = vs.set i x := by
  rw [List.set_eq_take_append_cons_drop, if_pos h]
  simp [splice]

/-! What leaves a call: a row that it laid -/
theorem liveB_new (st : St) (k : Nat) : st.liveB (st.heap.length + k) = false := by
  unfold St.liveB
  rw [List.getElem?_eq_none (Nat.le_add_right _ _)]
theorem pst_cellsAt {st : St} {H : List HO} {K : List Nat} {k : Nat} {g : CK} {vs : List DV} (h : rowAt H k = some (g, vs)) : (pst st H K).heap[st.heap.length + k]? = some (.cells g vs) := by
  rw [pst_heap]
  unfold rowAt at h
  split at h
  · rename_i e; simp only [Option.some.injEq, Prod.mk.injEq] at h; rw [e, h.1, h.2]
  · cases h
theorem flat_len {n : Nat} {ag : Bool} : ∀ {ys : List DV}, (∀ y ∈ ys, IsEl n ag y) → (flat ys).length = ys.length * n
  | [], _ => by simp [flat]
  | y :: r, h => by
    have h1 := (h y (List.mem_cons_self ..)).1
    have h2 := flat_len (ys := r) fun z hz => h z (List.mem_cons_of_mem _ hz)
    simp only [flat, List.flatMap_cons, List.length_append, h1, List.length_cons] at h2 ⊢
    rw [h2, Nat.succ_mul]; omega
theorem ex_row {st : St} {H : List HO} {K : List Nat} {k n : Nat} {ag : Bool} {g : CK} {ys : List DV} {cap : Option Nat} (hr : rowAt H k = some (g, flat ys)) (hn : 0 < n) (hag : ag = true ∨ n = 1) (he : ∀ y ∈ ys, IsEl n ag y) :
    exportL st (pst st H K) (.hsl n ag (st.heap.length + k) 0 ys.length cap) = some (.list st.cur n (if cap = some ys.length then .tight else .no) true ys) := by
  have hl := flat_len he
  have hp := flat_pure he
  have hd := demotes_pure hp
  simp only [exportL, liveB_new, Bool.false_eq_true, if_false, pst_cellsAt hr]
  have ht : (flat ys).take (ys.length * n) = flat ys := List.take_of_length_le (by omega)
  simp only [List.drop_zero, ht, hd, hp, chunk_flat he]
  rw [if_pos ⟨Nat.le_add_right _ _, by omega, hn, hag, trivial⟩]
  rfl
theorem repl_one (z : DV) : ∀ n, repl [z] n = List.replicate n z
  | 0 => rfl
  | n + 1 => by rw [repl, repl_one z n]; rfl
theorem flat_scal : ∀ (ys : List DV), (∀ y ∈ ys, IsEl 1 false y) → flat ys = ys
  | [], _ => rfl
  | y :: r, h => by
    have h1 := (h y (List.mem_cons_self ..)).2.2
    have h2 := flat_scal r fun z hz => h z (List.mem_cons_of_mem _ hz)
    simp only [Bool.false_eq_true, if_false] at h1
    simp only [flat, List.flatMap_cons, h1] at h2 ⊢
    rw [h2]; rfl

variable {T : Tab}

def mkLo (fr : Fr) (params : List Nat) (assign body : RC) (s : Nat) (q : Option Ex) : LoopObj := ⟨fr, params, assign, body, s, q⟩

/-- What a client's turn tells. -/
def yT : Ex → Option Ex
  | .normal => none
  | e => some e

theorem V_client {st : St} {H H1 H2 : List HO} {K K1 K2 : List Nat} {k : Nat} {fr : Fr} {params : List Nat} {assign body : RC} {args : List DV} {fr1 : Fr} {e : Ex}
    (h : H[k]? = some (.loop (mkLo fr params assign body 0 none))) (hl : args.length = params.length)
    (hA : (E T).C assign (setParams fr params args) (pst st H K) = some (.normal, fr1, pst st H1 K1)) (h1 : H1[k]? = some (.loop (mkLo fr params assign body 0 none)))
    (hB : ∃ fr2, (E T).C body fr1 (pst st (H1.set k (.loop (mkLo fr params assign body 1 none))) K1) = some (e, fr2, pst st H2 K2)) (h2 : H2[k]? = some (.loop (mkLo fr params assign body 1 none))) :
    (E T).V (.yield (st.heap.length + k)) args (pst st H K) = some (.bool (yT e).isNone, pst st (H2.set k (.loop (mkLo fr params assign body (if (yT e).isNone then 0 else 2) (yT e)))) K2) := by
  obtain ⟨fr2, hB⟩ := hB
  rw [V_yield h hl]
  have e1 : (mkLo fr params assign body 0 none).assign = assign := rfl
  have e2 : (mkLo fr params assign body 0 none).params = params := rfl
  have e3 : (mkLo fr params assign body 0 none).fr = fr := rfl
  have e4 : (mkLo fr params assign body 0 none).state = 0 := rfl
  have hB1 : (E T).C (mkLo fr params assign body 0 none).body fr1 (pst st (H1.set k (.loop (mkLo fr params assign body 1 none))) K1) = some (e, fr2, pst st H2 K2) := hB
  rw [e1, e2, e3, hA]
  simp only [pst_heap, h1, e4, if_true, pst_putH]
  erw [hB1]
  cases e <;> simp only [pst_heap, h2, pst_putH] <;> rfl

theorem C_rfunc_pst {st : St} {H H' : List HO} {K K' : List Nat} {f : X} {params live : List Nat} {assign body : RC} {fr : Fr} {g : Nat} {first captured : List DV} {F : RFunc} {v : DV} {s : Nat} {q : Option Ex} (hf : f.ev (fr.keep live) = .fn g first captured) (hg : T g = some (.code F))
    (hF : (E T).F g (first ++ [.yield (st.heap.length + H.length)] ++ captured) (pst st (H ++ [.loop (mkLo (fr.keep live) params assign body 0 none)]) K) = some (v, pst st H' K'))
    (h2 : H'[H.length]? = some (.loop (mkLo (fr.keep live) params assign body s q))) (hs : s ≠ 1) :
    (E T).C (.rfunc f params assign body live) fr (pst st H K) = some (q.getD .normal, fr.keep live, pst st (H'.set H.length (.loop (mkLo (fr.keep live) params assign body 3 q))) K') := by
  rw [C_rfunc hf hg]
  have e1 : (pst st H K).heap.length = st.heap.length + H.length := by simp
  have e2 : (pst st H K).push (.loop (mkLo (fr.keep live) params assign body 0 none)) = pst st (H ++ [.loop (mkLo (fr.keep live) params assign body 0 none)]) K := by simp
  rw [e1]
  erw [e2]
  rw [hF]
  have e3 : (mkLo (fr.keep live) params assign body s q).state = s := rfl
  cases q with
  | none => simp only [pst_heap, h2, e3, hs, if_false, pst_putH]; rfl
  | some e => simp only [pst_heap, h2, e3, hs, if_false, pst_putH]; rfl

/-- A region that draws its order, where objects are laid ahead. -/
theorem C_dregionP {ops ops2 : List ROper} {hs : List Nat} {chk : List (Nat × List Nat)} {live : List Nat} {fr : Fr} {st st1 : St} (h : prepH fr hs st ops = some (st1, ops2)) : (E T).C (.dregion ops hs chk live) fr st =
    match (E T).S ops2 fr st1 [st1] with
    | some (fr', sts) => if (E T).A fr' ops2 sts.reverse chk = true then (match sts with | st' :: _ => some (.normal, fr'.keep live, st') | [] => none) else none
    | none => none := by
  rw [EC]
  simp only [runCR, h]
  cases (E T).S ops2 fr st1 [st1] with
  | none => rfl
  | some p => obtain ⟨fr', sts⟩ := p; rfl

theorem C_seq_inv {A B : RC} {f f' : Fr} {S S' : St} (h : (E T).C (.seq A B) f S = some (.normal, f', S')) : ∃ fu1 S1, (E T).C A f S = some (.normal, fu1, S1) ∧ (E T).C B fu1 S1 = some (.normal, f', S') := by
  rw [C_seq] at h
  split at h
  · rename_i fu1 S1 e; exact ⟨fu1, S1, e, h⟩
  · cases h
  · cases h
  · cases h

/-! Lists that may be read, wherever they lie -/
inductive Vw (st : St) (n : Nat) (ag : Bool) (xs : List DV) : DV → Prop
  | list (t n' : Nat) (tk : Tk) (nn : Bool) (h1 : nn = true → n' = n) (h2 : nn = false → xs = []) : Vw st n ag xs (.list t n' tk nn xs)
  | hsl (b off c : Nat) (g : CK) (vs : List DV) (hc : st.cells b = some (g, vs)) (hl : off + xs.length * n ≤ vs.length) (hx : (vs.drop off).take (xs.length * n) = flat xs) (hcap : xs.length ≤ c) :
      Vw st n ag xs (.hsl n ag b off xs.length (some c))

theorem Vw.of_cells {st st' : St} {n : Nat} {ag : Bool} {xs : List DV} {v : DV} (h : Vw st n ag xs v) (hs : ∀ b g vs, st.cells b = some (g, vs) → st'.cells b = some (g, vs)) : Vw st' n ag xs v := by
  cases h with
  | list t n' tk nn h1 h2 => exact .list t n' tk nn h1 h2
  | hsl b off c g vs hc hl hx hcap => exact .hsl b off c g vs (hs _ _ _ hc) hl hx hcap

theorem cells_pst {st : St} {H : List HO} {K : List Nat} {b : Nat} {g : CK} {vs : List DV} (h : st.cells b = some (g, vs)) : (pst st H K).cells b = some (g, vs) := by
  have h1 := cells_get h
  have hb := (List.getElem?_eq_some_iff.1 h1).1
  unfold St.cells
  show (match (st.heap ++ H)[b]? with | some (.cells g vs) => some (g, vs) | _ => none) = _
  rw [List.getElem?_append_left hb, h1]
theorem Vw.inn {st : St} {n : Nat} {ag : Bool} {xs : List DV} {v : DV} (h : Vw st n ag xs v) (H : List HO) (K : List Nat) : Vw (pst st H K) n ag xs v := h.of_cells fun _ _ _ => cells_pst
theorem Vw.out {st : St} {n : Nat} {ag : Bool} {xs : List DV} {v : DV} (h : Vw (pst st [] []) n ag xs v) : Vw st n ag xs v := h.of_cells fun b g vs hc => by
  have : (pst st [] []).cells b = st.cells b := by unfold St.cells; simp only [pst, List.append_nil]
  rw [← this]; exact hc
theorem Vw.app {st : St} {H : List HO} {K : List Nat} {n : Nat} {ag : Bool} {xs : List DV} {v : DV} (h : Vw (pst st H K) n ag xs v) (X : List HO) (K' : List Nat) : Vw (pst st (H ++ X) K') n ag xs v := by
  refine h.of_cells fun b g vs hc => ?_
  have h1 := cells_get hc
  have hb := (List.getElem?_eq_some_iff.1 h1).1
  unfold St.cells
  change (st.heap ++ H)[b]? = _ at h1
  show (match (st.heap ++ (H ++ X))[b]? with | some (.cells g vs) => some (g, vs) | _ => none) = _
  rw [← List.append_assoc, List.getElem?_append_left (show b < (st.heap ++ H).length from hb), h1]

/-- Where an element lies. -/
def elP (n : Nat) : DV → Nat → DV
  | .list _ _ _ _ xs, i => .cptr ((xs.getD i .undef).leaves)
  | .hsl _ _ b off _ _, i => .ptr b (off + i * n)
  | _, _ => .undef
/-- A place behind another one. -/
def faP (off : Nat) : DV → DV
  | .ptr b o => .ptr b (o + off)
  | .cptr cs => .cptr (cs.drop off)
  | _ => .undef

section
variable {st : St} {H : List HO} {K : List Nat} {n : Nat} {ag : Bool} {xs : List DV} {v : DV}
theorem Vw.len (h : Vw st n ag xs v) (st' : St) : lenV st' .slice v = some (.int .i64 xs.length, st') := by
  cases h <;> rfl
theorem Vw.iaddr (h : Vw st n ag xs v) {i : Nat} (hi : i < xs.length) (k : IntKind) (st' : St) : iaddrV st' n v (.int k i) = some (elP n v i, st') := by
  cases h with
  | list t n' tk nn h1 h2 =>
    cases nn with
    | false => rw [h2 rfl] at hi; cases hi
    | true => simp [h1 rfl, hi, elP, List.getD_eq_getElem?_getD]
  | hsl b off c g vs hc hl hx hcap =>
    simp [hi, elP]
theorem flat_nth (he : ∀ x ∈ xs, IsEl n ag x) : ∀ {i : Nat} {x : DV}, xs[i]? = some x → ((flat xs).drop (i * n)).take n = x.leaves := by
  induction xs with
  | nil => intro i x h; cases h
  | cons y r ih =>
    intro i x h
    have hy := (he y (List.mem_cons_self ..)).1
    have e : flat (y :: r) = y.leaves ++ flat r := by simp [flat]
    rw [e]
    cases i with
    | zero =>
      simp only [List.getElem?_cons_zero, Option.some.injEq] at h
      subst h
      simp [← hy]
    | succ i =>
      rw [List.getElem?_cons_succ] at h
      rw [Nat.succ_mul, Nat.add_comm, ← List.drop_drop, ← hy]
      simp only [List.drop_left]
      rw [hy]
      exact ih (fun z hz => he z (List.mem_cons_of_mem _ hz)) h
theorem cells_of_hsl {off : Nat} {vs : List DV} (he : ∀ x ∈ xs, IsEl n ag x) (hl : off + xs.length * n ≤ vs.length) (hx : (vs.drop off).take (xs.length * n) = flat xs) {i : Nat} {x : DV} (h : xs[i]? = some x) :
    (vs.drop (off + i * n)).take n = x.leaves ∧ off + i * n + n ≤ vs.length := by
  have hi := (List.getElem?_eq_some_iff.1 h).1
  have h1 := flat_nth he h
  have hle : (i + 1) * n ≤ xs.length * n := Nat.mul_le_mul_right _ hi
  rw [Nat.succ_mul] at hle
  refine ⟨?_, by omega⟩
  rw [← h1, ← hx, List.drop_take, List.drop_drop, List.take_take]
  congr 1
  omega
theorem Vw.load (h : Vw st n ag xs v) (he : ∀ x ∈ xs, IsEl n ag x) (ha : ag = true) {i : Nat} {x : DV} (hx : xs[i]? = some x) : loadD st n true (elP n v i) = some x := by
  have hm := he x (List.mem_of_getElem? hx)
  have hxl : x = .agg x.leaves := by have := hm.2.2; rw [ha] at this; exact this
  cases h with
  | list t n' tk nn h1 h2 =>
    simp only [elP, loadD, takeN, List.getD_eq_getElem?_getD, hx, Option.getD_some, if_true, Nat.zero_add]
    rw [if_pos (by rw [hm.1]; exact Nat.le_refl _), List.drop_zero, List.take_of_length_le (by rw [hm.1]; exact Nat.le_refl _), ← hxl]
  | hsl b off c g vs hc hl hxx hcap =>
    obtain ⟨h1, h2⟩ := cells_of_hsl he hl hxx hx
    simp only [elP, loadD, takeN, hc, if_true, h1]
    rw [if_pos h2, ← hxl]
theorem Vw.load1 (h : Vw st 1 false xs v) (he : ∀ x ∈ xs, IsEl 1 false x) {i : Nat} {x : DV} (hx : xs[i]? = some x) : loadD st 1 false (elP 1 v i) = some x := by
  have hm := he x (List.mem_of_getElem? hx)
  have hxl : x.leaves = [x] := by have := hm.2.2; simpa using this
  cases h with
  | list t n' tk nn h1 h2 => simp [elP, List.getD_eq_getElem?_getD, hx, hxl]
  | hsl b off c g vs hc hl hxx hcap =>
    obtain ⟨h1, h2⟩ := cells_of_hsl he hl hxx hx
    simp only [elP, loadD, takeN, hc]
    have := congrArg (fun l => l[0]?) h1
    simp [hxl] at this
    simpa using this
theorem Vw.faddr (h : Vw st n ag xs v) (he : ∀ x ∈ xs, IsEl n ag x) {i : Nat} (hi : i < xs.length) {off : Nat} (ho : off ≤ n) (st' : St) : faddrV st' off (elP n v i) = some (faP off (elP n v i), st') := by
  have hx : xs[i]? = some xs[i] := List.getElem?_eq_getElem hi
  have hm := he _ (List.getElem_mem hi)
  cases h with
  | list t n' tk nn h1 h2 =>
    simp only [elP, faddrV, faP, List.getD_eq_getElem?_getD, hx, Option.getD_some]
    rw [if_pos (by rw [hm.1]; exact ho)]
  | hsl b off c g vs hc hl hxx hcap => simp [elP, faP]
theorem Vw.fload (h : Vw st n ag xs v) (he : ∀ x ∈ xs, IsEl n ag x) {i : Nat} {x : DV} (hx : xs[i]? = some x) {off : Nat} {y : DV} (ho : x.leaves[off]? = some y) : loadD st 1 false (faP off (elP n v i)) = some y := by
  have hm := he x (List.mem_of_getElem? hx)
  have hlt : off < n := by have := (List.getElem?_eq_some_iff.1 ho).1; rw [hm.1] at this; exact this
  cases h with
  | list t n' tk nn h1 h2 =>
    simp only [elP, faP, loadD, takeN, List.getD_eq_getElem?_getD, hx, Option.getD_some, Bool.false_eq_true, if_false]
    rw [List.getElem?_drop]; simpa using ho
  | hsl b off' c g vs hc hl hxx hcap =>
    obtain ⟨h1, h2⟩ := cells_of_hsl he hl hxx hx
    simp only [elP, faP, loadD, takeN, hc, Bool.false_eq_true, if_false]
    rw [← h1, List.getElem?_take_of_lt hlt, List.getElem?_drop] at ho
    exact ho
theorem Vw.news (h : Vw st n ag xs v) : newsD st n v = some (xs.length, flat xs) := by
  cases h with
  | list t n' tk nn h1 h2 =>
    cases nn with
    | false => simp [newsD, h2 rfl, flat]
    | true => simp [newsD, h1 rfl]
  | hsl b off c g vs hc hl hx hcap => simp [newsD, hc, hl, hx]
theorem Vw.slice (h : Vw st n ag xs v) (hn : 0 < n) (he : ∀ x ∈ xs, IsEl n ag x) {lo hi : Nat} (h1 : lo ≤ hi) (h2 : hi ≤ xs.length) (k k' : IntKind) :
    ∃ v', sliceD false n v (some (.int k lo)) (some (.int k' hi)) none = some v' ∧ Vw st n ag ((xs.drop lo).take (hi - lo)) v' := by
  cases h with
  | list t n' tk nn g1 g2 =>
    refine ⟨_, slice_ll g1 (by omega) (by omega) (by omega), ?_⟩
    simp only [Int.toNat_natCast]
    exact .list _ _ _ _ g1 fun e => by rw [g2 e]; simp
  | hsl b off c g vs hc hl hx hcap =>
    have hb1 : bnd (.int k' (hi : Int)) c = some hi := by rw [bnd_int (by omega) (by omega)]; simp
    have hb2 : bnd (.int k (lo : Int)) hi = some lo := by rw [bnd_int (by omega) (by omega)]; simp
    refine ⟨_, by simp only [sliceD, if_true, Option.isSome_none, Bool.false_eq_true, if_false, hb1, hb2]; rfl, ?_⟩
    have hlen : ((xs.drop lo).take (hi - lo)).length = hi - lo := by simp; omega
    by_cases hcl : c = lo
    · have e0 : hi - lo = 0 := by omega
      rw [if_pos hcl]
      have h3 := Vw.hsl (st := st) (n := n) (ag := ag) (xs := (xs.drop lo).take (hi - lo)) b off (c - lo) g vs hc (by rw [hlen, e0]; omega) (by rw [hlen, e0]; simp [flat]) (by rw [hlen]; omega)
      rw [hlen] at h3; exact h3
    · rw [if_neg hcl]
      have hmul : lo * n + (hi - lo) * n ≤ xs.length * n := by rw [← Nat.add_mul]; exact Nat.mul_le_mul_right _ (by omega)
      have fl : ∀ (ys : List DV), (∀ y ∈ ys, IsEl n ag y) → ∀ k, (flat ys).take (k * n) = flat (ys.take k) ∧ (flat ys).drop (k * n) = flat (ys.drop k) := by
        intro ys
        induction ys with
        | nil => intro _ k; simp [flat]
        | cons y r ih =>
          intro hy k
          have e : flat (y :: r) = y.leaves ++ flat r := by simp [flat]
          have hly := (hy y (List.mem_cons_self ..)).1
          cases k with
          | zero => simp [flat]
          | succ k =>
            have := ih (fun z hz => hy z (List.mem_cons_of_mem _ hz)) k
            rw [e, Nat.succ_mul, Nat.add_comm (k * n)]
            constructor
            · rw [List.take_append, List.take_of_length_le (by omega), hly, show n + k * n - n = k * n by omega, this.1]; simp [flat]
            · rw [← List.drop_drop, ← hly, List.drop_left, hly, this.2, List.drop_succ_cons]
      have h3 := Vw.hsl (st := st) (n := n) (ag := ag) (xs := (xs.drop lo).take (hi - lo)) b (off + lo * n) (c - lo) g vs hc (by rw [hlen]; omega) (by
        rw [hlen, ← (fl _ (fun y hy => he y (List.mem_of_mem_drop hy)) _).1, ← (fl xs he _).2, ← hx, List.drop_take, List.drop_drop, List.take_take]
        congr 1
        rw [Nat.min_eq_left (by omega)]) (by rw [hlen]; omega)
      rw [hlen] at h3; exact h3
end
theorem pst_copy {st : St} {H : List HO} {K : List Nat} {n k off len m : Nat} {ag : Bool} {c : Option Nat} {g : CK} {vs news : List DV} {v : DV} (hn : newsD (pst st H K) n v = some (m, news)) (hr : rowAt H k = some (g, vs)) (hg : g.wr = true) (hp : 0 < min m len) (hl : off + min m len * n ≤ vs.length) :
    copyD (pst st H K) n (.hsl n ag (st.heap.length + k) off len c) v = some (.int .i64 (min m len : Nat), pst st (H.set k (.cells g (splice vs off (news.take (min m len * n))))) K) := by
  have h0 : ¬ min m len = 0 := by omega
  have hc : (pst st H K).cellsW (st.heap.length + k) = some (g, vs) := by unfold St.cellsW; rw [pst_cells, hr]; simp only [hg, if_true]
  have hb : (pst st H K).base ≤ st.heap.length + k := by simp
  simp only [copyD, hn, h0, if_false, hc, hl, if_true, hb, and_self]
  simp [pst, List.set_append_right]
theorem slice_hu {n b off len c hi : Nat} {ag : Bool} {k : IntKind} (h : hi ≤ c) : sliceD false n (.hsl n ag b off len (some c)) none (some (.int k hi)) none = some (.hsl n ag b off hi (some c)) := by
  have hb : bnd (.int k (hi : Int)) c = some hi := by rw [bnd_int (by omega) (by omega)]; simp
  simp [sliceD, hb]
/-- A list that bears its contents. -/
inductive Lw (n : Nat) (xs : List DV) : DV → Prop
  | list (t n' : Nat) (tk : Tk) (nn : Bool) (h1 : nn = true → n' = n) (h2 : nn = false → xs = []) : Lw n xs (.list t n' tk nn xs)
theorem Lw.vw {st : St} {n : Nat} {ag : Bool} {xs : List DV} {w : DV} (h : Lw n xs w) : Vw st n ag xs w := by
  cases h with | list t n' tk nn h1 h2 => exact .list t n' tk nn h1 h2
theorem Lw.ex {st st' : St} {n : Nat} {xs : List DV} {w : DV} (h : Lw n xs w) : ∃ w', exportL st st' w = some w' ∧ exportA st st' w = some w' ∧ exportT st st' w = some w' ∧ Lw n xs w' := by
  cases h with | list t n' tk nn h1 h2 => exact ⟨_, rfl, rfl, rfl, .list _ _ _ _ h1 h2⟩
/-- A view is appended onto nothing. -/
theorem app_view {st : St} {H : List HO} {K : List Nat} {n t n' by_ : Nat} {ag : Bool} {tk : Tk} {xs : List DV} {v : DV} (hv : Vw (pst st H K) n ag xs v) (he : ∀ x ∈ xs, IsEl n ag x) (hx : xs ≠ []) (hn : 0 < n) (hr : xs.length * by_ ≤ roomD) (hr2 : xs.length ≤ roomD) :
    appendD (pst st H K) n ag by_ (.list t n' tk false []) v = some (.list st.cur n (.own (st.toks.length + K.length) 0) true xs, pst st H (K ++ [0])) := by
  have hl : xs.length ≠ 0 := fun h => hx (List.length_eq_zero_iff.1 h)
  have hp := flat_pure he
  have hc := chunk_flat he
  have h0 : ¬ n = 0 := by omega
  have h2 : ¬ ((0 + xs.length) * by_ > roomD) := by rw [Nat.zero_add]; omega
  have h3 : ¬ (0 + xs.length > roomD) := by omega
  simp only [appendD, Vw.news hv, demotes_pure hp, hc, hl, h0, List.length_nil, h2, h3, hp, if_false, Bool.not_true, Bool.false_eq_true, or_false, false_and]
  simp [pst]
theorem app_view0 {st : St} {n t n' by_ : Nat} {ag : Bool} {tk : Tk} {nn : Bool} {ys : List DV} {v : DV} (hv : Vw st n ag [] v) : appendD st n ag by_ (.list t n' tk nn ys) v = some (.list t n' tk nn ys, st) := by
  refine app_none ?_
  have := Vw.news hv
  simpa [flat] using this

/-! Lists of texts that are lent -/
theorem at182 : tab 182 = some (.code f182) := by kernel_rfl
theorem at184 : tab 184 = some (.code f184) := by kernel_rfl
theorem at50 : tab 50 = some (.code f50) := by kernel_rfl
def lentM : List UInt8 := [108, 101, 110, 116]
def lentT (l : List (List UInt8)) : List (List UInt8) := l ++ [lentM, lentM, lentM]
theorem tx_el {l : List (List UInt8)} : ∀ y ∈ l.map DV.str, IsEl 1 false y := by
  intro y hy; obtain ⟨c, _, rfl⟩ := List.mem_map.1 hy; exact ⟨rfl, rfl, rfl⟩
theorem tx_flat (l : List (List UInt8)) : flat (l.map DV.str) = l.map DV.str := flat_scal _ tx_el
abbrev Txs (st : St) (l : List (List UInt8)) (v : DV) : Prop := Vw st 1 false (l.map DV.str) v
section
variable {st : St} {l : List (List UInt8)} {v : DV} {H : List HO} {K : List Nat}
theorem txs_len (h : Txs st l v) (st' : St) : lenV st' .slice v = some (.int .i64 l.length, st') := by simpa using Vw.len h st'
theorem txs_at (h : Txs st l v) {i : Nat} (hi : i < l.length) (k : IntKind) (st' : St) : iaddrV st' 1 v (.int k i) = some (elP 1 v i, st') := Vw.iaddr h (by simpa using hi) k st'
theorem txs_load (h : Txs st l v) {i : Nat} {x : List UInt8} (hx : l[i]? = some x) (H : List HO) (K : List Nat) : loadD (pst st H K) 1 false (elP 1 v i) = some (.str x) := Vw.load1 (Vw.inn h H K) tx_el (by simp [hx])
theorem L182_0 (hl : l.length ≤ 1000000) (y0 : DV) : ∀ (m : Nat) (d : List (List UInt8)), l.length ≤ d.length → d.length + m = l.length + 3 →
    ∃ fr, (E tab).C f182L0 [(0, y0), (3, .hsl 1 false (st.heap.length + H.length) 0 (l.length + 3) (some (l.length + 3))), (4, .int .i64 d.length)] (pst st (H ++ [.cells .plain (d.map DV.str ++ List.replicate m (DV.str []))]) K) =
      some (.exit 0, [(0, y0), (3, .hsl 1 false (st.heap.length + H.length) 0 (l.length + 3) (some (l.length + 3)))] ++ fr, pst st (H ++ [.cells .plain ((d ++ List.replicate m lentM).map DV.str)]) K) := by
  intro m
  induction m with
  | zero =>
    intro d h1 h2
    refine ⟨[(4, .int .i64 d.length), (17, .bool false)], ?_⟩
    have h0 : ¬ d.length < l.length + 3 := by omega
    have h0' : ¬ (d.length : Int) < (l.length : Int) + 3 := by omega
    rw [C_turn (L := f182L0) rfl]
    simp [f182B0, h0, h0']
  | succ m ih =>
    intro d h1 h2
    have h0 : d.length < l.length + 3 := by omega
    have h0' : (d.length : Int) < (l.length : Int) + 3 := by omega
    have hw1 : IntKind.i64.wrap ((d.length : Int) + 1) = ((d ++ [lentM]).length : Nat) := by rw [i64w (by omega)]; simp
    obtain ⟨fr, hJ⟩ := ih (d ++ [lentM]) (by simp; omega) (by simp; omega)
    refine ⟨fr, ?_⟩
    have e1 : d ++ [lentM] ++ List.replicate m lentM = d ++ List.replicate (m + 1) lentM := by rw [List.replicate_succ, List.append_assoc]; rfl
    rw [e1] at hJ
    have hs : splice (d.map DV.str ++ List.replicate (m + 1) (DV.str [])) d.length [.str lentM] = (d ++ [lentM]).map DV.str ++ List.replicate m (DV.str []) := by
      rw [splice_one (by simp), List.set_append_right _ _ (by simp)]
      simp [List.replicate_succ]
    have hlen : d.length + 1 ≤ (d.map DV.str ++ List.replicate (m + 1) (DV.str [])).length := by simp
    simp only [List.length_append, List.length_singleton] at hJ hw1
    generalize (d ++ [lentM]).map DV.str ++ List.replicate m (DV.str []) = R at *
    generalize d.map DV.str ++ List.replicate (m + 1) (DV.str []) = R0 at *
    generalize (d ++ List.replicate (m + 1) lentM).map DV.str = R1 at *
    simp only [splice, lentM] at hs
    simp at hJ hs
    rw [C_turn (L := f182L0) rfl]
    simp [f182B0, h0, h0', hw1, hs, hlen, hJ]
theorem lent182 (hv : Txs (pst st H K) l v) (hl : l.length ≤ 1000000) : (E tab).F 182 [v] (pst st H K) = some (.hsl 1 false (st.heap.length + H.length) 0 l.length (some (l.length + 3)), pst st (H ++ [.cells .plain ((lentT l).map DV.str)]) K) := by
  rw [F_go at182 rfl]
  have e0 := fun st' => txs_len hv st'
  have w1 : IntKind.i64.wrap ((l.length : Int) + 3) = l.length + 3 := i64w (by omega)
  obtain ⟨fr, hL⟩ := L182_0 (st := st) (H := H) (K := K) (l := l) hl v 3 l (Nat.le_refl _) rfl
  have er : l ++ List.replicate 3 lentM = lentT l := rfl
  rw [er] at hL
  have b1 : ((l.length : Int) + 3) * 16 ≤ 140737488355328 := by omega
  have b2 : l.length + 3 ≤ 140737488355328 := by omega
  have b3 : (l.length : Int) + 3 ≤ 140737488355328 := by omega
  have b4 : (0 : Int) ≤ (l.length : Int) + 3 := by omega
  have t1 : ((l.length : Int) + 3).toNat = l.length + 3 := by omega
  have hn := fun X : List HO => Vw.news (Vw.app (K' := K) hv X)
  simp only [List.length_map, tx_flat] at hn
  have h2 : (E tab).C (.region f182r2 [0, 3]) [(0, v), (3, .hsl 1 false (st.heap.length + H.length) 0 (l.length + 3) (some (l.length + 3)))] (pst st (H ++ [.cells .plain (List.replicate (l.length + 3) (DV.str []))]) K) =
      some (.normal, [(0, v), (3, .hsl 1 false (st.heap.length + H.length) 0 (l.length + 3) (some (l.length + 3)))], pst st (H ++ [.cells .plain (l.map DV.str ++ List.replicate 3 (DV.str []))]) K) := by
    by_cases hne : l = []
    · subst hne
      have hn0 := hn [.cells .plain (List.replicate 3 (DV.str []))]
      simp at hn0
      simp [copyD, hn0, List.replicate_succ]
    · have hp : 0 < l.length := List.length_pos_iff.2 hne
      have hn0 := hn [.cells .plain (List.replicate (l.length + 3) (DV.str []))]
      have ht : (l.map DV.str).take (l.length * 1) = l.map DV.str := List.take_of_length_le (by simp)
      have hs : splice (List.replicate (l.length + 3) (DV.str [])) 0 (l.map DV.str) = l.map DV.str ++ List.replicate 3 (DV.str []) := by
        simp [splice]
      have hmin : min l.length (l.length + 3) = l.length := by omega
      have hc := pst_copy (st := st) (K := K) (n := 1) (k := H.length) (off := 0) (len := l.length + 3) (ag := false) (c := some (l.length + 3)) (g := .plain) (vs := List.replicate (l.length + 3) (DV.str [])) hn0 (by simp [rowAt]) rfl (by omega) (by simp)
      rw [hmin, ht, hs] at hc
      have hset : (H ++ [HO.cells .plain (List.replicate (l.length + 3) (DV.str []))]).set H.length (.cells .plain (l.map DV.str ++ List.replicate 3 (DV.str []))) = H ++ [.cells .plain (l.map DV.str ++ List.replicate 3 (DV.str []))] := by simp
      rw [hset] at hc
      generalize List.replicate (l.length + 3) (DV.str []) = Z at *
      generalize l.map DV.str ++ List.replicate 3 (DV.str []) = Y at *
      simp [hc]
  have h3 : (E tab).C (.seq (.region f182r3 [0, 3, 4]) (.block 0 f182L0)) [(0, v), (3, .hsl 1 false (st.heap.length + H.length) 0 (l.length + 3) (some (l.length + 3)))] (pst st (H ++ [.cells .plain (l.map DV.str ++ List.replicate 3 (DV.str []))]) K) =
      some (.normal, [(0, v), (3, .hsl 1 false (st.heap.length + H.length) 0 (l.length + 3) (some (l.length + 3)))] ++ fr, pst st (H ++ [.cells .plain ((lentT l).map DV.str)]) K) := by
    generalize l.map DV.str ++ List.replicate 3 (DV.str []) = Y at *
    simp at hL
    simp [e0, hL]
  have h4 : (E tab).C (.region f182r0 [0]) (frame0 [v] 0) (pst st H K) = some (.normal, [(0, v)], pst st H K) := by simp
  have h5 : (E tab).C (.region f182r1 [0, 3]) [(0, v)] (pst st H K) = some (.normal, [(0, v), (3, .hsl 1 false (st.heap.length + H.length) 0 (l.length + 3) (some (l.length + 3)))], pst st (H ++ [.cells .plain (List.replicate (l.length + 3) (DV.str []))]) K) := by
    simp [e0, w1, roomD, b1, b2, b3, b4, t1, repl_one]
  have hsl := slice_hu (n := 1) (b := st.heap.length + H.length) (off := 0) (len := l.length + 3) (c := l.length + 3) (hi := l.length) (ag := false) (k := .i64) (by omega)
  rw [show f182.body = (.seq (.region f182r0 [0]) (.seq (.region f182r1 [0, 3]) (.seq (.region f182r2 [0, 3]) (.seq (.seq (.region f182r3 [0, 3, 4]) (.block 0 f182L0)) (.seq (.region f182r7 [2]) .ret))))) from rfl, C_seq, h4]
  simp only
  rw [C_seq, h5]
  simp only
  rw [C_seq, h2]
  simp only
  rw [C_seq, h3]
  simp [e0, hsl, f182]
theorem L50_0 {u : DV} (hv : Txs st l v) (hu : Txs st l u) (hl : l.length ≤ 140737488355328) (H : List HO) (K : List Nat) : ∀ (r d : List (List UInt8)), l = d ++ r →
    ∃ fr, (E tab).C f50L0 [(0, v), (1, u), (5, .int .i64 d.length)] (pst st H K) = some (.exit 0, fr, pst st H K) := by
  have e0 := fun st' => txs_len hv st'
  intro r
  induction r with
  | nil =>
    intro d hd
    refine ⟨[(0, v), (1, u), (5, .int .i64 l.length), (14, .bool false)], ?_⟩
    rw [C_turn (L := f50L0) rfl]
    simp [f50B0, e0, hd]
  | cons x r ih =>
    intro d hd
    have h0 : d.length < l.length := by simp [hd]
    have hx : l[d.length]? = some x := by simp [hd]
    have hw1 : IntKind.i64.wrap ((d.length : Int) + 1) = ((d ++ [x]).length : Nat) := by rw [i64w (by omega)]; simp
    have e1 := fun st' => txs_at hv h0 .i64 st'
    have e2 := fun H K => txs_load hv hx H K
    have e3 := fun st' => txs_at hu h0 .i64 st'
    have e4 := fun H K => txs_load hu hx H K
    obtain ⟨fr, hJ⟩ := ih (d ++ [x]) (by simp [hd])
    refine ⟨fr, ?_⟩
    simp only [List.length_append, List.length_singleton] at hJ hw1
    simp at hJ
    rw [C_turn (L := f50L0) rfl]
    simp [f50B0, e0, h0, e1, e2, e3, e4, hw1, hJ]
theorem same50 {u : DV} (hv : Txs st l v) (hu : Txs st l u) (hl : l.length ≤ 140737488355328) : (E tab).F 50 [v, u] st = some (.bool true, st) := by
  rw [F_run at50 rfl]
  have e0 := fun st' => txs_len hv st'
  have e1 := fun st' => txs_len hu st'
  obtain ⟨fr, hL⟩ := L50_0 hv hu hl [] [] l [] rfl
  simp at hL
  simp [f50, e0, e1, hL]
/-- A row that was lent, read. -/
theorem lent_viewT {k : Nat} (hr : rowAt H k = some (.plain, (lentT l).map DV.str)) : Txs (pst st H K) l (.hsl 1 false (st.heap.length + k) 0 l.length (some (l.length + 3))) ∧ Txs (pst st H K) (lentT l) (.hsl 1 false (st.heap.length + k) 0 (l.length + 3) (some (l.length + 3))) := by
  have hl : (lentT l).length = l.length + 3 := by simp [lentT]
  have hcell : (pst st H K).cells (st.heap.length + k) = some (.plain, (lentT l).map DV.str) := by rw [pst_cells, hr]
  constructor
  · have h := Vw.hsl (st := pst st H K) (n := 1) (ag := false) (xs := l.map DV.str) (st.heap.length + k) 0 (l.length + 3) .plain _ hcell (by simp [hl]) (by
      simp only [lentT, List.map_append, List.drop_zero, List.length_map, tx_flat, Nat.mul_one]
      rw [List.take_append_of_le_length (by simp), List.take_of_length_le (by simp)]) (by simp)
    simpa using h
  · have h := Vw.hsl (st := pst st H K) (n := 1) (ag := false) (xs := (lentT l).map DV.str) (st.heap.length + k) 0 (l.length + 3) .plain _ hcell (by simp [hl]) (by
      simp only [List.drop_zero, List.length_map, hl, tx_flat, Nat.mul_one]
      exact List.take_of_length_le (by simp [hl])) (by simp [hl])
    simpa [hl] using h
theorem pure182 : isPure tab 182 = false := by rw [isPure_of at182]; rfl
theorem pure50 : isPure tab 50 = true := by rw [isPure_of at50]; rfl
theorem kept184 {b : Nat} {u : DV} (hu : Txs st l u) (hl : l.length ≤ 1000000) (hb : Txs st (lentT l) (.hsl 1 false b 0 (l.length + 3) (some (l.length + 3)))) :
    (E tab).F 184 [.hsl 1 false b 0 l.length (some (l.length + 3)), u] st = some (.bool true, st) := by
  rw [F_run at184 rfl]
  have e0 := fun st' => txs_len hu st'
  have w1 : IntKind.i64.wrap ((l.length : Int) + 3) = ((l.length + 3 : Nat) : Int) := by rw [i64w (by omega)]; simp
  have e1 := lent182 (hu.inn [] []) hl
  simp at e1
  have hl3 : (lentT l).length = l.length + 3 := by simp [lentT]
  have s1 := fun (o : Nat) => slice_hu (n := 1) (b := b) (off := 0) (len := o) (c := l.length + 3) (hi := l.length + 3) (ag := false) (k := .i64) (by omega)
  have s2 := fun (o : Nat) => slice_hu (n := 1) (b := st.heap.length) (off := 0) (len := o) (c := l.length + 3) (hi := l.length + 3) (ag := false) (k := .i64) (by omega)
  have v2 := (lent_viewT (st := st) (H := [.cells .plain ((lentT l).map DV.str)]) (K := []) (k := 0) (l := l) rfl).2
  have e2 := same50 (hb.inn [.cells .plain ((lentT l).map DV.str)] []) v2 (by omega)
  generalize (lentT l).map DV.str = R at *
  simp at e2 w1 s1 s2
  simp [f184, C_dregionN, S_cons, A_cons, K_cons, loudD, pure182, pure50, e0, e1, w1, s1, s2, e2]
end

end Go.D.Tab
