/-
What the law MetricNatural runs through, walked: it tells true of all that its arguments may stand for.
-/
import Derived.Test.YtpfeehmblhcejaaTab
import Derived.Test.YtpfeehmblhcejaaFwDX
namespace Go.D.Tab

theorem awake_runs : tells tree.get 100000 16 [] st0 (.bool true) = true := by kernel_rfl

def awakeP : List DV → Option DV
  | [] => some (.bool true)
  | _ => none

def known : List (Nat × (List DV → Option DV)) := [(16, awakeP)]
def tab : Tab := over tree.get known

theorem known_ran : ∀ x ∈ known, ∀ as v, x.2 as = some v → Ran tree.get x.1 as v := by
  intro x hx
  simp only [known, List.mem_cons, List.not_mem_nil, or_false] at hx
  rcases hx with rfl
  · intro as v h
    cases as with
    | nil => cases h; exact ran_of rfl rfl awake_runs
    | cons a r => cases h

theorem known_pure : ∀ x ∈ known, isPure tree.get x.1 = true := by
  intro x hx
  simp only [known, List.mem_cons, List.not_mem_nil, or_false] at hx
  rcases hx with rfl <;> kernel_rfl

theorem at5 : tab 5 = some (.code f5) := by kernel_rfl
theorem at12 : tab 12 = some (.code f12) := by kernel_rfl
theorem at16 : tab 16 = some (.pprim awakeP) := by kernel_rfl
theorem at23 : tab 23 = some (.code f23) := by kernel_rfl
theorem at24 : tab 24 = some (.code f24) := by kernel_rfl

theorem awake_run (st : St) : (E tab).F 16 [] st = some (.bool true, st) := F_prim at16 rfl

/-- A mass. -/
structure Mass where
  a : Int
  b : Int
  k : Int
  s : Int
  w : Int
  e : Int
  deriving DecidableEq

def Mass.cs (m : Mass) : List DV := [.int .i64 m.a, .int .i64 m.b, .int .i64 m.k, .int .i64 m.s, .int .i64 m.w, .int .i64 m.e]
def Mass.dv (m : Mass) : DV := .agg m.cs
@[simp] theorem Mass.leaves (m : Mass) : m.dv.leaves = m.cs := rfl

def okM (m : Mass) : Bool := decide (0 ≤ m.w ∧ m.w ≤ 4095 ∧ -64 ≤ m.e ∧ m.e ≤ 0)

/-- A run's width, from a number on ('o': nothing stands ahead). -/
def runGo (o : Bool) (n : Int) : List Mass → Int
  | [] => n
  | m :: r => runGo false (if o then n + m.w else n + m.w + m.e) r

theorem L23_0 (l : List Mass) (hl : l.length ≤ 4096) (x y : DV) (t : Nat) (tk : Tk) (nn : Bool) (st : St) (K : List Nat) : ∀ (r d : List Mass) (H : List HO), l = d ++ r →
    ∃ J, (E tab).C f23L0 [(0, .list t 6 tk nn (l.map Mass.dv)), (1, x), (2, y), (16, .list t 6 tk nn (l.map Mass.dv)), (17, .int .i64 l.length), (18, .int .i64 d.length)] (pst st H K) =
      some (if r.all okM then (.exit 0, [(0, .list t 6 tk nn (l.map Mass.dv)), (1, x), (2, y), (16, .list t 6 tk nn (l.map Mass.dv)), (17, .int .i64 l.length), (18, .int .i64 l.length), (19, .bool false)], pst st (H ++ J) K)
        else (.ret, [(6, .int .i64 0), (7, .int .i64 2)], pst st (H ++ J) K)) := by
  intro r
  induction r with
  | nil =>
    intro d H hd
    refine ⟨[], ?_⟩
    rw [C_turn (L := f23L0) rfl]
    simp [f23B0, hd]
  | cons m r ih =>
    intro d H hd
    have h0 : d.length < l.length := by simp [hd]
    have hw : IntKind.i64.wrap ((d.length : Int) + 1) = ((d ++ [m]).length : Nat) := by rw [i64w (by omega)]; simp
    have hg : l[d.length] = m := by simp [hd]
    by_cases ho : okM m = true
    · obtain ⟨J, hJ⟩ := ih (d ++ [m]) (H ++ [.cells .plain m.cs]) (by simp [hd])
      refine ⟨.cells .plain m.cs :: J, ?_⟩
      rw [C_turn (L := f23L0) rfl]
      obtain ⟨o1, o2, o3, o4⟩ : 0 ≤ m.w ∧ m.w ≤ 4095 ∧ -64 ≤ m.e ∧ m.e ≤ 0 := by simpa [okM] using ho
      have o1' : ¬ m.w < 0 := by omega
      have o2' : ¬ 4095 < m.w := by omega
      have o3' : ¬ m.e < -64 := by omega
      have o4' : ¬ 0 < m.e := by omega
      simp [f23B0, h0, hg, hw, Mass.cs, o1', o2', o3', o4', ho] at hJ ⊢
      exact hJ
    · refine ⟨[.cells .plain m.cs], ?_⟩
      rw [C_turn (L := f23L0) rfl]
      simp [okM] at ho
      by_cases o1 : m.w < 0
      · simp [f23B0, h0, hg, Mass.cs, o1, okM, show ¬ 0 ≤ m.w by omega]
      by_cases o2 : 4095 < m.w
      · simp [f23B0, h0, hg, Mass.cs, o1, o2, okM, show ¬ m.w ≤ 4095 by omega]
      by_cases o3 : m.e < -64
      · simp [f23B0, h0, hg, Mass.cs, o1, o2, o3, okM, show ¬ -64 ≤ m.e by omega]
      have o4 : 0 < m.e := by omega
      simp [f23B0, h0, hg, Mass.cs, o1, o2, o3, o4, okM, show ¬ m.e ≤ 0 by omega]

theorem L23_1 (l : List Mass) (hl : l.length ≤ 4096) (hok : l.all okM = true) (t : Nat) (tk : Tk) (nn : Bool) (st : St) (K : List Nat) : ∀ (r d : List Mass) (H : List HO) (n : Int), l = d ++ r → -64 * (d.length : Int) ≤ n → n ≤ 4095 * d.length →
    ∃ J, (E tab).C f23L1 [(10, .int .i64 n), (57, .list t 6 tk nn (l.map Mass.dv)), (58, .int .i64 l.length), (59, .int .i64 d.length)] (pst st H K) =
      some (.exit 2, [(10, .int .i64 (runGo d.isEmpty n r)), (57, .list t 6 tk nn (l.map Mass.dv)), (58, .int .i64 l.length), (59, .int .i64 l.length), (60, .bool false)], pst st (H ++ J) K) := by
  intro r
  induction r with
  | nil =>
    intro d H n hd _ _
    refine ⟨[], ?_⟩
    rw [C_turn (L := f23L1) rfl]
    simp [f23B1, hd, runGo]
  | cons m r ih =>
    intro d H n hd h1 h2
    have h0 : d.length < l.length := by simp [hd]
    have hw : IntKind.i64.wrap ((d.length : Int) + 1) = ((d ++ [m]).length : Nat) := by rw [i64w (by omega)]; simp
    have hg : l[d.length] = m := by simp [hd]
    have hm : okM m = true := List.all_eq_true.1 hok m (by simp [hd])
    obtain ⟨o1, o2, o3, o4⟩ : 0 ≤ m.w ∧ m.w ≤ 4095 ∧ -64 ≤ m.e ∧ m.e ≤ 0 := by simpa [okM] using hm
    have hd' : d.length + r.length + 1 = l.length := by simp [hd]; omega
    have hw1 : IntKind.i64.wrap (n + m.w) = n + m.w := i64w (by omega)
    have hw2 : IntKind.i64.wrap (n + m.w + m.e) = n + m.w + m.e := i64w (by omega)
    obtain ⟨J, hJ⟩ := ih (d ++ [m]) (H ++ [.cells .plain m.cs]) (if d.isEmpty then n + m.w else n + m.w + m.e) (by simp [hd]) (by split <;> simp <;> omega) (by split <;> simp <;> omega)
    refine ⟨.cells .plain m.cs :: J, ?_⟩
    have hE : (d ++ [m]).isEmpty = false := by cases d <;> rfl
    rw [hE] at hJ
    rw [C_turn (L := f23L1) rfl]
    by_cases he : d = []
    · subst he
      simp at h0 hg hw
      simp [f23B1, h0, hg, hw, Mass.cs, hw1, runGo] at hJ ⊢
      exact hJ
    · have hp : 0 < d.length := List.length_pos_iff.2 he
      simp [f23B1, h0, hg, hw, Mass.cs, hw1, hw2, runGo, he, hp] at hJ ⊢
      exact hJ

/-- What Natural tells. -/
def natV (l : List Mass) (x y : Int) : DV :=
  if 4096 < l.length then .tuple [.int .i64 0, .int .i64 3] else
  if l.all okM = false then .tuple [.int .i64 0, .int .i64 2] else
  if 0 ≤ x ∧ x ≤ y ∧ y ≤ l.length then .tuple [.int .i64 (runGo true 0 ((l.drop x.toNat).take (y.toNat - x.toNat))), .int .i64 0] else .tuple [.int .i64 0, .int .i64 5]

theorem natural23 (l : List Mass) (x y : Int) (t : Nat) (tk : Tk) (nn : Bool) (st : St) :
    (E tab).F 23 [.list t 6 tk nn (l.map Mass.dv), .int .i64 x, .int .i64 y] st = some (natV l x y, st) := by
  rw [F_run at23 rfl]
  by_cases h1 : 4096 < l.length
  · have h1' : (4096 : Int) < l.length := by omega
    simp [f23, h1', natV, h1]
  have h1' : ¬ (4096 : Int) < l.length := by omega
  obtain ⟨J, hJ⟩ := L23_0 l (by omega) (.int .i64 x) (.int .i64 y) t tk nn st [] l [] [] rfl
  simp at hJ
  by_cases h2 : l.all okM = true
  · rw [List.all_eq_true] at h2
    rw [if_pos h2] at hJ
    rw [← List.all_eq_true] at h2
    by_cases a1 : x < 0
    · simp [f23, h1', natV, h1, hJ, h2, a1, show ¬ 0 ≤ x by omega]
    by_cases a2 : y < x
    · simp [f23, h1', natV, h1, hJ, h2, a1, a2, show ¬ x ≤ y by omega]
    by_cases a3 : l.length < y
    · simp [f23, h1', natV, h1, hJ, h2, a1, a2, a3, show ¬ y ≤ l.length by omega]
    have a4 : sliceD false 6 (.list t 6 tk nn (l.map Mass.dv)) (some (.int .i64 x)) (some (.int .i64 y)) none = _ := slice_ll (fun _ => rfl) (by omega) (by omega) (by simp; omega)
    rw [← List.map_drop, ← List.map_take] at a4
    have hq : ((l.drop x.toNat).take (y.toNat - x.toNat)).all okM = true := by
      rw [List.all_eq_true] at h2 ⊢
      exact fun m hm => h2 m (List.mem_of_mem_drop (List.mem_of_mem_take hm))
    have hl : ((l.drop x.toNat).take (y.toNat - x.toNat)).length ≤ 4096 := by simp; omega
    have hb : 0 ≤ x ∧ x ≤ y ∧ y ≤ l.length := by omega
    obtain ⟨J2, hJ2⟩ := L23_1 _ hl hq t (slTk tk l.length x.toNat y.toNat) nn st [] _ [] J 0 rfl (by simp) (by simp)
    have e1 : min (y.toNat - x.toNat) (l.length - x.toNat) = y.toNat - x.toNat := by omega
    simp [e1] at hJ2 a4
    simp [f23, h1', natV, h1, hJ, h2, a1, a2, a3, a4, hb, hJ2, e1]
  · have h3 : l.all okM = false := by simpa using h2
    rw [List.all_eq_true] at h2
    rw [if_neg h2] at hJ
    simp [f23, h1', natV, h1, hJ, h3]

theorem L24_0 (l : List Mass) (hl : l.length ≤ 4096) (x y : DV) (t : Nat) (tk : Tk) (nn : Bool) (st : St) : ∀ (r d : List Mass), l = d ++ r →
    (E tab).C f24L0 [(0, .list t 6 tk nn (l.map Mass.dv)), (1, x), (2, y), (8, .int .i64 d.length)] st =
      some (if r.all okM then (.exit 0, [(0, .list t 6 tk nn (l.map Mass.dv)), (1, x), (2, y), (8, .int .i64 l.length), (15, .bool false)], st) else (.ret, [(6, .int .i64 0), (7, .int .i64 2)], st)) := by
  intro r
  induction r with
  | nil =>
    intro d hd
    rw [C_turn (L := f24L0) rfl]
    simp [f24B0, hd]
  | cons m r ih =>
    intro d hd
    have h0 : d.length < l.length := by simp [hd]
    have hw : IntKind.i64.wrap ((d.length : Int) + 1) = ((d ++ [m]).length : Nat) := by rw [i64w (by omega)]; simp
    have hg : l[d.length] = m := by simp [hd]
    rw [C_turn (L := f24L0) rfl]
    by_cases ho : okM m = true
    · have hJ := ih (d ++ [m]) (by simp [hd])
      obtain ⟨o1, o2, o3, o4⟩ : 0 ≤ m.w ∧ m.w ≤ 4095 ∧ -64 ≤ m.e ∧ m.e ≤ 0 := by simpa [okM] using ho
      have o1' : ¬ m.w < 0 := by omega
      have o2' : ¬ 4095 < m.w := by omega
      have o3' : ¬ m.e < -64 := by omega
      have o4' : ¬ 0 < m.e := by omega
      simp [f24B0, h0, hg, hw, Mass.cs, o1', o2', o3', o4', ho] at hJ ⊢
      exact hJ
    · simp [okM] at ho
      by_cases o1 : m.w < 0
      · simp [f24B0, h0, hg, Mass.cs, o1, okM, show ¬ 0 ≤ m.w by omega]
      by_cases o2 : 4095 < m.w
      · simp [f24B0, h0, hg, Mass.cs, o1, o2, okM, show ¬ m.w ≤ 4095 by omega]
      by_cases o3 : m.e < -64
      · simp [f24B0, h0, hg, Mass.cs, o1, o2, o3, okM, show ¬ -64 ≤ m.e by omega]
      have o4 : 0 < m.e := by omega
      simp [f24B0, h0, hg, Mass.cs, o1, o2, o3, o4, okM, show ¬ m.e ≤ 0 by omega]

theorem at53 : tab 53 = some (.code f53) := by kernel_rfl

theorem L53_0 (l : List Mass) (hl : l.length ≤ 4096) (hok : l.all okM = true) (x y : Nat) (hy : y ≤ l.length) (t : Nat) (tk : Tk) (nn : Bool) (st : St) : ∀ (k i : Nat) (n : Int), y = i + k → x ≤ i → -64 * (i : Int) ≤ n → n ≤ 4095 * i →
    (E tab).C f53L0 [(0, .list t 6 tk nn (l.map Mass.dv)), (1, .int .i64 x), (2, .int .i64 y), (7, .int .i64 n), (8, .int .i64 i)] st =
      some (.exit 0, [(0, .list t 6 tk nn (l.map Mass.dv)), (1, .int .i64 x), (2, .int .i64 y), (7, .int .i64 (runGo (i == x) n ((l.drop i).take k))), (8, .int .i64 y), (12, .bool false)], st) := by
  intro k
  induction k with
  | zero =>
    intro i n hi _ _ _
    subst hi
    rw [C_turn (L := f53L0) rfl]
    simp [f53B0, runGo]
  | succ k ih =>
    intro i n hi hx h1 h2
    have h0 : i < l.length := by omega
    have h0' : i < y := by omega
    have hw : IntKind.i64.wrap ((i : Int) + 1) = ((i + 1 : Nat) : Int) := by rw [i64w (by omega)]; simp
    have hg : (l.drop i).take (k + 1) = l[i] :: (l.drop (i + 1)).take k := by rw [List.drop_eq_getElem_cons h0, List.take_succ_cons]
    generalize hm : l[i] = m at *
    have ho : okM m = true := List.all_eq_true.1 hok m (by rw [← hm]; exact List.getElem_mem h0)
    obtain ⟨o1, o2, o3, o4⟩ : 0 ≤ m.w ∧ m.w ≤ 4095 ∧ -64 ≤ m.e ∧ m.e ≤ 0 := by simpa [okM] using ho
    have hw1 : IntKind.i64.wrap (n + m.w) = n + m.w := i64w (by omega)
    have hw2 : IntKind.i64.wrap (n + m.w + m.e) = n + m.w + m.e := i64w (by omega)
    have e1 : ((i + 1) == x) = false := by simp; omega
    rw [C_turn (L := f53L0) rfl, hg]
    by_cases he : x = i
    · subst he
      have hJ := ih (x + 1) (n + m.w) (by omega) (by omega) (by omega) (by omega)
      rw [e1] at hJ
      simp [f53B0, h0, h0', hw, hm, Mass.cs, hw1, runGo] at hJ ⊢
      exact hJ
    · have hp : x < i := by omega
      have hJ := ih (i + 1) (n + m.w + m.e) (by omega) (by omega) (by omega) (by omega)
      rw [e1] at hJ
      simp [f53B0, h0, h0', hw, hm, Mass.cs, hw1, hw2, runGo, hp, show ¬ i = x by omega] at hJ ⊢
      exact hJ

theorem run53 (l : List Mass) (hl : l.length ≤ 4096) (hok : l.all okM = true) (x y : Nat) (hx : x ≤ y) (hy : y ≤ l.length) (t : Nat) (tk : Tk) (nn : Bool) (st : St) :
    (E tab).F 53 [.list t 6 tk nn (l.map Mass.dv), .int .i64 x, .int .i64 y] st = some (.int .i64 (runGo true 0 ((l.drop x).take (y - x))), st) := by
  rw [F_run at53 rfl]
  have h := L53_0 l hl hok x y hy t tk nn (pst st [] []) (y - x) x 0 (by omega) (by omega) (by omega) (by omega)
  simp at h
  simp [f53, h]

theorem natural24 (l : List Mass) (x y : Int) (t : Nat) (tk : Tk) (nn : Bool) (st : St) :
    (E tab).F 24 [.list t 6 tk nn (l.map Mass.dv), .int .i64 x, .int .i64 y] st = some (natV l x y, st) := by
  rw [F_run at24 rfl]
  by_cases h1 : 4096 < l.length
  · have h1' : (4096 : Int) < l.length := by omega
    simp [f24, h1', natV, h1]
  have h1' : ¬ (4096 : Int) < l.length := by omega
  have hJ := L24_0 l (by omega) (.int .i64 x) (.int .i64 y) t tk nn (pst st [] []) l [] rfl
  simp at hJ
  by_cases h2 : l.all okM = true
  · rw [List.all_eq_true] at h2
    rw [if_pos h2] at hJ
    rw [← List.all_eq_true] at h2
    by_cases a1 : x < 0
    · simp [f24, h1', natV, h1, hJ, h2, a1, show ¬ 0 ≤ x by omega]
    by_cases a2 : y < x
    · simp [f24, h1', natV, h1, hJ, h2, a1, a2, show ¬ x ≤ y by omega]
    by_cases a3 : l.length < y
    · simp [f24, h1', natV, h1, hJ, h2, a1, a2, a3, show ¬ y ≤ l.length by omega]
    have hb : 0 ≤ x ∧ x ≤ y ∧ y ≤ l.length := by omega
    have hr := run53 l (by omega) h2 x.toNat y.toNat (by omega) (by omega) t tk nn (pst st [] [])
    rw [Int.toNat_of_nonneg hb.1, Int.toNat_of_nonneg (by omega)] at hr
    simp [f24, h1', natV, h1, hJ, h2, a1, a2, a3, hb, hr]
  · have h3 : l.all okM = false := by simpa using h2
    rw [List.all_eq_true] at h2
    rw [if_neg h2] at hJ
    simp [f24, h1', natV, h1, hJ, h3]

theorem L12_0 (l : List Mass) (hl : (l.length : Int) ≤ 9223372036854775806) (t t' : Nat) (tk tk' : Tk) (nn nn' : Bool) (st : St) : ∀ (r d : List Mass), l = d ++ r →
    (E tab).C f12L0 [(0, .list t 6 tk nn (l.map Mass.dv)), (1, .list t' 6 tk' nn' (l.map Mass.dv)), (5, .int .i64 d.length)] st =
      some (.exit 0, [(0, .list t 6 tk nn (l.map Mass.dv)), (1, .list t' 6 tk' nn' (l.map Mass.dv)), (5, .int .i64 l.length), (14, .bool false)], st) := by
  intro r
  induction r with
  | nil =>
    intro d hd
    rw [C_turn (L := f12L0) rfl]
    simp [f12B0, hd]
  | cons m r ih =>
    intro d hd
    have h0 : d.length < l.length := by simp [hd]
    have hw : IntKind.i64.wrap ((d.length : Int) + 1) = ((d ++ [m]).length : Nat) := by rw [i64w (by omega)]; simp
    have hg : l[d.length] = m := by simp [hd]
    rw [C_turn (L := f12L0) rfl]
    have hJ := ih (d ++ [m]) (by simp [hd])
    simp [f12B0, h0, hg, hw, Mass.cs, eqD, leavesEq, scalEq] at hJ ⊢
    exact hJ

theorem same12 (l : List Mass) (hl : (l.length : Int) ≤ 9223372036854775806) (t t' : Nat) (tk tk' : Tk) (nn nn' : Bool) (st : St) :
    (E tab).F 12 [.list t 6 tk nn (l.map Mass.dv), .list t' 6 tk' nn' (l.map Mass.dv)] st = some (.bool true, st) := by
  rw [F_run at12 rfl]
  have h := L12_0 l hl t t' tk tk' nn nn' (pst st [] []) l [] rfl
  simp at h
  simp [f12, h]

/-! The law -/
def shMass : List Sh := [.int .i64, .int .i64, .int .i64, .int .i64, .int .i64, .int .i64]
def lawSh : List (Bool × List Sh) := [(false, [.list true 48 shMass]), (false, [.int .i64]), (false, [.int .i64])]

theorem fit_mass {vs : List DV} (h : FitFs shMass vs) : ∃ m : Mass, vs = m.cs := by
  obtain ⟨_, _, rfl, ⟨a, rfl, _⟩, _, _, rfl, ⟨b, rfl, _⟩, _, _, rfl, ⟨c, rfl, _⟩, _, _, rfl, ⟨d, rfl, _⟩, _, _, rfl, ⟨e, rfl, _⟩, _, _, rfl, ⟨f, rfl, _⟩, rfl⟩ := h
  exact ⟨⟨a, b, c, d, e, f⟩, rfl⟩

theorem list_of {α : Type} {f : α → DV} : ∀ {xs : List DV}, (∀ x ∈ xs, ∃ a, x = f a) → ∃ l : List α, xs = l.map f
  | [], _ => ⟨[], rfl⟩
  | x :: r, h => by
    obtain ⟨a, rfl⟩ := h x (List.mem_cons_self ..)
    obtain ⟨l, rfl⟩ := list_of fun y hy => h y (List.mem_cons_of_mem _ hy)
    exact ⟨a :: l, rfl⟩

theorem el_mass (m : Mass) : IsEl 6 true m.dv := ⟨rfl, rfl, rfl⟩

theorem natV_two (l : List Mass) (x y : Int) : ∃ p q : Int, natV l x y = .tuple [.int .i64 p, .int .i64 q] := by
  unfold natV
  repeat' split
  all_goals exact ⟨_, _, rfl⟩

theorem law_run (us : List DV) (hf : FitAll lawSh us) : ∃ st', (E tab).F 5 us st0 = some (.bool true, st') := by
  obtain ⟨_, _, rfl, ⟨_, _, rfl, ⟨nn, xs, rfl, hnn, hmax, hlen, hxs⟩, rfl⟩, _, _, rfl, ⟨_, _, rfl, ⟨x, rfl, hx⟩, rfl⟩, _, _, rfl, ⟨_, _, rfl, ⟨y, rfl, hy⟩, rfl⟩, rfl⟩ := hf
  obtain ⟨l, rfl⟩ : ∃ l : List Mass, xs = l.map Mass.dv := list_of fun x hx => by
    obtain ⟨vs, h1, rfl⟩ := hxs x hx
    obtain ⟨m, rfl⟩ := fit_mass h1
    exact ⟨m, rfl⟩
  refine ⟨st0, ?_⟩
  rw [F_run at5 rfl]
  simp at hlen
  have hb : l.length ≤ 2932031007317 := by unfold reachBytes at hlen; omega
  obtain ⟨p, q, hpq⟩ := natV_two l x y
  simp only [elemOf, List.headD_cons, Bool.false_eq_true, if_false, show shMass.length = 6 from rfl]
  by_cases he : l = []
  · subst he
    have h1 := fun t tk st => natural23 [] x y t tk true st
    have h2 := fun t tk st => natural24 [] x y t tk nn st
    have h3 := fun t t' tk tk' st => same12 [] (by simp) t t' tk tk' true nn st
    have h4 : ∀ st : St, newsD st 6 (.list 0 6 .no nn []) = some (0, []) := fun st => by cases nn <;> rfl
    have h5 := fun st t => app_none (st := st) (n := 6) (n' := 6) (t := t) (by_ := 48) (ag := true) (tk := .tight) (nn := true) (xs := []) (h4 st)
    simp at h1 h2 h3
    simp [f5, op_lit, repl, fillD, chunk, h1, h2, h3, h5, hpq, awake_run]
  · obtain rfl : nn = true := by
      cases nn with
      | true => rfl
      | false => exact absurd (by simpa using hnn rfl) he
    have h5 := fun st t => app_new (st := st) (H := []) (K := []) (n := 6) (n' := 6) (t := t) (t' := 0) (by_ := 48) (ag := true) (tk := .tight) (tk' := .no) (nn := true) (xs := []) (ys := l.map Mass.dv) (.inr ⟨rfl, rfl, rfl⟩) (by omega) (by simpa using he) (fun y hy => by
      obtain ⟨m, _, rfl⟩ := List.mem_map.1 hy; exact el_mass m) (by simp [roomD]; omega) (by simp [roomD]; omega)
    have h1 := fun t tk st => natural23 l x y t tk true st
    have h2 := fun t tk st => natural24 l x y t tk true st
    have h3 := fun t t' tk tk' st => same12 l (by omega) t t' tk tk' true true st
    simp [f5, op_lit, repl, fillD, chunk, h1, h2, h3, h5, hpq, awake_run]


end Go.D.Tab
