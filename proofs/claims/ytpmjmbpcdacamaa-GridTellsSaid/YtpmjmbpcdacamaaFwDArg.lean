/-
Arguments that lie in memory: lists of flat values, and structs of them.
-/
import Derived.Test.YtpmjmbpcdacamaaFwDOver
import Derived.ChangeArms
import Derived.DataReads
import Derived.OpenShut
import Derived.SizedLaws
namespace Go.D
open Go.RowKit

variable {P : Program} {fm : FM}

/-- All that lies in a world may be read. -/
def ghA (w : World) : Gh := { gh0 w with ro := fun r i => match w.heap[r]? with | some (.cells cs _ _) => cs[i]? | _ => none }

theorem ghA_ro {w : World} {r i : Nat} {v : Value} (h : (ghA w).ro r i = some v) : ∃ cs t fz, w.heap[r]? = some (.cells cs t fz) ∧ cs[i]? = some v := by
  simp only [ghA] at h
  split at h
  · rename_i cs t fz e; exact ⟨cs, t, fz, e, h⟩
  · cases h

theorem simA (CR : Nat → RC → Code → Prop) (w : World) (he : EnvIn fm w) : Sim fm CR (ghA w) w st0 w where
  muDom := fun b r h => by cases h
  muInj := fun b b' o o' r h => by simp [st0] at h
  obj := fun b o h => by simp [st0] at h
  ro := fun r i v h => ghA_ro h
  roMu := fun r i v b o _ h => by simp [st0] at h
  tok := fun t s h => by simp [st0] at h
  tokInj := fun t t' s s' x x' h => by simp [st0] at h
  hist := fun t s x h => by cases h
  dfr := fun r h => h.elim
  lps := fun r h => h.elim
  floorLe := Nat.le_refl _
  below := Below.refl _ w
  base := rfl
  tbase := rfl
  baseLe := Nat.zero_le _
  pend := fun b o h => by cases h
  env := he

/-- A law whose run tells true, of arguments that lie in the world. -/
theorem law_calls_in {T : Tab} (hT : TabRel P fm T) (hm : P.follows .mixedOrders = true) {g : Nat} {f : FuncId} {F : RFunc} {st' : St} {args : List DV} {args' : Array Value} (hg : T g = some (.code F)) (hf : fm g = some f)
    (hrun : (E T).F g args st0 = some (.bool true, st')) (w : World) (he : EnvIn fm w) (ha : RelsA fm (ghA w) args args') :
    Calls P f args' w (fun e w' => e = .returned (.bool true) ∧ Below w.heap.size w w') := by
  obtain ⟨n, h⟩ := callF_E hrun
  have hc : isCode T g = true := by unfold isCode; rw [hg]
  have h := calls_of_callF hT hm hf h (simA (fm := fm) (CRel P fm T) w he) ha hc (enter_of (hT g _ f hg hf))
  refine h.mono ?_
  rintro e w' ⟨x, rfl, G', hle, hs, hx⟩
  cases hx
  have := hs.below
  rw [hle.floor] at this
  exact ⟨rfl, this⟩

theorem cell_ro {w : World} {a : Addr} {v : Value} (h : w.cell? a = some v) : a.spot = none ∧ (ghA w).ro a.block a.off = some v := by
  unfold World.cell? at h
  split at h
  · rename_i c t fz e
    split at h
    · cases h
    · rename_i hs
      refine ⟨by simpa using hs, ?_⟩
      simp only [ghA]
      rw [e]; exact h
  · cases h

/-- What cells a type's values fill. -/
inductive Sh where
  | bool
  | int (k : IntKind)
  | str
  | list (ag : Bool) (z : Nat) (e : List Sh)

def Sh.flat : Sh → Bool
  | .list _ _ _ => false
  | _ => true

/-- A row of values, as an element. -/
def elemOf (ag : Bool) (vs : List DV) : DV := if ag then .agg vs else vs.headD .undef

def FitF : Sh → DV → Prop
  | .bool, v => ∃ b, v = .bool b
  | .int k, v => ∃ n, v = .int k n ∧ (Lit.int k n).wf = true
  | .str, v => ∃ s, v = .str s ∧ s.length ≤ reachBytes
  | .list _ _ _, _ => False

def FitFs : List Sh → List DV → Prop
  | [], vs => vs = []
  | s :: ss, vs => ∃ v r, vs = v :: r ∧ FitF s v ∧ FitFs ss r

def Fit : Sh → DV → Prop
  | .list ag z e, v => ∃ nn xs, v = .list 0 e.length .no nn xs ∧ (nn = false → xs = []) ∧ (xs.length : Int) ≤ maxLen ∧ xs.length * z ≤ reachBytes ∧ ∀ x ∈ xs, ∃ vs, FitFs e vs ∧ x = elemOf ag vs
  | s, v => FitF s v

def Fits : List Sh → List DV → Prop
  | [], vs => vs = []
  | s :: ss, vs => ∃ v r, vs = v :: r ∧ Fit s v ∧ Fits ss r

/-- One row behind the other. -/
def contig : Nat → List (Nat × Nat × List Sh) → Option (List Sh)
  | _, [] => some []
  | k, (off, c, s) :: r => if off = k ∧ s.length = c then (contig (k + c) r).map (s ++ ·) else none

def isAggT (P : Program) (t : TypeId) : Bool := match P.underlying t with | some (.struct _) | some (.array _ _) => true | _ => false

/-- A type's cells; 'top': lists may be among them. -/
def shOf (P : Program) : Nat → Bool → TypeId → Option (List Sh)
  | 0, _, _ => none
  | n + 1, top, t =>
    match P.underlying t with
    | some .bool => some [.bool]
    | some (.int k) => some [.int k]
    | some .string => some [.str]
    | some (.slice e) =>
      match top, shOf P n false e with
      | true, some s => if s.length = P.cellsOf e ∧ 0 < s.length ∧ s.all Sh.flat = true ∧ (isAggT P e = true ∨ s.length = 1) then some [.list (isAggT P e) (P.bytesOf e) s] else none
      | _, _ => none
    | some (.struct fs) =>
      match fs.toList.mapM (fun f => (shOf P n top f.type).map fun s => (f.offset, P.cellsOf f.type, s)) with
      | some l => match contig 0 l with | some s => if s.length = P.cellsOf t then some s else none | none => none
      | none => none
    | some (.array m e) =>
      match shOf P n top e with
      | some s => match contig 0 ((List.range m).map fun i => (i * P.cellsOf e, P.cellsOf e, s)) with | some s => if s.length = P.cellsOf t then some s else none | none => none
      | none => none
    | _ => none

theorem Fits.append : ∀ {a b : List Sh} {vs us : List DV}, Fits a vs → Fits b us → Fits (a ++ b) (vs ++ us)
  | [], b, vs, us, h, k => by cases h; exact k
  | s :: ss, b, vs, us, h, k => by
    obtain ⟨v, r, rfl, h1, h2⟩ := h
    exact ⟨v, r ++ us, rfl, h1, h2.append k⟩

theorem Fits.length : ∀ {a : List Sh} {vs : List DV}, Fits a vs → vs.length = a.length
  | [], vs, h => by cases h; rfl
  | s :: ss, vs, h => by
    obtain ⟨v, r, rfl, _, h2⟩ := h
    simp [h2.length]

theorem FitFs.length : ∀ {a : List Sh} {vs : List DV}, FitFs a vs → vs.length = a.length
  | [], vs, h => by cases h; rfl
  | s :: ss, vs, h => by
    obtain ⟨v, r, rfl, _, h2⟩ := h
    simp [h2.length]

theorem Fits.toF : ∀ {a : List Sh} {vs : List DV}, a.all Sh.flat = true → Fits a vs → FitFs a vs
  | [], vs, _, h => h
  | s :: ss, vs, hf, h => by
    rw [List.all_cons, Bool.and_eq_true] at hf
    obtain ⟨v, r, rfl, h1, h2⟩ := h
    refine ⟨v, r, rfl, ?_, h2.toF hf.2⟩
    cases s <;> first | exact h1 | (simp [Sh.flat] at hf)

theorem FitF.leaf {s : Sh} {v : DV} (h : FitF s v) : v.leaves = [v] ∧ v.pure = true := by
  cases s <;> simp only [FitF] at h
  · obtain ⟨b, rfl⟩ := h; exact ⟨rfl, rfl⟩
  · obtain ⟨n, rfl, _⟩ := h; exact ⟨rfl, rfl⟩
  · obtain ⟨n, rfl, _⟩ := h; exact ⟨rfl, rfl⟩

theorem FitFs.pure : ∀ {a : List Sh} {vs : List DV}, FitFs a vs → vs.all DV.pure = true
  | [], vs, h => by cases h; rfl
  | s :: ss, vs, h => by
    obtain ⟨v, r, rfl, h1, h2⟩ := h
    simp [h1.leaf.2, h2.pure]

theorem elemOf_leaves {ag : Bool} {e : List Sh} {vs : List DV} (h : FitFs e vs) (ha : ag = true ∨ e.length = 1) : (elemOf ag vs).leaves = vs := by
  cases ag with
  | true => rfl
  | false =>
    have hl : e.length = 1 := by simpa using ha
    match e, vs, h, hl with
    | [s], _, ⟨v, r, rfl, h1, h2⟩, _ =>
      cases h2
      exact h1.leaf.1

/-- What cells stand for, read. -/
def Reads (fm : FM) (w : World) (vs : List DV) (cs : List Value) : Prop := cs.length = vs.length ∧ ∀ i (h : i < vs.length), Rel fm (ghA w) (vs[i]) (cs.getD i undef)

theorem Reads.append {w : World} {vs us : List DV} {cs ds : List Value} (h : Reads fm w vs cs) (k : Reads fm w us ds) : Reads fm w (vs ++ us) (cs ++ ds) := by
  refine ⟨by simp [h.1, k.1], fun i hi => ?_⟩
  by_cases hv : i < vs.length
  · have e1 : (vs ++ us)[i] = vs[i] := List.getElem_append_left hv
    have e2 : (cs ++ ds).getD i undef = cs.getD i undef := by
      rw [List.getD_eq_getElem?_getD, List.getD_eq_getElem?_getD, List.getElem?_append_left (by rw [h.1]; exact hv)]
    rw [e1, e2]; exact h.2 i hv
  · have hu : i - vs.length < us.length := by simp at hi; omega
    have e1 : (vs ++ us)[i] = us[i - vs.length] := List.getElem_append_right (by omega)
    have e2 : (cs ++ ds).getD i undef = ds.getD (i - vs.length) undef := by
      rw [List.getD_eq_getElem?_getD, List.getD_eq_getElem?_getD, List.getElem?_append_right (by rw [h.1]; omega), h.1]
    rw [e1, e2]; exact k.2 _ hu

theorem flat_rows {c : Nat} (g : Nat → List DV) (ag : Bool) (hg : ∀ i, (elemOf ag (g i)).leaves = g i) : ∀ (len : Nat), (∀ i, i < len → (g i).length = c) →
    (flat ((List.range len).map fun i => elemOf ag (g i))).length = len * c ∧ ∀ i k, i < len → k < c → (flat ((List.range len).map fun i => elemOf ag (g i)))[i * c + k]? = (g i)[k]?
  | 0, _ => by simp [flat]
  | len + 1, h => by
    obtain ⟨h1, h2⟩ := flat_rows g ag hg len fun i hi => h i (by omega)
    have e : flat ((List.range (len + 1)).map fun i => elemOf ag (g i)) = flat ((List.range len).map fun i => elemOf ag (g i)) ++ g len := by
      rw [List.range_succ]
      simp [flat, hg]
    rw [e]
    refine ⟨by simp [h1, h len (by omega), Nat.succ_mul], fun i k hi hk => ?_⟩
    by_cases hl : i < len
    · have : i * c + k < len * c := by
        have : (i + 1) * c ≤ len * c := Nat.mul_le_mul_right _ hl
        rw [Nat.succ_mul] at this
        omega
      rw [List.getElem?_append_left (by rw [h1]; exact this)]
      exact h2 i k hl hk
    · obtain rfl : i = len := by omega
      rw [List.getElem?_append_right (by rw [h1]; omega), h1]
      congr 1
      omega

section
variable {H : Type} {enc : TypeId × Value → H} {w : World} {base : Nat} {sp : Nat → Bool} {held : Bool}

/-- No list among these cells begins within a place. -/
def NoSpot (cs : List Value) : Prop := ∀ a len cap, Value.slice (some a) len cap ∈ cs → a.spot = none

theorem contig_read : ∀ (l : List (Nat × Nat × List Sh)) (k : Nat) (s : List Sh) (cs : List Value), contig k l = some s → k + s.length = cs.length →
    (∀ (off c : Nat) (s : List Sh), (off, c, s) ∈ l → ∃ vs, Fits s vs ∧ Reads fm w vs ((cs.drop off).take c)) → ∃ vs, Fits s vs ∧ Reads fm w vs (cs.drop k)
  | [], k, s, cs, h, hl, _ => by
    cases h
    refine ⟨[], rfl, ?_, fun i hi => by simp at hi⟩
    simp at hl ⊢
    omega
  | (off, c, s0) :: r, k, s, cs, h, hl, hr => by
    simp only [contig] at h
    split at h
    · rename_i hc
      obtain ⟨rfl, rfl⟩ := hc
      simp only [Option.map_eq_some_iff] at h
      obtain ⟨s1, h1, rfl⟩ := h
      rw [List.length_append] at hl
      obtain ⟨us, hu1, hu2⟩ := contig_read r _ s1 cs h1 (by omega) fun off c s hm => hr off c s (List.mem_cons_of_mem _ hm)
      obtain ⟨vs, hv1, hv2⟩ := hr off s0.length s0 (List.mem_cons_self ..)
      refine ⟨vs ++ us, hv1.append hu1, ?_⟩
      have e : cs.drop off = (cs.drop off).take s0.length ++ cs.drop (off + s0.length) := by
        rw [← List.drop_drop, List.take_append_drop]
      rw [e]
      exact hv2.append hu2
    · cases h

theorem mem_mapM {α β : Type} {f : α → Option β} : ∀ {l : List α} {r : List β}, l.mapM f = some r → ∀ y ∈ r, ∃ (i : Nat) (x : α), l[i]? = some x ∧ f x = some y
  | [], r, h, y, hy => by
    have : r = [] := by simpa using h.symm
    subst this; cases hy
  | a :: l, r, h, y, hy => by
    simp only [List.mapM_cons, Option.bind_eq_bind, Option.bind_eq_some_iff, Option.pure_def, Option.some.injEq] at h
    obtain ⟨b, hb, r', hr', rfl⟩ := h
    rcases List.mem_cons.1 hy with rfl | hy
    · exact ⟨0, a, rfl, hb⟩
    · obtain ⟨i, x, h1, h2⟩ := mem_mapM hr' y hy
      exact ⟨i + 1, x, h1, h2⟩

theorem mem_weightsAll {e : TypeId} : ∀ {l : List (DataW H)} {d : DataW H} {k : Nat}, d ∈ l → k ∈ d.weights P e → k ∈ DataW.weightsAll P e l
  | a :: r, d, k, h, hk => by
    simp only [DataW.weightsAll, List.mem_append]
    rcases List.mem_cons.1 h with rfl | h
    · exact .inl hk
    · exact .inr (mem_weightsAll h hk)

theorem read_ok : ∀ (n : Nat) (top : Bool) (t : TypeId) (ss : List Sh), shOf P n top t = some ss → ∀ (fuel : Nat) (cs : List Value) (x : DataW H × List MemPlace),
    DataW.trod enc P w base sp held fuel t cs = some x → (∀ k ∈ DataW.weights P t x.1, k ≤ reachBytes) → (top = true → NoSpot cs) → ∃ vs, Fits ss vs ∧ Reads fm w vs cs := by
  intro n
  induction n with
  | zero => intro top t ss h; cases h
  | succ n ih =>
    intro top t ss h fuel cs x hx hwt hsp
    simp only [shOf] at h
    split at h
    · rename_i hu
      cases h
      obtain ⟨b, rfl, _⟩ := DataW.trod_bool hu hx
      exact ⟨[.bool b], ⟨_, _, rfl, ⟨b, rfl⟩, rfl⟩, rfl, fun i hi => by
        have : i = 0 := by simpa using hi
        subst this; exact .bool b⟩
    · rename_i k hu
      cases h
      obtain ⟨m, rfl, _, hw⟩ := DataW.trod_int hu hx
      exact ⟨[.int k m], ⟨_, _, rfl, ⟨m, rfl, hw⟩, rfl⟩, rfl, fun i hi => by
        have : i = 0 := by simpa using hi
        subst this; exact .int k m⟩
    · rename_i hu
      cases h
      obtain ⟨s, rfl, rfl, hw⟩ := DataW.trod_string hu hx
      exact ⟨[.str s.data.toList], ⟨_, _, rfl, ⟨_, rfl, hwt _ (by simp [DataW.weights])⟩, rfl⟩, rfl, fun i hi => by
        have : i = 0 := by simpa using hi
        subst this; exact .str _ s rfl⟩
    · rename_i e hu
      split at h
      · rename_i s hs
        split at h
        · rename_i hc
          obtain ⟨hc1, hc2, hc3, hc4⟩ := hc
          cases h
          rcases DataW.trod_slice hu hx with ⟨rfl, _⟩ | ⟨a, len, cap, elems, rest, m, _, rfl, hxe, _, hl, hcap, hel, heach, _⟩
          · exact ⟨[.list 0 s.length .no false []], ⟨_, _, rfl, ⟨false, [], rfl, fun _ => rfl, by simp [maxLen], by simp, fun x hx => by cases hx⟩, rfl⟩, rfl, fun i hi => by
              have : i = 0 := by simpa using hi
              subst this; exact .nils 0 s.length .no⟩
          · have each : ∀ i, i < len → ∃ vs cs', FitFs s vs ∧ Reads fm w vs cs' ∧ w.cells? base (a.add (i * P.cellsOf e)) (P.cellsOf e) = some cs' := by
              intro i hi
              have := heach i hi
              rw [List.getElem?_eq_getElem (by omega)] at this
              obtain ⟨cs', h1, h2⟩ := Option.bind_eq_some_iff.1 this
              obtain ⟨vs, h3, h4⟩ := ih false e s hs m cs' _ h2 (fun k hk => hwt k (by
                rw [hxe]
                simp only [DataW.weights, hu, List.mem_cons, List.mem_append]
                exact .inr (.inl (mem_weightsAll (List.mem_map.2 ⟨_, List.getElem_mem _, rfl⟩) hk)))) (fun h => by cases h)
              exact ⟨vs, cs', h3.toF hc3, h4, h1⟩
            have ⟨g, hg⟩ : ∃ g : Nat → List DV, ∀ i, FitFs s (g i) ∧ (i < len → ∃ cs', Reads fm w (g i) cs' ∧ w.cells? base (a.add (i * P.cellsOf e)) (P.cellsOf e) = some cs') := by
              have dflt : ∃ vs, FitFs s vs := by
                clear hc1 hc2 hc4 each hs
                induction s with
                | nil => exact ⟨[], rfl⟩
                | cons s r ihs =>
                  rw [List.all_cons, Bool.and_eq_true] at hc3
                  obtain ⟨vs, hvs⟩ := ihs hc3.2
                  cases s with
                  | bool => exact ⟨.bool true :: vs, _, _, rfl, ⟨_, rfl⟩, hvs⟩
                  | int k => exact ⟨.int k (k.wrap 0) :: vs, _, _, rfl, ⟨_, rfl, wf_wrap k 0⟩, hvs⟩
                  | str => exact ⟨.str [] :: vs, _, _, rfl, ⟨_, rfl, by simp [reachBytes]⟩, hvs⟩
                  | list a b c => simp [Sh.flat] at hc3
              classical
              refine ⟨fun i => if h : i < len then Classical.choose (each i h) else Classical.choose dflt, fun i => ?_⟩
              by_cases h : i < len
              · obtain ⟨cs', h1, h2, h3⟩ := Classical.choose_spec (each i h)
                simp only [h, dif_pos]
                exact ⟨h1, fun _ => ⟨cs', h2, h3⟩⟩
              · simp only [h, dif_neg, not_false_iff]
                exact ⟨Classical.choose_spec dflt, fun h' => absurd h' (by first | exact h | simp)⟩
            have hleaf : ∀ i, (elemOf (isAggT P e) (g i)).leaves = g i := fun i => elemOf_leaves (hg i).1 hc4
            obtain ⟨f1, f2⟩ := flat_rows (c := s.length) g (isAggT P e) hleaf len fun i _ => (hg i).1.length
            have hspot : a.spot = none := hsp rfl a len cap (by simp)
            have key : ∀ j, j < len * s.length → ∃ v, (ghA w).ro a.block (a.off + j) = some v ∧ ∃ u, (flat ((List.range len).map fun i => elemOf (isAggT P e) (g i)))[j]? = some u ∧ Rel fm (ghA w) u v := by
              intro j hj
              have hi : j / s.length < len := (Nat.div_lt_iff_lt_mul hc2).2 hj
              have hk : j % s.length < s.length := Nat.mod_lt _ hc2
              have hj2 : j / s.length * s.length + j % s.length = j := by rw [Nat.mul_comm]; exact Nat.div_add_mod _ _
              obtain ⟨cs', r1, r2⟩ := (hg (j / s.length)).2 hi
              obtain ⟨_, r3, r4⟩ := World.cells?_some r2
              have hlen : (g (j / s.length)).length = s.length := (hg _).1.length
              have r5 := r4 (j % s.length) (by rw [← hc1]; exact hk)
              rw [List.getElem?_eq_getElem (by rw [r1.1, hlen]; exact hk)] at r5
              obtain ⟨_, r6⟩ := cell_ro r5
              have hadd : ((a.add (j / s.length * P.cellsOf e)).add (j % s.length)).block = a.block ∧ ((a.add (j / s.length * P.cellsOf e)).add (j % s.length)).off = a.off + j := by
                rw [← hc1]
                unfold Addr.add
                constructor <;> (repeat' split) <;> simp_all <;> omega
              rw [hadd.1, hadd.2] at r6
              refine ⟨_, r6, (g (j / s.length))[j % s.length]'(by rw [hlen]; exact hk), ?_, ?_⟩
              · rw [← List.getElem?_eq_getElem, ← f2 _ _ hi hk, hj2]
              · have := r1.2 (j % s.length) (by rw [hlen]; exact hk)
                rw [List.getD_eq_getElem?_getD, List.getElem?_eq_getElem (by rw [r1.1, hlen]; exact hk)] at this
                exact this
            refine ⟨[.list 0 s.length .no true ((List.range len).map fun i => elemOf (isAggT P e) (g i))], ⟨_, _, rfl, ⟨true, _, rfl, (fun h => by cases h), ?_, ?_, ?_⟩, rfl⟩, rfl, fun i hi => ?_⟩
            · simp only [List.length_map, List.length_range]; exact_mod_cast Nat.le_trans hl hcap
            · simp only [List.length_map, List.length_range]
              refine Nat.le_trans ?_ (hwt ((elems.length + rest.length) * P.bytesOf e) (by rw [hxe]; simp [DataW.weights, hu]))
              exact Nat.mul_le_mul_right _ (by omega)
            · intro x hx
              obtain ⟨i, _, rfl⟩ := List.mem_map.1 hx
              exact ⟨g i, (hg i).1, rfl⟩
            · have : i = 0 := by simpa using hi
              subst this
              obtain ⟨r, off, spot⟩ := a
              simp only at hspot
              subst hspot
              have := Rel.list (fm := fm) (G := ghA w) 0 s.length .no ((List.range len).map fun i => elemOf (isAggT P e) (g i)) r off cap (fun j => ((ghA w).ro r (off + j)).getD undef) ?_ ?_ ?_ trivial (by simpa using hl) ?_
              · simp only [List.length_map, List.length_range] at this
                exact this
              · intro j hj
                rw [f1] at hj
                obtain ⟨v, k1, _⟩ := key j hj
                simp only at k1
                rw [k1]; rfl
              · intro j hj
                have hj' := hj
                rw [f1] at hj'
                obtain ⟨v, k1, u, k2, k3⟩ := key j hj'
                simp only at k1
                rw [List.getElem?_eq_getElem hj] at k2
                injection k2 with k2
                rw [k2, k1]; exact k3
              · rw [List.all_eq_true]
                intro u hu
                unfold flat at hu
                obtain ⟨y, hy, hu⟩ := List.mem_flatMap.1 hu
                obtain ⟨i, _, rfl⟩ := List.mem_map.1 hy
                rw [hleaf] at hu
                exact List.all_eq_true.1 (hg i).1.pure _ hu
              · intro y hy
                obtain ⟨i, _, rfl⟩ := List.mem_map.1 hy
                rw [hleaf]
                exact (hg i).1.length
        · cases h
      · cases h
    · rename_i fs hu
      split at h
      · rename_i l hl
        split at h
        · rename_i s hs
          split at h
          · rename_i hlen
            cases h
            obtain ⟨xs, m, _, hxe, h1, h2, h3⟩ := DataW.trod_struct hu hx
            have := contig_read (fm := fm) (w := w) l 0 ss cs hs (by rw [h1, hlen]; omega) ?_
            · simpa using this
            · intro off c s0 hm
              obtain ⟨i, f, hi, hf⟩ := mem_mapM hl _ hm
              simp only [Option.map_eq_some_iff, Prod.mk.injEq] at hf
              obtain ⟨s1, e1, rfl, rfl, rfl⟩ := hf
              have hi2 : fs[i]? = some f := by simpa using hi
              have := h3 i f hi2
              have hlt : i < xs.length := by
                rw [h2]
                exact (Array.getElem?_eq_some_iff.1 hi2).1
              rw [List.getElem?_eq_getElem hlt] at this
              refine ih top f.type s1 e1 m _ _ this (fun k hk => hwt k (by
                rw [hxe]
                simp only [DataW.weights, hu]
                exact DataW.weights_mem_each (j := i) (t := f.type) (by simp [hi2]) (by rw [List.getElem?_map, List.getElem?_eq_getElem hlt]; rfl) k hk)) fun ht a len cap hmem => hsp ht a len cap ?_
              exact List.mem_of_mem_drop (List.mem_of_mem_take hmem)
          · cases h
        · cases h
      · cases h
    · rename_i m e hu
      split at h
      · rename_i s0 hs0
        split at h
        · rename_i s hs
          split at h
          · rename_i hlen
            cases h
            obtain ⟨xs, k, _, hxe, h1, h2, h3⟩ := DataW.trod_array hu hx
            have := contig_read (fm := fm) (w := w) _ 0 ss cs hs (by rw [h1, hlen]; omega) ?_
            · simpa using this
            · intro off c s1 hm
              obtain ⟨i, hi, e1⟩ := List.mem_map.1 hm
              cases e1
              have := h3 i (List.mem_range.1 hi)
              rw [List.getElem?_eq_getElem (by rw [h2]; exact List.mem_range.1 hi)] at this
              refine ih top e s0 hs0 k _ _ this (fun q hq => hwt q (by
                rw [hxe]
                simp only [DataW.weights, hu]
                exact mem_weightsAll (List.mem_map.2 ⟨_, List.getElem_mem _, rfl⟩) hq)) fun ht a len cap hmem => hsp ht a len cap ?_
              exact List.mem_of_mem_drop (List.mem_of_mem_take hmem)
          · cases h
        · cases h
      · cases h
    · cases h
end

end Go.D
