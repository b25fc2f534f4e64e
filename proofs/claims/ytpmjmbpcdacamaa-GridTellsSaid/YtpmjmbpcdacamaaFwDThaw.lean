/-
A call whose result's list is handed on as a row that may be written over: the function was run by itself, from nothing; what it laid and owns alone becomes the caller's.
-/
import Derived.Test.YtpmjmbpcdacamaaFwDArg2
namespace Go.D
open Go.RowKit

variable {P : Program} {fm : FM}

/-- A value that hangs on no memory. -/
def DV.bareLeaf : DV → Bool
  | .bool _ | .int _ _ | .str _ | .nilp | .nilmap | .nilfn | .niliface => true
  | _ => false

theorem Rel.bareTo {G G' : Gh} {v : DV} {x : Value} (k : Rel fm G v x) (h : v.bareLeaf = true) : Rel fm G' v x := by
  cases k <;> first | (cases h; done) | skip
  · exact .bool _
  · exact .int _ _
  · exact .str _ _ (by assumption)
  · exact .nilp
  · exact .nilmap
  · exact .nilfn
  · exact .niliface

theorem bareLeaf_scal {v : DV} (h : v.bareLeaf = true) : v.scal = true := by cases v <;> first | rfl | cases h

/-- A list that is owned, made a row of the caller's heap. -/
def thawV (ag : Bool) (st st2 : St) : DV → Option (DV × St)
  | .list _ n (.own t s) true xs => if st2.toks[t]? = some s ∧ (flat xs).all DV.bareLeaf = true then some (.hsl n ag st.heap.length 0 xs.length none, st.push (.cells .grown (flat xs))) else none
  | .list tag n tk false [] => some (.list tag n tk false [], st)
  | .hsl n _ b 0 len (some c) =>
    match st2.heap[b]? with
    | some (.cells .plain vs) => if vs.all DV.bareLeaf = true ∧ c * n = vs.length ∧ len ≤ c then some (.hsl n ag st.heap.length 0 len (some c), st.push (.cells .plain vs)) else none
    | _ => none
  | v => if v.bareLeaf = true then some (v, st) else none

def thawT (ag : Bool) (st st2 : St) : DV → Option (DV × St)
  | .tuple (v :: r) => if r.all DV.bareLeaf = true then (thawV ag st st2 v).map fun p => (.tuple (p.1 :: r), p.2) else none
  | v => thawV ag st st2 v

section
variable {CR CR' : Nat → RC → Code → Prop} {G G1 : Gh} {w0 w w' : World} {st st2 : St}

/-- The caller's ghost behind such a call: a row more. -/
def Gh.thaw (G : Gh) (w w' : World) (b r z : Nat) : Gh :=
  { G.shut w w' with ro := fun r' i => if r' = r then none else (G.shut w w').ro r' i, mu := fun b' => if b' = b then some r else G.mu b', gsz := fun b' => if b' = b then z else G.gsz b' }

theorem thaw_obj (hs : Sim fm CR G w0 st w) (hb : Below w.heap.size w w') {r : Nat} (hr : w.heap.size ≤ r) {ob : Obj} (hw : w'.heap[r]? = some ob) {z : Nat} {hob : HO} (hgn : hob.isGone = false)
    (hrel : ∀ G' : Gh, G'.gsz st.heap.length = z → ObjRel fm CR G' st.heap.length hob ob) :
    G.le (G.thaw w w' st.heap.length r z) ∧ Sim fm CR (G.thaw w w' st.heap.length r z) w0 (st.push hob) w' := by
  have hsh := hs.shut hb
  have hle := Gh.le_shut hs w'
  have hmu : ∀ b x, G.mu b = some x → b ≠ st.heap.length := fun b x h => by have := hs.muDom b x h; omega
  have hsub : G.sub (G.thaw w w' st.heap.length r z) := by
    refine ⟨fun r' i v h => ?_, fun b x h => ?_, fun _ _ _ h => h, fun b x h => ?_⟩
    · have := hs.ro_lt h
      show (if r' = r then none else _) = _
      rw [if_neg (by omega)]
      exact hle.toSub.ro _ _ _ h
    · show (if b = _ then _ else _) = _
      rw [if_neg (hmu b x h)]; exact h
    · show (if b = _ then _ else _) = _
      rw [if_neg (hmu b x h)]
  have hold : ∀ b o, (st.push hob).heap[b]? = some o → (b < st.heap.length ∧ st.heap[b]? = some o) ∨ (b = st.heap.length ∧ o = hob) := by
    intro b o h
    simp only [St.push] at h
    by_cases e : b < st.heap.length
    · rw [List.getElem?_append_left e] at h; exact .inl ⟨e, h⟩
    · have : b = st.heap.length := by
        have := (List.getElem?_eq_some_iff.1 h).1
        simp at this; omega
      subst this
      simp at h
      exact .inr ⟨rfl, h.symm⟩
  have rowOld : ∀ b o x, b < st.heap.length → st.heap[b]? = some o → o.isGone = false → (G.thaw w w' st.heap.length r z).mu b = some x → G.mu b = some x ∧ x < w.heap.size := by
    intro b o x hlt ho hg hm
    have hm' : G.mu b = some x := by
      change (if b = _ then _ else _) = _ at hm
      rwa [if_neg (by omega)] at hm
    obtain ⟨r', ob, h1, h2, _⟩ := hs.obj b o ho hg (hs.np hm')
    rw [hm'] at h1; cases h1
    exact ⟨hm', get?_lt h2⟩
  refine ⟨⟨hsub, fun _ h => h, fun _ h => h, rfl, fun r' i hf => ?_, rfl, rfl, rfl⟩, ?_⟩
  · have := hs.floorLe
    show (if r' = r then none else _) = _
    rw [if_neg (by omega)]
    exact hle.roFloor r' i hf
  · refine { muDom := ?_, muInj := ?_, obj := ?_, ro := ?_, roMu := ?_, tok := ?_, tokInj := hs.tokInj, hist := hs.hist, dfr := hsh.dfr, lps := hsh.lps, floorLe := hsh.floorLe, below := hsh.below, base := hs.base, tbase := hs.tbase, baseLe := ?_, pend := ?_, env := hs.env }
    · intro b x h
      change (if b = _ then _ else _) = _ at h
      simp only [St.push, List.length_append, List.length_singleton]
      split at h
      · omega
      · have := hs.muDom b x h; omega
    · intro b b' o o' x ho ho' hg hg' hm hm'
      rcases hold b o ho with ⟨l1, h1⟩ | ⟨rfl, rfl⟩ <;> rcases hold b' o' ho' with ⟨l2, h2⟩ | ⟨rfl, rfl⟩
      · exact hs.muInj b b' o o' x h1 h2 hg hg' (rowOld b o x l1 h1 hg hm).1 (rowOld b' o' x l2 h2 hg' hm').1
      · have := (rowOld b o x l1 h1 hg hm).2
        change (if st.heap.length = _ then _ else _) = _ at hm'
        rw [if_pos rfl] at hm'; cases hm'; omega
      · have := (rowOld b' o' x l2 h2 hg' hm').2
        change (if st.heap.length = _ then _ else _) = _ at hm
        rw [if_pos rfl] at hm; cases hm; omega
      · rfl
    · intro b o ho hg hpd
      rcases hold b o ho with ⟨l1, h1⟩ | ⟨rfl, rfl⟩
      · obtain ⟨r', ob, h2, h3, h4, h5⟩ := hs.obj b o h1 hg hpd
        exact ⟨r', ob, hsub.mu _ _ h2, (hb.block r' (get?_lt h3)).trans h3, h4.sub hsub h2, h5⟩
      · refine ⟨r, _, by show (if _ then _ else _) = _; rw [if_pos rfl], hw, hrel _ (by show (if _ then _ else _) = _; rw [if_pos rfl]), fun _ => Nat.le_trans hs.floorLe hr⟩
    · intro r' i v h
      change (if r' = r then none else _) = _ at h
      split at h
      · cases h
      · exact hsh.ro r' i v h
    · intro r' i v b o h ho hg hm
      change (if r' = r then none else _) = _ at h
      split at h
      · cases h
      · rename_i hne
        rcases hold b o ho with ⟨l1, h1⟩ | ⟨rfl, rfl⟩
        · exact hsh.roMu r' i v b o h h1 hg (rowOld b o r' l1 h1 hg hm).1
        · change (if st.heap.length = _ then _ else _) = _ at hm
          rw [if_pos rfl] at hm; cases hm; exact hne rfl
    · intro t s ht
      obtain ⟨r', len, cap, n, cs', ty', h1, h2, h3, h4, h5, h6, h7, h8⟩ := hs.tok t s ht
      have hlt := get?_lt h4
      obtain ⟨r'', len', cap', n', cs'', ty'', g1, g2, g3, g4, g5, g6, g7, g8⟩ := hsh.tok t s ht
      have g1' : G.hist t s = some (r'', len', cap', n') := g1
      rw [h1] at g1'; cases g1'
      refine ⟨r', len, cap, n, cs'', ty'', h1, h2, h3, g4, g5, fun i hi => ?_, fun b o ho hg => ?_, h8⟩
      · show (if r' = r then none else _) = _
        split
        · rfl
        · exact g6 i hi
      · rcases hold b o ho with ⟨l1, h1'⟩ | ⟨rfl, rfl⟩
        · intro hm
          exact h7 b o h1' hg (rowOld b o r' l1 h1' hg hm).1
        · show (if _ then _ else _) ≠ _
          rw [if_pos rfl]
          intro e; cases e; omega
    · have := hs.baseLe
      simp only [St.push, List.length_append, List.length_singleton]
      omega
    · intro b o hp
      obtain ⟨h1, h2⟩ := hs.pend b o hp
      have hlt := (List.getElem?_eq_some_iff.1 h1).1
      refine ⟨by simp only [St.push]; rw [List.getElem?_append_left hlt]; exact h1, ?_⟩
      show (if _ then _ else _) = _
      rw [if_neg (by omega)]; exact h2

theorem thaw_sim (hs : Sim fm CR G w0 st w) (hb : Below w.heap.size w w') {r : Nat} (hr : w.heap.size ≤ r) {cs : Array Value} {ty : TypeId} (hw : w'.heap[r]? = some (.cells cs ty (0, 0))) {vs : List DV} (hl : vs.length ≤ cs.size)
    (hrel : ∀ (G' : Gh) i (h : i < vs.length), Rel fm G' (vs[i]) (cs.getD i undef)) (hsc : vs.all DV.scal = true) :
    G.le (G.thaw w w' st.heap.length r cs.size) ∧ Sim fm CR (G.thaw w w' st.heap.length r cs.size) w0 (st.push (.cells .grown vs)) w' :=
  thaw_obj hs hb hr hw rfl fun G' hz => ⟨cs, ty, (0, 0), rfl, hl, hz.symm, fun i h => hrel _ i h, fun i _ h => by simp at h, hsc⟩

theorem bare_hs {CR : Nat → RC → Code → Prop} {G G1 : Gh} {w w' : World} {st2 : St} (h1 : (G.bare w).le G1) (h2 : Sim fm CR G1 w st2 w') : Below w.heap.size w w' := by
  have := h2.below
  rw [h1.floor] at this
  exact this

theorem thawV_rel {ag : Bool} (hs : Sim fm CR G w0 st w) (h1 : (G.bare w).le G1) (h2 : Sim fm CR' G1 w st2 w') {v v' : DV} {x : Value} {st' : St} (hv : Rel fm G1 v x) (he : thawV ag st st2 v = some (v', st')) :
    ∃ G', G.le G' ∧ Sim fm CR G' w0 st' w' ∧ Rel fm G' v' x := by
  have hb := bare_hs h1 h2
  unfold thawV at he
  split at he
  · rename_i tag n t s xs
    split at he
    · rename_i hc
      obtain ⟨hk, hbl⟩ := hc
      simp only [Option.some.injEq, Prod.mk.injEq] at he
      obtain ⟨rfl, rfl⟩ := he
      cases hv with
      | list _ _ _ _ r off cap f hr hcc hp hkk hl hn =>
        obtain ⟨rfl, hh⟩ := hkk
        obtain ⟨r', len', cap', n', cs, ty, g1, g2, g3, g4, g5, g6, g7, g8⟩ := h2.tok t s hk
        rw [hh] at g1; cases g1
        have hfl := flat_length xs n hn
        have hrs : w.heap.size ≤ r := by
          have e1 : st2.tbase = 0 := by rw [h2.tbase, h1.tbase]; rfl
          have e2 : G1.floor = w.heap.size := h1.floor
          have := g8 (by omega)
          rwa [e2] at this
        have hle : xs.length * n ≤ cap * n := Nat.mul_le_mul_right _ hl
        have key := thaw_sim (fm := fm) (CR := CR) hs hb hrs g4 (vs := flat xs) (by omega) (fun G' i hi => by
          have h3 := hcc i hi
          have h4 := hr i hi
          obtain ⟨cs', t', fz', e1, e2⟩ := h2.ro _ _ _ h4
          rw [g4] at e1; cases e1
          rw [Nat.zero_add] at e2
          rw [Array.getD_eq_getD_getElem?, e2]
          exact h3.bareTo (List.all_eq_true.1 hbl _ (List.getElem_mem hi))) (List.all_eq_true.2 fun v hv => bareLeaf_scal (List.all_eq_true.1 hbl v hv))
        refine ⟨_, key.1, key.2, .hsl n ag st.heap.length 0 xs.length none r cap (by show (if _ then _ else _) = _; rw [if_pos rfl]) ⟨hl, ?_⟩⟩
        show 0 + cap * n ≤ (if _ then _ else _)
        rw [if_pos rfl]; omega
    · cases he
  · rename_i tag n tk
    simp only [Option.some.injEq, Prod.mk.injEq] at he
    obtain ⟨rfl, rfl⟩ := he
    cases hv
    exact ⟨_, Gh.le_shut hs w', hs.shut hb, .nils _ _ _⟩
  · rename_i n ag' b len c
    split at he
    · rename_i vs hrow
      split at he
      · rename_i hc
        obtain ⟨hbl, hcl, hlc⟩ := hc
        simp only [Option.some.injEq, Prod.mk.injEq] at he
        obtain ⟨rfl, rfl⟩ := he
        cases hv with
        | hsl _ _ _ _ _ _ r cap hmu hcap =>
          obtain ⟨rfl, _⟩ := hcap
          obtain ⟨r', ob, g1, g2, g3, g4⟩ := h2.obj b _ hrow rfl (h2.np hmu)
          rw [hmu] at g1; cases g1
          obtain ⟨cs, t, fz, rfl, e1, e2, e3, e4⟩ := g3
          have hrs : w.heap.size ≤ r := by
            have e1 : st2.base = 0 := by rw [h2.base, h1.base]; rfl
            have e2 : G1.floor = w.heap.size := h1.floor
            have := g4 (by omega)
            rwa [e2] at this
          have key := thaw_obj (fm := fm) (CR := CR) hs hb hrs g2 (z := 0) (hob := .cells .plain vs) rfl fun G' _ => ⟨cs, t, fz, rfl, e1, fun i hi => (e2 i hi).bareTo (List.all_eq_true.1 hbl _ (List.getElem_mem hi)), e3, e4⟩
          exact ⟨_, key.1, key.2, .hsl n ag st.heap.length 0 len (some cap) r cap (by show (if _ then _ else _) = _; rw [if_pos rfl]) ⟨rfl, hlc⟩⟩
      · cases he
    · cases he
  · split at he
    · rename_i hbl
      simp only [Option.some.injEq, Prod.mk.injEq] at he
      obtain ⟨rfl, rfl⟩ := he
      exact ⟨_, Gh.le_shut hs w', hs.shut hb, hv.bareTo hbl⟩
    · cases he

theorem thawT_rel {ag : Bool} (hs : Sim fm CR G w0 st w) (h1 : (G.bare w).le G1) (h2 : Sim fm CR' G1 w st2 w') {v v' : DV} {x : Value} {st' : St} (hv : Rel fm G1 v x) (he : thawT ag st st2 v = some (v', st')) :
    ∃ G', G.le G' ∧ Sim fm CR G' w0 st' w' ∧ Rel fm G' v' x := by
  unfold thawT at he
  split at he
  · rename_i u r
    split at he
    · rename_i hbl
      simp only [Option.map_eq_some_iff, Prod.mk.injEq, Prod.exists] at he
      obtain ⟨a, b, he, rfl, rfl⟩ := he
      cases hv with
      | tuple _ cs hl hc =>
        obtain ⟨G', k1, k2, k3⟩ := thawV_rel hs h1 h2 (hc 0 (by simp)) he
        refine ⟨G', k1, k2, .tuple _ cs hl fun i hi => ?_⟩
        cases i with
        | zero => exact k3
        | succ i =>
          have hi' : i < r.length := by simpa using hi
          have := hc (i + 1) (by simpa using hi)
          exact Rel.bareTo (by simpa using this) (List.all_eq_true.1 hbl _ (List.getElem_mem hi'))
    · cases he
  · exact thawV_rel hs h1 h2 hv he

/-- The call: what the function tells if it is run by itself, its list made a row. -/
noncomputable def thawP (T : Tab) (g : Nat) (ag : Bool) (args : List DV) (st : St) : Option (DV × St) :=
  match T g with
  | some (.code F) =>
    if F.pureF = true ∧ DV.frees args = true then
      match (E T).C F.body (frame0 args 0) st0 with
      | some (.ret, fr, st2) => match resD st2 fr F.results with | some v => thawT ag st st2 v | none => none
      | some (.normal, fr, st2) => match resD st2 fr F.results with | some v => thawT ag st st2 v | none => none
      | _ => none
    else none
  | _ => none

theorem thaw_ok {T T2 : Tab} (hT : TabRel P fm T) (hm : P.follows .mixedOrders = true) {g : Nat} {f : FuncId} (hf : fm g = some f) (ag : Bool) : DefRel P fm T2 (.prim (thawP T g ag)) f := by
  show PrimSim P fm T2 _ f
  intro G w0 st w args args' v st' hs ha hp
  unfold thawP at hp
  split at hp
  · rename_i F hg
    split at hp
    · rename_i hc
      have fin : ∀ (e : Ex) (fr : Fr) (st2 : St) (u : DV), (∀ id, e ≠ .exit id) → (E T).C F.body (frame0 args 0) st0 = some (e, fr, st2) → resD st2 fr F.results = some u → thawT ag st st2 u = some (v, st') →
          FnOk P f args' w fun x w' => ∃ G', G.le G' ∧ SimT P fm T2 G' w0 st' w' ∧ Rel fm G' v x := by
        intro e fr st2 u hne hr hres hth
        obtain ⟨n, hn⟩ := (E_conv T).C _ _ _ _ hr
        have hrun : runC T n F.body (frame0 args 0) st0 = some (e, fr, st2) := by
          have this : (fastR T n).C F.body (frame0 args 0) st0 = some (e, fr, st2) := hn n (Nat.le_refl _)
          rw [fast_eq] at this
          exact this
        have hs0 : SimT P fm T (G.bare w) w st0 w := hs.bare
        have ha0 : RelsA fm (G.bare w) args args' := ⟨ha.1, fun i hi => Rel.freeTo (G := G) (G' := G.bare w) (fun _ _ _ h => h) (ha.2 i hi) (frees_get hc.2 i hi)⟩
        obtain ⟨f', q1, q2⟩ := call_body (good_all hT hm n) (hT g _ f hg hf) hrun hne hres hs0 ha0
        refine .inl ⟨f', q1, Go.CallsIn.mono q2 ?_⟩
        rintro e' w' ⟨x, rfl, G1, g1, g2, g3⟩
        exact ⟨x, rfl, thawT_rel hs g1 g2 g3 hth⟩
      split at hp
      · rename_i fr st2 hr
        split at hp
        · rename_i u hres
          exact fin _ _ _ _ (fun id h => by cases h) hr hres hp
        · cases hp
      · rename_i fr st2 hr
        split at hp
        · rename_i u hres
          exact fin _ _ _ _ (fun id h => by cases h) hr hres hp
        · cases hp
      · cases hp
    · cases hp
  · cases hp

/-! ### A table with more in it -/
structure TabExt (T T2 : Tab) : Prop where
  get : ∀ g d, T g = some d → T2 g = some d
  pure : isPure T = isPure T2

theorem ext_step {T T2 : Tab} (hx : TabExt T T2) (R : Rec) : (stepR T R).le (stepR T2 R) where
  C := fun c fr st r h => by
    refine .all fun _ => ?_
    cases c <;> try exact h
    rename_i f params assign body live
    simp only [stepR, runCR] at h ⊢
    split at h
    · rename_i g first captured e
      by_cases hc : isCode T g = true
      · have hc2 : isCode T2 g = true := by
          unfold isCode at hc ⊢
          split at hc
          · rename_i F e; rw [hx.get _ _ e]
          · cases hc
        simp only [hc, if_true] at h
        simp only [hc2, if_true]
        exact h
      · simp [hc] at h
    · cases h
  O := fun a fr st r h => .all fun _ => by cases a <;> exact h
  S := fun a fr st b r h => .all fun _ => by
    cases a with
    | nil => exact h
    | cons o l =>
      simp only [stepR, runOpsSR] at h ⊢
      rw [← hx.pure]; exact h
  N := fun o fr st r h => .all fun _ => by
    simp only [stepR, runOneR] at h ⊢
    rw [← hx.pure]; exact h
  A := fun a b c d h => .all fun _ => h
  K := fun a b c d h => .all fun _ => h
  F := fun g as st r h => .all fun _ => by
    simp only [stepR, callFR] at h ⊢
    cases e : T g with
    | none => rw [e] at h; cases h
    | some d => rw [e] at h; rw [hx.get g d e]; exact h
  V := fun a b c r h => .all fun _ => by cases a <;> exact h

theorem ext_fast {T T2 : Tab} (hx : TabExt T T2) : ∀ n, (fastR T n).le (fastR T2 n)
  | 0 => failR_le _
  | n + 1 => (ext_step hx (fastR T n)).trans (ext_fast hx n).step

/-- What is told in a table is told in one with more in it. -/
theorem ext_F {T T2 : Tab} (hx : TabExt T T2) {g : Nat} {as : List DV} {st : St} {r : DV × St} (h : (E T).F g as st = some r) : (E T2).F g as st = some r := by
  obtain ⟨n, h⟩ := (E_conv T).F _ _ _ _ h
  exact ev_const ((fast_E T2 n).F _ _ _ _ (ev_const ((ext_fast hx n).F _ _ _ _ (h n (Nat.le_refl _)))))

/-- A table with calls in it whose lists are made rows: number, function, whether its elements are structs. -/
noncomputable def withThaw (T : Tab) : List (Nat × Nat × Bool) → Tab
  | [] => T
  | (g', g, ag) :: r => fun h => bif Nat.beq h g' then some (.prim (thawP T g ag)) else withThaw T r h

theorem withThaw_none {T : Tab} : ∀ {l : List (Nat × Nat × Bool)} {h : Nat}, (∀ x ∈ l, x.1 ≠ h) → withThaw T l h = T h
  | [], _, _ => rfl
  | (g', g, ag) :: r, h, hn => by
    show (bif Nat.beq h g' then _ else _) = _
    have : Nat.beq h g' = false := by
      have := hn _ (List.mem_cons_self ..)
      simp only at this
      cases e : Nat.beq h g' with
      | false => rfl
      | true => exact absurd (Nat.eq_of_beq_eq_true e).symm this
    rw [this]
    exact withThaw_none fun x hx => hn x (List.mem_cons_of_mem _ hx)

theorem withThaw_get {T : Tab} : ∀ (l : List (Nat × Nat × Bool)) {h : Nat} {d : Def}, withThaw T l h = some d → T h = some d ∨ ∃ x ∈ l, x.1 = h ∧ d = .prim (thawP T x.2.1 x.2.2)
  | [], _, _, e => .inl e
  | (g', g, ag) :: r, h, d, e => by
    change (bif Nat.beq h g' then _ else _) = _ at e
    cases hb : Nat.beq h g' with
    | true =>
      rw [hb] at e
      have := Nat.eq_of_beq_eq_true hb
      subst this
      cases e
      exact .inr ⟨(h, g, ag), List.mem_cons_self .., rfl, rfl⟩
    | false =>
      rw [hb] at e
      rcases withThaw_get r e with k | ⟨x, hx, k⟩
      · exact .inl k
      · exact .inr ⟨x, List.mem_cons_of_mem _ hx, k⟩

theorem withThaw_ext {T : Tab} (l : List (Nat × Nat × Bool)) (hn : ∀ x ∈ l, T x.1 = none) : TabExt T (withThaw T l) where
  get := fun g d h => by
    rw [withThaw_none fun x hx e => ?_]
    · exact h
    · have := hn x hx; rw [e, h] at this; cases this
  pure := by
    funext g
    unfold isPure
    by_cases hx : ∃ x ∈ l, x.1 = g
    · obtain ⟨x, hx, rfl⟩ := hx
      rw [hn x hx]
      cases e : withThaw T l x.1 with
      | none => rfl
      | some d =>
        rcases withThaw_get l e with k | ⟨y, _, _, rfl⟩
        · rw [hn x hx] at k; cases k
        · rfl
    · rw [withThaw_none fun x hx' e => hx ⟨x, hx', e⟩]

theorem withThaw_ok {T : Tab} (hT : TabRel P fm T) (hm : P.follows .mixedOrders = true) (l : List (Nat × Nat × Bool)) (hn : ∀ x ∈ l, T x.1 = none) (hf : ∀ x ∈ l, ∀ f, fm x.1 = some f → fm x.2.1 = some f) : TabRel P fm (withThaw T l) := by
  intro g d f hd hfg
  rcases withThaw_get l hd with h | ⟨x, hx, rfl, rfl⟩
  · exact DefRel_to (withThaw_ext l hn).pure (hT g d f h hfg)
  · exact thaw_ok hT hm (hf x hx f hfg) x.2.2

/-! ### The same, where the callee may read what lies in its caller's heap -/
/-- A fresh list of a callee, made a row of the caller's heap. -/
def meltV (ag : Bool) (st st2 : St) : DV → Option (DV × St)
  | .list _ n (.own t s) true xs => if st2.toks[t]? = some s ∧ st.toks.length ≤ t ∧ (flat xs).all DV.bareLeaf = true then some (.hsl n ag st.heap.length 0 xs.length none, st.push (.cells .grown (flat xs))) else none
  | .list tag n tk false [] => some (.list tag n tk false [], st)
  | .hsl n _ b 0 len (some c) =>
    match st2.heap[b]? with
    | some (.cells .plain vs) => if vs.all DV.bareLeaf = true ∧ c * n = vs.length ∧ len ≤ c ∧ st.heap.length ≤ b then some (.hsl n ag st.heap.length 0 len (some c), st.push (.cells .plain vs)) else none
    | _ => none
  | v => if v.bareLeaf = true then some (v, st) else none

def meltT (ag : Bool) (st st2 : St) : DV → Option (DV × St)
  | .tuple (v :: r) => if r.all DV.bareLeaf = true then (meltV ag st st2 v).map fun p => (.tuple (p.1 :: r), p.2) else none
  | v => meltV ag st st2 v

theorem enter_hs (h1 : (G.enter st w).le G1) (h2 : Sim fm CR G1 w st2 w') : Below w.heap.size w w' := by
  have := h2.below
  rw [h1.floor] at this
  exact this

theorem meltV_rel {ag : Bool} (hs : Sim fm CR G w0 st w) (h1 : (G.enter st w).le G1) (h2 : Sim fm CR' G1 w st2 w') {v v' : DV} {x : Value} {st' : St} (hv : Rel fm G1 v x) (he : meltV ag st st2 v = some (v', st')) :
    ∃ G', G.le G' ∧ Sim fm CR G' w0 st' w' ∧ Rel fm G' v' x := by
  have hb := enter_hs h1 h2
  have f1 : G1.floor = w.heap.size := h1.floor
  unfold meltV at he
  split at he
  · rename_i tag n t s xs
    split at he
    · rename_i hc
      obtain ⟨hk, ht, hbl⟩ := hc
      simp only [Option.some.injEq, Prod.mk.injEq] at he
      obtain ⟨rfl, rfl⟩ := he
      cases hv with
      | list _ _ _ _ r off cap f hr hcc hp hkk hl hn =>
        obtain ⟨rfl, hh⟩ := hkk
        obtain ⟨r', len', cap', n', cs, ty, g1, g2, g3, g4, g5, g6, g7, g8⟩ := h2.tok t s hk
        rw [hh] at g1; cases g1
        have hfl := flat_length xs n hn
        have hrs : w.heap.size ≤ r := by
          have e1 : st2.tbase = st.toks.length := by rw [h2.tbase, h1.tbase]; rfl
          have := g8 (by omega)
          rwa [f1] at this
        have hle : xs.length * n ≤ cap * n := Nat.mul_le_mul_right _ hl
        have key := thaw_sim (fm := fm) (CR := CR) hs hb hrs g4 (vs := flat xs) (by omega) (fun G' i hi => by
          have h3 := hcc i hi
          have h4 := hr i hi
          obtain ⟨cs', t', fz', e1, e2⟩ := h2.ro _ _ _ h4
          rw [g4] at e1; cases e1
          rw [Nat.zero_add] at e2
          rw [Array.getD_eq_getD_getElem?, e2]
          exact h3.bareTo (List.all_eq_true.1 hbl _ (List.getElem_mem hi))) (List.all_eq_true.2 fun v hv => bareLeaf_scal (List.all_eq_true.1 hbl v hv))
        refine ⟨_, key.1, key.2, .hsl n ag st.heap.length 0 xs.length none r cap (by show (if _ then _ else _) = _; rw [if_pos rfl]) ⟨hl, ?_⟩⟩
        show 0 + cap * n ≤ (if _ then _ else _)
        rw [if_pos rfl]; omega
    · cases he
  · rename_i tag n tk
    simp only [Option.some.injEq, Prod.mk.injEq] at he
    obtain ⟨rfl, rfl⟩ := he
    cases hv
    exact ⟨_, Gh.le_shut hs w', hs.shut hb, .nils _ _ _⟩
  · rename_i n ag' b len c
    split at he
    · rename_i vs hrow
      split at he
      · rename_i hc
        obtain ⟨hbl, hcl, hlc, hbn⟩ := hc
        simp only [Option.some.injEq, Prod.mk.injEq] at he
        obtain ⟨rfl, rfl⟩ := he
        cases hv with
        | hsl _ _ _ _ _ _ r cap hmu hcap =>
          obtain ⟨rfl, _⟩ := hcap
          obtain ⟨r', ob, g1, g2, g3, g4⟩ := h2.obj b _ hrow rfl (h2.np hmu)
          rw [hmu] at g1; cases g1
          obtain ⟨cs, t, fz, rfl, e1, e2, e3, e4⟩ := g3
          have hrs : w.heap.size ≤ r := by
            have e1 : st2.base = st.heap.length := by rw [h2.base, h1.base]; rfl
            have := g4 (by omega)
            rwa [f1] at this
          have key := thaw_obj (fm := fm) (CR := CR) hs hb hrs g2 (z := 0) (hob := .cells .plain vs) rfl fun G' _ => ⟨cs, t, fz, rfl, e1, fun i hi => (e2 i hi).bareTo (List.all_eq_true.1 hbl _ (List.getElem_mem hi)), e3, e4⟩
          exact ⟨_, key.1, key.2, .hsl n ag st.heap.length 0 len (some cap) r cap (by show (if _ then _ else _) = _; rw [if_pos rfl]) ⟨rfl, hlc⟩⟩
      · cases he
    · cases he
  · split at he
    · rename_i hbl
      simp only [Option.some.injEq, Prod.mk.injEq] at he
      obtain ⟨rfl, rfl⟩ := he
      exact ⟨_, Gh.le_shut hs w', hs.shut hb, hv.bareTo hbl⟩
    · cases he

theorem meltT_rel {ag : Bool} (hs : Sim fm CR G w0 st w) (h1 : (G.enter st w).le G1) (h2 : Sim fm CR' G1 w st2 w') {v v' : DV} {x : Value} {st' : St} (hv : Rel fm G1 v x) (he : meltT ag st st2 v = some (v', st')) :
    ∃ G', G.le G' ∧ Sim fm CR G' w0 st' w' ∧ Rel fm G' v' x := by
  unfold meltT at he
  split at he
  · rename_i u r
    split at he
    · rename_i hbl
      simp only [Option.map_eq_some_iff, Prod.mk.injEq, Prod.exists] at he
      obtain ⟨a, b, he, rfl, rfl⟩ := he
      cases hv with
      | tuple _ cs hl hc =>
        obtain ⟨G', k1, k2, k3⟩ := meltV_rel hs h1 h2 (hc 0 (by simp)) he
        refine ⟨G', k1, k2, .tuple _ cs hl fun i hi => ?_⟩
        cases i with
        | zero => exact k3
        | succ i =>
          have hi' : i < r.length := by simpa using hi
          have := hc (i + 1) (by simpa using hi)
          exact Rel.bareTo (by simpa using this) (List.all_eq_true.1 hbl _ (List.getElem_mem hi'))
    · cases he
  · exact meltV_rel hs h1 h2 hv he

noncomputable def meltP (T : Tab) (g : Nat) (ag : Bool) (args : List DV) (st : St) : Option (DV × St) :=
  match T g with
  | some (.code F) =>
    if F.pureF = true then
      match (E T).C F.body (frame0 args 0) st.enter with
      | some (.ret, fr, st2) => match resD st2 fr F.results with | some v => meltT ag st st2 v | none => none
      | some (.normal, fr, st2) => match resD st2 fr F.results with | some v => meltT ag st st2 v | none => none
      | _ => none
    else none
  | _ => none

theorem melt_ok {T T2 : Tab} (hT : TabRel P fm T) (hm : P.follows .mixedOrders = true) (hpp : isPure T = isPure T2) {g : Nat} {f : FuncId} (hf : fm g = some f) (ag : Bool) : DefRel P fm T2 (.prim (meltP T g ag)) f := by
  show PrimSim P fm T2 _ f
  intro G w0 st w args args' v st' hs ha hp
  have hs1 : SimT P fm T G w0 st w := by unfold SimT at hs ⊢; rw [CRel_eq hpp]; exact hs
  have back : ∀ G' st' w', SimT P fm T G' w0 st' w' → SimT P fm T2 G' w0 st' w' := by
    intro G' st' w' h; unfold SimT at h ⊢; rw [← CRel_eq hpp]; exact h
  unfold meltP at hp
  split at hp
  · rename_i F hg
    split at hp
    · have fin : ∀ (e : Ex) (fr : Fr) (st2 : St) (u : DV), (∀ id, e ≠ .exit id) → (E T).C F.body (frame0 args 0) st.enter = some (e, fr, st2) → resD st2 fr F.results = some u → meltT ag st st2 u = some (v, st') →
          FnOk P f args' w fun x w' => ∃ G', G.le G' ∧ SimT P fm T2 G' w0 st' w' ∧ Rel fm G' v x := by
        intro e fr st2 u hne hr hres hth
        obtain ⟨n, hn⟩ := (E_conv T).C _ _ _ _ hr
        have hrun : runC T n F.body (frame0 args 0) st.enter = some (e, fr, st2) := by
          have this : (fastR T n).C F.body (frame0 args 0) st.enter = some (e, fr, st2) := hn n (Nat.le_refl _)
          rw [fast_eq] at this
          exact this
        have ha0 : RelsA fm (G.enter st w) args args' := ⟨ha.1, fun i hi => (ha.2 i hi).sub (Gh.sub_enter G st w)⟩
        obtain ⟨f', q1, q2⟩ := call_body (good_all hT hm n) (hT g _ f hg hf) hrun hne hres hs1.enter ha0
        refine .inl ⟨f', q1, Go.CallsIn.mono q2 ?_⟩
        rintro e' w' ⟨x, rfl, G1, g1, g2, g3⟩
        obtain ⟨G', k1, k2, k3⟩ := meltT_rel hs1 g1 g2 g3 hth
        exact ⟨x, rfl, G', k1, back _ _ _ k2, k3⟩
      split at hp
      · rename_i fr st2 hr
        split at hp
        · rename_i u hres
          exact fin _ _ _ _ (fun id h => by cases h) hr hres hp
        · cases hp
      · rename_i fr st2 hr
        split at hp
        · rename_i u hres
          exact fin _ _ _ _ (fun id h => by cases h) hr hres hp
        · cases hp
      · cases hp
    · cases hp
  · cases hp

noncomputable def withMelt (T : Tab) : List (Nat × Nat × Bool) → Tab
  | [] => T
  | (g', g, ag) :: r => fun h => bif Nat.beq h g' then some (.prim (meltP T g ag)) else withMelt T r h

theorem withMelt_none {T : Tab} : ∀ {l : List (Nat × Nat × Bool)} {h : Nat}, (∀ x ∈ l, x.1 ≠ h) → withMelt T l h = T h
  | [], _, _ => rfl
  | (g', g, ag) :: r, h, hn => by
    show (bif Nat.beq h g' then _ else _) = _
    have : Nat.beq h g' = false := by
      have := hn _ (List.mem_cons_self ..)
      simp only at this
      cases e : Nat.beq h g' with
      | false => rfl
      | true => exact absurd (Nat.eq_of_beq_eq_true e).symm this
    rw [this]
    exact withMelt_none fun x hx => hn x (List.mem_cons_of_mem _ hx)

theorem withMelt_get {T : Tab} : ∀ (l : List (Nat × Nat × Bool)) {h : Nat} {d : Def}, withMelt T l h = some d → T h = some d ∨ ∃ x ∈ l, x.1 = h ∧ d = .prim (meltP T x.2.1 x.2.2)
  | [], _, _, e => .inl e
  | (g', g, ag) :: r, h, d, e => by
    change (bif Nat.beq h g' then _ else _) = _ at e
    cases hb : Nat.beq h g' with
    | true =>
      rw [hb] at e
      have := Nat.eq_of_beq_eq_true hb
      subst this
      cases e
      exact .inr ⟨(h, g, ag), List.mem_cons_self .., rfl, rfl⟩
    | false =>
      rw [hb] at e
      rcases withMelt_get r e with k | ⟨x, hx, k⟩
      · exact .inl k
      · exact .inr ⟨x, List.mem_cons_of_mem _ hx, k⟩

theorem withMelt_ext {T : Tab} (l : List (Nat × Nat × Bool)) (hn : ∀ x ∈ l, T x.1 = none) : TabExt T (withMelt T l) where
  get := fun g d h => by
    rw [withMelt_none fun x hx e => ?_]
    · exact h
    · have := hn x hx; rw [e, h] at this; cases this
  pure := by
    funext g
    unfold isPure
    by_cases hx : ∃ x ∈ l, x.1 = g
    · obtain ⟨x, hx, rfl⟩ := hx
      rw [hn x hx]
      cases e : withMelt T l x.1 with
      | none => rfl
      | some d =>
        rcases withMelt_get l e with k | ⟨y, _, _, rfl⟩
        · rw [hn x hx] at k; cases k
        · rfl
    · rw [withMelt_none fun x hx' e => hx ⟨x, hx', e⟩]

theorem withMelt_ok {T : Tab} (hT : TabRel P fm T) (hm : P.follows .mixedOrders = true) (l : List (Nat × Nat × Bool)) (hn : ∀ x ∈ l, T x.1 = none) (hf : ∀ x ∈ l, ∀ f, fm x.1 = some f → fm x.2.1 = some f) : TabRel P fm (withMelt T l) := by
  intro g d f hd hfg
  rcases withMelt_get l hd with h | ⟨x, hx, rfl, rfl⟩
  · exact DefRel_to (withMelt_ext l hn).pure (hT g d f h hfg)
  · exact melt_ok hT hm (withMelt_ext l hn).pure (hf x hx f hfg) x.2.2

end
end Go.D
