/-
Functions and function values, called.
-/
import Derived.Test.YtpmjmbpcdacamaaFwDLoad
namespace Go.D
open Go.RowKit

variable {P : Program} {fm : FM} {T : Tab}

/-- Marks taken off the list of deferred calls. -/
def Gh.dropDfr (G : Gh) (rs : List Nat) : Gh := { G with dfr := fun k => G.dfr k ∧ k ∉ rs }

theorem Sim.takeDfr {CR : Nat → RC → Code → Prop} {G : Gh} {w0 w : World} {st : St} (h : Sim fm CR G w0 st w) {r : Nat} (hr : G.dfr r) (hf : G.floor ≤ r) :
    Sim fm CR (G.dropDfr [r]) w0 st (w.putObj r (.deferred none)) := by
  have hd := h.dfr r hr
  have hlt := get?_lt hd
  have hp := fun k => putObj_heap w r k (.deferred none) hlt
  have other : ∀ (k : Nat) (o : Obj), w.heap[k]? = some o → o ≠ .deferred (some []) → (w.putObj r (.deferred none)).heap[k]? = some o := by
    intro k o hk hne
    rw [hp, if_neg]
    · exact hk
    · rintro rfl; rw [hd] at hk; exact hne (Option.some.inj hk).symm
  refine { muDom := h.muDom, muInj := h.muInj, obj := ?_, ro := ?_, roMu := h.roMu, tok := ?_, tokInj := h.tokInj, hist := h.hist, dfr := ?_, lps := ?_, floorLe := ?_, below := ?_, base := h.base, tbase := h.tbase, baseLe := h.baseLe, pend := h.pend, env := h.env }
  · intro b o ho hg hpd
    obtain ⟨r', ob, h1, h2, h3, h4⟩ := h.obj b o ho hg hpd
    refine ⟨r', ob, h1, other _ _ h2 (h3.notDfr hg _), ?_, h4⟩
    exact ObjRel.sub (G := G) (G' := G.dropDfr [r]) ⟨fun _ _ _ x => x, fun _ _ x => x, fun _ _ _ x => x, fun _ _ _ => rfl⟩ h1 h3
  · intro r' i v hv
    obtain ⟨cs, t, fz, h1, h2⟩ := h.ro r' i v hv
    exact ⟨cs, t, fz, other _ _ h1 (by simp), h2⟩
  · intro t s ht
    obtain ⟨r', len, cap, n, cs, ty, h1, h2, h3, h4, h5⟩ := h.tok t s ht
    exact ⟨r', len, cap, n, cs, ty, h1, h2, h3, other _ _ h4 (by simp), h5⟩
  · intro k hk
    rw [hp, if_neg]
    · exact h.dfr k hk.1
    · rintro rfl; exact hk.2 (by simp)
  · intro k hk
    obtain ⟨l, hl⟩ := h.lps k hk
    exact ⟨l, other _ _ hl (by simp)⟩
  · simpa [World.putObj, Gh.dropDfr] using h.floorLe
  · exact h.below.trans (below_putObj _ _ _ hf)

theorem Gh.dropDfr_cons (G : Gh) (r : Nat) (rs : List Nat) : (G.dropDfr [r]).dropDfr rs = G.dropDfr (r :: rs) := by
  unfold Gh.dropDfr
  simp only [Gh.mk.injEq, true_and, and_true]
  funext k
  simp only [List.mem_cons, List.not_mem_nil, or_false, eq_iff_iff]
  constructor
  · rintro ⟨⟨h1, h2⟩, h3⟩; exact ⟨h1, fun h => h.elim h2 h3⟩
  · rintro ⟨h1, h2⟩; exact ⟨⟨h1, fun h => h2 (.inl h)⟩, fun h => h2 (.inr h)⟩

/-- The marks are taken, one by one; then the results are read. -/
theorem leave_marks {w0 : World} {st : St} {fn : Func} {tmps : Array Value} {R : Ending → World → Prop} : ∀ (rs : List Nat) (G : Gh) (w : World), SimT P fm T G w0 st w → rs.Nodup → (∀ r ∈ rs, G.dfr r ∧ G.floor ≤ r) →
    (∀ w', SimT P fm T (G.dropDfr rs) w0 st w' → ∃ v, (results fn tmps).run P w' = .ok v w' ∧ R (.returned v) w') →
    LeavesInM Fence.wide 0 P fn tmps R (rs.map fun r => { target := .collected r, args := #[] }) .returning w
  | [], G, w, hs, _, _, hR => by
    have hs' : SimT P fm T (G.dropDfr []) w0 st w := hs.notes rfl rfl rfl rfl rfl rfl rfl rfl (fun r hr => hs.dfr r hr.1) hs.lps
    obtain ⟨v, h1, h2⟩ := hR w hs'
    exact ⟨v, h1, h2⟩
  | r :: rs, G, w, hs, hn, hd, hR => by
    have hr := hd r (by simp)
    have hs1 := hs.takeDfr hr.1 hr.2
    obtain ⟨hn1, hn2⟩ := List.nodup_cons.1 hn
    refine ⟨by simp, .inl ⟨r, _, rfl, run_takeDeferred (hs.dfr r hr.1), ?_⟩⟩
    refine leave_marks rs _ _ hs1 hn2 (fun k hk => ⟨⟨(hd k (by simp [hk])).1, ?_⟩, (hd k (by simp [hk])).2⟩) ?_
    · intro h
      simp only [List.mem_singleton] at h
      subst h; exact hn1 hk
    · rw [Gh.dropDfr_cons]; exact hR

theorem frame0_get : ∀ (vs : List DV) (i t : Nat), (frame0 vs i).get t = if i ≤ t ∧ t < i + vs.length then vs.getD (t - i) .undef else .undef := by
  intro vs
  induction vs with
  | nil => intro i t; simp [frame0, Fr.get]
  | cons v vs ih =>
    intro i t
    show (if i = t then v else (frame0 vs (i + 1)).get t) = _
    by_cases e : i = t
    · subst e; simp
    · rw [if_neg e, ih]
      by_cases h : i ≤ t ∧ t < i + (v :: vs).length
      · rw [if_pos h, if_pos (by simp at h; omega)]
        obtain ⟨k, rfl⟩ : ∃ k, t = i + 1 + k := ⟨t - (i + 1), by omega⟩
        simp only [show i + 1 + k - (i + 1) = k by omega, show i + 1 + k - i = k + 1 by omega, List.getD_cons_succ]
      · rw [if_neg h, if_neg (by simp at h ⊢; omega)]

theorem frRel_enter {G : Gh} {vs : List DV} {args : Array Value} (h : RelsA fm G vs args) (n : Nat) : FrRel fm G (frame0 vs 0) (args ++ Array.replicate (n - args.size) undef) := by
  intro t
  rw [frame0_get]
  by_cases e : 0 ≤ t ∧ t < 0 + vs.length
  · rw [if_pos e]
    have ht : t < vs.length := by omega
    have := h.2 t ht
    rw [Array.getD_eq_getD_getElem?] at this ⊢
    rw [Array.getElem?_append_left (by rw [h.1]; exact ht)]
    simp only [Nat.sub_zero]
    rw [List.getD_eq_getElem?_getD, List.getElem?_eq_getElem ht]
    exact this
  · rw [if_neg e]; exact .undef _

/-- A function's body, walked: what the call leaves. -/
theorem call_body {n : Nat} (hn : Good P fm T n) {F : RFunc} {f : FuncId} (hdef : DefRel P fm T (.code F) f) {args : List DV} {args' : Array Value} {st : St} {ex : Ex} {fr : Fr} {st' : St} {v : DV} {G : Gh} {w0 w : World}
    (hrun : runC T n F.body (frame0 args 0) st = some (ex, fr, st')) (hex : ∀ id, ex ≠ .exit id) (hres : resD st' fr F.results = some v) (hs : SimT P fm T G w0 st w) (ha : RelsA fm G args args') :
    EnterOk P f args' w (fun x w' => ∃ G', G.le G' ∧ SimT P fm T G' w0 st' w' ∧ Rel fm G' v x) := by
  obtain ⟨fn, c, hcall, hfn, hb, hc, hl, hr⟩ := hdef
  refine ⟨f, hcall args' w, callsIn_of_wp_marks hfn hb trivial ?_⟩
  have hN : fn.ntmps ≤ (args' ++ Array.replicate (fn.ntmps - args'.size) undef).size := by simp; omega
  have hcode := hn.code (a := { tmps := args' ++ Array.replicate (fn.ntmps - args'.size) undef, defers := [] }) (ro := none) (D0 := G.dfr) hc hrun hs (frRel_enter ha _) hN ⟨[], rfl, List.nodup_nil, fun r hr => by cases hr⟩ (fun r h => h) trivial
  refine wpIn_mono hcode ?_
  rintro e a w1 ⟨h1, G1, h2, h3, h4, h5, rs, h6, h7, h8⟩
  have leave : LeavesInM Fence.wide 0 P fn a.tmps (fun e w' => ∃ x, e = Ending.returned x ∧ ∃ G', G.le G' ∧ SimT P fm T G' w0 st' w' ∧ Rel fm G' v x) a.defers .returning w1 := by
    rw [h6]
    refine leave_marks rs G1 w1 h3 h7 (fun r hr => ⟨(h8 r hr).1, (h8 r hr).2.2⟩) ?_
    intro w' hs'
    have hsub : G1.sub (G1.dropDfr rs) := ⟨fun _ _ _ x => x, fun _ _ x => x, fun _ _ _ x => x, fun _ _ _ => rfl⟩
    obtain ⟨x, hx1, hx2⟩ := run_results hs' (fun t => (h4 t).sub hsub) hl hr hres
    refine ⟨x, hx1, x, rfl, G1.dropDfr rs, ?_, hs', hx2⟩
    exact ⟨h2.toSub.trans hsub, fun r hr => ⟨h2.dfr r hr, fun hm => (h8 r hm).2.1 hr⟩, h2.lps, h2.floor, h2.roFloor, h2.base, h2.tbase, h2.pend⟩
  cases e with
  | normal => exact leave
  | ret => exact leave
  | exit id =>
    cases ex <;> simp only [exRel] at h1
    exact absurd rfl (hex _)
  | goto l => cases ex <;> simp only [exRel] at h1
  | panic c => cases ex <;> simp only [exRel] at h1
  | outgrown => cases ex <;> simp only [exRel] at h1


/-! ### A call that keeps nothing -/
theorem Sim.env_enter {CR : Nat → RC → Code → Prop} {G : Gh} {w0 w : World} {st : St} (h : Sim fm CR G w0 st w) : ∀ r i v, fm.env r i = some v → r < w.heap.size ∧ ∃ cs t fz, w.heap[r]? = some (.cells cs t fz) ∧ cs[i]? = some v := by
  intro r i v hv
  obtain ⟨h1, cs, t, fz, h2, h3⟩ := h.env r i v hv
  exact ⟨Nat.lt_of_lt_of_le h1 h.floorLe, cs, t, fz, (h.below.block r h1).trans h2, h3⟩

def Gh.enter (G : Gh) (st : St) (w : World) : Gh := { G with floor := w.heap.size, base := st.heap.length, tbase := st.toks.length }

theorem Gh.sub_enter (G : Gh) (st : St) (w : World) : G.sub (G.enter st w) := ⟨fun _ _ _ x => x, fun _ _ x => x, fun _ _ _ x => x, fun _ _ _ => rfl⟩

theorem Sim.enter {CR : Nat → RC → Code → Prop} {G : Gh} {w0 w : World} {st : St} (h : Sim fm CR G w0 st w) : Sim fm CR (G.enter st w) w st.enter w := by
  refine { muDom := h.muDom, muInj := h.muInj, obj := ?_, ro := h.ro, roMu := h.roMu, tok := ?_, tokInj := h.tokInj, hist := h.hist, dfr := h.dfr, lps := h.lps, floorLe := Nat.le_refl _, below := Below.refl _ _, base := rfl, tbase := rfl, baseLe := Nat.le_refl _, pend := h.pend, env := h.env_enter }
  · intro b o ho hg hpd
    obtain ⟨r, ob, h1, h2, h3, h4⟩ := h.obj b o ho hg hpd
    refine ⟨r, ob, h1, h2, h3.sub (Gh.sub_enter G st w) h1, fun hb => ?_⟩
    have : b < st.heap.length := h.muDom _ _ h1
    exact absurd hb (by simp only [St.enter]; omega)
  · intro t s ht
    obtain ⟨r, len, cap, n, cs, ty, h1, h2, h3, h4, h5, h6, h7, h8⟩ := h.tok t s ht
    refine ⟨r, len, cap, n, cs, ty, h1, h2, h3, h4, h5, h6, h7, fun hb => ?_⟩
    have : t < st.toks.length := (List.getElem?_eq_some_iff.1 ht).1
    exact absurd hb (by simp only [St.enter]; omega)

/-- What has been laid since is read alone. -/
def Gh.shut (G : Gh) (w w' : World) : Gh :=
  { G with ro := fun r i => if r < w.heap.size then G.ro r i else match w'.heap[r]? with | some (.cells cs _ _) => cs[i]? | _ => none }

theorem Sim.ro_lt {CR : Nat → RC → Code → Prop} {G : Gh} {w0 w : World} {st : St} (h : Sim fm CR G w0 st w) {r i : Nat} {v : Value} (hr : G.ro r i = some v) : r < w.heap.size := by
  obtain ⟨_, _, _, h1, _⟩ := h.ro r i v hr
  exact get?_lt h1

theorem Gh.le_shut {CR : Nat → RC → Code → Prop} {G : Gh} {w0 w : World} {st : St} (h : Sim fm CR G w0 st w) (w' : World) : G.le (G.shut w w') := by
  refine ⟨⟨fun r i v hr => ?_, fun _ _ x => x, fun _ _ _ x => x, fun _ _ _ => rfl⟩, fun _ x => x, fun _ x => x, rfl, fun r i hr => ?_, rfl, rfl, rfl⟩
  · show (if _ then _ else _) = _
    rw [if_pos (h.ro_lt hr)]; exact hr
  · show (if _ then _ else _) = _
    rw [if_pos (Nat.lt_of_lt_of_le hr h.floorLe)]

theorem Sim.shut {CR : Nat → RC → Code → Prop} {G : Gh} {w0 w w' : World} {st : St} (h : Sim fm CR G w0 st w) (hb : Below w.heap.size w w') : Sim fm CR (G.shut w w') w0 st w' := by
  have old : ∀ r o, w.heap[r]? = some o → w'.heap[r]? = some o := fun r o hr => (hb.block r (get?_lt hr)).trans hr
  have hle := (Gh.le_shut h w').toSub
  refine { muDom := h.muDom, muInj := h.muInj, obj := ?_, ro := ?_, roMu := ?_, tok := ?_, tokInj := h.tokInj, hist := h.hist, dfr := fun r hr => old _ _ (h.dfr r hr), lps := ?_, floorLe := Nat.le_trans h.floorLe hb.size, below := h.below.trans (hb.mono h.floorLe), base := h.base, tbase := h.tbase, baseLe := h.baseLe, pend := h.pend, env := h.env }
  · intro b o ho hg hpd
    obtain ⟨r, ob, h1, h2, h3, h4⟩ := h.obj b o ho hg hpd
    exact ⟨r, ob, h1, old _ _ h2, h3.sub hle h1, h4⟩
  · intro r i v hr
    simp only [Gh.shut] at hr
    split at hr
    · obtain ⟨cs, t, fz, h1, h2⟩ := h.ro r i v hr
      exact ⟨cs, t, fz, old _ _ h1, h2⟩
    · split at hr
      · rename_i cs t fz hc
        exact ⟨cs, t, fz, hc, hr⟩
      · cases hr
  · intro r i v b o hr ho hg hm
    obtain ⟨r', ob, h1, h2, _⟩ := h.obj b o ho hg (h.np hm)
    have hm' : G.mu b = some r := hm
    rw [hm'] at h1; cases h1
    have hlt := get?_lt h2
    simp only [Gh.shut, if_pos hlt] at hr
    exact h.roMu r i v b o hr ho hg hm'
  · intro t s ht
    obtain ⟨r, len, cap, n, cs, ty, h1, h2, h3, h4, h5, h6, h7, h8⟩ := h.tok t s ht
    refine ⟨r, len, cap, n, cs, ty, h1, h2, h3, old _ _ h4, h5, fun i hi => ?_, h7, h8⟩
    simp only [Gh.shut, if_pos (get?_lt h4)]
    exact h6 i hi
  · intro r hr
    obtain ⟨l, hl⟩ := h.lps r hr
    exact ⟨l, old _ _ hl⟩

/-- What is read alone stays what it is. -/
theorem Rel.pureTo {G G' : Gh} (hro : ∀ r i v, G.ro r i = some v → G'.ro r i = some v) {v : DV} {x : Value} (k : Rel fm G v x) (hp : v.pure = true) : Rel fm G' v x := by
  induction k with
  | bool b => exact .bool b
  | int k n => exact .int k n
  | str l s h => exact .str l s h
  | nilp => exact .nilp
  | nils tag n tk => exact .nils tag n tk
  | list tag n tk xs r off cap f hr _ hpp hk hl hn ih =>
    refine .list tag n tk xs r off cap f (fun i hi => hro _ _ _ (hr i hi)) (fun i hi => ih i hi (List.all_eq_true.1 hpp _ (List.getElem_mem hi))) hpp ?_ hl hn
    cases tk with
    | no => trivial
    | tight => exact hk
    | own t s => simp [DV.pure] at hp
  | nilmap => exact .nilmap
  | nilfn => exact .nilfn
  | niliface => exact .niliface
  | undef => simp [DV.pure] at hp
  | ptr => simp [DV.pure] at hp
  | cptr => simp [DV.pure] at hp
  | hsl => simp [DV.pure] at hp
  | map => simp [DV.pure] at hp
  | fn => simp [DV.pure] at hp
  | yield => simp [DV.pure] at hp
  | iface => simp [DV.pure] at hp
  | agg => simp [DV.pure] at hp
  | tuple => simp [DV.pure] at hp

theorem Rel.demote {G : Gh} {v : DV} {x : Value} (k : Rel fm G v x) : Rel fm G v.demote x := by
  cases k with
  | list tag n tk xs r off cap f hr hc hp hk hl hn =>
    cases tk with
    | no => exact .list tag n .no xs r off cap f hr hc hp trivial hl hn
    | tight => exact .list tag n .tight xs r off cap f hr hc hp hk hl hn
    | own t s => exact .list tag n .no xs r off cap f hr hc hp trivial hl hn
  | nils tag n tk => cases tk <;> exact .nils tag n _
  | undef x => exact .undef x
  | bool b => exact .bool b
  | int k n => exact .int k n
  | str l s h => exact .str l s h
  | ptr b off r h => exact .ptr b off r h
  | nilp => exact .nilp
  | cptr cs r off f hr hc hp => exact .cptr cs r off f hr hc hp
  | hsl n ag b off len cap r c h hc => exact .hsl n ag b off len cap r c h hc
  | map b r h => exact .map b r h
  | nilmap => exact .nilmap
  | fn g a b f fs cs h h1 h2 hf hc => exact .fn g a b f fs cs h h1 h2 hf hc
  | yield l r h => exact .yield l r h
  | nilfn => exact .nilfn
  | iface t v x h => exact .iface t v x h
  | niliface => exact .niliface
  | agg vs cs hl hc => exact .agg vs cs hl hc
  | tuple vs cs hl hc => exact .tuple vs cs hl hc

theorem pure_leaves {v : DV} (h : v.pure = true) : v.leaves = [v] := by
  cases v <;> simp [DV.pure] at h <;> rfl

theorem flat_chunk (n : Nat) (ag : Bool) (hn : ag = true ∨ n = 1) : ∀ (k : Nat) (vs : List DV), vs.length = k * n → vs.all DV.pure = true → flat (chunk n ag k vs) = vs := by
  intro k
  induction k with
  | zero =>
    intro vs hl _
    have : vs = [] := List.eq_nil_of_length_eq_zero (by simpa using hl)
    subst this; rfl
  | succ k ih =>
    intro vs hl hp
    have hk : (vs.drop n).length = k * n := by rw [List.length_drop, hl, Nat.add_mul]; omega
    have hp' : (vs.drop n).all DV.pure = true := by
      rw [List.all_eq_true] at hp ⊢
      exact fun x hx => hp x (List.mem_of_mem_drop hx)
    have ih' := ih _ hk hp'
    unfold flat at ih' ⊢
    simp only [chunk, List.flatMap_cons, ih']
    cases ag with
    | true =>
      simp only [if_true, DV.leaves]
      exact List.take_append_drop n vs
    | false =>
      have hn1 : n = 1 := by rcases hn with h | h; cases h; exact h
      subst hn1
      cases vs with
      | nil => simp at hl
      | cons v vs =>
        simp only [Bool.false_eq_true, if_false, List.headD_cons, List.drop_succ_cons, List.drop_zero]
        rw [pure_leaves (List.all_eq_true.1 hp v (by simp))]
        rfl

theorem leaves_chunk (n : Nat) (ag : Bool) (hn : ag = true ∨ n = 1) : ∀ (k : Nat) (vs : List DV), vs.length = k * n → vs.all DV.pure = true → ∀ x ∈ chunk n ag k vs, x.leaves.length = n := by
  intro k
  induction k with
  | zero => intro vs _ _ x hx; cases hx
  | succ k ih =>
    intro vs hl hp x hx
    simp only [chunk, List.mem_cons] at hx
    rcases hx with rfl | hx
    · cases ag with
      | true => simp only [if_true, DV.leaves, List.length_take, hl, Nat.add_mul]; omega
      | false =>
        have hn1 : n = 1 := by rcases hn with h | h; cases h; exact h
        subst hn1
        cases vs with
        | nil => simp at hl
        | cons v vs => simp only [Bool.false_eq_true, if_false, List.headD_cons]; rw [pure_leaves (List.all_eq_true.1 hp v (by simp))]; rfl
    · refine ih (vs.drop n) (by rw [List.length_drop, hl, Nat.add_mul]; omega) ?_ x hx
      rw [List.all_eq_true] at hp ⊢
      exact fun x hx => hp x (List.mem_of_mem_drop hx)

theorem length_chunk (n : Nat) (ag : Bool) : ∀ (k : Nat) (vs : List DV), (chunk n ag k vs).length = k := by
  intro k
  induction k with
  | zero => intro vs; rfl
  | succ k ih => intro vs; simp [chunk, ih]


section
variable {CR : Nat → RC → Code → Prop} {G G1 : Gh} {w0 w w' : World} {st st2 : St}

theorem shut_ro (hle : (G.enter st w).le G1) (h2 : Sim fm CR G1 w st2 w') : ∀ r i v, G1.ro r i = some v → (G.shut w w').ro r i = some v := by
  intro r i v hv
  show (if _ then _ else _) = _
  by_cases e : r < w.heap.size
  · rw [if_pos e]
    have := hle.roFloor r i e
    rw [this] at hv; exact hv
  · rw [if_neg e]
    obtain ⟨cs, t, fz, e1, e2⟩ := h2.ro r i v hv
    rw [e1]; exact e2

theorem live_mu (h : Sim fm CR G w0 st w) (hle : (G.enter st w).le G1) (h2 : Sim fm CR G1 w st2 w') {b r : Nat} (hl : st.liveB b = true) (hm : G1.mu b = some r) : G.mu b = some r := by
  unfold St.liveB at hl
  split at hl
  · cases hl
  · cases hl
  · rename_i o hne1 hne2
    cases ho : st.heap[b]? with
    | none => exact absurd ho hne2
    | some o' =>
      obtain ⟨r', ob, h1, _⟩ := h.obj b o' ho (by cases o' <;> first | rfl | exact absurd ho hne1) (by have e1 := h2.np hm; rw [hle.pend] at e1; exact e1)
      have := hle.toSub.mu b r' h1
      rw [hm] at this; cases this; exact h1

theorem exportL_rel (h : Sim fm CR G w0 st w) (hle : (G.enter st w).le G1) (h2 : Sim fm CR G1 w st2 w') {v v' : DV} {x : Value} (hv : Rel fm G1 v x) (he : exportL st st2 v = some v') : Rel fm (G.shut w w') v' x := by
  have hro := shut_ro hle h2
  cases v <;> simp only [exportL, Option.some.injEq, reduceCtorEq] at he
  case bool => subst he; exact hv.pureTo hro rfl
  case int => subst he; exact hv.pureTo hro rfl
  case str => subst he; exact hv.pureTo hro rfl
  case nilp => subst he; exact hv.pureTo hro rfl
  case nilmap => subst he; exact hv.pureTo hro rfl
  case nilfn => subst he; exact hv.pureTo hro rfl
  case niliface => subst he; exact hv.pureTo hro rfl
  case cptr cs =>
    subst he
    cases hv with
    | cptr _ r off f hr hc hp => exact .cptr cs r off f (fun i hi => (hr i hi).imp (hro _ _ _) id) (fun i hi => (hc i hi).pureTo hro (List.all_eq_true.1 hp _ (List.getElem_mem hi))) hp
  case list tag n tk nn xs =>
    subst he
    cases hv with
    | nils => exact .nils _ _ _
    | list _ _ _ _ r off cap f hr hc hp hk hl hn =>
      refine .list tag n _ xs r off cap f (fun i hi => hro _ _ _ (hr i hi)) (fun i hi => (hc i hi).pureTo hro (List.all_eq_true.1 hp _ (List.getElem_mem hi))) hp ?_ hl hn
      cases tk with
      | no => trivial
      | tight => exact hk
      | own t s => trivial
  case ptr b off =>
    split at he
    · rename_i hl
      injection he with he; subst he
      cases hv with
      | ptr _ _ r hm => exact .ptr b off r (live_mu h hle h2 hl hm)
    · cases he
  case map b =>
    split at he
    · rename_i hl
      injection he with he; subst he
      cases hv with
      | map _ r hm => exact .map b r (live_mu h hle h2 hl hm)
    · cases he
  case fn g first captured =>
    split at he
    · rename_i hl
      injection he with he; subst he
      simp only [Bool.and_eq_true, List.isEmpty_iff] at hl
      obtain ⟨rfl, rfl⟩ := hl
      cases hv with
      | fn _ _ _ f fs cs hf h1 h2 _ _ => exact .fn g [] [] f fs cs hf h1 h2 (fun i hi => absurd hi (by simp)) (fun i hi => absurd hi (by simp))
    · cases he
  case hsl n ag b off len cap =>
    cases hv with
    | hsl _ _ _ _ _ _ r c hm hc =>
      split at he
      · rename_i hl
        injection he with he; subst he
        have hm' := live_mu h hle h2 hl hm
        refine .hsl n ag b off len cap r c hm' ?_
        cases cap with
        | some k => exact hc
        | none =>
          simp only [capOk] at hc ⊢
          have : G1.gsz b = G.gsz b := hle.toSub.gsz b r hm'
          rw [this] at hc
          exact hc
      · rename_i hl
        split at he
        · rename_i gr vs hb
          split at he
          · rename_i hcond
            obtain ⟨hlen, hle2, hn, hag, hpure⟩ := hcond
            injection he with he; subst he
            obtain ⟨r', ob, m1, m2, m3, m4⟩ := h2.obj b _ hb rfl (h2.np hm)
            rw [hm] at m1; cases m1
            have hfl : w.heap.size ≤ r := by
              have e1 : st2.base = st.heap.length := by rw [h2.base, hle.base]; rfl
              have e2 : G1.floor = w.heap.size := hle.floor
              have := m4 (by rw [e1]; exact hlen)
              rwa [e2] at this
            have key : ∃ cs t fz, ob = .cells cs t fz ∧ vs.length ≤ cs.size ∧ ∀ i (h : i < vs.length), Rel fm G1 (vs[i]) (cs.getD i undef) := by
              cases gr with
              | plain => obtain ⟨cs, t, fz, e, e2, e3, _⟩ := m3; exact ⟨cs, t, fz, e, by omega, e3⟩
              | typed ty => obtain ⟨cs, t, fz, e, _, e2, e3, _⟩ := m3; exact ⟨cs, t, fz, e, by omega, e3⟩
              | frz ty => obtain ⟨cs, t, fz, e, _, e2, _, e3, _⟩ := m3; exact ⟨cs, t, fz, e, e2, e3⟩
              | grown => obtain ⟨cs, t, fz, e, e2, _, e3, _⟩ := m3; exact ⟨cs, t, fz, e, e2, e3⟩
            obtain ⟨cs, t, fz, rfl, hsz, hrel⟩ := key
            have hfl2 := flat_chunk n ag hag len (((vs.drop off).take (len * n)).map DV.demote) (by simp; omega) hpure
            have hlc := length_chunk n ag len (((vs.drop off).take (len * n)).map DV.demote)
            have hlist := Rel.list (fm := fm) (G := G.shut w w') st2.cur n (if cap = some len then .tight else .no) (chunk n ag len (((vs.drop off).take (len * n)).map DV.demote)) r off c (fun i => cs.getD (off + i) undef) ?_ ?_ ?_ ?_ ?_ ?_
            · rw [hlc] at hlist; exact hlist
            · intro i hi
              rw [hfl2] at hi
              have hi' : off + i < cs.size := by simp at hi; omega
              show (if _ then _ else _) = _
              rw [if_neg (by omega), m2, Array.getD_eq_getD_getElem?]
              simp [hi']
            · intro i hi
              have hi0 := hi
              rw [hfl2] at hi
              have e : (flat (chunk n ag len (((vs.drop off).take (len * n)).map DV.demote)))[i] = (((vs.drop off).take (len * n)).map DV.demote)[i] := by
                congr 1
              rw [e]
              have hi' : off + i < vs.length := by simp at hi; omega
              have hp1 : ((((vs.drop off).take (len * n)).map DV.demote)[i]).pure = true := List.all_eq_true.1 hpure _ (List.getElem_mem hi)
              have e2 : (((vs.drop off).take (len * n)).map DV.demote)[i] = (vs[off + i]).demote := by simp
              rw [e2] at hp1 ⊢
              exact (hrel _ hi').demote.pureTo hro hp1
            · rw [hfl2]; exact hpure
            · rw [hlc]
              split
              · rename_i hcap
                subst hcap
                exact hc.1
              · trivial
            · rw [hlc]
              cases cap with
              | some k => exact hc.1 ▸ hc.2
              | none => exact hc.1
            · exact leaves_chunk n ag hag len _ (by simp; omega) hpure
          · cases he
        · cases he

theorem exportLs_rel (h : Sim fm CR G w0 st w) (hle : (G.enter st w).le G1) (h2 : Sim fm CR G1 w st2 w') : ∀ (vs vs' : List DV), exportLs st st2 vs = some vs' → vs'.length = vs.length ∧ ∀ i (hi : i < vs.length) (hi' : i < vs'.length) (x : Value), Rel fm G1 (vs[i]) x → Rel fm (G.shut w w') (vs'[i]) x
  | [], vs', he => by
    simp only [exportLs, Option.some.injEq] at he; subst he
    exact ⟨rfl, fun i hi => absurd hi (by simp)⟩
  | v :: vs, vs', he => by
    simp only [exportLs] at he
    split at he
    · rename_i a b h1 h3
      injection he with he; subst he
      obtain ⟨l1, r1⟩ := exportLs_rel h hle h2 vs b h3
      refine ⟨by simp [l1], fun i hi hi' x hx => ?_⟩
      cases i with
      | zero => exact exportL_rel h hle h2 hx h1
      | succ i => exact r1 i (by simpa using hi) (by simpa using hi') x hx
    · cases he

theorem exportA_rel (h : Sim fm CR G w0 st w) (hle : (G.enter st w).le G1) (h2 : Sim fm CR G1 w st2 w') {v v' : DV} {x : Value} (hv : Rel fm G1 v x) (he : exportA st st2 v = some v') : Rel fm (G.shut w w') v' x := by
  cases v <;> simp only [exportA] at he <;> try exact exportL_rel h hle h2 hv he
  rename_i vs
  simp only [Option.map_eq_some_iff] at he
  obtain ⟨vs', he, rfl⟩ := he
  cases hv with
  | agg _ cs hl hc =>
    obtain ⟨l1, r1⟩ := exportLs_rel h hle h2 vs vs' he
    exact .agg vs' cs (hl.trans l1.symm) fun i hi => r1 i (by omega) hi _ (hc i (by omega))

theorem exportAs_rel (h : Sim fm CR G w0 st w) (hle : (G.enter st w).le G1) (h2 : Sim fm CR G1 w st2 w') : ∀ (vs vs' : List DV), exportAs st st2 vs = some vs' → vs'.length = vs.length ∧ ∀ i (hi : i < vs.length) (hi' : i < vs'.length) (x : Value), Rel fm G1 (vs[i]) x → Rel fm (G.shut w w') (vs'[i]) x
  | [], vs', he => by
    simp only [exportAs, Option.some.injEq] at he; subst he
    exact ⟨rfl, fun i hi => absurd hi (by simp)⟩
  | v :: vs, vs', he => by
    simp only [exportAs] at he
    split at he
    · rename_i a b h1 h3
      injection he with he; subst he
      obtain ⟨l1, r1⟩ := exportAs_rel h hle h2 vs b h3
      refine ⟨by simp [l1], fun i hi hi' x hx => ?_⟩
      cases i with
      | zero => exact exportA_rel h hle h2 hx h1
      | succ i => exact r1 i (by simpa using hi) (by simpa using hi') x hx
    · cases he

theorem exportT_rel (h : Sim fm CR G w0 st w) (hle : (G.enter st w).le G1) (h2 : Sim fm CR G1 w st2 w') {v v' : DV} {x : Value} (hv : Rel fm G1 v x) (he : exportT st st2 v = some v') : Rel fm (G.shut w w') v' x := by
  cases v <;> simp only [exportT] at he <;> try exact exportA_rel h hle h2 hv he
  rename_i vs
  simp only [Option.map_eq_some_iff] at he
  obtain ⟨vs', he, rfl⟩ := he
  cases hv with
  | tuple _ cs hl hc =>
    obtain ⟨l1, r1⟩ := exportAs_rel h hle h2 vs vs' he
    exact .tuple vs' cs (hl.trans l1.symm) fun i hi => r1 i (by omega) hi _ (hc i (by omega))
end

/-- A function, called. -/
theorem fn_succ (n : Nat) (hn : Good P fm T n) (hT : TabRel P fm T) {g : Nat} {f : FuncId} {args : List DV} {st : St} {v : DV} {st' : St} {G : Gh} {w0 w : World} {args' : Array Value}
    (hf : fm g = some f) (hrun : callF T (n + 1) g args st = some (v, st')) (hs : SimT P fm T G w0 st w) (ha : RelsA fm G args args') :
    FnOk P f args' w (fun x w' => ∃ G', G.le G' ∧ SimT P fm T G' w0 st' w' ∧ Rel fm G' v x) ∧
    (isCode T g = true → EnterOk P f args' w (fun x w' => ∃ G', G.le G' ∧ SimT P fm T G' w0 st' w' ∧ Rel fm G' v x)) := by
  simp only [callF] at hrun
  cases hg : T g with
  | none => rw [hg] at hrun; cases hrun
  | some d =>
    have hdef := hT g d f hg hf
    rw [hg] at hrun
    cases d with
    | prim p =>
      refine ⟨hdef G w0 st w args args' v st' hs ha hrun, fun hc => ?_⟩
      simp [isCode, hg] at hc
    | pprim p =>
      refine ⟨hdef G w0 st w args args' v st' hs ha hrun, fun hc => ?_⟩
      simp [isCode, hg] at hc
    | code F =>
      have main : EnterOk P f args' w (fun x w' => ∃ G', G.le G' ∧ SimT P fm T G' w0 st' w' ∧ Rel fm G' v x) := by
        simp only at hrun
        split at hrun
        · split at hrun
          · cases hrun
          · rename_i ex fr st2 hex hbody
            split at hrun
            · rename_i v1 hres
              simp only [Option.map_eq_some_iff] at hrun
              obtain ⟨v2, hexp, hrun⟩ := hrun
              cases hrun
              have ha' : RelsA fm (G.enter st w) args args' := ⟨ha.1, fun i hi => (ha.2 i hi).sub (Gh.sub_enter G st w)⟩
              obtain ⟨f', h1, h2⟩ := call_body hn hdef hbody (fun id h => hex id h) hres hs.enter ha'
              refine ⟨f', h1, Go.CallsIn.mono h2 ?_⟩
              rintro e w' ⟨x, rfl, G1, g1, g2, g3⟩
              have hb : Below w.heap.size w w' := by
                have := g2.below
                rw [g1.floor] at this
                exact this
              exact ⟨x, rfl, G.shut w w', Gh.le_shut hs w', hs.shut hb, exportT_rel hs g1 g2 g3 hexp⟩
            · cases hrun
          · cases hrun
        · split at hrun
          · cases hrun
          · rename_i ex fr st2 hex hbody
            simp only [Option.map_eq_some_iff] at hrun
            obtain ⟨v1, hres, hrun⟩ := hrun
            cases hrun
            exact call_body hn hdef hbody (fun id h => hex id h) hres hs ha
          · cases hrun
      exact ⟨.inl main, fun _ => main⟩

end Go.D
