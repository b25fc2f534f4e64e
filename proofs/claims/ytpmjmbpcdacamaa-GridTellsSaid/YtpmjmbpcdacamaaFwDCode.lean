/-
Pieces of code, walked: rows of operations, loops, blocks, loops over a function.
-/
import Derived.Test.YtpmjmbpcdacamaaFwDOne
namespace Go.D
open Go.RowKit

variable {P : Program} {fm : FM} {T : Tab}

theorem rows_run {N : Nat} {ops : Array Oper} {rsAll : List ROper} (hrel : OpsRel P fm N rsAll ops) {ro : Option Nat} {Q : Exit → Act → World → Prop} {w0 : World} :
    ∀ (rs : List ROper) (m : Nat), (∀ k, k < m → Good P fm T k) → ∀ (i : Nat) (fr : Fr) (st : St) (fr' : Fr) (st' : St) (G : Gh) (w : World) (a : Act), rsAll.drop i = rs → runOps T m rs fr st = some (fr', st') →
      SimT P fm T G w0 st w → FrRel fm G fr a.tmps → N ≤ a.tmps.size →
      (∀ a' w' G', G.le G' → SimT P fm T G' w0 st' w' → FrRel fm G' fr' a'.tmps → N ≤ a'.tmps.size → a'.defers = a.defers → Q .normal a' w') →
      wpOpsIn (fen ro) 0 P ops Q (List.range' i (ops.size - i)) a w := by
  intro rs
  induction rs with
  | nil =>
    intro m _ i fr st fr' st' G w a hd hrun hs hf hN hQ
    have hi : ops.size ≤ i := by
      have := List.drop_eq_nil_iff.1 hd
      rw [hrel.1] at this; exact this
    rw [show ops.size - i = 0 by omega]
    cases m with
    | zero => simp [runOps] at hrun
    | succ m =>
      simp only [runOps, Option.some.injEq, Prod.mk.injEq] at hrun
      obtain ⟨rfl, rfl⟩ := hrun
      exact hQ a w G (.refl G) hs hf hN rfl
  | cons r rs ih =>
    intro m hm i fr st fr' st' G w a hd hrun hs hf hN hQ
    cases m with
    | zero => simp [runOps] at hrun
    | succ m =>
      have hri : rsAll[i]? = some r := by
        have : (rsAll.drop i)[0]? = some r := by rw [hd]; rfl
        simpa using this
      have hlt : i < ops.size := by
        rw [← hrel.1]
        exact (List.getElem?_eq_some_iff.1 hri).1
      obtain ⟨o, ho, hor⟩ := hrel.2 i r hri
      rw [show ops.size - i = (ops.size - (i + 1)) + 1 by omega, List.range'_succ]
      simp only [runOps] at hrun
      split at hrun
      · rename_i v st1 hone
        simp only [wpOpsIn, ho]
        refine (hm m (by omega)).one (fr := fr) hor hone hs (fun t _ => hf t) ?_
        intro x G1 w1 h1 h2 h3
        have hdst : r.dst = o.dst := hor.1
        refine ih m (fun k hk => hm k (by omega)) (i + 1) (fr.put r.dst v) st1 fr' st' G1 w1 (a.put o.dst x) ?_ hrun h2 ?_ ?_ ?_
        · rw [← List.drop_drop, hd]; rfl
        · rw [hdst]
          exact (hf.le h1).put h3 fun t ht => Nat.lt_of_lt_of_le (hor.2.1 t ht) hN
        · rw [put_size]; exact hN
        · intro a' w' G' g1 g2 g3 g4 g5
          exact hQ a' w' G' (h1.trans g1) g2 g3 g4 (g5.trans (put_defers _ _ _))
      · cases hrun

theorem exists_least (p : Nat → Prop) : ∀ n, p n → ∃ m, p m ∧ ∀ k, p k → m ≤ k := by
  intro n
  induction n using Nat.strongRecOn with
  | _ n ih =>
    intro hn
    by_cases h : ∃ m, m < n ∧ p m
    · obtain ⟨m, hm, hp⟩ := h; exact ih m hm hp
    · exact ⟨n, hn, fun k hk => Nat.le_of_not_lt fun hlt => h ⟨k, hlt, hk⟩⟩

/-- A loop, by the steps that are left. -/
theorem wpIn_loop_fuel {F : Fence} {n : Nat} {c : Code} {Q : Exit → Act → World → Prop} {a : Act} {w : World} (J : Nat → Act → World → Prop) (k : Nat) (h0 : J k a w)
    (round : ∀ k a w, J k a w → c.wpIn F n P (Exit.then (fun a' w' => ∃ k', k' < k ∧ J k' a' w') Q) a w) : (Code.loop c).wpIn F n P Q a w := by
  classical
  let μ : Act → World → Nat := fun a w => if h : ∃ k, J k a w then Classical.choose (exists_least (fun k => J k a w) _ (Classical.choose_spec h)) else 0
  refine wpIn_loop (fun a w => ∃ k, J k a w) μ ⟨k, h0⟩ ?_
  intro a w h
  have hf := Classical.choose_spec (exists_least (fun k => J k a w) _ (Classical.choose_spec h))
  refine wpIn_mono (round _ a w hf.1) ?_
  intro e a' w' hq
  cases e <;> try exact hq
  obtain ⟨k', hk, hj⟩ := hq
  refine ⟨⟨k', hj⟩, ?_⟩
  have h' : ∃ k, J k a' w' := ⟨k', hj⟩
  have hf' := Classical.choose_spec (exists_least (fun k => J k a' w') _ (Classical.choose_spec h'))
  show (if h : ∃ k, J k a' w' then _ else 0) < (if h : ∃ k, J k a w then _ else 0)
  rw [dif_pos ⟨k', hj⟩, dif_pos h]
  exact Nat.lt_of_le_of_lt (hf'.2 _ hj) hk


theorem CPost.mono {G G1 : Gh} {w0 : World} {st : St} {fr : Fr} {ex : Ex} {N : Nat} {D0 : Nat → Prop} (h : G.le G1) {e : Exit} {a : Act} {w : World} (k : CPost P fm T G1 w0 st fr ex N D0 e a w) :
    CPost P fm T G w0 st fr ex N D0 e a w := by
  obtain ⟨h1, G', h2, h3⟩ := k
  exact ⟨h1, G', h.trans h2, h3⟩

theorem DfrOk.le {G G' : Gh} {D0 : Nat → Prop} {ds : List Deferred} (h : G.le G') (k : DfrOk G D0 ds) : DfrOk G' D0 ds := by
  obtain ⟨rs, h1, h2, h3⟩ := k
  exact ⟨rs, h1, h2, fun r hr => ⟨h.dfr r (h3 r hr).1, (h3 r hr).2.1, by rw [h.floor]; exact (h3 r hr).2.2⟩⟩

theorem RoOk.le {G G' : Gh} {ro : Option Nat} (h : G.le G') (k : RoOk G ro) : RoOk G' ro := by
  cases ro with
  | none => trivial
  | some l => exact h.lps l k

theorem run_enterLoop_inner {w : World} {l0 : Nat} {L : Loop} (h : w.heap[l0]? = some (.loop L)) (fn : FuncId) (tmps : Array Value) (ps : Array Tmp) (assign body : Code) :
    (Instr.enterLoop fn tmps ps assign body (some l0)).run P w =
      .ok (w.heap.size, []) (w.alloc (.loop { state := .ready, pending := none, fn, tmps, params := ps, assign, body, defers := L.defers })) := by
  unfold Instr.enterLoop
  simp only [Sem.run_bind, run_getLoop h, run_newObj_alloc, Result.andThen, Sem.run_pure]

/-- The world in which the function that is ranged over is called, and what stands for it. -/
theorem enter_loop {G : Gh} {w0 w : World} {st : St} {a : Act} {ro : Option Nat} {D0 : Nat → Prop} {N : Nat} {fr0 : Fr} {ps : List Nat} {as bo : RC} {qs : Array Tmp} {x y : Code} (hs : SimT P fm T G w0 st w) (hf : FrRel fm G fr0 a.tmps)
    (hN : N ≤ a.tmps.size) (hd : DfrOk G D0 a.defers) (hD0 : ∀ r, D0 r → G.dfr r) (hro : RoOk G ro) (hq : qs.toList = ps) (hp : ∀ p ∈ ps, p < N) (hx : CRel P fm T N as x) (hy : CRel P fm T N bo y) (fn : FuncId) :
    ∃ l mark w1 G1, (Instr.enterLoop fn a.tmps qs x y ro).run P w = .ok (l, mark) w1 ∧ G.le G1 ∧ SimT P fm T G1 w0 (st.push (.loop ⟨fr0, ps, as, bo, 0, none⟩)) w1 ∧ G1.mu st.heap.length = some l ∧
      DfrOk G1 D0 (mark ++ a.defers) := by
  cases ro with
  | none =>
    refine ⟨_, _, _, (G.addDfr w.heap.size).push st.heap.length (w.heap.size + 1) 0, run_enterLoop_outer fn a.tmps qs x y, ?_, ?_, ?_, ?_⟩
    · refine (Gh.le_addDfr G w.heap.size).trans (Gh.le_push ?_)
      exact hs.muNone
    · have h1 : SimT P fm T (G.addDfr w.heap.size) w0 st (w.alloc (.deferred (some []))) := (hs.alloc _).addDfr (World.alloc_heap_new w _)
      have h2 := h1.push (o := .loop ⟨fr0, ps, as, bo, 0, none⟩) (ob := .loop { state := .ready, pending := none, fn, tmps := a.tmps, params := qs, assign := x, body := y, defers := w.heap.size }) 0 ?_ rfl
      · rw [World.size_alloc] at h2; exact h2
      · refine ⟨_, rfl, rfl, by simp, .none, hq, ⟨N, hN, hp, hx, hy⟩, ?_⟩
        exact (hf.le (Gh.le_addDfr G w.heap.size)).le (Gh.le_push h1.muNone)
    · simp [Gh.push]
    · obtain ⟨rs, h1, h2, h3⟩ := hd
      have fresh : ¬ G.dfr w.heap.size := fun h => by
        have := hs.dfr _ h
        exact absurd (get?_lt this) (Nat.lt_irrefl _)
      refine ⟨w.heap.size :: rs, by simp [h1], List.nodup_cons.2 ⟨fun hm => fresh (h3 _ hm).1, h2⟩, ?_⟩
      intro r hr
      rcases List.mem_cons.1 hr with rfl | hr
      · exact ⟨.inr rfl, fun h => fresh (hD0 _ h), hs.floorLe⟩
      · exact ⟨.inl (h3 r hr).1, (h3 r hr).2⟩
  | some l0 =>
    obtain ⟨L, hL⟩ := hs.lps l0 hro
    refine ⟨_, _, _, G.push st.heap.length w.heap.size 0, run_enterLoop_inner hL fn a.tmps qs x y, Gh.le_push hs.muNone, ?_, ?_, ?_⟩
    · refine hs.push 0 ?_ rfl
      refine ⟨_, rfl, rfl, by simp, .none, hq, ⟨N, hN, hp, hx, hy⟩, ?_⟩
      exact hf.le (Gh.le_push hs.muNone)
    · simp [Gh.push]
    · exact hd.le (Gh.le_push hs.muNone)

end Go.D
