/-
A round of a loop over a function.
-/
import Derived.Test.YtpmjmbpcdacamaaFwDFn
namespace Go.D
open Go.RowKit

variable {P : Program} {fm : FM} {T : Tab}

theorem frRel_params {G : Gh} : ∀ (ps : List Nat) (vs : List DV) (xs : List Value) (fr : Fr) (tmps : Array Value), vs.length = ps.length → xs.length = vs.length → (∀ i (h : i < vs.length), Rel fm G (vs[i]) (xs.getD i undef)) → (∀ p ∈ ps, p < tmps.size) →
    FrRel fm G fr tmps → FrRel fm G (setParams fr ps vs) ((ps.zip xs).foldl (fun (tmps : Array Value) (x : Nat × Value) => tmps.setIfInBounds x.1 x.2) tmps) ∧ ((ps.zip xs).foldl (fun (tmps : Array Value) (x : Nat × Value) => tmps.setIfInBounds x.1 x.2) tmps).size = tmps.size
  | [], vs, xs, fr, tmps, hl, _, _, _, hf => by
    have : vs = [] := List.eq_nil_of_length_eq_zero hl
    subst this
    exact ⟨hf, rfl⟩
  | p :: ps, [], xs, fr, tmps, hl, _, _, _, _ => by simp at hl
  | p :: ps, v :: vs, [], fr, tmps, _, hx, _, _, _ => by simp at hx
  | p :: ps, v :: vs, x :: xs, fr, tmps, hl, hx, hr, hp, hf => by
    have h1 := frRel_params ps vs xs ((p, v) :: fr) (tmps.setIfInBounds p x) (by simpa using hl) (by simpa using hx) (fun i hi => hr (i + 1) (by simpa using hi)) (fun q hq => by simpa using hp q (by simp [hq])) ?_
    · simp only [List.zip_cons_cons, List.foldl_cons, setParams]
      refine ⟨h1.1, h1.2.trans (by simp)⟩
    · intro t
      rw [getD_setIfInBounds _ _ _ _ _ (hp p (by simp))]
      show Rel fm G (if p = t then v else fr.get t) _
      by_cases e : p = t
      · rw [if_pos e, if_pos e]; exact hr 0 (by simp)
      · rw [if_neg e, if_neg e]; exact hf t

theorem val_succ (n : Nat) (hn : Good P fm T n) {v0 : DV} {x0 : Value} {args : List DV} {st : St} {v : DV} {st' : St} {G : Gh} {w0 w : World} {args' : Array Value}
    (hv : Rel fm G v0 x0) (hrun : callV T (n + 1) v0 args st = some (v, st')) (hs : SimT P fm T G w0 st w) (ha : RelsA fm G args args') :
    ∃ d, (Deferred.ofValue x0 args').run P w = .ok d w ∧ InvOk P d.target d.args w (fun x w' => ∃ G', G.le G' ∧ SimT P fm T G' w0 st' w' ∧ Rel fm G' v x) := by
  cases v0 <;> try (simp only [callV, reduceCtorEq] at hrun; done)
  · rename_i g first captured
    simp only [callV] at hrun
    exact inv_of_fnval hv ha fun f as hf has => (hn.fn hf hrun hs has).1
  · rename_i l
    simp only [callV] at hrun
    cases hv with
    | yield _ r hm =>
    split at hrun
    · rename_i lo hlo
      split at hrun
      · rename_i hcond
        obtain ⟨hbase, hlen⟩ := hcond
        obtain ⟨L, hL, hrel⟩ := loop_at hs hlo hm
        obtain ⟨L', e1, e2, e3, e4, e5, ⟨N, e6, e7, e8, e9⟩, e10⟩ := hrel
        cases e1
        have hsz : args'.size = L.params.size := by
          rw [ha.1, hlen, ← e5]; simp
        refine ⟨{ target := .fn (.yield r) #[], args := args' }, by simp [Deferred.ofValue], .inr (.inr ?_)⟩
        have hinv : (invoke (.fn (.yield r) #[]) args').run P w = _ := run_yield (P := P) hL hsz
        refine ⟨_, _, _, _, _, _, hinv, ?_⟩
        split at hrun
        · rename_i fr1 st1 hassign
          split at hrun
          · rename_i lo1 hlo1
            split at hrun
            · rename_i hst1
              split at hrun
              · rename_i ex fr2 st2 hbody
                split at hrun
                · rename_i lo2 hlo2
                  have hG1 : G.le (G.addLp r) := Gh.le_addLp G r
                  have hs1 : SimT P fm T (G.addLp r) w0 st w := hs.addLp hL
                  have hpar := frRel_params (fm := fm) (G := G.addLp r) lo.params args args'.toList lo.fr L.tmps hlen (by simpa using ha.1)
                    (fun i hi => by
                      have := (ha.2 i hi).le hG1
                      rw [Array.getD_eq_getD_getElem?] at this
                      rw [List.getD_eq_getElem?_getD, Array.getElem?_toList]; exact this) (fun p hp => Nat.lt_of_lt_of_le (e7 p hp) e6) (e10.le hG1)
                  have hfold : ((L.params.zip args').foldl (fun tmps (x : Nat × Value) => tmps.setIfInBounds x.1 x.2) L.tmps) = ((lo.params.zip args'.toList).foldl (fun tmps (x : Nat × Value) => tmps.setIfInBounds x.1 x.2) L.tmps) := by
                    rw [← Array.foldl_toList, Array.toList_zip, e5]
                  refine roundIn_of_wpIn trivial ?_
                  show L.assign.wpIn (Fence.wide.inRound r) 0 P _ _ w
                  have hfr : (fen (some r)) = Fence.wide.inRound r := rfl
                  rw [← hfr]
                  have hcode1 := hn.code (a := { tmps := (L.params.zip args').foldl (fun tmps (x : Nat × Value) => tmps.setIfInBounds x.1 x.2) L.tmps, defers := [] }) (ro := some r) (D0 := G.dfr) e8 hassign hs1
                    (by rw [hfold]; exact hpar.1) (by rw [hfold, hpar.2]; exact e6) ⟨[], rfl, List.nodup_nil, fun r hr => by cases hr⟩ (fun r h => h) (.inr rfl)
                  refine wpIn_mono hcode1 ?_
                  rintro e a1 w1 ⟨k1, G2, k2, k3, k4, k5, k6⟩
                  cases e <;> simp only [exRel] at k1
                  have hle2 := hG1.trans k2
                  have hm2 := hle2.toSub.mu _ _ hm
                  obtain ⟨L1, hL1, hrel1⟩ := loop_at k3 hlo1 hm2
                  obtain ⟨L1', f1, f2, f3, f4, f5, f6, f7⟩ := hrel1
                  cases f1
                  have hready : L1.state = .ready := by rw [f2, hst1]; rfl
                  have hb1 : st1.base ≤ l := by rw [k3.base, hle2.base, ← hs.base]; exact hbase
                  refine ⟨_, run_beginRound hL1 hready, ?_⟩
                  have hs2 : SimT P fm T G2 w0 { st1 with heap := st1.heap.set l (.loop { lo1 with state := 1 }) } (w1.putObj r (.loop { L1 with state := .busy })) :=
                    k3.put hlo1 rfl hm2 hb1 ⟨_, rfl, rfl, by simp, f4, f5, f6, f7⟩ rfl (fun _ => rfl)
                  have hcode2 := hn.code (ro := some r) (D0 := G.dfr) e9 hbody hs2 k4 k5 k6 (fun q hq => hle2.dfr q hq) (k2.lps r (.inr rfl))
                  refine wpIn_mono hcode2 ?_
                  rintro e a2 w2 ⟨m1, G3, m2, m3, m4, m5, m6⟩
                  have hle3 := hle2.trans m2
                  have hm3 := m2.toSub.mu _ _ hm2
                  obtain ⟨L2, hL2, hrel2⟩ := loop_at m3 hlo2 hm3
                  obtain ⟨L2', g1, g2, g3, g4, g5, g6, g7⟩ := hrel2
                  cases g1
                  have hb2 : st2.base ≤ l := by rw [m3.base, hle3.base, ← hs.base]; exact hbase
                  cases ex with
                  | normal =>
                    cases e <;> simp only [exRel] at m1
                    simp only [Option.some.injEq, Prod.mk.injEq] at hrun
                    obtain ⟨rfl, rfl⟩ := hrun
                    refine ⟨_, _, run_endRound none hL2, .bool true, rfl, G3, hle3, ?_, .bool true⟩
                    exact m3.put hlo2 rfl hm3 hb2 ⟨_, rfl, rfl, by simp, .none, g5, g6, g7⟩ rfl (fun _ => rfl)
                  | ret =>
                    cases e <;> simp only [exRel] at m1
                    simp only [Option.some.injEq, Prod.mk.injEq] at hrun
                    obtain ⟨rfl, rfl⟩ := hrun
                    refine ⟨_, _, run_endRound (some .ret) hL2, .bool false, rfl, G3, hle3, ?_, .bool false⟩
                    exact m3.put hlo2 rfl hm3 hb2 ⟨_, rfl, rfl, by simp, .ret, g5, g6, g7⟩ rfl (fun _ => rfl)
                  | exit id =>
                    cases e <;> simp only [exRel] at m1
                    subst m1
                    simp only [Option.some.injEq, Prod.mk.injEq] at hrun
                    obtain ⟨rfl, rfl⟩ := hrun
                    refine ⟨_, _, run_endRound (some (.exit id)) hL2, .bool false, rfl, G3, hle3, ?_, .bool false⟩
                    exact m3.put hlo2 rfl hm3 hb2 ⟨_, rfl, rfl, by simp, .exit id, g5, g6, g7⟩ rfl (fun _ => rfl)
                · cases hrun
              · cases hrun
            · cases hrun
          · cases hrun
        · cases hrun
      · cases hrun
    · cases hrun

end Go.D
