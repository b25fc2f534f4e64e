/-
Pieces of code, walked: the whole.
-/
import Derived.Test.YtpmjmbpcdacamaaFwDCode
namespace Go.D
open Go.RowKit

variable {P : Program} {fm : FM} {T : Tab}

/-- What is owed of a region that draws its order. -/
def DrawOk (P : Program) (fm : FM) (T : Tab) (n : Nat) : Prop :=
  ∀ {N : Nat} {rs : List ROper} {hs : List Nat} {rs2 : List ROper} {st1 : St} {chk : List (Nat × List Nat)} {anc : Nat → List Nat} {ops : Array Oper} {id : Nat} {fr : Fr} {st : St} {fr' : Fr} {st' : St} {sts : List St} {G : Gh} {w0 w : World} {a : Act} {ro : Option Nat} {D0 : Nat → Prop},
    DRel P fm T N rs hs chk ops anc → prepH fr hs st rs = some (st1, rs2) → runOpsS T n rs2 fr st1 [st1] = some (fr', st' :: sts) → chkAll T n fr' rs2 (st' :: sts).reverse chk = true → SimT P fm T G w0 st w → FrRel fm G fr a.tmps → N ≤ a.tmps.size →
    DfrOk G D0 a.defers → (Code.region id ops true).wpIn (fen ro) 0 P (CPost P fm T G w0 st' fr' .normal N D0) a w

theorem CPost.then_exit {G : Gh} {w0 : World} {st : St} {fr : Fr} {ex : Ex} {N : Nat} {D0 : Nat → Prop} {e : Exit} {a : Act} {w : World} {next : Act → World → Prop} (hne : ex ≠ .normal)
    (k : CPost P fm T G w0 st fr ex N D0 e a w) : Exit.then next (CPost P fm T G w0 st fr ex N D0) e a w := by
  have hx := k.1
  cases e <;> cases ex <;> simp only [exRel] at hx <;> first | exact k | exact absurd rfl hne

theorem loop_at {G1 : Gh} {w0 w : World} {st : St} {l r : Nat} {lo : LoopObj} (hs : SimT P fm T G1 w0 st w) (hl : st.heap[l]? = some (.loop lo)) (hm : G1.mu l = some r) :
    ∃ L, w.heap[r]? = some (.loop L) ∧ ObjRel fm (CRel P fm T) G1 l (.loop lo) (.loop L) := by
  obtain ⟨r', ob, h1, h2, h3, _⟩ := hs.obj l _ hl rfl (hs.np hm)
  rw [hm] at h1; cases h1
  obtain ⟨L, rfl, h4⟩ := h3
  exact ⟨L, h2, L, rfl, h4⟩

theorem code_succ (n : Nat) (hall : ∀ m, m ≤ n → Good P fm T m) (hdr : DrawOk P fm T n) {rc : RC} {c : Code} {N : Nat} {fr : Fr} {st : St} {ex : Ex} {fr' : Fr} {st' : St} {G : Gh} {w0 w : World} {a : Act} {ro : Option Nat} {D0 : Nat → Prop}
    (hc : CRel P fm T N rc c) (hrun : runC T (n + 1) rc fr st = some (ex, fr', st')) (hs : SimT P fm T G w0 st w) (hf : FrRel fm G fr a.tmps) (hN : N ≤ a.tmps.size) (hd : DfrOk G D0 a.defers) (hD0 : ∀ r, D0 r → G.dfr r) (hro : RoOk G ro) :
    c.wpIn (fen ro) 0 P (CPost P fm T G w0 st' fr' ex N D0) a w := by
  have hn := hall n (Nat.le_refl n)
  cases rc with
  | skip =>
    simp only [runC, Option.some.injEq, Prod.mk.injEq] at hrun
    obtain ⟨rfl, rfl, rfl⟩ := hrun
    have post : CPost P fm T G w0 st fr .normal N D0 .normal a w := ⟨trivial, G, .refl G, hs, hf, hN, hd⟩
    rcases hc with rfl | ⟨l, rfl⟩
    · exact wpIn_skip post
    · exact wpIn_label post
  | region ops live =>
    obtain ⟨id, oops, rfl, hrel⟩ := hc
    simp only [runC] at hrun
    split at hrun
    · rename_i fr1 st1 hr
      simp only [Option.some.injEq, Prod.mk.injEq] at hrun
      obtain ⟨rfl, rfl, rfl⟩ := hrun
      refine wpIn_region ?_
      rw [List.range_eq_range']
      refine rows_run hrel ops n (fun k hk => hall k (by omega)) 0 fr st fr1 st1 G w a rfl hr hs hf hN ?_
      intro a' w' G' h1 h2 h3 h4 h5
      exact ⟨trivial, G', h1, h2, h3.keep live, h4, by rw [h5]; exact hd.le h1⟩
    · cases hrun
  | dregion ops hs' chk live =>
    obtain ⟨id, oops, anc, rfl, hrel⟩ := hc
    simp only [runC] at hrun
    split at hrun
    · rename_i st0 ops2 hpr
      split at hrun
      · rename_i fr1 sts hr
        split at hrun
        · rename_i hck
          split at hrun
          · rename_i st1 sts1
            simp only [Option.some.injEq, Prod.mk.injEq] at hrun
            obtain ⟨rfl, rfl, rfl⟩ := hrun
            refine wpIn_mono (hdr hrel hpr hr hck hs hf hN hd) ?_
            rintro e a' w' ⟨h1, G', h2, h3, h4, h5⟩
            exact ⟨h1, G', h2, h3, h4.keep live, h5⟩
          · cases hrun
        · cases hrun
      · cases hrun
    · cases hrun
  | seq x y =>
    obtain ⟨cx, cy, rfl, hx, hy⟩ := hc
    simp only [runC] at hrun
    refine wpIn_seq ?_
    split at hrun
    · rename_i fr1 st1 hr
      refine wpIn_mono (hn.code hx hr hs hf hN hd hD0 hro) ?_
      rintro e a1 w1 ⟨h1, G1, h2, h3, h4, h5, h6⟩
      cases e <;> simp only [exRel] at h1
      show cy.wpIn _ _ _ _ _ _
      exact wpIn_mono (hn.code hy hrun h3 h4 h5 h6 (fun r hr => h2.dfr r (hD0 r hr)) (hro.le h2)) fun e a w k => k.mono h2
    · rename_i hr
      refine wpIn_mono (hn.code hx hrun hs hf hN hd hD0 hro) ?_
      intro e a1 w1 k
      refine CPost.then_exit ?_ k
      rintro rfl
      exact hr _ _ hrun
  | cond x cy cz =>
    obtain ⟨o, y, z, rfl, hx, hy, hz⟩ := hc
    simp only [runC] at hrun
    have hev := hx.ev (a := a) hf
    split at hrun
    · rename_i hb
      rw [hb] at hev
      refine wpIn_cond_true ?_ (hn.code hy hrun hs hf hN hd hD0 hro)
      generalize a.eval o = v at hev
      cases hev; rfl
    · rename_i hb
      rw [hb] at hev
      refine wpIn_cond_false ?_ (hn.code hz hrun hs hf hN hd hD0 hro)
      generalize a.eval o = v at hev
      cases hev; rfl
    · cases hrun
  | block id x =>
    obtain ⟨cx, rfl, hx⟩ := hc
    simp only [runC] at hrun
    refine wpIn_block ?_
    split at hrun
    · rename_i id' fr1 st1 hr
      refine wpIn_mono (hn.code hx hr hs hf hN hd hD0 hro) ?_
      rintro e a1 w1 ⟨h1, h2⟩
      cases e <;> simp only [exRel] at h1
      subst h1
      show (if _ then _ else _)
      split at hrun
      · rename_i he
        simp only [Option.some.injEq, Prod.mk.injEq] at hrun
        obtain ⟨rfl, rfl, rfl⟩ := hrun
        rw [if_pos he]
        exact ⟨trivial, h2⟩
      · rename_i he
        simp only [Option.some.injEq, Prod.mk.injEq] at hrun
        obtain ⟨rfl, rfl, rfl⟩ := hrun
        rw [if_neg he]
        exact ⟨rfl, h2⟩
    · rename_i hr
      refine wpIn_mono (hn.code hx hrun hs hf hN hd hD0 hro) ?_
      rintro e a1 w1 k
      have h1 := k.1
      cases e <;> try exact k
      cases ex <;> simp only [exRel] at h1
      exact absurd hrun (hr _ _ _)
  | loop live x =>
    obtain ⟨cx, rfl, hx⟩ := hc
    refine wpIn_loop_fuel (fun k a w => k ≤ n + 1 ∧ ∃ fr st G1, runC T k (.loop live x) fr st = some (ex, fr', st') ∧ G.le G1 ∧ SimT P fm T G1 w0 st w ∧ FrRel fm G1 fr a.tmps ∧ N ≤ a.tmps.size ∧ DfrOk G1 D0 a.defers)
      (n + 1) ⟨Nat.le_refl _, fr, st, G, hrun, .refl G, hs, hf, hN, hd⟩ ?_
    rintro k a1 w1 ⟨hk, fr1, st1, G1, hrun1, h2, h3, h4, h5, h6⟩
    cases k with
    | zero => simp [runC] at hrun1
    | succ k =>
      simp only [runC] at hrun1
      have hk' := hall k (by omega)
      split at hrun1
      · rename_i fr2 st2 hr
        refine wpIn_mono (hk'.code hx hr h3 (h4.keep live) h5 h6 (fun r hr => h2.dfr r (hD0 r hr)) (hro.le h2)) ?_
        rintro e a2 w2 ⟨g1, G2, g2, g3, g4, g5, g6⟩
        cases e <;> simp only [exRel] at g1
        exact ⟨k, Nat.lt_succ_self k, by omega, fr2, st2, G2, hrun1, h2.trans g2, g3, g4, g5, g6⟩
      · rename_i hr
        refine wpIn_mono (hk'.code hx hrun1 h3 (h4.keep live) h5 h6 (fun r hr => h2.dfr r (hD0 r hr)) (hro.le h2)) ?_
        intro e a2 w2 kk
        have kk := kk.mono h2
        refine CPost.then_exit ?_ kk
        rintro rfl
        exact hr _ _ hrun1
  | exit id =>
    cases hc
    simp only [runC, Option.some.injEq, Prod.mk.injEq] at hrun
    obtain ⟨rfl, rfl, rfl⟩ := hrun
    exact wpIn_exit ⟨rfl, G, .refl G, hs, hf, hN, hd⟩
  | stuck => simp [runC] at hrun
  | ret =>
    cases hc
    simp only [runC, Option.some.injEq, Prod.mk.injEq] at hrun
    obtain ⟨rfl, rfl, rfl⟩ := hrun
    exact wpIn_ret ⟨trivial, G, .refl G, hs, hf, hN, hd⟩
  | rfunc f ps as bo live =>
    obtain ⟨o, qs, x, y, rfl, hxr, hq, hp, hx, hy⟩ := hc
    simp only [runC] at hrun
    have hf0 := hf.keep live
    have hev := hxr.ev (a := a) hf0
    generalize X.ev (Fr.keep fr live) f = v0 at hrun hev
    cases v0 <;> try (simp only [reduceCtorEq] at hrun; done)
    rename_i g first captured
    simp only at hrun
    split at hrun
    · rename_i hcode
      split at hrun
      · rename_i v1 st1 hcall
        split at hrun
        · rename_i lo hlo
          split at hrun
          · cases hrun
          rename_i hst
          refine wpIn_rangeFunc ?_
          intro fn _
          rw [fen_round]
          obtain ⟨l, mark, w1, G1, he1, hle1, hs1, hmu1, hdf1⟩ := enter_loop hs hf0 hN hd hD0 hro hq hp hx hy fn
          have hargs : RelsA fm G1 [.yield st.heap.length] #[.func (.yield l) #[] #[]] := ⟨rfl, fun i hi => by
            have : i = 0 := by simp at hi; exact hi
            subst this
            exact .yield _ _ hmu1⟩
          have hev1 := hev.le hle1
          generalize hx0 : a.eval o = x0 at hev1
          cases hev1 with
          | fn _ _ _ f' fs cs hfm k1 k2 hfs hcs =>
            have hall' : RelsA fm G1 (first ++ [.yield st.heap.length] ++ captured) (fs ++ #[.func (.yield l) #[] #[]] ++ cs) := RelsA.append (RelsA.append ⟨k1, hfs⟩ hargs) ⟨k2, hcs⟩
            obtain ⟨f'', hi1, hi2⟩ := (hn.fn hfm hcall hs1 hall').2 hcode
            refine ⟨l, mark, w1, { target := .fn (.func f') cs, args := fs ++ #[.func (.yield l) #[] #[]] }, w1, f'', fs ++ #[.func (.yield l) #[] #[]] ++ cs, w1, he1, ?_, fun f' _ => fen_fn ro f', ?_, fen_depth ro, ?_⟩
            · show (Deferred.ofValue (a.eval o) (#[Operand.const (.func (.yield l) #[] #[])].map a.eval)).run P w1 = _
              rw [hx0]
              simp [Deferred.ofValue, Act.eval]
            · have e : invoke (.fn (.func f') cs) (fs ++ #[.func (.yield l) #[] #[]]) = callFunc f' (fs ++ #[.func (.yield l) #[] #[]] ++ cs) := by simp [invoke]
              rw [e]; exact hi1
            · refine Go.CallsIn.mono (CallsIn.fen ro hi2) ?_
              rintro e w3 ⟨xr, rfl, G2, g1, g2, _⟩
              have hm2 := g1.toSub.mu _ _ hmu1
              obtain ⟨L, hL, hrel⟩ := loop_at g2 hlo hm2
              obtain ⟨L', e1, e2, e3, e4, e5, e6, e7⟩ := hrel
              cases e1
              have hnb : L.state ≠ .busy := by
                rw [e2]
                intro hb
                rcases Nat.lt_or_ge lo.state 4 with h | h
                · have : lo.state = 0 ∨ lo.state = 1 ∨ lo.state = 2 ∨ lo.state = 3 := by omega
                  rcases this with h | h | h | h <;> rw [h] at hb <;> simp [LoopSt] at hb
                  exact hst h
                · omega
              refine ⟨_, _, run_endLoop hL hnb, ?_⟩
              have hbase : st1.base ≤ st.heap.length := by
                rw [g2.base, g1.base, hle1.base, ← hs.base]
                exact hs.baseLe
              have g3 := g2.put (o' := .loop { lo with state := 3 }) (ob' := .loop { L with state := .exhausted }) hlo rfl hm2 hbase ⟨_, rfl, rfl, by simp, e4, e5, e6, e7⟩ rfl (fun _ => rfl)
              have hd3 := hdf1.le g1
              have hle3 := hle1.trans g1
              split at hrun
              · rename_i hpend
                simp only [Option.some.injEq, Prod.mk.injEq] at hrun
                obtain ⟨rfl, rfl, rfl⟩ := hrun
                rw [hpend] at e4
                generalize L.pending = jump at e4 g3
                cases e4
                exact ⟨trivial, G2, hle3, g3, hf0.le hle3, hN, hd3⟩
              · rename_i ex0 hpend
                simp only [Option.some.injEq, Prod.mk.injEq] at hrun
                obtain ⟨rfl, rfl, rfl⟩ := hrun
                rw [hpend] at e4
                generalize L.pending = jump at e4 g3
                cases e4
                · exact wpIn_ret ⟨trivial, G2, hle3, g3, hf0.le hle3, hN, hd3⟩
                · exact wpIn_exit ⟨rfl, G2, hle3, g3, hf0.le hle3, hN, hd3⟩
        · cases hrun
      · cases hrun
    · cases hrun

end Go.D
