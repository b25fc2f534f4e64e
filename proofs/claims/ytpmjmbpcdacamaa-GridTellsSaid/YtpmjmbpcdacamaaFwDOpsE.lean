/-
Pieces of lists and strings; the greater and the lesser; strings and bytes.
-/
import Derived.Test.YtpmjmbpcdacamaaFwDOpsD
import Derived.Lib.Strings
namespace Go.D
open Go.RowKit

variable {P : Program} {fm : FM}

theorem bnd_some {v : DV} {y k : Nat} (h : bnd v y = some k) : k ≤ y ∧ ∃ kd n, v = .int kd n ∧ 0 ≤ n ∧ n.toNat = k := by
  unfold bnd at h
  split at h
  · rename_i kd n
    split at h
    · rename_i hc; injection h with h; exact ⟨by omega, kd, n, rfl, hc.1, h⟩
    · cases h
  · cases h

theorem run_sliceBound {G : Gh} {v : DV} {x : Value} {y y' k : Nat} {c : BoundsCode} {w : World} (h : bnd v y = some k) (hy : y ≤ y') (hv : Rel fm G v x) : (Instr.sliceBound x y' c).run P w = .ok k w := by
  obtain ⟨h1, kd, n, rfl, h2, h3⟩ := bnd_some h
  cases hv
  unfold Instr.sliceBound
  have : 0 ≤ n ∧ n ≤ (y' : Int) := by omega
  simp [asIntOf, this, h3]

def OptRel (fm : FM) (G : Gh) : Option DV → Option Value → Prop
  | none, none => True
  | some v, some x => Rel fm G v x
  | _, _ => False

def XOptRel (fm : FM) : Option X → Option Operand → Prop
  | none, none => True
  | some v, some x => XRel fm v x
  | _, _ => False

theorem XOptRel.ev {G : Gh} {fr : Fr} {a : Act} {x : Option X} {o : Option Operand} (h : XOptRel fm x o) (hf : FrRel fm G fr a.tmps) : OptRel fm G (x.map (X.ev fr)) (o.map a.eval) := by
  cases x <;> cases o <;> simp only [XOptRel] at h
  · trivial
  · exact h.ev hf

/-- A slice expression's bounds, in the model; 'cap' may be more than is known here. -/
theorem run_bounds {G : Gh} {isS : Bool} {len c0 cap : Nat} {lo hi mx : Option DV} {lo' hi' mx' : Option Value} {l h m : Nat} {w : World} (hlo : OptRel fm G lo lo') (hhi : OptRel fm G hi hi') (hmx : OptRel fm G mx mx') (hc : c0 ≤ cap)
    (hm : ∀ v, mx = some v → bnd v c0 = some m) (hm0 : mx = none → m = cap) (hh : ∀ v, hi = some v → ∃ y, bnd v y = some h ∧ y ≤ m) (hh0 : hi = none → mx = none ∧ h = len) (hl : ∀ v, lo = some v → bnd v h = some l) (hl0 : lo = none → l = 0) :
    (Instr.sliceBounds isS len cap lo' hi' mx').run P w = .ok (l, h, m) w := by
  have e1 : ∀ {x : Value} {code : BoundsCode}, mx' = some x → (Instr.sliceBound x cap code).run P w = .ok m w := by
    intro x code e
    subst e
    cases mx with
    | none => exact hmx.elim
    | some v => exact run_sliceBound (hm v rfl) hc hmx
  have e2 : ∀ {x : Value} {code : BoundsCode}, hi' = some x → (Instr.sliceBound x m code).run P w = .ok h w := by
    intro x code e
    subst e
    cases hi with
    | none => exact hhi.elim
    | some v =>
      obtain ⟨y, h1, h2⟩ := hh v rfl
      exact run_sliceBound h1 h2 hhi
  have e3 : ∀ {x : Value} {code : BoundsCode}, lo' = some x → (Instr.sliceBound x h code).run P w = .ok l w := by
    intro x code e
    subst e
    cases lo with
    | none => exact hlo.elim
    | some v => exact run_sliceBound (hl v rfl) (Nat.le_refl _) hlo
  unfold Instr.sliceBounds
  cases mx' with
  | none =>
    have hmn : mx = none := by cases mx with
      | none => rfl
      | some _ => exact hmx.elim
    have := hm0 hmn
    subst this
    cases hi' with
    | none =>
      have hin : hi = none := by cases hi with
        | none => rfl
        | some _ => exact hhi.elim
      obtain ⟨_, rfl⟩ := hh0 hin
      cases lo' with
      | none =>
        have hln : lo = none := by cases lo with
          | none => rfl
          | some _ => exact hlo.elim
        have := hl0 hln
        subst this
        simp
      | some x => simp [e3 rfl]
    | some x =>
      cases lo' with
      | none =>
        have hln : lo = none := by cases lo with
          | none => rfl
          | some _ => exact hlo.elim
        have := hl0 hln
        subst this
        simp [e2 rfl]
      | some y => simp [e2 rfl, e3 rfl]
  | some z =>
    cases hi' with
    | none =>
      have hin : hi = none := by cases hi with
        | none => rfl
        | some _ => exact hhi.elim
      have := (hh0 hin).1
      subst this
      exact hmx.elim
    | some x =>
      cases lo' with
      | none =>
        have hln : lo = none := by cases lo with
          | none => rfl
          | some _ => exact hlo.elim
        have := hl0 hln
        subst this
        simp [e1 rfl, e2 rfl]
      | some y => simp [e1 rfl, e2 rfl, e3 rfl]

theorem flat_append (xs ys : List DV) : flat (xs ++ ys) = flat xs ++ flat ys := by simp [flat]

theorem flat_length : ∀ (xs : List DV) (n : Nat), (∀ x ∈ xs, x.leaves.length = n) → (flat xs).length = xs.length * n
  | [], n, _ => by simp [flat]
  | x :: xs, n, h => by
    have := flat_length xs n fun y hy => h y (by simp [hy])
    have hx := h x (by simp)
    have : flat (x :: xs) = x.leaves ++ flat xs := by simp [flat]
    rw [this, List.length_append, hx, List.length_cons, Nat.add_mul, Nat.one_mul]
    omega

/-- A piece of a list. -/
theorem piece_rel {G : Gh} {tag n : Nat} {tk tk' : Tk} {xs : List DV} {r off cap l h m : Nat} (hv : Rel fm G (.list tag n tk true xs) (.slice (some ⟨r, off, none⟩) xs.length cap)) (h1 : l ≤ h) (h2 : h ≤ xs.length) (h3 : h ≤ m)
    (hk : tkOk G n tk' r (if m = l then off else off + l * n) (h - l) (m - l)) :
    Rel fm G (.list tag n tk' true ((xs.drop l).take (h - l))) (.slice (some ⟨r, if m = l then off else off + l * n, none⟩) (h - l) (m - l)) := by
  cases hv with
  | list _ _ _ _ _ _ _ f hr hc hp _ hl hn =>
    have hlen : ((xs.drop l).take (h - l)).length = h - l := by simp; omega
    have e1 : xs.take l ++ ((xs.drop l).take (h - l) ++ (xs.drop l).drop (h - l)) = xs := by rw [List.take_append_drop, List.take_append_drop]
    have e2 : flat xs = flat (xs.take l) ++ (flat ((xs.drop l).take (h - l)) ++ flat ((xs.drop l).drop (h - l))) := by rw [← flat_append, ← flat_append, e1]
    have e3 : (flat (xs.take l)).length = l * n := by
      rw [flat_length _ n fun x hx => hn x (List.mem_of_mem_take hx), List.length_take, Nat.min_eq_left (by omega)]
    have hget : ∀ i (hi : i < (flat ((xs.drop l).take (h - l))).length), ∃ h' : l * n + i < (flat xs).length, (flat xs)[l * n + i] = (flat ((xs.drop l).take (h - l)))[i] := by
      intro i hi
      refine ⟨by rw [e2]; simp only [List.length_append, e3]; omega, ?_⟩
      apply Option.some.inj
      rw [← List.getElem?_eq_getElem, ← List.getElem?_eq_getElem, e2, List.getElem?_append_right (by omega), e3, show l * n + i - l * n = i by omega, List.getElem?_append_left hi]
    have hsub : ∀ x ∈ (xs.drop l).take (h - l), x ∈ xs := fun x hx => List.mem_of_mem_drop (List.mem_of_mem_take hx)
    have main := Rel.list (fm := fm) (G := G) tag n tk' ((xs.drop l).take (h - l)) r (if m = l then off else off + l * n) (m - l) (fun i => f (l * n + i)) ?_ ?_ ?_ ?_ ?_ ?_
    · rw [hlen] at main; exact main
    · intro i hi
      obtain ⟨g1, g2⟩ := hget i hi
      by_cases e : m = l
      · have : h - l = 0 := by omega
        rw [this] at hi
        simp [flat] at hi
      · rw [if_neg e, Nat.add_assoc]; exact hr _ g1
    · intro i hi
      obtain ⟨g1, g2⟩ := hget i hi
      rw [← g2]; exact hc _ g1
    · rw [List.all_eq_true] at hp ⊢
      intro y hy
      obtain ⟨x, hx, hy⟩ := List.mem_flatMap.1 hy
      exact hp y (List.mem_flatMap.2 ⟨x, hsub x hx, hy⟩)
    · rw [hlen]; exact hk
    · rw [hlen]; omega
    · exact fun x hx => hn x (hsub x hx)


theorem opsim_slice_str {t : TypeId} {n : Nat} {x : X} {lo hi : Option X} {xo : Operand} {lo' hi' : Option Operand} {o : Oper} (ho : o.op = .slice t xo lo' hi' none) (ht : P.underlying t = some .string) (hx : XRel fm x xo) (hlo : XOptRel fm lo lo') (hhi : XOptRel fm hi hi') : OpSimAll P fm (.slice true n x lo hi none) o := by
  refine opsim_read fun CR G w0 st w fr a v st' hs hf hrun => ?_
  simp only [stepD, Option.map_eq_some_iff, Option.map_none] at hrun
  obtain ⟨u, hu, hrun⟩ := hrun
  cases hrun
  have hxv := hx.ev (a := a) hf
  have hlov := hlo.ev (a := a) hf
  have hhiv := hhi.ev (a := a) hf
  generalize hx0 : a.eval xo = x0 at hxv
  generalize lo.map (X.ev fr) = lov at hu hlov
  generalize hi.map (X.ev fr) = hiv at hu hhiv
  generalize hl0 : lo'.map a.eval = lo0 at hlov
  generalize hh0 : hi'.map a.eval = hi0 at hhiv
  generalize x.ev fr = vx at hu hxv
  cases vx <;> simp only [sliceD, reduceCtorEq] at hu
  rename_i s
  split at hu
  · cases hu
  · rename_i h hh
    split at hu
    · cases hu
    · rename_i l hl
      injection hu with hu; subst hu
      cases hxv with
      | str _ ba hba =>
        have hsz : ba.size = s.length := by rw [← hba, Array.length_toList]; rfl
        have hb := run_bounds (P := P) (G := G) (isS := false) (len := ba.size) (c0 := ba.size) (cap := ba.size) (lo := lov) (hi := hiv) (mx := none) (lo' := lo0) (hi' := hi0) (mx' := none) (l := l) (h := h) (m := ba.size) (w := w) hlov hhiv trivial (Nat.le_refl _)
          (fun v e => by cases e) (fun _ => rfl) (fun v e => by subst e; exact ⟨s.length, hh, by omega⟩) (fun e => by subst e; simp at hh; exact ⟨rfl, by omega⟩) (fun v e => by subst e; exact hl) (fun e => by subst e; simp at hl; exact hl.symm)
        refine ⟨rfl, .string (ba.extract l h), ?_, .str _ _ ?_⟩
        · unfold execOp
          simp only [ho, hx0, Option.map_none, hl0, hh0]
          refine andThen_value ?_
          unfold Instr.sliceAt Instr.slice
          simp [run_underlying ht, hb]
        · rw [← hba]
          exact Lib.extract_data ba l h


theorem opsim_slice {t e : TypeId} {n : Nat} {i : TypeInfo} {x : X} {lo hi mx : Option X} {xo : Operand} {lo' hi' mx' : Option Operand} {o : Oper} (ho : o.op = .slice t xo lo' hi' mx') (ht : P.underlying t = some (.slice e)) (hi0 : P.info? e = some i) (hn : i.size = n) (hx : XRel fm x xo) (hlo : XOptRel fm lo lo') (hhi : XOptRel fm hi hi') (hmx : XOptRel fm mx mx') :
    OpSimAll P fm (.slice false n x lo hi mx) o := by
  refine opsim_read fun CR G w0 st w fr a v st' hs hf hrun => ?_
  simp only [stepD, Option.map_eq_some_iff] at hrun
  obtain ⟨u, hu, hrun⟩ := hrun
  cases hrun
  have hxv := hx.ev (a := a) hf
  have hlov := hlo.ev (a := a) hf
  have hhiv := hhi.ev (a := a) hf
  have hmxv := hmx.ev (a := a) hf
  generalize hx0 : a.eval xo = x0 at hxv
  generalize lo.map (X.ev fr) = lov at hu hlov
  generalize hi.map (X.ev fr) = hiv at hu hhiv
  generalize mx.map (X.ev fr) = mxv at hu hmxv
  generalize hl0 : lo'.map a.eval = lo0 at hlov
  generalize hh0 : hi'.map a.eval = hh1 at hhiv
  generalize hm0 : mx'.map a.eval = mx0 at hmxv
  generalize x.ev fr = vx at hu hxv
  have hsz : (sizeOf e).run P w = .ok n w := by unfold sizeOf typeInfo; simp [hi0, hn]
  have fin : ∀ {ad : Option Addr} {len cap l h m : Nat}, x0 = .slice ad len cap → (Instr.sliceBounds true len cap lo0 hh1 mx0).run P w = .ok (l, h, m) w →
      (execOp a.eval o).run P w = .ok (.value (.slice (if m = l then ad else ad.map (·.add (l * n))) (h - l) (m - l))) w := by
    intro ad len cap l h m e1 e2
    unfold execOp
    simp only [ho, hx0, hl0, hh0, hm0]
    refine andThen_value ?_
    subst e1
    unfold Instr.sliceAt Instr.slice
    simp [run_underlying ht, e2, hsz]
  cases vx <;> simp only [sliceD, reduceCtorEq] at hu
  · rename_i tag en tk nn xs
    split at hu
    · cases hu
    rename_i hnn
    split at hu
    · cases hu
    · rename_i m hm
      split at hu
      · cases hu
      · rename_i h hh
        split at hu
        · cases hu
        · rename_i l hl
          injection hu with hu; subst hu
          have hm1 : ∀ v, mxv = some v → bnd v xs.length = some m := fun v e => by subst e; exact hm
          have hml : m ≤ xs.length := by
            cases mxv with
            | none => simp at hm; omega
            | some v => exact (bnd_some (hm1 v rfl)).1
          have hhle : h ≤ m := by
            cases hiv with
            | none => cases mxv with
              | none => simp at hh hm; omega
              | some v => simp at hh
            | some v => exact (bnd_some hh).1
          have hll : l ≤ h := by
            cases lov with
            | none => simp at hl; omega
            | some v => exact (bnd_some hl).1
          cases hxv with
          | nils =>
            have hl00 : l = 0 := by simp at hml; omega
            have hh00 : h = 0 := by simp at hml; omega
            have hm00 : m = 0 := by simp at hml; omega
            subst hl00; subst hh00; subst hm00
            have hb := run_bounds (P := P) (G := G) (isS := true) (len := 0) (c0 := 0) (cap := 0) (lo := lov) (hi := hiv) (mx := mxv) (lo' := lo0) (hi' := hh1) (mx' := mx0) (l := 0) (h := 0) (m := 0) (w := w) hlov hhiv hmxv (Nat.le_refl _)
              (fun v e => by simpa using hm1 v e) (fun _ => rfl) (fun v e => by subst e; exact ⟨0, by simpa using hh, Nat.le_refl _⟩) (fun e => by subst e; cases mxv with | none => exact ⟨rfl, rfl⟩ | some v => simp at hh) (fun v e => by subst e; exact hl) (fun _ => rfl)
            refine ⟨rfl, _, fin rfl hb, ?_⟩
            simp only [List.drop_nil, List.take_nil]
            exact .nils _ _ _
          | list _ _ _ _ r off cap f hr hc hp hk hle hn1 =>
            have hen : en = n := by
              by_cases hq : en = n
              · exact hq
              · exact absurd ⟨rfl, hq⟩ hnn
            subst hen
            have hmr : ∃ mr, (mxv = none → mr = cap) ∧ (∀ v, mxv = some v → mr = m) ∧ m ≤ mr := by
              cases mxv with
              | none => exact ⟨cap, fun _ => rfl, (fun v e => nomatch e), by omega⟩
              | some v => exact ⟨m, (fun e => nomatch e), fun _ _ => rfl, Nat.le_refl _⟩
            obtain ⟨mr, g1, g2, g3⟩ := hmr
            have hb := run_bounds (P := P) (G := G) (isS := true) (len := xs.length) (c0 := xs.length) (cap := cap) (lo := lov) (hi := hiv) (mx := mxv) (lo' := lo0) (hi' := hh1) (mx' := mx0) (l := l) (h := h) (m := mr) (w := w) hlov hhiv hmxv hle
              (fun v e => by rw [g2 v e]; exact hm1 v e) g1 (fun v e => by subst e; exact ⟨m, by simpa using hh, g3⟩) (fun e => by subst e; cases mxv with | none => simp at hh; exact ⟨rfl, hh.symm⟩ | some v => simp at hh) (fun v e => by subst e; exact hl) (fun e => by subst e; simp at hl; exact hl.symm)
            refine ⟨rfl, _, fin rfl hb, ?_⟩
            have eaddr : (if mr = l then (some (⟨r, off, none⟩ : Addr)) else (some (⟨r, off, none⟩ : Addr)).map (·.add (l * en))) = some ⟨r, if mr = l then off else off + l * en, none⟩ := by
              split <;> simp [Addr.add_lit]
            rw [eaddr]
            refine piece_rel (.list tag en tk xs r off cap f hr hc hp hk hle hn1) hll (by omega) (by omega) ?_
            cases mxv with
            | some v =>
              simp only [Option.isSome_some, if_true]
              have := g2 v rfl
              subst this
              by_cases hmh : mr = h
              · rw [if_pos hmh]; show mr - l = h - l; omega
              · rw [if_neg hmh]; trivial
            | none =>
              simp only [Option.isSome_none, Bool.false_eq_true, if_false]
              have := g1 rfl
              subst this
              by_cases hhx : h = xs.length
              · rw [if_pos hhx]
                by_cases hl00 : l = 0
                · rw [if_pos hl00]
                  subst hl00
                  subst hhx
                  cases tk with
                  | no => trivial
                  | tight => exact hk
                  | own t s =>
                    have : off = 0 := hk.1
                    subst this
                    refine ⟨by simp, ?_⟩
                    exact hk.2
                · rw [if_neg hl00]
                  split
                  · rename_i htk
                    subst htk
                    have : mr = xs.length := hk
                    show mr - l = h - l; omega
                  · trivial
              · rw [if_neg hhx]; trivial
  · rename_i n' ag b off len cap
    split at hu
    · rename_i hnn
      subst hnn
      cases hxv with
      | hsl _ _ _ _ _ _ r c hm hcap =>
        cases cap with
        | some c0 =>
          simp only at hu
          obtain ⟨rfl, hlc⟩ := hcap
          split at hu
          · cases hu
          · rename_i m hm1
            split at hu
            · cases hu
            · rename_i h hh
              split at hu
              · cases hu
              · rename_i l hl
                injection hu with hu; subst hu
                have hb := run_bounds (P := P) (G := G) (isS := true) (len := len) (c0 := c) (cap := c) (lo := lov) (hi := hiv) (mx := mxv) (lo' := lo0) (hi' := hh1) (mx' := mx0) (l := l) (h := h) (m := m) (w := w) hlov hhiv hmxv (Nat.le_refl _)
                  (fun v e => by subst e; exact hm1) (fun e => by subst e; simp at hm1; exact hm1.symm)
                  (fun v e => by
                    subst e
                    cases mxv with
                    | none => simp at hh hm1; exact ⟨c, hh, by omega⟩
                    | some v' => simp at hh; exact ⟨m, hh, Nat.le_refl _⟩)
                  (fun e => by subst e; cases mxv with | none => simp at hh; exact ⟨rfl, hh.symm⟩ | some v => simp at hh) (fun v e => by subst e; exact hl) (fun e => by subst e; simp at hl; exact hl.symm)
                refine ⟨rfl, _, fin rfl hb, ?_⟩
                have eaddr : (if m = l then (some (⟨r, off, none⟩ : Addr)) else (some (⟨r, off, none⟩ : Addr)).map (·.add (l * n'))) = some ⟨r, if m = l then off else off + l * n', none⟩ := by
                  split <;> simp [Addr.add_lit]
                rw [eaddr]
                refine .hsl _ _ _ _ _ _ r _ hm ⟨rfl, ?_⟩
                have hhm : h ≤ m := by
                  cases hiv with
                  | none => cases mxv with
                    | none => simp at hh hm1; omega
                    | some v => simp at hh
                  | some v =>
                    cases mxv with
                    | none => simp at hh hm1; have := (bnd_some hh).1; omega
                    | some v' => simp at hh; exact (bnd_some hh).1
                omega
        | none =>
          simp only at hu
          cases mxv with
          | some v =>
            simp only at hu
            obtain ⟨hcl, hcg⟩ := hcap
            split at hu
            · cases hu
            · rename_i m hm1
              have hml := (bnd_some hm1).1
              split at hu
              · cases hu
              · rename_i h hh
                split at hu
                · cases hu
                · rename_i l hl
                  injection hu with hu; subst hu
                  cases hiv with
                  | none => simp at hh
                  | some u =>
                    have hhm : h ≤ m := (bnd_some hh).1
                    have hll : l ≤ h := by
                      cases lov with
                      | none => simp at hl; omega
                      | some v => exact (bnd_some hl).1
                    have hb := run_bounds (P := P) (G := G) (isS := true) (len := len) (c0 := len) (cap := c) (lo := lov) (hi := some u) (mx := some v) (lo' := lo0) (hi' := hh1) (mx' := mx0) (l := l) (h := h) (m := m) (w := w) hlov hhiv hmxv hcl
                      (fun v e => by cases e; exact hm1) (fun e => by cases e) (fun v e => by cases e; exact ⟨m, hh, Nat.le_refl _⟩) (fun e => by cases e) (fun v e => by subst e; exact hl) (fun e => by subst e; simp at hl; exact hl.symm)
                    refine ⟨rfl, _, fin rfl hb, ?_⟩
                    have eaddr : (if m = l then (some (⟨r, off, none⟩ : Addr)) else (some (⟨r, off, none⟩ : Addr)).map (·.add (l * n'))) = some ⟨r, if m = l then off else off + l * n', none⟩ := by
                      split <;> simp [Addr.add_lit]
                    rw [eaddr]
                    refine .hsl _ _ _ _ _ _ r _ hm ⟨rfl, ?_⟩
                    omega
          | none =>
            simp only at hu
            split at hu
            · cases hu
            · rename_i h hh
              split at hu
              · cases hu
              · rename_i l hl
                split at hu
                · rename_i hlc
                  injection hu with hu; subst hu
                  obtain ⟨hcl, hcg⟩ := hcap
                  have hhl : h ≤ len := by
                    cases hiv with
                    | none => simp at hh; omega
                    | some v => exact (bnd_some hh).1
                  have hll : l ≤ h := by
                    cases lov with
                    | none => simp at hl; omega
                    | some v => exact (bnd_some hl).1
                  have hb := run_bounds (P := P) (G := G) (isS := true) (len := len) (c0 := len) (cap := c) (lo := lov) (hi := hiv) (mx := none) (lo' := lo0) (hi' := hh1) (mx' := mx0) (l := l) (h := h) (m := c) (w := w) hlov hhiv hmxv hcl
                    (fun v e => by cases e) (fun _ => rfl) (fun v e => by subst e; exact ⟨len, hh, hcl⟩) (fun e => by subst e; simp at hh; exact ⟨rfl, hh.symm⟩) (fun v e => by subst e; exact hl) (fun e => by subst e; simp at hl; exact hl.symm)
                  refine ⟨rfl, _, fin rfl hb, ?_⟩
                  have eaddr : (if c = l then (some (⟨r, off, none⟩ : Addr)) else (some (⟨r, off, none⟩ : Addr)).map (·.add (l * n'))) = some ⟨r, off + l * n', none⟩ := by
                    split
                    · rename_i hcl'
                      have : l = 0 := by omega
                      subst this; simp
                    · simp [Addr.add_lit]
                  rw [eaddr]
                  refine .hsl _ _ _ _ _ _ r _ hm ⟨by omega, ?_⟩
                  have e1 : off + l * n' + (c - l) * n' = off + c * n' := by
                    have : l * n' + (c - l) * n' = c * n' := by rw [← Nat.add_mul]; congr 1; omega
                    omega
                  rw [e1]; exact hcg
                · cases hu
    · cases hu

end Go.D
