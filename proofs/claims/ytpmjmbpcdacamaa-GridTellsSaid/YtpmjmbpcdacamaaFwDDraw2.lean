/-
A region that draws its order: the whole.
-/
import Derived.Test.YtpmjmbpcdacamaaFwDDraw
namespace Go.D
open Go.RowKit

variable {P : Program} {fm : FM} {T : Tab}

/-- The frames of the text's order: a slot holds what its one writer has left, or what it held. -/
theorem frames_get {rs : List ROper} {F : Nat → Fr} {V : Nat → DV} (hw : ∀ (i j t : Nat) (r r' : ROper), i ≠ j → rs[i]? = some r → rs[j]? = some r' → r.dst = some t → r'.dst ≠ some t)
    (hF : ∀ (i : Nat) (r : ROper), rs[i]? = some r → F (i + 1) = (F i).put r.dst (V i)) (t : Nat) : ∀ k, k ≤ rs.length →
    (∀ (i : Nat) (r : ROper), i < k → rs[i]? = some r → r.dst = some t → (F k).get t = V i) ∧ ((∀ (i : Nat) (r : ROper), i < k → rs[i]? = some r → r.dst ≠ some t) → (F k).get t = (F 0).get t) := by
  intro k
  induction k with
  | zero => intro _; exact ⟨fun i r h => absurd h (Nat.not_lt_zero i), fun _ => rfl⟩
  | succ k ih =>
    intro hk
    obtain ⟨ih1, ih2⟩ := ih (by omega)
    have hlt : k < rs.length := by omega
    have hr : rs[k]? = some rs[k] := List.getElem?_eq_getElem hlt
    have hstep := hF k _ hr
    have hget : (F (k + 1)).get t = if (rs[k]).dst = some t then V k else (F k).get t := by
      rw [hstep]
      cases hd : (rs[k]).dst with
      | none => simp [Fr.put]
      | some u =>
        show (if u = t then V k else (F k).get t) = _
        by_cases e : u = t
        · subst e; simp
        · rw [if_neg e, if_neg]; intro h; exact e (Option.some.inj h)
    constructor
    · intro i r hi hri hdst
      by_cases e : i = k
      · subst e
        rw [hr] at hri; cases hri
        rw [hget, if_pos hdst]
      · rw [hget, if_neg]
        · exact ih1 i r (by omega) hri hdst
        · intro hc; exact hw i k t r _ e hri hr hdst hc
    · intro h
      rw [hget, if_neg (h k _ (by omega) hr)]
      exact ih2 fun i r hi => h i r (by omega)

theorem freeD_notGone {op : ROp} {fr : Fr} {b : Nat} {v : DV} {ob : HO} (h : freeD op fr b = some (v, ob)) : ob.isGone = false := by
  unfold freeD at h
  split at h
  · cases h; rfl
  · cases h; rfl
  · split at h
    · split at h
      · cases h; rfl
      · cases h
    · cases h
  · cases h

theorem gotX_reads (op : ROp) (f : X → DV) (v : DV) : (ROp.got v ((gotX op).map fun x => (x, f x))).reads = (gotX op).flatMap X.reads := by
  simp only [ROp.reads, List.flatMap_map]

theorem maskR_nil : ∀ (i : Nat) (rs : List ROper), maskR [] i rs = rs
  | _, [] => rfl
  | i, o :: r => by simp [maskR, maskR_nil (i + 1) r]

theorem Alike.refl (pf : Nat → Bool) (as : List ROper) : Alike pf as as := ⟨rfl, fun i a b h h' => by rw [h] at h'; cases h'; exact ⟨rfl, rfl, rfl, rfl⟩⟩

theorem Alike.cons {pf : Nat → Bool} {a b : ROper} {as bs : List ROper} (h : a.dst = b.dst ∧ a.reads = b.reads ∧ loudD pf a.op = loudD pf b.op ∧ statelessD a.op = statelessD b.op) (k : Alike pf as bs) : Alike pf (a :: as) (b :: bs) := by
  refine ⟨by simp [k.1], fun i x y hx hy => ?_⟩
  cases i with
  | zero => simp only [List.getElem?_cons_zero, Option.some.injEq] at hx hy; subst hx; subst hy; exact h
  | succ i => exact k.2 i x y (by simpa using hx) (by simpa using hy)

theorem prep_alike (pf : Nat → Bool) {fr1 : Fr} {hs : List Nat} : ∀ (rs : List ROper) (i : Nat) (st st1 : St) (l : List ROper), prep fr1 hs i st rs = some (st1, l) → Alike pf (maskR hs i rs) l
  | [], i, st, st1, l, h => by
    simp only [prep, Option.some.injEq, Prod.mk.injEq] at h
    obtain ⟨rfl, rfl⟩ := h
    exact Alike.refl _ _
  | o :: r, i, st, st1, l, h => by
    simp only [prep] at h
    split at h
    · rename_i hc
      split at h
      · rename_i v ob hg hf
        split at h
        · rename_i st2 l2 hp
          simp only [Option.some.injEq, Prod.mk.injEq] at h
          obtain ⟨rfl, rfl⟩ := h
          simp only [maskR, if_pos hc]
          refine Alike.cons ⟨rfl, ?_, rfl, rfl⟩ (prep_alike pf r _ _ _ _ hp)
          simp only [ROper.reads, gotX_reads]
        · cases h
      · cases h
    · rename_i hc
      split at h
      · rename_i st2 l2 hp
        simp only [Option.some.injEq, Prod.mk.injEq] at h
        obtain ⟨rfl, rfl⟩ := h
        simp only [maskR, if_neg hc]
        exact Alike.cons ⟨rfl, rfl, rfl, rfl⟩ (prep_alike pf r _ _ _ _ hp)
      · cases h

/-- What is known once the objects are laid ahead: 'bf k': where the k-th operation's object lies. -/
structure Held (P : Program) (fm : FM) (T : Tab) (hs : List Nat) (i : Nat) (rs rs2 : List ROper) (fr1 : Fr) (G G1 : Gh) (w0 : World) (st st1 : St) (w : World) (bf : Nat → Nat) : Prop where
  sim : SimT P fm T G1 w0 st1 w
  le : G.leP G1
  len : rs2.length = rs.length
  same : ∀ k r, rs[k]? = some r → hs.contains (i + k) = false → rs2[k]? = some r
  held : ∀ k r, rs[k]? = some r → hs.contains (i + k) = true → r.guard = none ∧ st.heap.length ≤ bf k ∧ ∃ v ob, freeD r.op fr1 (bf k) = some (v, ob) ∧ G1.pend (bf k) = some ob ∧
    rs2[k]? = some ⟨r.dst, .got v ((gotX r.op).map fun x => (x, x.ev fr1)), none⟩
  inj : ∀ k k', k < rs.length → k' < rs.length → hs.contains (i + k) = true → hs.contains (i + k') = true → bf k = bf k' → k = k'
  other : ∀ b, (∀ k, k < rs.length → hs.contains (i + k) = true → bf k ≠ b) → G1.pend b = G.pend b

theorem prep_ok {fr1 : Fr} {hs : List Nat} {w0 w : World} : ∀ (rs : List ROper) (i : Nat) (st st1 : St) (l : List ROper) (G : Gh), prep fr1 hs i st rs = some (st1, l) → SimT P fm T G w0 st w →
    ∃ G1 bf, Held P fm T hs i rs l fr1 G G1 w0 st st1 w bf
  | [], i, st, st1, l, G, h, hsim => by
    simp only [prep, Option.some.injEq, Prod.mk.injEq] at h
    obtain ⟨rfl, rfl⟩ := h
    exact ⟨G, fun _ => 0, hsim, (Gh.le.refl G).toP, rfl, fun k r h => by simp at h, fun k r h => by simp at h, fun k k' h => by simp at h, fun _ _ => rfl⟩
  | o :: r, i, st, st1, l, G, h, hsim => by
    simp only [prep] at h
    split at h
    · rename_i hc
      split at h
      · rename_i v ob hg hf
        split at h
        · rename_i st2 l2 hp
          simp only [Option.some.injEq, Prod.mk.injEq] at h
          obtain ⟨rfl, rfl⟩ := h
          have hng := freeD_notGone hf
          obtain ⟨G1, bf, H⟩ := prep_ok r (i + 1) _ _ _ (G.hold st.heap.length ob) hp (hsim.hold ob hng)
          have hlen : (st.push ob).heap.length = st.heap.length + 1 := by simp [St.push]
          have hbf : ∀ k, k < r.length → hs.contains (i + 1 + k) = true → st.heap.length < bf k := by
            intro k hk hck
            have := (H.held k _ (List.getElem?_eq_getElem hk) hck).2.1
            omega
          have hidx : ∀ k, i + 1 + k = i + (k + 1) := fun k => by omega
          refine ⟨G1, fun k => match k with | 0 => st.heap.length | k + 1 => bf k, H.sim, (G.leP_hold _ _).trans H.le, by simp [H.len], ?_, ?_, ?_, ?_⟩
          · intro k r' hk hck
            cases k with
            | zero => rw [Nat.add_zero, hc] at hck; cases hck
            | succ k => simpa using H.same k r' (by simpa using hk) (by rw [hidx]; exact hck)
          · intro k r' hk hck
            cases k with
            | zero =>
              simp only [List.getElem?_cons_zero, Option.some.injEq] at hk
              subst hk
              refine ⟨hg, Nat.le_refl _, v, ob, hf, ?_, rfl⟩
              show G1.pend st.heap.length = some ob
              rw [H.other st.heap.length fun k hk hck => by have := hbf k hk hck; omega]
              simp [Gh.hold]
            | succ k =>
              obtain ⟨h1, h2, v', ob', h3, h4, h5⟩ := H.held k r' (by simpa using hk) (by rw [hidx]; exact hck)
              exact ⟨h1, by show st.heap.length ≤ bf k; omega, v', ob', h3, h4, by simpa using h5⟩
          · intro k k' hk hk' hck hck' he
            cases k with
            | zero =>
              cases k' with
              | zero => rfl
              | succ k' =>
                have := hbf k' (by simpa using hk') (by rw [hidx]; exact hck')
                have he' : st.heap.length = bf k' := he
                omega
            | succ k =>
              cases k' with
              | zero =>
                have := hbf k (by simpa using hk) (by rw [hidx]; exact hck)
                have he' : bf k = st.heap.length := he
                omega
              | succ k' => rw [H.inj k k' (by simpa using hk) (by simpa using hk') (by rw [hidx]; exact hck) (by rw [hidx]; exact hck') he]
          · intro b hb
            have h0 : st.heap.length ≠ b := hb 0 (by simp) (by rw [Nat.add_zero]; exact hc)
            rw [H.other b fun k hk hck => hb (k + 1) (by simpa using hk) (by rw [← hidx]; exact hck)]
            simp only [Gh.hold]
            rw [if_neg (fun e => h0 e.symm)]
        · cases h
      · cases h
    · rename_i hc
      split at h
      · rename_i st2 l2 hp
        simp only [Option.some.injEq, Prod.mk.injEq] at h
        obtain ⟨rfl, rfl⟩ := h
        obtain ⟨G1, bf, H⟩ := prep_ok r (i + 1) _ _ _ G hp hsim
        have hidx : ∀ k, i + 1 + k = i + (k + 1) := fun k => by omega
        refine ⟨G1, fun k => match k with | 0 => 0 | k + 1 => bf k, H.sim, H.le, by simp [H.len], ?_, ?_, ?_, ?_⟩
        · intro k r' hk hck
          cases k with
          | zero => simpa using hk
          | succ k => simpa using H.same k r' (by simpa using hk) (by rw [hidx]; exact hck)
        · intro k r' hk hck
          cases k with
          | zero => rw [Nat.add_zero] at hck; exact absurd hck hc
          | succ k => simpa using H.held k r' (by simpa using hk) (by rw [hidx]; exact hck)
        · intro k k' hk hk' hck hck' he
          cases k with
          | zero => rw [Nat.add_zero] at hck; exact absurd hck hc
          | succ k =>
            cases k' with
            | zero => rw [Nat.add_zero] at hck'; exact absurd hck' hc
            | succ k' => rw [H.inj k k' (by simpa using hk) (by simpa using hk') (by rw [hidx]; exact hck) (by rw [hidx]; exact hck') he]
        · intro b hb
          exact H.other b fun k hk hck => hb (k + 1) (by simpa using hk) (by rw [← hidx]; exact hck)
      · cases h

theorem prepH_ok {fr : Fr} {hs : List Nat} {w0 w : World} {rs : List ROper} {st st1 : St} {l : List ROper} {G : Gh} (h : prepH fr hs st rs = some (st1, l)) (hsim : SimT P fm T G w0 st w) :
    Alike (isPure T) (maskR hs 0 rs) l ∧ ∃ fr1 G1 bf, Held P fm T hs 0 rs l fr1 G G1 w0 st st1 w bf := by
  unfold prepH at h
  split at h
  · simp only [Option.some.injEq, Prod.mk.injEq] at h
    obtain ⟨rfl, rfl⟩ := h
    refine ⟨by rw [maskR_nil]; exact Alike.refl _ _, [], G, fun _ => 0, hsim, (Gh.le.refl G).toP, rfl, fun k r h _ => h, fun k r h hc => by simp at hc, fun k k' _ _ hc => by simp at hc, fun _ _ => rfl⟩
  · obtain ⟨G1, bf, H⟩ := prep_ok rs 0 _ _ _ G h hsim
    exact ⟨prep_alike _ _ _ _ _ _ h, _, G1, bf, H⟩

theorem draw_ok (hm : P.follows .mixedOrders = true) (n : Nat) (hall : ∀ m, m ≤ n → Good P fm T m) : DrawOk P fm T n := by
  intro N rs0 hz rs st1 chk anc ops id fr st fr' st' sts G w0 w a ro D0 hrel0 hpr hrun hck hs hf hN hd
  obtain ⟨hal, fr1, Gp, bf, H⟩ := prepH_ok hpr hs
  have hrel := hrel0.rest.alike hal
  have Hsame : ∀ k r, rs0[k]? = some r → hz.contains k = false → rs[k]? = some r := fun k r h hc => H.same k r h (by rw [Nat.zero_add]; exact hc)
  have Hheld := fun k r (h : rs0[k]? = some r) (hc : hz.contains k = true) => H.held k r h (by rw [Nat.zero_add]; exact hc)
  have Hinj : ∀ k k', k < rs.length → k' < rs.length → hz.contains k = true → hz.contains k' = true → bf k = bf k' → k = k' :=
    fun k k' hk hk' hc hc' => H.inj k k' (by rw [← H.len]; exact hk) (by rw [← H.len]; exact hk') (by rw [Nat.zero_add]; exact hc) (by rw [Nat.zero_add]; exact hc')
  obtain ⟨F, V, S, hF0, hFn, hS0, hstep, hout⟩ := trace rs n fr st1 [st1] fr' (st' :: sts) hrun
  have hfg := fun t => frames_get (rs := rs) (F := F) (V := V) hrel.writers (fun i r h => (hstep i r h).1) t
  have hrev : (st' :: sts).reverse = (List.range (loudBefore (isPure T) rs rs.length + 1)).map S := by
    rw [hout, List.reverse_append, List.reverse_reverse, List.range_succ_eq_map]
    simp [hS0, List.map_map, Function.comp]
  have hlast : st' = S (loudBefore (isPure T) rs rs.length) := by
    have h1 : ((st' :: sts).reverse)[loudBefore (isPure T) rs rs.length]? = some (S (loudBefore (isPure T) rs rs.length)) := by rw [hrev]; simp
    have hlen : (st' :: sts).length = loudBefore (isPure T) rs rs.length + 1 := by
      have := congrArg List.length hrev
      simpa using this
    rw [List.getElem?_reverse (by omega)] at h1
    rw [show (st' :: sts).length - 1 - loudBefore (isPure T) rs rs.length = 0 by omega] at h1
    simpa using h1
  have hloudAt : ∀ (i : Nat) (r : ROper), rs[i]? = some r → loudAt (isPure T) rs i = loudD (isPure T) r.op := fun i r h => by simp [loudAt, h]
  have hloudGet : ∀ i, loudAt (isPure T) rs i = true → ∃ r, rs[i]? = some r ∧ loudD (isPure T) r.op = true := fun i h => by
    unfold loudAt at h
    split at h
    · rename_i r hr; exact ⟨r, hr, h⟩
    · cases h
  have hsize : rs.length = ops.size := H.len.trans hrel0.rel.1
  refine wpIn_region_any hm ?_
  -- the order that is drawn, place by place
  have main : ∀ (fuel : Nat) (L : Array Bool) (a1 : Act) (w1 : World) (G1 : Gh), L.size = ops.size →
      (∀ j, L.getD j false = true → ∀ i ∈ anc j, L.getD i false = true) →
      cnt (fun _ => true) [] (fun i => L.getD i false) 0 = 0 →
      (∃ U : List Nat, U.Nodup ∧ U.length = fuel ∧ (∀ i, i ∈ U ↔ i < ops.size ∧ L.getD i false = false)) →
      G.leP G1 → (∀ k, k < rs.length → hz.contains k = true → L.getD k false = false → G1.pend (bf k) = Gp.pend (bf k)) →
      (∀ b, (∀ k, k < rs.length → hz.contains k = true → L.getD k false = false → bf k ≠ b) → G1.pend b = G.pend b) → SimT P fm T G1 w0 (S (cnt (isPure T) rs (fun i => L.getD i false) rs.length)) w1 →
      (∀ t, (∀ (i : Nat) (r : ROper), rs[i]? = some r → r.dst = some t → L.getD i false = true → Rel fm G1 (V i) (a1.tmps.getD t undef)) ∧
        ((∀ (i : Nat) (r : ROper), rs[i]? = some r → r.dst = some t → L.getD i false = false) → Rel fm G1 (fr.get t) (a1.tmps.getD t undef))) →
      N ≤ a1.tmps.size → a1.defers = a.defers →
      wpAnyIn (fen ro) 0 P .any ops (CPost P fm T G w0 st' fr' .normal N D0) fuel L a1 w1 := by
    intro fuel
    induction fuel with
    | zero =>
      intro L a1 w1 G1 hL hcl _ hU hleP hp1 hp2 hs1 hfr hN1 hd1
      obtain ⟨U, hUn, hUl, hU⟩ := hU
      have hU0 : U = [] := List.eq_nil_of_length_eq_zero hUl
      subst hU0
      have hlisted : ∀ i, i < ops.size → L.getD i false = true := fun i hi => by
        cases h : L.getD i false with
        | true => rfl
        | false => exact absurd ((hU i).2 ⟨hi, h⟩) (by simp)
      have hle : G.le G1 := hleP.toLe (funext fun b => hp2 b fun k hk _ hLk => by rw [hlisted k (by omega)] at hLk; cases hLk)
      refine ⟨?_, trivial, G1, hle, ?_, ?_, hN1, by rw [hd1]; exact hd.le hle⟩
      · cases hrd : Region.ready .any ops L with
        | nil => rfl
        | cons j _ =>
          have hj : j ∈ Region.ready .any ops L := by rw [hrd]; simp
          rw [mem_ready] at hj
          obtain ⟨h0, o, ho, _⟩ := hj
          have hjlt : j < ops.size := (Array.getElem?_eq_some_iff.1 ho).1
          have := hlisted j hjlt
          have hjL : j < L.size := by omega
          simp [hjL] at h0 this
          rw [h0] at this; cases this
      · have : cnt (isPure T) rs (fun i => L.getD i false) rs.length = loudBefore (isPure T) rs rs.length := by
          apply Nat.le_antisymm (cnt_le _ _ _ _)
          exact cnt_ge (isPure T) rs _ rs.length (fun i hi _ => hlisted i (by omega)) rs.length (Nat.le_refl _)
        rw [this, ← hlast] at hs1
        exact hs1
      · intro t
        obtain ⟨g1, g2⟩ := hfg t rs.length (Nat.le_refl _)
        rw [← hFn]
        by_cases hex : ∃ (i : Nat) (r : ROper), rs[i]? = some r ∧ r.dst = some t
        · obtain ⟨i, r, hr, hdst⟩ := hex
          have hi : i < rs.length := (List.getElem?_eq_some_iff.1 hr).1
          rw [g1 i r hi hr hdst]
          exact (hfr t).1 i r hr hdst (hlisted i (by omega))
        · have hno : ∀ (i : Nat) (r : ROper), rs[i]? = some r → r.dst ≠ some t := fun i r hr hdst => hex ⟨i, r, hr, hdst⟩
          rw [g2 fun i r _ hr => hno i r hr, hF0]
          exact (hfr t).2 fun i r hr hdst => absurd hdst (hno i r hr)
    | succ fuel ih =>
      intro L a1 w1 G1 hL hcl hzz hU hleP hp1 hp2 hs1 hfr hN1 hd1
      obtain ⟨U, hUn, hUl, hU⟩ := hU
      refine ⟨?_, ?_⟩
      · intro hrd
        exfalso
        have hne : ∃ i, i < ops.size ∧ L.getD i false = false := by
          cases U with
          | nil => simp at hUl
          | cons i _ => exact ⟨i, (hU i).1 (by simp)⟩
        obtain ⟨i0, hi0⟩ := hne
        obtain ⟨j, ⟨hj1, hj2⟩, hmin⟩ := exists_least (fun i => i < ops.size ∧ L.getD i false = false) i0 hi0
        have hj : j ∈ Region.ready .any ops L := by
          rw [mem_ready]
          refine ⟨?_, ops[j], by simp [hj1], ?_⟩
          · have : j < L.size := by omega
            simp [this] at hj2 ⊢; exact hj2
          · intro e he hb
            have hlt := hrel.edges j ops[j] (by simp [hj1]) e (by simpa using he) hb
            cases h : L.getD e.on false with
            | true => rfl
            | false => exact absurd (hmin e.on ⟨by omega, h⟩) (by omega)
        rw [hrd] at hj; cases hj
      · intro j hj
        rw [mem_ready] at hj
        obtain ⟨hj0, o, ho, hedges⟩ := hj
        have hjlt : j < ops.size := (Array.getElem?_eq_some_iff.1 ho).1
        have hjL : j < L.size := by omega
        have hjf : L.getD j false = false := by simp [hjL] at hj0 ⊢; exact hj0
        have hjr : j < rs.length := by omega
        have hr : rs[j]? = some rs[j] := List.getElem?_eq_getElem hjr
        obtain ⟨r0, hr0⟩ : ∃ r0, rs0[j]? = some r0 := ⟨_, List.getElem?_eq_getElem (by rw [← H.len]; exact hjr)⟩
        obtain ⟨o', ho', hor⟩ := hrel0.rel.2 j _ hr0
        rw [ho] at ho'; cases ho'
        have hdst : (rs[j]).dst = o.dst := by
          cases hc : hz.contains j with
          | false =>
            have := Hsame j r0 hr0 hc
            rw [hr] at this
            rw [Option.some.inj this]; exact hor.1
          | true =>
            obtain ⟨_, _, v, ob, _, _, h5⟩ := Hheld j r0 hr0 hc
            rw [hr] at h5
            rw [Option.some.inj h5]; exact hor.1
        have hancL : ∀ i ∈ anc j, L.getD i false = true := by
          intro i hi
          obtain ⟨_, e, he, hb, hcase⟩ := hrel.just j o ho i hi
          have hel := hedges e (by simpa using he) hb
          rcases hcase with rfl | ⟨_, hi2⟩
          · exact hel
          · exact hcl e.on hel i hi2
        have hnotAnc : ∀ i, L.getD i false = true → j ∉ anc i := fun i hi hmem => by
          have := hcl i hi j hmem
          rw [hjf] at this; cases this
        obtain ⟨hFj, m, s', hmn, hone, hloudS⟩ := hstep j _ hr
        -- the slots that it reads
        have hreads : ∀ t ∈ (rs[j]).reads, Rel fm G1 ((F j).get t) (a1.tmps.getD t undef) := by
          intro t ht
          obtain ⟨g1, g2⟩ := hfg t j (by omega)
          by_cases hex : ∃ (i : Nat) (r : ROper), rs[i]? = some r ∧ r.dst = some t
          · obtain ⟨i, r, hri, hdst⟩ := hex
            obtain ⟨hne, hlt1, hlt2⟩ := hrel.readers i j t r _ hri hr hdst ht
            rcases Nat.lt_or_ge i j with h | h
            · rw [g1 i r h hri hdst]
              exact (hfr t).1 i r hri hdst (hancL i (hlt1 h))
            · have hgt : j < i := by omega
              have hanc := hlt2 hgt
              have hni : L.getD i false = false := by
                cases hh : L.getD i false with
                | false => rfl
                | true => exact absurd hanc (hnotAnc i hh)
              rw [g2 fun k r' hk hrk hdk => by
                by_cases e : k = i
                · subst e; omega
                · exact hrel.writers i k t r r' (fun x => e x.symm) hri hrk hdst hdk, hF0]
              refine (hfr t).2 fun k r' hrk hdk => ?_
              by_cases e : k = i
              · subst e; exact hni
              · exact absurd hdk (hrel.writers i k t r r' (fun x => e x.symm) hri hrk hdst)
          · have hno : ∀ (i : Nat) (r : ROper), rs[i]? = some r → r.dst ≠ some t := fun i r hr hdst => hex ⟨i, r, hr, hdst⟩
            rw [g2 fun i r _ hr => hno i r hr, hF0]
            exact (hfr t).2 fun i r hr hdst => absurd hdst (hno i r hr)
        -- the state at which it stands
        have hLloud : ∀ i, loudAt (isPure T) rs i = true → L.getD i false = true → loudD (isPure T) (rs[j]).op = true → i < j := by
          intro i hi hLi hlj
          obtain ⟨r, hri, hrl⟩ := hloudGet i hi
          rcases Nat.lt_trichotomy i j with h | h | h
          · exact h
          · subst h; rw [hjf] at hLi; cases hLi
          · exact absurd (hrel.loud j i _ r h hr hri hlj hrl) (hnotAnc i hLi)
        -- what lies behind it
        have cont : ∀ (st2 : St), (loudD (isPure T) (rs[j]).op = true → st2 = S (cnt (isPure T) rs (fun i => L.getD i false) rs.length + 1)) → (loudD (isPure T) (rs[j]).op = false → st2 = S (cnt (isPure T) rs (fun i => L.getD i false) rs.length)) →
            ∀ (x : Value) (G' : Gh) (w' : World), G1.leP G' → (∀ k, k < rs.length → hz.contains k = true → (L.setIfInBounds j true).getD k false = false → G'.pend (bf k) = Gp.pend (bf k)) →
              (∀ b, (∀ k, k < rs.length → hz.contains k = true → (L.setIfInBounds j true).getD k false = false → bf k ≠ b) → G'.pend b = G.pend b) → SimT P fm T G' w0 st2 w' → Rel fm G' (V j) x →
              wpAnyIn (fen ro) 0 P .any ops (CPost P fm T G w0 st' fr' .normal N D0) fuel (L.setIfInBounds j true) (a1.put o.dst x) w' := by
          intro st2 hl2 hq2 x G' w' hle' hp1' hp2' hs' hx
          have hset : ∀ i, i ≠ j → (L.setIfInBounds j true).getD i false = L.getD i false := fun i hi => getD_set_ne false (fun e => hi e.symm)
          have hsetj : (L.setIfInBounds j true).getD j false = true := by simp [hjL]
          have hcnt := cnt_set (isPure T) rs (fun i => L.getD i false) (fun i => (L.setIfInBounds j true).getD i false) j hjf hsetj (fun i hi => hset i hi) rs.length
          refine ih _ _ _ G' (by simpa using hL) ?_ rfl ?_ (hleP.trans hle') hp1' hp2' ?_ ?_ (by rw [put_size]; exact hN1) ((put_defers _ _ _).trans hd1)
          · intro k hk i hi
            by_cases e : k = j
            · subst e
              exact getD_set_true (hancL i hi)
            · rw [hset k e] at hk
              exact getD_set_true (hcl k hk i hi)
          · refine ⟨U.erase j, hUn.erase j, ?_, ?_⟩
            · have hjU : j ∈ U := (hU j).2 ⟨hjlt, hjf⟩
              rw [List.length_erase_of_mem hjU, hUl]; rfl
            · intro i
              rw [hUn.mem_erase_iff, hU]
              by_cases e : i = j
              · subst e
                rw [hsetj]
                simp
              · rw [hset i e]
                exact ⟨fun h => h.2, fun h => ⟨e, h⟩⟩
          · rw [hcnt, hloudAt j _ hr]
            cases hl : loudD (isPure T) (rs[j]).op with
            | true =>
              rw [if_pos ⟨hjr, rfl⟩, ← hl2 hl]; exact hs'
            | false =>
              rw [if_neg (by simp), Nat.add_zero, ← hq2 hl]; exact hs'
          · intro t
            cases hod : o.dst with
            | none =>
              refine ⟨fun i r hri hdr hLi => ?_, fun h => ?_⟩
              · have e : i ≠ j := by rintro rfl; rw [hr] at hri; cases hri; rw [hdst, hod] at hdr; cases hdr
                rw [hset i e] at hLi
                exact ((hfr t).1 i r hri hdr hLi).sub hle'.toSub
              · refine ((hfr t).2 fun i r hri hdr => ?_).sub hle'.toSub
                have := h i r hri hdr
                by_cases e : i = j
                · subst e; exact hjf
                · rw [hset i e] at this; exact this
            | some t0 =>
              have ht0 : t0 < a1.tmps.size := Nat.lt_of_lt_of_le (hor.2.1 t0 hod) hN1
              show (∀ (i : Nat) (r : ROper), _ → _ → _ → Rel fm G' (V i) ((a1.tmps.setIfInBounds t0 x).getD t undef)) ∧ (_ → Rel fm G' (fr.get t) ((a1.tmps.setIfInBounds t0 x).getD t undef))
              rw [getD_setIfInBounds _ _ _ _ _ ht0]
              by_cases e0 : t0 = t
              · subst e0
                rw [if_pos rfl]
                refine ⟨fun i r hri hdr hLi => ?_, fun h => ?_⟩
                · by_cases e : i = j
                  · subst e; exact hx
                  · exact absurd hdr (hrel.writers j i t0 _ r (fun x => e x.symm) hr hri (hdst.trans hod))
                · have := h j _ hr (hdst.trans hod)
                  rw [hsetj] at this; cases this
              · rw [if_neg e0]
                refine ⟨fun i r hri hdr hLi => ?_, fun h => ?_⟩
                · have e : i ≠ j := by rintro rfl; rw [hr] at hri; cases hri; rw [hdst, hod] at hdr; exact e0 (Option.some.inj hdr)
                  rw [hset i e] at hLi
                  exact ((hfr t).1 i r hri hdr hLi).sub hle'.toSub
                · refine ((hfr t).2 fun i r hri hdr => ?_).sub hle'.toSub
                  have := h i r hri hdr
                  by_cases e : i = j
                  · subst e; exact hjf
                  · rw [hset i e] at this; exact this
        unfold wpOpIn
        rw [ho]
        simp only
        cases hcj : hz.contains j with
        | true =>
          obtain ⟨hg0, hbj, v, ob, hfree, hpj, hrj⟩ := Hheld j r0 hr0 hcj
          have hrj' : rs[j] = ⟨r0.dst, .got v ((gotX r0.op).map fun x => (x, x.ev fr1)), none⟩ := by
            rw [hr] at hrj; exact Option.some.inj hrj
          have hone' := hone
          rw [hrj'] at hone'
          have hVj : V j = v ∧ ∀ x ∈ gotX r0.op, x.ev (F j) = x.ev fr1 := by
            cases m with
            | zero => simp [runOne] at hone'
            | succ m =>
              simp only [runOne, wantedD, stepD] at hone'
              split at hone'
              · rename_i hall'
                simp only [Option.some.injEq, Prod.mk.injEq] at hone'
                refine ⟨hone'.1.symm, fun x hx => ?_⟩
                exact DV.beq_eq _ _ (List.all_eq_true.1 hall' _ (List.mem_map.2 ⟨x, hx, rfl⟩))
              · cases hone'
          have hreads0 : ∀ t ∈ (gotX r0.op).flatMap X.reads, Rel fm G1 ((F j).get t) (a1.tmps.getD t undef) := by
            intro t ht
            refine hreads t ?_
            rw [hrj']
            simp only [ROper.reads, gotX_reads, List.append_nil]
            exact ht
          have hk : FrRel fm G1 ((F j).keep ((gotX r0.op).flatMap X.reads)) a1.tmps := by
            intro t
            rw [Fr.get_keep_if]
            split
            · exact hreads0 t (by assumption)
            · exact .undef _
          have hfree' : freeD r0.op ((F j).keep ((gotX r0.op).flatMap X.reads)) (bf j) = some (v, ob) := by
            rw [← hfree]
            refine freeD_congr fun x hx => ?_
            rw [← hVj.2 x hx]
            exact X.ev_congr fun t ht => by rw [Fr.get_keep_if, if_pos (List.mem_flatMap.2 ⟨x, hx, ht⟩)]
          have hpj1 : G1.pend (bf j) = some ob := (hp1 j hjr hcj hjf).trans hpj
          obtain ⟨_, obm, x, nx, h1, h2, h3⟩ := hrel0.free j r0 o (by simpa using hcj) hr0 ho (CRel P fm T) G1 w0 _ w1 _ a1 (bf j) v ob hs1 hk hfree'
          obtain ⟨h4, h5⟩ := h3 (G1.settle (bf j) w1.heap.size) (by simp [Gh.settle])
          have hs2 := hs1.settle hpj1 h4
          have hmn : G1.mu (bf j) = none := (hs1.pend _ _ hpj1).2
          have hog : o.guard = none := by
            have := hor.2.2.1
            unfold GuardRel at this
            rw [hg0] at this
            cases hh : o.guard with
            | none => rfl
            | some y => rw [hh] at this; exact this.elim
          have hwant : Region.wanted o (yielded ops a1.tmps) = true := by unfold Region.wanted; rw [hog]
          rw [hwant]
          simp only [if_true]
          refine ⟨fun f _ => fen_fn ro f, ?_⟩
          rw [Oper.semAt_eq _ _ _ hor.2.2.2.1, h1]
          have hfin := cont (S (cnt (isPure T) rs (fun i => L.getD i false) rs.length)) (fun h => by rw [hrj'] at h; cases h) (fun _ => rfl) x _ _ (Gh.leP_settle hmn) ?_ ?_ hs2 (by rw [hVj.1]; exact h5)
          · rcases h2 with rfl | ⟨rfl, rfl⟩ <;> exact hfin
          · intro k hk hck hLk
            have hkj : k ≠ j := by
              rintro rfl
              have hsj : (L.setIfInBounds k true).getD k false = true := by simp [hjL]
              rw [hsj] at hLk; cases hLk
            rw [getD_set_ne false (fun e => hkj e.symm)] at hLk
            have : bf k ≠ bf j := fun e => hkj (Hinj k j hk hjr hck hcj e)
            simp only [Gh.settle, if_neg this]
            exact hp1 k hk hck hLk
          · intro b hb
            simp only [Gh.settle]
            split
            · rename_i e
              rw [e, hs.pendLt hbj]
            · rename_i e
              refine hp2 b fun k hk hck hLk => ?_
              by_cases hkj : k = j
              · subst hkj; exact fun h => e h.symm
              · exact hb k hk hck (by rw [getD_set_ne false (fun e => hkj e.symm)]; exact hLk)
        | false =>
        have hrj : rs[j] = r0 := by
          have := Hsame j r0 hr0 hcj
          rw [hr] at this; exact Option.some.inj this
        rw [← hrj] at hor
        have cont := fun st2 h1 h2 (x : Value) (G' : Gh) (w' : World) (hle' : G1.le G') => cont st2 h1 h2 x G' w' hle'.toP
          (fun k hk hck hLk => by
            have hkj : k ≠ j := by rintro rfl; rw [hcj] at hck; cases hck
            rw [getD_set_ne false (fun e => hkj e.symm)] at hLk
            rw [hle'.pend]; exact hp1 k hk hck hLk)
          (fun b hb => by
            rw [hle'.pend]
            refine hp2 b fun k hk hck hLk => ?_
            have hkj : k ≠ j := by rintro rfl; rw [hcj] at hck; cases hck
            exact hb k hk hck (by rw [getD_set_ne false (fun e => hkj e.symm)]; exact hLk))
        cases hl : loudD (isPure T) (rs[j]).op with
        | true =>
          have hv : cnt (isPure T) rs (fun i => L.getD i false) rs.length = loudBefore (isPure T) rs j := by
            apply Nat.le_antisymm
            · exact cnt_le_of (isPure T) rs _ j (fun i h1 h2 => hLloud i h1 h2 hl) _
            · refine cnt_ge (isPure T) rs _ j (fun i hi h1 => ?_) _ (by omega)
              obtain ⟨r, hri, hrl⟩ := hloudGet i h1
              exact hancL i (hrel.loud i j r _ hi hri hr hrl hl)
          rw [← hv] at hone hloudS
          refine (hall m (by omega)).one hor hone hs1 hreads ?_
          exact cont s' (fun _ => (hloudS hl).symm) (fun h => by rw [hl] at h; cases h)
        | false =>
          have hs'eq := runOne_quiet hl hone
          cases hst : statelessD (rs[j]).op with
          | true =>
            have hone' : runOne T m (rs[j]) (F j) (S (cnt (isPure T) rs (fun i => L.getD i false) rs.length)) = some (V j, S (cnt (isPure T) rs (fun i => L.getD i false) rs.length)) := by
              cases m with
              | zero => simp [runOne] at hone
              | succ m =>
                simp only [runOne] at hone ⊢
                split at hone
                · cases hone
                · injection hone with hone; injection hone with hone _; rw [hone]
                · cases hop : (rs[j]).op
                  case call => rw [hop] at hst; cases hst
                  case callv => rw [hop] at hst; cases hst
                  case callp => rw [hop] at hst; cases hst
                  all_goals
                    rw [hop] at hst hone
                    exact stateless_any hst hone
            refine (hall m (by omega)).one hor hone' hs1 hreads ?_
            exact cont _ (fun h => by rw [hl] at h; cases h) (fun _ => rfl)
          | false =>
            have hcov := hrel.cover j (cnt (isPure T) rs (fun i => L.getD i false) rs.length) _ hr hl hst ?_ ?_ (cnt_le _ _ _ _)
            · rcases hcov with hv | ⟨vs, hmem, hv, _⟩
              · rw [← hv] at hone
                rw [hs'eq, ← hv] at hone
                refine (hall m (by omega)).one hor hone hs1 hreads ?_
                exact cont _ (fun h => by rw [hl] at h; cases h) (fun _ => rfl)
              · obtain ⟨m2, r2, hm2, hr2, hc2⟩ := chkAll_get chk n hck j vs hmem
                rw [hr] at hr2; cases hr2
                obtain ⟨m3, st3, x3, s3, d3, hm3, hst3, hrun3, hd3, hx3⟩ := chkOne_get vs m2 hc2 _ hv
                rw [hrev] at hst3
                have hst3' : st3 = S (cnt (isPure T) rs (fun i => L.getD i false) rs.length) := by
                  rw [List.getElem?_map] at hst3
                  have hle3 := cnt_le (isPure T) rs (fun i => L.getD i false) rs.length
                  rw [List.getElem?_range (by omega)] at hst3
                  exact (Option.some.inj hst3).symm
                subst hst3'
                have hV : x3 = V j := by
                  rw [hx3, ← hFn]
                  exact (hfg d3 rs.length (Nat.le_refl _)).1 j _ hjr hr hd3
                rw [hV] at hrun3
                have hs3 := runOne_quiet hl hrun3
                have hreads3 : ∀ t ∈ (rs[j]).reads, Rel fm G1 (fr'.get t) (a1.tmps.getD t undef) := by
                  intro t ht
                  have hsame : fr'.get t = (F j).get t := by
                    rw [← hFn]
                    obtain ⟨g1, g2⟩ := hfg t rs.length (Nat.le_refl _)
                    obtain ⟨k1, k2⟩ := hfg t j (by omega)
                    by_cases hex : ∃ (i : Nat) (r : ROper), rs[i]? = some r ∧ r.dst = some t
                    · obtain ⟨i, r, hri, hdst⟩ := hex
                      have hij := hrel.chkReads j vs _ hmem hr i t r hri hdst ht
                      rw [g1 i r (List.getElem?_eq_some_iff.1 hri).1 hri hdst, k1 i r hij hri hdst]
                    · have hno : ∀ (i : Nat) (r : ROper), rs[i]? = some r → r.dst ≠ some t := fun i r hr hdst => hex ⟨i, r, hr, hdst⟩
                      rw [g2 fun i r _ hr => hno i r hr, k2 fun i r _ hr => hno i r hr]
                  rw [hsame]
                  exact hreads t ht
                refine (hall m3 (by omega)).one hor hrun3 hs1 hreads3 ?_
                exact cont _ (fun h => by rw [hl] at h; cases h) (fun _ => hs3)
            · intro i r hri hrl hi
              have hLi := hancL i hi
              have h1 : loudBefore (isPure T) rs (i + 1) ≤ cnt (isPure T) rs (fun i => L.getD i false) rs.length := by
                refine cnt_ge (isPure T) rs _ (i + 1) (fun k hk h1 => ?_) _ (by have := (List.getElem?_eq_some_iff.1 hri).1; omega)
                by_cases e : k = i
                · subst e; exact hLi
                · obtain ⟨r', hrk, hrkl⟩ := hloudGet k h1
                  exact hcl i hLi k (hrel.loud k i r' r (by omega) hrk hri hrkl hrl)
              simp only [loudBefore, hloudAt i r hri, hrl, if_true] at h1
              omega
            · intro i r hri hrl hi
              refine cnt_le_of (isPure T) rs _ i (fun k h1 h2 => ?_) _
              obtain ⟨r', hrk, hrkl⟩ := hloudGet k h1
              rcases Nat.lt_trichotomy k i with h | h | h
              · exact h
              · subst h; exact absurd hi (hnotAnc k h2)
              · have := hcl k h2 i (hrel.loud i k r r' h hri hrk hrl hrkl)
                exact absurd hi (hnotAnc i this)
  refine main ops.size _ a _ Gp (by simp) ?_ rfl ?_ H.le (fun _ _ _ _ => rfl) ?_ ?_ ?_ hN rfl
  · intro j hj
    simp [Array.getD, Array.getElem_replicate] at hj
  · refine ⟨List.range ops.size, List.nodup_range, by simp, fun i => ?_⟩
    simp only [List.mem_range]
    constructor
    · intro h; exact ⟨h, by simp [Array.getD, Array.getElem_replicate]⟩
    · exact fun h => h.1
  · intro b hb
    exact H.other b fun k hk hck => hb k (by rw [H.len]; exact hk) (by rw [Nat.zero_add] at hck; exact hck) (by simp [Array.getD, Array.getElem_replicate])
  · rw [cnt_none _ _ _ (fun i => by simp [Array.getD, Array.getElem_replicate]), hS0]
    exact H.sim.draw _
  · intro t
    refine ⟨fun i r _ _ h => ?_, fun _ => (hf t).sub H.le.toSub⟩
    simp [Array.getD, Array.getElem_replicate] at h

end Go.D
