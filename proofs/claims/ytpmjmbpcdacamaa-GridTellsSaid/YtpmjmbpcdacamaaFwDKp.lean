/-
What the told runs come to: the same.
-/
import Derived.Test.YtpmjmbpcdacamaaFwDK
namespace Go.D

theorem ifK_eq {β : Type} (b : Bool) (k : Option β) : ifK b k = if b = true then k else none := by cases b <;> rfl

theorem binI_eq (op : BinOp) (st : St) (k k' : IntKind) (a b : Int) : (KI.rec (motive := fun _ => Out) (fun f => f st k k' a b) (binI op)) = (binD op (.int k a) (.int k' b)).map fun v => (v, st) := by
  cases op <;> simp only [binI, sameK, binD, intBinD, ikEq_eq, outI, outB_eq, notK_eq, fI_eq, wrapK_eq, iAdd_eq, iSub_eq, iMul_eq, iEq_eq, iLt_eq, iLe_eq, outO_eq, ifK_eq] <;> by_cases h : k = k' <;> simp [h] <;> first | rfl | (cases h : (a == b) <;> simp_all [bne])

theorem binV_eq (op : BinOp) (x y : DV) (st : St) (f : IntOp) (hf : ∀ k k' a b, f st k k' a b = (binD op (.int k a) (.int k' b)).map fun v => (v, st)) :
    binV f op x y st = (binD op x y).map fun v => (v, st) := by
  cases x <;> try (first | rfl | (cases y <;> rfl))
  · cases y <;> first | rfl | exact hf _ _ _ _
  · exact outO_eq _ _

theorem cellsK_eq (st : St) (b : Nat) (k : CK → List DV → Out) : cellsK st b k = match st.cells b with | some (g, vs) => k g vs | none => none := by
  unfold cellsK St.cells
  rw [nthK_eq]
  cases st.heap[b]? with
  | none => rfl
  | some o => cases o <;> rfl

theorem takeNK_eq (vs : List DV) (off n : Nat) (ag : Bool) (st : St) : takeNK vs off n ag st = (takeN vs off n ag).map fun v => (v, st) := by
  unfold takeNK takeN
  cases ag
  · simp only [nthK_eq, outN]
    show _ = Option.map _ (vs[off]?)
    cases vs[off]? <;> rfl
  · simp only [ifK_eq, takeK_eq, dropK_eq, lenK_eq, Nat.ble_eq, if_true]
    show (if off + n ≤ vs.length then _ else none) = _
    split <;> rfl

theorem loadK_eq (n : Nat) (ag : Bool) (v : DV) (st : St) : loadK n ag v st = (loadD st n ag v).map fun v => (v, st) := by
  cases v <;> try rfl
  · rename_i b off
    show cellsK st b _ = _
    rw [cellsK_eq]
    simp only [loadD]
    cases st.cells b with
    | none => rfl
    | some p => exact takeNK_eq _ _ _ _ _
  · exact takeNK_eq _ _ _ _ _

theorem leavesK_eq {β : Type} (v : DV) (k : List DV → β) : leavesK v k = k v.leaves := by cases v <;> rfl

theorem allScal_eq (vs : List DV) : allScal vs = vs.all DV.scal := by
  induction vs with
  | nil => rfl
  | cons v t ih => show andK v.scal (allScal t) = _; rw [andK_eq, ih]; simp

theorem spliceK_eq {α : Type} (vs : List DV) (off : Nat) (news : List DV) (k : List DV → α) : spliceK vs off news k = k (splice vs off news) := by
  unfold spliceK splice
  rw [takeK_eq, catK_eq, catK_eq, dropK_eq, lenK_eq, List.append_assoc]; rfl

theorem storeK_eq (n : Nat) (p v : DV) (st : St) : storeK n p v st = (storeD st n p v).map fun s => (.undef, s) := by
  cases p <;> try rfl
  rename_i b off
  obtain ⟨h, tk, cur, base, tb⟩ := st
  simp only [storeD, St.cellsW, St.cells]
  show (Option.rec none _ (nthK h b) : Out) = _
  rw [nthK_eq]
  cases h[b]? with
  | none => rfl
  | some o =>
    cases o <;> try rfl
    rename_i g vs
    show leavesK v _ = _
    rw [leavesK_eq, ifK_eq, spliceK_eq, setK_eq]
    simp only [andK_eq, Bool.and_eq_true, Nat.ble_eq, Nat.beq_eq, lenK_eq, allScal_eq]
    by_cases hw : g.wr = true
    · rw [if_pos hw]
      show (if g.wr = true ∧ base ≤ b ∧ v.leaves.length = n ∧ off + n ≤ vs.length ∧ v.leaves.all DV.scal = true then _ else none) = _
      by_cases hc : base ≤ b ∧ v.leaves.length = n ∧ off + n ≤ vs.length ∧ v.leaves.all DV.scal = true
      · rw [if_pos ⟨hw, hc⟩]
        simp only
        rw [if_pos hc]; rfl
      · rw [if_neg (fun h => hc h.2)]
        simp only
        rw [if_neg hc]; rfl
    · rw [if_neg hw, if_neg (fun h => hw h.1)]; rfl

theorem pushK_eq (st : St) (o : HO) (k : Nat → St → Out) : pushK st o k = k st.heap.length (st.push o) := by
  obtain ⟨h, tk, cur, base, tb⟩ := st
  refine (fN_eq (lenK h) fun n => catK h [o] fun h' => k n ⟨h', tk, cur, base, tb⟩).trans ?_
  rw [catK_eq, lenK_eq]; rfl

theorem toNatK_eq (i : Int) : toNatK i = i.toNat := by cases i <;> rfl

theorem outL_eq {β : Type} (xs : List β) (st : St) : outL xs st = some (.int .i64 xs.length, st) := by
  unfold outL; rw [fN_eq, lenK_eq]; rfl

theorem iaddrK_eq (n : Nat) (x i : X) (fr : Fr) (st : St) : iaddrK n (x.ev fr) (i.ev fr) st = stepD st fr (.iaddr n x i) := by
  simp only [stepD]
  cases i.ev fr <;> try (cases x.ev fr <;> rfl)
  rename_i k j
  show ifK (iLe (.ofNat 0) j) _ = _
  rw [ifK_eq, iLe_eq]
  cases x.ev fr <;> try (show (if _ then none else none) = _; split <;> rfl)
  · rename_i tag n' tk nn xs
    show (if _ then ifK (Nat.beq n' n) _ else none) = _
    simp only [ifK_eq, Nat.beq_eq, nthK_eq, toNatK_eq, decide_eq_true_eq, Int.ofNat_eq_natCast, Int.natCast_zero]
    by_cases h1 : 0 ≤ j <;> by_cases h2 : n' = n <;> simp only [h1, h2, if_true, if_false, and_true, and_false]
    cases xs[j.toNat]? with
    | none => rfl
    | some v => exact leavesK_eq _ _
  · rename_i n' ag b off len cap
    show (if _ then ifK (Nat.beq n' n) _ else none) = _
    simp only [ifK_eq, Nat.beq_eq, toNatK_eq, decide_eq_true_eq, Int.ofNat_eq_natCast, Int.natCast_zero, iLt_eq, fN_eq]
    by_cases h1 : 0 ≤ j <;> by_cases h2 : n' = n <;> simp only [h1, h2, if_true, if_false, true_and, and_false, false_and]
    rfl

theorem moreK_eq (n m : Nat) (ag : Bool) (bytes : Nat) (news : List DV) (tag n' : Nat) (tk : Tk) (nn : Bool) (xs : List DV) (y : DV) (st : St) (h : newsD st n y = some (m, news)) :
    moreK n m ag bytes news tag n' tk nn xs st = appendD st n ag bytes (.list tag n' tk nn xs) y := by
  simp only [appendD, h]
  obtain ⟨hp, tks, cur, base, tb⟩ := st
  cases m with
  | zero => rfl
  | succ m =>
    rw [if_neg (by omega)]
    show (if _ then none else _) = _
    split
    · rfl
    · rw [fDs_eq, catK_eq]
      have hfresh : ∀ (zs : List DV), fN (lenK tks) (fun l => catK tks [0] fun tks' => (some (DV.list cur n (.own l 0) true zs, (⟨hp, tks', cur, base, tb⟩ : St)) : Out)) = some (.list cur n (.own tks.length 0) true zs, ⟨hp, tks ++ [0], cur, base, tb⟩) := by
        intro zs; rw [fN_eq, catK_eq, lenK_eq]
      cases nn
      · exact hfresh _
      · cases tk with
        | no => rfl
        | tight => exact hfresh _
        | own t s =>
          show (if tb ≤ t ∧ tks[t]? = some s then _ else none) = if tb ≤ t ∧ tks[t]? = some s then _ else none
          split
          · rw [fN_eq, setK_eq]
          · rfl

theorem appendK_eq (n : Nat) (ag : Bool) (bytes : Nat) (x y : DV) (st : St) : appendK n ag bytes x y st = appendD st n ag bytes x y := by
  cases x <;> try (simp only [appendD]; cases newsD st n y <;> rfl)
  · rename_i tag n' tk nn xs
    show (Option.rec none _ (newsD st n y) : Out) = _
    cases h : newsD st n y with
    | none => simp only [appendD, h]
    | some p =>
      obtain ⟨m, news⟩ := p
      exact moreK_eq _ _ _ _ _ _ _ _ _ _ _ _ h
  · exact (outA_eq _ _).trans (outA_eq _ _)

theorem evParts_eq (fr : Fr) (parts : List (Nat × Nat × X)) (k : List (Nat × Nat × DV) → Out) : evParts fr parts k = k (parts.map fun (o, n, x) => (o, n, x.ev fr)) := by
  induction parts generalizing k with
  | nil => rfl
  | cons p r ih =>
    refine (evC_eq fr p.2.2 fun v => evParts fr r fun t => k ((p.1, p.2.1, v) :: t)).trans ?_
    exact ih _

def opCalls : ROp → Bool
  | .call .. | .callv .. | .callp .. => true
  | _ => false

/-- What an operation's told form must come to. -/
def KFok (op : ROp) : KF → Prop
  | .mk f => (∀ fr st, f fr st = stepD st fr op) ∧ opCalls op = false
  | .call g args => op = .call g args
  | .callv g args => op = .callv g args
  | .callp g args => op = .callp g args

theorem stepF_ok (op : ROp) : KFok op (stepF op) := by
  cases op
  case call => rfl
  case callv => rfl
  case callp => rfl
  case mv x => exact ⟨fun fr st => evC_eq _ _ _, rfl⟩
  case pick c a b =>
    refine ⟨fun fr st => (evC_eq _ _ _).trans ?_, rfl⟩
    simp only [stepD]
    cases c.ev fr <;> try rfl
    rename_i t
    cases t
    · exact evC_eq _ _ _
    · exact evC_eq _ _ _
  case alloc zs => exact ⟨fun fr st => pushK_eq _ _ _, rfl⟩
  case load n ag x => exact ⟨fun fr st => (evC_eq _ _ _).trans (loadK_eq _ _ _ _), rfl⟩
  case store n x v => exact ⟨fun fr st => (evC_eq _ _ _).trans ((evC_eq _ _ _).trans (storeK_eq _ _ _ _)), rfl⟩
  case bin op x y =>
    have h := fun st k k' a b => binI_eq op st k k' a b
    unfold stepF
    dsimp only
    revert h
    generalize binI op = ki
    cases ki with
    | mk f => exact fun h => ⟨fun fr st => (evC_eq _ _ _).trans ((evC_eq _ _ _).trans (binV_eq _ _ _ _ _ fun k k' a b => h st k k' a b)), rfl⟩
  case i2i k x =>
    refine ⟨fun fr st => (evC_eq _ _ _).trans ?_, rfl⟩
    simp only [stepD]
    cases x.ev fr <;> try rfl
    show outI _ _ _ = _
    unfold outI; rw [fI_eq, wrapK_eq]
  case un op x =>
    cases op
    case not =>
      refine ⟨fun fr st => (evC_eq _ _ _).trans ?_, rfl⟩
      simp only [stepD]
      cases x.ev fr <;> try rfl
      show outB _ _ = _
      rw [outB_eq, notK_eq]; rfl
    all_goals exact ⟨fun fr st => outG_eq _, rfl⟩
  case faddr off x =>
    refine ⟨fun fr st => (evC_eq _ _ _).trans ?_, rfl⟩
    simp only [stepD]
    cases x.ev fr <;> try rfl
    · rename_i b o
      exact fN_eq (Nat.add o off) fun o => (some (DV.ptr b o, st) : Out)
    · show ifK _ _ = _
      rw [ifK_eq, dropK_eq, lenK_eq]; simp only [Nat.ble_eq]
  case iaddr n x i => exact ⟨fun fr st => (evC_eq _ _ _).trans ((evC_eq _ _ _).trans (iaddrK_eq _ _ _ _ _)), rfl⟩
  case index x i =>
    refine ⟨fun fr st => (evC_eq _ _ _).trans ((evC_eq _ _ _).trans ?_), rfl⟩
    simp only [stepD]
    cases x.ev fr <;> try (cases i.ev fr <;> rfl)
    cases i.ev fr <;> try rfl
    show ifK _ _ = _
    rw [ifK_eq, iLe_eq, nthK_eq, toNatK_eq]
    simp only [decide_eq_true_eq]
    show (if (0 : Int) ≤ _ then _ else none) = _
    split
    · rename_i s _ j _
      cases s[j.toNat]? with
      | none => rfl
      | some b => exact fN_eq _ _
    · rfl
  case extract x i =>
    refine ⟨fun fr st => (evC_eq _ _ _).trans ?_, rfl⟩
    simp only [stepD]
    cases x.ev fr <;> try rfl
    rename_i vs
    show outN st (nthK vs i) = _
    rw [nthK_eq]
    show outN st vs[i]? = Option.map _ vs[i]?
    cases vs[i]? <;> rfl
  case iface t x => exact ⟨fun fr st => evC_eq _ _ _, rfl⟩
  case mkfn g a b => exact ⟨fun fr st => (evsK_eq _ _ _).trans (evsK_eq _ _ _), rfl⟩
  case len k x =>
    cases k
    case map =>
      refine ⟨fun fr st => (outO_eq _ _).trans ?_, rfl⟩
      cases h : x.ev fr <;> simp only [stepD, h, Option.map_none, Option.map_some]
      rename_i b
      cases st.heap[b]? with
      | none => rfl
      | some o => cases o <;> rfl
    all_goals
      refine ⟨fun fr st => (evC_eq _ _ _).trans ?_, rfl⟩
      simp only [stepD]
      cases x.ev fr <;> first | rfl | exact outL_eq _ _
  case appendB ty bytes x y => exact ⟨fun fr st => (evC_eq _ _ _).trans ((evC_eq _ _ _).trans ((outA_eq _ _).trans (outA_eq _ _))), rfl⟩
  case ustr ty x l => exact ⟨fun fr st => (evC_eq _ _ _).trans ((evC_eq _ _ _).trans (outQ_eq _ _)), rfl⟩
  case sldata x => exact ⟨fun fr st => (evC_eq _ _ _).trans (outQ_eq _ _), rfl⟩
  case conv ty n x => exact ⟨fun fr st => (evC_eq _ _ _).trans (outQ_eq _ _), rfl⟩
  case allocT ty zs => exact ⟨fun fr st => pushK_eq _ _ _, rfl⟩
  case appendH n ag bytes x y => exact ⟨fun fr st => (evC_eq _ _ _).trans ((evC_eq _ _ _).trans ((outA_eq _ _).trans (outA_eq _ _))), rfl⟩
  case append n ag bytes x y => exact ⟨fun fr st => (evC_eq _ _ _).trans ((evC_eq _ _ _).trans (appendK_eq _ _ _ _ _ _)), rfl⟩
  case eq k neg x y =>
    refine ⟨fun fr st => (evC_eq _ _ _).trans ((evC_eq _ _ _).trans ?_), rfl⟩
    simp only [stepD]
    cases eqD k (x.ev fr) (y.ev fr) with
    | none => rfl
    | some b => exact outB_eq _ _
  case field n ag off x =>
    refine ⟨fun fr st => (evC_eq _ _ _).trans ?_, rfl⟩
    simp only [stepD]
    cases x.ev fr <;> try rfl
    exact takeNK_eq _ _ _ _ _
  case slice str n x lo hi mx => exact ⟨fun fr st => (evC_eq _ _ _).trans ((evO_eq _ _ _).trans ((evO_eq _ _ _).trans ((evO_eq _ _ _).trans (outQ_eq _ _)))), rfl⟩
  case build zs parts => exact ⟨fun fr st => (evParts_eq _ _ _).trans ((outQ_eq _ _).trans (Option.map_map ..)), rfl⟩
  case lookup ks zero x i ok =>
    refine ⟨fun fr st => (evC_eq _ _ _).trans ((evC_eq _ _ _).trans ?_), rfl⟩
    rw [ifK_eq, lookupK_eq]; rfl
  case copy n x y => exact ⟨fun fr st => (evC_eq _ _ _).trans ((evC_eq _ _ _).trans (outA_eq _ _)), rfl⟩
  case clear n zs x => exact ⟨fun fr st => (evC_eq _ _ _).trans (outA_eq _ _), rfl⟩
  case box n x =>
    refine ⟨fun fr st => (evC_eq _ _ _).trans ?_, rfl⟩
    rw [leavesK_eq, ifK_eq, pushK_eq]
    simp only [andK_eq, Bool.and_eq_true, Nat.beq_eq, lenK_eq, allScal_eq, stepD]
  case mapset ks m k v =>
    refine ⟨fun fr st => (evC_eq _ _ _).trans ((evC_eq _ _ _).trans ((evC_eq _ _ _).trans ?_)), rfl⟩
    rw [ifK_eq, outA_eq]; rfl
  case nilchk x =>
    refine ⟨fun fr st => (evC_eq _ _ _).trans ?_, rfl⟩
    simp only [stepD]
    cases x.ev fr <;> rfl
  case s2b x =>
    refine ⟨fun fr st => (evC_eq _ _ _).trans ?_, rfl⟩
    simp only [stepD]
    cases x.ev fr <;> try rfl
    exact fX_eq (fS_eq f0_eq) _ _
  case mkslice n ag bytes zs len cap => exact ⟨fun fr st => outA_eq _ _, rfl⟩
  case s2h x => exact ⟨fun fr st => outA_eq _ _, rfl⟩
  case hlit n ag zs len parts => exact ⟨fun fr st => (evLits_eq _ _ _ _).trans (outA_eq _ _), rfl⟩
  all_goals exact ⟨fun fr st => outG_eq _, rfl⟩

theorem thenK_eq {β : Type} (r : Out) (k : DV → St → Option β) : thenK r k = match r with | some (v, st) => k v st | none => none := by
  rcases r with _ | ⟨v, st⟩ <;> rfl

theorem callpK_eq (T : Tab) (R : Rec) (v : DV) (as : List DV) (st : St) :
    callpK T R v as st = match v with | .fn g first captured => if isPure T g then R.F g (first ++ as ++ captured) st else none | _ => none := by
  cases v <;> try rfl
  show ifK _ (catK _ _ _) = _
  rw [ifK_eq, catK_eq, catK_eq, ← List.append_assoc]

theorem opK_eq (T : Tab) (R : Rec) (op : ROp) (fr : Fr) (st : St) : opK T R op fr st =
    match op with
      | .call g args => R.F g (args.map (X.ev fr)) st
      | .callv f args => R.V (f.ev fr) (args.map (X.ev fr)) st
      | .callp f args =>
        match f.ev fr with
        | .fn g first captured => if isPure T g then R.F g (first ++ args.map (X.ev fr) ++ captured) st else none
        | _ => none
      | op => stepD st fr op := by
  have h := stepF_ok op
  unfold opK
  revert h
  generalize stepF op = kf
  cases kf with
  | mk f =>
    intro h
    obtain ⟨h1, h2⟩ := h
    show f fr st = _
    rw [h1]
    cases op <;> first | rfl | cases h2
  | call g args =>
    intro h; cases h
    exact evsK_eq _ _ _
  | callv g args =>
    intro h; cases h
    exact (evsK_eq _ _ _).trans (evC_eq _ _ _)
  | callp g args =>
    intro h; cases h
    exact (evsK_eq _ _ _).trans ((evC_eq _ _ _).trans (callpK_eq _ _ _ _ _))

theorem runOneK_eq (T : Tab) (R : Rec) : runOneK T R = runOneR T R := by
  funext o fr st
  obtain ⟨d, op, g⟩ := o
  cases g with
  | none =>
    refine (opK_eq T R op fr st).trans ?_
    cases op <;> rfl
  | some g =>
    unfold runOneK runOneR
    dsimp only
    cases wantedD fr (some g) with
    | none => rfl
    | some b =>
      cases b
      · rfl
      · refine (opK_eq T R op fr st).trans ?_
        cases op <;> rfl

theorem runOpsK_eq (T : Tab) (R : Rec) : runOpsK R = runOpsR T R := by
  funext ops fr st
  cases ops with
  | nil => rfl
  | cons o r =>
    show thenK (R.N o fr st) (fun v st' => putK fr o.dst v fun fr' => R.O r fr' st') = _
    rw [thenK_eq]
    simp only [runOpsR, putK_eq]
    cases R.N o fr st <;> rfl

theorem runOpsSK_eq (T : Tab) (R : Rec) : runOpsSK T R = runOpsSR T R := by
  funext ops fr st sts
  cases ops with
  | nil => rfl
  | cons o r =>
    show thenK (R.N o fr st) (fun v st' => putK fr o.dst v fun fr' => Bool.rec (R.S r fr' st sts) (R.S r fr' st' (st' :: sts)) (loudD (isPure T) o.op)) = _
    rw [thenK_eq]
    simp only [runOpsSR, putK_eq]
    cases loudD (isPure T) o.op <;> simp <;> cases R.N o fr st <;> rfl

theorem normK_eq (r : ROut) (k : Fr → St → ROut) : normK r k = match r with | some (.normal, fr, st) => k fr st | r => r := by
  rcases r with _ | ⟨e, fr, st⟩
  · rfl
  · cases e <;> rfl

theorem regionK_eq (R : Rec) (ops : List ROper) (live : List Nat) (fr : Fr) (st : St) : regionK R ops live fr st = match R.O ops fr st with | some (fr', st') => some (.normal, fr'.keep live, st') | none => none := by
  unfold regionK
  cases R.O ops fr st with
  | none => rfl
  | some p => exact keepK_eq _ _ _

theorem dregionK1_eq (R : Rec) (ops : List ROper) (chk : List (Nat × List Nat)) (live : List Nat) (fr : Fr) (st : St) : dregionK1 R ops chk live fr st =
    match R.S ops fr st [st] with
      | some (fr', sts) => if R.A fr' ops sts.reverse chk then (match sts with | st' :: _ => some (.normal, fr'.keep live, st') | [] => none) else none
      | none => none := by
  unfold dregionK1
  cases R.S ops fr st [st] with
  | none => rfl
  | some p =>
    obtain ⟨fr', sts⟩ := p
    show ifK _ _ = _
    rw [ifK_eq]
    cases sts with
    | nil => rfl
    | cons s r =>
      have : (List.rec (motive := fun _ => ROut) none (fun st' _ _ => keepK fr' live fun fr' => some (.normal, fr', st')) (s :: r)) = some (.normal, fr'.keep live, s) := keepK_eq _ _ _
      rw [this]

theorem dregionK_eq (R : Rec) (ops : List ROper) (hs : List Nat) (chk : List (Nat × List Nat)) (live : List Nat) (fr : Fr) (st : St) : dregionK R ops hs chk live fr st =
    match prepH fr hs st ops with
      | some (st1, ops2) =>
        match R.S ops2 fr st1 [st1] with
        | some (fr', sts) => if R.A fr' ops2 sts.reverse chk then (match sts with | st' :: _ => some (.normal, fr'.keep live, st') | [] => none) else none
        | none => none
      | none => none := by
  cases hs with
  | nil => exact dregionK1_eq R ops chk live fr st
  | cons h t =>
    show (Option.rec none _ (prepH fr (h :: t) st ops) : ROut) = _
    cases prepH fr (h :: t) st ops with
    | none => rfl
    | some p =>
      obtain ⟨⟨hp, tks, cur, base, tb⟩, ops2⟩ := p
      refine (fL_eq hp fun h => dregionK1 R ops2 chk live fr ⟨h, tks, cur, base, tb⟩).trans ?_
      exact dregionK1_eq _ _ _ _ _ _

theorem blockK_eq (R : Rec) (id : Nat) (a : RC) (fr : Fr) (st : St) : blockK R id a fr st =
    match R.C a fr st with
      | some (.exit id', fr', st') => if id' = id then some (.normal, fr', st') else some (.exit id', fr', st')
      | r => r := by
  unfold blockK
  cases R.C a fr st with
  | none => rfl
  | some p =>
    obtain ⟨e, fr', st'⟩ := p
    cases e with
    | normal => rfl
    | ret => rfl
    | exit id' =>
      show (Bool.rec (some (.exit id', fr', st')) (some (.normal, fr', st')) (Nat.beq id' id) : ROut) = if id' = id then _ else _
      by_cases h : id' = id
      · rw [if_pos h, h, show Nat.beq id id = true from Nat.beq_refl id]
      · rw [if_neg h, show Nat.beq id' id = false from by cases e : Nat.beq id' id with | false => rfl | true => exact absurd (Nat.eq_of_beq_eq_true e) h]

theorem runCK_eq (T : Tab) (R : Rec) : runCK T R = runCR T R := by
  funext c fr st
  cases c with
  | skip => rfl
  | region ops live => exact regionK_eq R ops live fr st
  | dregion ops hs chk live => exact dregionK_eq R ops hs chk live fr st
  | seq a b =>
    refine (normK_eq _ _).trans ?_
    simp only [runCR]
    rfl
  | cond x a b =>
    refine (evC_eq _ _ _).trans ?_
    simp only [runCR]
    cases x.ev fr <;> try rfl
    rename_i t; cases t <;> rfl
  | block id a => exact blockK_eq R id a fr st
  | loop live a =>
    refine (keepK_eq _ _ _).trans ((normK_eq _ _).trans ?_)
    simp only [runCR]
    rfl
  | exit id => rfl
  | ret => rfl
  | stuck => rfl
  | rfunc f params assign body live => rfl

theorem frame0K_eq {α : Type} (as : List DV) (i : Nat) (k : Fr → α) : frame0K as i k = k (frame0 as i) := by
  induction as generalizing i k with
  | nil => rfl
  | cons v t ih =>
    refine (fN_eq i fun i => frame0K t (Nat.succ i) fun t => k ((i, v) :: t)).trans ?_
    exact ih _ _

theorem resOneK_eq (st : St) (fr : Fr) (r : RRes) (k : DV → Out) : resOneK st fr r k = match resOne st fr r with | some v => k v | none => none := by
  cases r with
  | t n => exact getC_eq _ _ _
  | cell a n ag =>
    refine (getC_eq _ _ _).trans ((thenK_eq _ _).trans ?_)
    rw [loadK_eq]
    simp only [resOne]
    cases loadD st n ag (fr.get a) <;> rfl

theorem resAllK_eq (st : St) (fr : Fr) (rs : List RRes) (k : List DV → Out) : resAllK st fr rs k = match resAll st fr rs with | some vs => k vs | none => none := by
  induction rs generalizing k with
  | nil => rfl
  | cons r rs ih =>
    refine (resOneK_eq st fr r fun v => resAllK st fr rs fun t => k (v :: t)).trans ?_
    simp only [resAll]
    cases resOne st fr r with
    | none => rfl
    | some v =>
      refine (ih _).trans ?_
      cases resAll st fr rs <;> rfl

theorem resK_eq (st : St) (fr : Fr) (rs : List RRes) (k : DV → Out) : resK st fr rs k = match resD st fr rs with | some v => k v | none => none := by
  refine (resAllK_eq _ _ _ _).trans ?_
  unfold resD
  cases resAll st fr rs with
  | none => rfl
  | some vs =>
    cases vs with
    | nil => rfl
    | cons v t => cases t <;> rfl

theorem bodyK_eq (R : Rec) (f : RFunc) (args : List DV) (st : St) (k : Fr → St → Out) : bodyK R f args st k =
    match R.C f.body (frame0 args 0) st with
      | some (.exit _, _, _) => none
      | some (_, fr, st') => k fr st'
      | none => none := by
  refine (frame0K_eq _ _ _).trans ?_
  cases R.C f.body (frame0 args 0) st with
  | none => rfl
  | some p => obtain ⟨e, fr, st'⟩ := p; cases e <;> rfl

theorem enterK_eq (st : St) (k : St → Out) : enterK st k = k st.enter := by
  obtain ⟨h, tks, cur, base, tb⟩ := st
  refine (fN_eq (lenK h) fun b => fN (lenK tks) fun tb => k ⟨h, tks, cur, b, tb⟩).trans ((fN_eq (lenK tks) fun tb => k ⟨h, tks, cur, lenK h, tb⟩).trans ?_)
  rw [lenK_eq, lenK_eq]; rfl

theorem callFK_eq (T : Tab) (R : Rec) : callFK T R = callFR T R := by
  funext g args st
  unfold callFK
  simp only [callFR]
  cases T g with
  | none => rfl
  | some d =>
    cases d with
    | prim p => rfl
    | pprim p =>
      show (Option.rec none _ (p args) : Out) = Option.map _ (p args)
      cases p args <;> simp
    | code f =>
      obtain ⟨results, body, pureF⟩ := f
      cases pureF
      · refine (bodyK_eq _ _ _ _ _).trans ?_
        dsimp only
        rw [if_neg (by simp)]
        simp only [resK_eq]
        rcases R.C body (frame0 args 0) st with _ | ⟨e, fr, st'⟩
        · rfl
        · cases e <;> first | rfl | (simp only; cases resD st' fr results <;> rfl)
      · refine (enterK_eq _ _).trans ((bodyK_eq _ _ _ _ _).trans ?_)
        dsimp only
        rw [if_pos rfl]
        simp only [resK_eq]
        rcases R.C body (frame0 args 0) st.enter with _ | ⟨e, fr, st'⟩
        · rfl
        · have key : ∀ (v : DV), (expT st st' v fun v => some (v, st)) = (exportT st st' v).map fun v' => (v', st) := by
            intro v; rw [expT_eq]; cases exportT st st' v <;> rfl
          cases e <;> first | rfl | (simp only [key] <;> cases resD st' fr results <;> rfl)

theorem chkOneK_eq (T : Tab) (R : Rec) : chkOneK R = chkOneR T R := by
  funext fr o sts vs
  cases vs with
  | nil => rfl
  | cons j r =>
    show andK (Option.rec false _ (nthK sts j)) (R.K fr o sts r) = _
    rw [andK_eq, nthK_eq]
    simp only [chkOneR]
    cases sts[j]? with
    | none => rfl
    | some st =>
      simp only
      cases R.N o fr st with
      | none => rfl
      | some p =>
        obtain ⟨v, s'⟩ := p
        obtain ⟨d, op, g⟩ := o
        cases d with
        | none => rfl
        | some d =>
          show (getC fr d (fun u => beqK v u) && _) = _
          rw [getC_eq, beqK_eq]

theorem chkAllK_eq (T : Tab) (R : Rec) : chkAllK R = chkAllR T R := by
  funext fr ops sts chk
  cases chk with
  | nil => rfl
  | cons p r =>
    obtain ⟨i, vs⟩ := p
    show andK (Option.rec false _ (nthK ops i)) (R.A fr ops sts r) = _
    rw [andK_eq, nthK_eq]
    simp only [chkAllR]
    cases ops[i]? <;> rfl

theorem stepRK_eq (T : Tab) (R : Rec) : stepRK T R = stepR T R := by
  unfold stepRK stepR
  rw [runCK_eq, runOpsK_eq, runOpsSK_eq, runOneK_eq, callFK_eq, chkAllK_eq T R, chkOneK_eq T R]

theorem fastK_eq (T : Tab) : ∀ n, fastK T n = fastR T n
  | 0 => rfl
  | n + 1 => (stepRK_eq T (fastK T n)).trans (by rw [fastK_eq T n]; rfl)

theorem callF_tells {T : Tab} {n g : Nat} {args : List DV} {st : St} {v : DV} (h : tells T n g args st v = true) : ∃ st', callF T n g args st = some (v, st') := by
  unfold tells at h
  rw [fastK_eq] at h
  cases hr : (fastR T n).F g args st with
  | none => rw [hr] at h; cases h
  | some p =>
    obtain ⟨u, st'⟩ := p
    rw [hr] at h
    have := DV.beq_eq u v h
    subst this
    exact ⟨st', callF_fast hr⟩

end Go.D
