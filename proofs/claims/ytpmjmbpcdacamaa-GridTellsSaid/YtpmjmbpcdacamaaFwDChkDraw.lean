/-
The check of a region that draws its order; of code; of a function.
-/
import Derived.Test.YtpmjmbpcdacamaaFwDChkCode
namespace Go.D
open Go.RowKit

variable {P : Program} {fm : FM} {T : Tab}

def ancStep (A : List (List Nat)) (o : Oper) : List (List Nat) :=
  A ++ [(o.after.toList.foldl (fun (s : List Nat) e => if Region.binds .any e then s ++ (e.on :: A.getD e.on []).filter (fun i => !s.contains i) else s) [])]
def ancList (ops : List Oper) : List (List Nat) := ops.foldl ancStep []

/-- 'For each place of a list': the check, and what it says. -/
def eachB {α : Type} (p : Nat → α → Bool) : List α → Nat → Bool
  | [], _ => true
  | x :: xs, i => p i x && eachB p xs (i + 1)

theorem eachB_ok {α : Type} {p : Nat → α → Bool} : ∀ {l : List α} {k : Nat}, eachB p l k = true → ∀ i x, l[i]? = some x → p (k + i) x = true
  | [], _, _, i, x, h => by simp at h
  | y :: ys, k, h, i, x, hx => by
    simp only [eachB, Bool.and_eq_true] at h
    cases i with
    | zero => simp only [List.getElem?_cons_zero, Option.some.injEq] at hx; subst hx; exact h.1
    | succ i =>
      have := eachB_ok h.2 i x (by simpa using hx)
      rwa [show k + 1 + i = k + (i + 1) by omega] at this

theorem eachB_ok0 {α : Type} {p : Nat → α → Bool} {l : List α} (h : eachB p l 0 = true) (i : Nat) (x : α) (hx : l[i]? = some x) : p i x = true := by
  have := eachB_ok h i x hx
  rwa [Nat.zero_add] at this

def dstIs (r : ROper) (t : Nat) : Bool := match r.dst with | some u => u == t | none => false
theorem dstIs_of {r : ROper} {t : Nat} (h : r.dst = some t) : dstIs r t = true := by unfold dstIs; rw [h]; simp

def justB (A : List (List Nat)) (j : Nat) (o : Oper) : Bool :=
  (A.getD j []).all (fun i => Nat.blt i j && o.after.toList.any (fun e => Region.binds .any e && (e.on == i || (Nat.blt e.on j && (A.getD e.on []).contains i)))) &&
  o.after.toList.all (fun e => !Region.binds .any e || Nat.blt e.on j)

def pairB (pf : Nat → Bool) (A : List (List Nat)) (i : Nat) (r : ROper) (j : Nat) (r' : ROper) : Bool :=
  (!(Nat.blt i j) || !(loudD pf r.op) || !(loudD pf r'.op) || (A.getD j []).contains i) &&
  (match r.dst with
   | none => true
   | some t => (i == j || !dstIs r' t) && (!(r'.reads.contains t) || (!(i == j) && (!(Nat.blt i j) || (A.getD j []).contains i) && (!(Nat.blt j i) || (A.getD i []).contains j))))

def chkReadsB (rs : List ROper) (chk : List (Nat × List Nat)) : Bool :=
  chk.all fun (j, _) => match rs[j]? with
    | none => true
    | some r => eachB (fun i r' => match r'.dst with | none => true | some t => !(r.reads.contains t) || Nat.blt i j) rs 0

def coverB (pf : Nat → Bool) (A : List (List Nat)) (rs : List ROper) (chk : List (Nat × List Nat)) (j : Nat) (r : ROper) : Bool :=
  loudD pf r.op || statelessD r.op || (List.range (loudBefore pf rs rs.length + 1)).all fun v =>
    !(eachB (fun i r' => !(loudD pf r'.op) || !((A.getD j []).contains i) || Nat.blt (loudBefore pf rs i) v) rs 0) ||
    !(eachB (fun i r' => !(loudD pf r'.op) || !((A.getD i []).contains j) || Nat.ble v (loudBefore pf rs i)) rs 0) ||
    v == loudBefore pf rs j || (r.dst.isSome && chk.any fun (j', vs) => j' == j && vs.contains v)

def drawC (pf : Nat → Bool) (rs : List ROper) (chk : List (Nat × List Nat)) (ops : Array Oper) (A : List (List Nat)) : Bool :=
  eachB (justB A) ops.toList 0 && chkReadsB rs chk && eachB (fun i r => eachB (fun j r' => pairB pf A i r j r') rs 0) rs 0 && eachB (coverB pf A rs chk) rs 0

def freeAt (rs : List ROper) (j : Nat) : Bool := match rs[j]? with | some r => isFree r.op | none => true

def drawB (P : Program) (fm : FM) (pf : Nat → Bool) (N : Nat) (rs : List ROper) (hs : List Nat) (chk : List (Nat × List Nat)) (ops : Array Oper) (A : List (List Nat)) : Bool :=
  opsB P fm N rs ops && drawC pf (maskR hs 0 rs) chk ops A && hs.all (freeAt rs)

theorem blt_of {a b : Nat} (h : Nat.blt a b = true) : a < b := Nat.le_of_ble_eq_true h
theorem blt_to {a b : Nat} (h : a < b) : Nat.blt a b = true := Nat.ble_eq_true_of_le h

theorem contains_of {l : List Nat} {i : Nat} (h : l.contains i = true) : i ∈ l := List.contains_iff_mem.1 h
theorem contains_to {l : List Nat} {i : Nat} (h : i ∈ l) : l.contains i = true := List.contains_iff_mem.2 h

theorem notOr {a b : Bool} (h : (!a || b) = true) (ha : a = true) : b = true := by subst ha; simpa using h

theorem eachB_of {α : Type} {p : Nat → α → Bool} : ∀ {l : List α} {k : Nat}, (∀ i x, l[i]? = some x → p (k + i) x = true) → eachB p l k = true
  | [], _, _ => rfl
  | y :: ys, k, h => by
    simp only [eachB, Bool.and_eq_true]
    refine ⟨h 0 y rfl, eachB_of fun i x hx => ?_⟩
    have := h (i + 1) x (by simpa using hx)
    rwa [show k + 1 + i = k + (i + 1) by omega]

theorem drawC_ok {rs : List ROper} {chk : List (Nat × List Nat)} {ops : Array Oper} {A : List (List Nat)} (h : drawC (isPure T) rs chk ops A = true) : DRelC T rs chk ops (fun j => A.getD j []) := by
  unfold drawC at h
  simp only [Bool.and_eq_true] at h
  obtain ⟨⟨⟨h2, h3⟩, h4⟩, h5⟩ := h
  have hj : ∀ (j : Nat) (o : Oper), ops[j]? = some o → justB A j o = true := fun j o ho => eachB_ok0 h2 j o (by simpa using ho)
  have hp : ∀ (i j : Nat) (r r' : ROper), rs[i]? = some r → rs[j]? = some r' → pairB (isPure T) A i r j r' = true := fun i j r r' hr hr' => eachB_ok0 (eachB_ok0 h4 i r hr) j r' hr'
  refine { just := ?_, edges := ?_, chkReads := ?_, loud := ?_, writers := ?_, readers := ?_, cover := ?_ }
  · intro j o ho i hi
    have := hj j o ho
    unfold justB at this
    simp only [Bool.and_eq_true] at this
    have := List.all_eq_true.1 this.1 i hi
    simp only [Bool.and_eq_true] at this
    refine ⟨blt_of this.1, ?_⟩
    obtain ⟨e, he, hb⟩ := List.any_eq_true.1 this.2
    simp only [Bool.and_eq_true, Bool.or_eq_true] at hb
    refine ⟨e, he, hb.1, ?_⟩
    rcases hb.2 with h | h
    · exact .inl (eq_of_beq h)
    · exact .inr ⟨blt_of h.1, contains_of h.2⟩
  · intro j o ho e he hb
    have := hj j o ho
    unfold justB at this
    simp only [Bool.and_eq_true] at this
    exact blt_of (notOr (List.all_eq_true.1 this.2 e he) hb)
  · intro j vs r hc hr i t r' hr' hd ht
    unfold chkReadsB at h3
    have := List.all_eq_true.1 h3 _ hc
    simp only [hr] at this
    have := eachB_ok0 this i r' hr'
    simp only [hd] at this
    exact blt_of (notOr this (contains_to ht))
  · intro i j r r' hij hr hr' hl hl'
    have := hp i j r r' hr hr'
    unfold pairB at this
    simp only [Bool.and_eq_true] at this
    have := this.1
    rw [blt_to hij, hl, hl'] at this
    exact contains_of (by simpa using this)
  · intro i j t r r' hij hr hr' hd hd'
    have := hp i j r r' hr hr'
    unfold pairB at this
    simp only [Bool.and_eq_true, hd] at this
    have := this.2.1
    rw [dstIs_of hd'] at this
    simp at this
    exact hij this
  · intro i j t r r' hr hr' hd ht
    have := hp i j r r' hr hr'
    unfold pairB at this
    simp only [Bool.and_eq_true, hd] at this
    have := notOr this.2.2 (contains_to ht)
    simp only [Bool.and_eq_true] at this
    refine ⟨by rintro rfl; have := this.1.1; simp at this, fun h => contains_of (notOr this.1.2 (blt_to h)), fun h => contains_of (notOr this.2 (blt_to h))⟩
  · intro j v r hr hl hsl hlow hup hv
    have := eachB_ok0 h5 j r hr
    unfold coverB at this
    rw [hl, hsl] at this
    simp only [Bool.false_or] at this
    have := List.all_eq_true.1 this v (List.mem_range.2 (by omega))
    have e1 : eachB (fun i r' => !(loudD (isPure T) r'.op) || !((A.getD j []).contains i) || Nat.blt (loudBefore (isPure T) rs i) v) rs 0 = true := by
      refine eachB_of fun i x hx => ?_
      rw [Nat.zero_add]
      cases hlx : loudD (isPure T) x.op with
      | false => rfl
      | true =>
        cases hcx : (A.getD j []).contains i with
        | false => rfl
        | true => simpa using blt_to (hlow i x hx hlx (contains_of hcx))
    have e2 : eachB (fun i r' => !(loudD (isPure T) r'.op) || !((A.getD i []).contains j) || Nat.ble v (loudBefore (isPure T) rs i)) rs 0 = true := by
      refine eachB_of fun i x hx => ?_
      rw [Nat.zero_add]
      cases hlx : loudD (isPure T) x.op with
      | false => rfl
      | true =>
        cases hcx : (A.getD i []).contains j with
        | false => rfl
        | true => simpa using Nat.ble_eq_true_of_le (hup i x hx hlx (contains_of hcx))
    rw [e1, e2] at this
    simp only [Bool.not_true, Bool.false_or, Bool.or_eq_true, Bool.and_eq_true] at this
    rcases this with h | h
    · exact .inl (eq_of_beq h)
    · obtain ⟨q, hq, hqq⟩ := List.any_eq_true.1 h.2
      obtain ⟨j', vs⟩ := q
      simp only [Bool.and_eq_true] at hqq
      have := eq_of_beq hqq.1
      subst this
      exact .inr ⟨vs, hq, contains_of hqq.2, h.1⟩

theorem drawB_ok {N : Nat} {rs : List ROper} {hs : List Nat} {chk : List (Nat × List Nat)} {ops : Array Oper} {A : List (List Nat)} (h : drawB P fm (isPure T) N rs hs chk ops A = true) : DRel P fm T N rs hs chk ops (fun j => A.getD j []) := by
  unfold drawB at h
  simp only [Bool.and_eq_true] at h
  obtain ⟨⟨h1, h2⟩, h3⟩ := h
  refine ⟨opsB_ok h1, fun j r o hj hr ho => ?_, drawC_ok h2⟩
  have := List.all_eq_true.1 h3 j hj
  unfold freeAt at this
  rw [hr] at this
  exact opsB'_free h1 j r o hr (by simpa using ho) this

def codeB (P : Program) (fm : FM) (pf : Nat → Bool) (N : Nat) : RC → Code → Bool
  | .skip, c => (match c with | .skip => true | .label _ => true | _ => false)
  | .region ops _, c => (match c with | .region _ oops false => opsB P fm N ops oops | _ => false)
  | .dregion ops hs chk _, c => (match c with | .region _ oops true => drawB P fm pf N ops hs chk oops (ancList oops.toList) | _ => false)
  | .seq a b, c => (match c with | .seq x y => codeB P fm pf N a x && codeB P fm pf N b y | _ => false)
  | .cond x a b, c => (match c with | .cond o y z => xB fm x o && codeB P fm pf N a y && codeB P fm pf N b z | _ => false)
  | .block id a, c => (match c with | .block i x => i == id && codeB P fm pf N a x | _ => false)
  | .loop _ a, c => (match c with | .loop x => codeB P fm pf N a x | _ => false)
  | .exit id, c => (match c with | .exit i => i == id | _ => false)
  | .ret, c => (match c with | .ret => true | _ => false)
  | .stuck, _ => true
  | .rfunc f ps as bo _, c => (match c with | .rangeFunc o qs x y => xB fm f o && decide (qs.toList = ps) && ps.all (fun p => Nat.blt p N) && codeB P fm pf N as x && codeB P fm pf N bo y | _ => false)

theorem codeB_ok {N : Nat} : ∀ (rc : RC) (c : Code), codeB P fm (isPure T) N rc c = true → CRel P fm T N rc c
  | .skip, c, h => by
    unfold codeB at h
    split at h
    · exact .inl rfl
    · exact .inr ⟨_, rfl⟩
    · cases h
  | .region ops l, c, h => by
    unfold codeB at h
    split at h
    · exact ⟨_, _, rfl, opsB_ok h⟩
    · cases h
  | .dregion ops hs chk l, c, h => by
    unfold codeB at h
    split at h
    · exact ⟨_, _, _, rfl, drawB_ok h⟩
    · cases h
  | .seq a b, c, h => by
    unfold codeB at h
    split at h
    · simp only [Bool.and_eq_true] at h
      exact ⟨_, _, rfl, codeB_ok a _ h.1, codeB_ok b _ h.2⟩
    · cases h
  | .cond x a b, c, h => by
    unfold codeB at h
    split at h
    · simp only [Bool.and_eq_true] at h
      exact ⟨_, _, _, rfl, xB_ok h.1.1, codeB_ok a _ h.1.2, codeB_ok b _ h.2⟩
    · cases h
  | .block id a, c, h => by
    unfold codeB at h
    split at h
    · simp only [Bool.and_eq_true] at h
      have := eq_of_beq h.1
      subst this
      exact ⟨_, rfl, codeB_ok a _ h.2⟩
    · cases h
  | .loop l a, c, h => by
    unfold codeB at h
    split at h
    · exact ⟨_, rfl, codeB_ok a _ h⟩
    · cases h
  | .exit id, c, h => by
    unfold codeB at h
    split at h
    · have := eq_of_beq h
      subst this
      rfl
    · cases h
  | .stuck, _, _ => trivial
  | .ret, c, h => by
    unfold codeB at h
    split at h
    · rfl
    · cases h
  | .rfunc f ps as bo l, c, h => by
    unfold codeB at h
    split at h
    · simp only [Bool.and_eq_true] at h
      obtain ⟨⟨⟨⟨h1, h2⟩, h3⟩, h4⟩, h5⟩ := h
      exact ⟨_, _, _, _, rfl, xB_ok h1, of_decide_eq_true h2, fun p hp => blt_of (List.all_eq_true.1 h3 p hp), codeB_ok as _ h4, codeB_ok bo _ h5⟩
    · cases h

def resB (P : Program) : RRes → ResultVar → Bool
  | .t n, .tmp m => n == m
  | .cell a n ag, .cell b ty => a == b && tyCellsB P ty n ag
  | _, _ => false

theorem resB_ok {a : RRes} {b : ResultVar} (h : resB P a b = true) : ResRel P a b := by
  unfold resB at h
  split at h
  · exact eq_of_beq h
  · simp only [Bool.and_eq_true] at h
    exact ⟨eq_of_beq h.1, tyCellsB_ok h.2⟩
  · cases h

def ressB (P : Program) : List RRes → List ResultVar → Bool
  | [], [] => true
  | a :: as, b :: bs => resB P a b && ressB P as bs
  | _, _ => false

theorem ressB_ok : ∀ {as : List RRes} {bs : List ResultVar}, ressB P as bs = true → bs.length = as.length ∧ ∀ (i : Nat) (a : RRes) (b : ResultVar), as[i]? = some a → bs[i]? = some b → ResRel P a b
  | [], [], _ => ⟨rfl, fun i a b h => by simp at h⟩
  | a :: as, b :: bs, h => by
    simp only [ressB, Bool.and_eq_true] at h
    obtain ⟨h1, h2⟩ := ressB_ok h.2
    refine ⟨by simp [h1], fun i x y hx hy => ?_⟩
    cases i with
    | zero => simp only [List.getElem?_cons_zero, Option.some.injEq] at hx hy; subst hx; subst hy; exact resB_ok h.1
    | succ i => exact h2 i x y (by simpa using hx) (by simpa using hy)
  | [], _ :: _, h => by simp [ressB] at h
  | _ :: _, [], h => by simp [ressB] at h

def funcB (P : Program) (fm : FM) (pf : Nat → Bool) (F : RFunc) (fn : Func) : Bool :=
  !(fn.name == "runtime.NumGoroutine") && (match fn.body with | some c => codeB P fm pf fn.ntmps F.body c | none => false) && ressB P F.results fn.results.toList

theorem funcB_ok {F : RFunc} {f : FuncId} {fn : Func} (hf : P.funcs[f]? = some fn) (h : funcB P fm (isPure T) F fn = true) : DefRel P fm T (.code F) f := by
  unfold funcB at h
  simp only [Bool.and_eq_true] at h
  obtain ⟨⟨h1, h2⟩, h3⟩ := h
  split at h2
  · rename_i c hc
    obtain ⟨g1, g2⟩ := ressB_ok h3
    refine ⟨fn, c, fun args w => ?_, hf, hc, codeB_ok _ _ h2, g1, g2⟩
    have hname : fn.name ≠ "runtime.NumGoroutine" := by simpa using h1
    simp [callFunc, hf, hname, hc]
  · cases h2

theorem enter_of {f : FuncId} {F : RFunc} (h : DefRel P fm T (.code F) f) : ∀ (args : Array Value) (w : World), (callFunc f args).run P w = .ok (.enter f args) w := by
  obtain ⟨fn, c, h1, _⟩ := h
  exact h1

end Go.D
