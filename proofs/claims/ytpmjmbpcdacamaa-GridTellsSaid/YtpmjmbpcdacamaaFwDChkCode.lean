/-
The check of code, of functions, of a table.
-/
import Derived.Test.YtpmjmbpcdacamaaFwDChkOp
namespace Go.D
open Go.RowKit

variable {P : Program} {fm : FM} {T : Tab}

def guardB (ops : Array Oper) : Option (Nat × Bool) → Option (Nat × Bool) → Bool
  | none, none => true
  | some (t, want), some (j, want') => want == want' && (match ops[j]? with | some o => (match o.dst with | some u => u == t | none => false) | none => false)
  | _, _ => false

theorem guardB_ok {ops : Array Oper} {g g' : Option (Nat × Bool)} (h : guardB ops g g' = true) : GuardRel ops g g' := by
  unfold guardB at h
  split at h
  · trivial
  · rename_i t want j want'
    simp only [Bool.and_eq_true] at h
    obtain ⟨h1, h2⟩ := h
    refine ⟨eq_of_beq h1, ?_⟩
    split at h2
    · rename_i o ho
      split at h2
      · rename_i u hu
        rw [ho]; simp [hu, eq_of_beq h2]
      · cases h2
    · cases h2
  · cases h

def dstB (N : Nat) : Option Nat → Option Nat → Bool
  | none, none => true
  | some a, some b => a == b && Nat.blt b N
  | _, _ => false

theorem dstB_ok {N : Nat} {a b : Option Nat} (h : dstB N a b = true) : a = b ∧ ∀ t, b = some t → t < N := by
  unfold dstB at h
  split at h
  · exact ⟨rfl, fun t h => by cases h⟩
  · rename_i a b
    simp only [Bool.and_eq_true] at h
    have h2 := h.2
    refine ⟨by rw [eq_of_beq h.1], fun t ht => ?_⟩
    cases ht
    exact Nat.le_of_ble_eq_true h2
  · cases h

def callB (fm : FM) : ROp → Op → Bool
  | .call g args, .call c => (match c.callee with | .value (.func f) => (match fm g with | some f' => f' == f | none => false) && xsB fm args c.args.toList | _ => false)
  | .callv f args, .call c => (match c.callee with | .value fo => xB fm f fo && xsB fm args c.args.toList | _ => false)
  | .callp f args, .call c => (match c.callee with | .value fo => xB fm f fo && xsB fm args c.args.toList | _ => false)
  | _, _ => false

def operB (P : Program) (fm : FM) (N : Nat) (ops : Array Oper) (r : ROper) (o : Oper) : Bool :=
  dstB N r.dst o.dst && guardB ops r.guard o.guard && (if isCall r.op then callB fm r.op o.op else opB P fm r.op o.op)

theorem operB_ok {N : Nat} {ops : Array Oper} {r : ROper} {o : Oper} (h : operB P fm N ops r o = true) : OperRel P fm N ops r o := by
  unfold operB at h
  simp only [Bool.and_eq_true] at h
  obtain ⟨⟨h1, h2⟩, h3⟩ := h
  obtain ⟨g1, g2⟩ := dstB_ok h1
  have g3 := guardB_ok h2
  have nd : ∀ c, o.op ≠ .defer c := by
    intro c e
    split at h3
    · unfold callB at h3
      rw [e] at h3
      split at h3 <;> first | (cases h3; done) | (rename_i heq; cases heq)
    · unfold opB at h3
      rw [e] at h3
      split at h3 <;> first | (cases h3; done) | (simp at h3; done)
  refine ⟨g1, g2, g3, nd, ?_⟩
  cases hr : r.op with
  | call g args =>
    rw [hr] at h3
    simp only [isCall, if_true] at h3
    unfold callB at h3
    split at h3
    · rename_i c heq ho
      cases heq
      split at h3
      · rename_i f hc
        simp only [Bool.and_eq_true] at h3
        obtain ⟨h4, h5⟩ := h3
        split at h4
        · rename_i f' hf
          have := eq_of_beq h4
          subst this
          exact ⟨c, f', ho, hc, hf, xsB_ok h5⟩
        · cases h4
      · cases h3
    all_goals first | (rename_i heq _; cases heq; done) | cases h3
  | callv f args =>
    rw [hr] at h3
    simp only [isCall, if_true] at h3
    unfold callB at h3
    split at h3
    · rename_i heq _; cases heq
    · rename_i c heq ho
      cases heq
      split at h3
      · rename_i fo hc
        simp only [Bool.and_eq_true] at h3
        exact ⟨c, fo, ho, hc, xB_ok h3.1, xsB_ok h3.2⟩
      · cases h3
    · rename_i heq _; cases heq
    · cases h3
  | callp f args =>
    rw [hr] at h3
    simp only [isCall, if_true] at h3
    unfold callB at h3
    split at h3
    · rename_i heq _; cases heq
    · rename_i heq _; cases heq
    · rename_i c heq ho
      cases heq
      split at h3
      · rename_i fo hc
        simp only [Bool.and_eq_true] at h3
        exact ⟨c, fo, ho, hc, xB_ok h3.1, xsB_ok h3.2⟩
      · cases h3
    · cases h3
  | _ =>
    rw [hr] at h3
    simp only [isCall, if_false, Bool.false_eq_true] at h3
    exact opB_ok h3

def opsB' (P : Program) (fm : FM) (N : Nat) (ops : Array Oper) : List ROper → List Oper → Bool
  | [], [] => true
  | r :: rs, o :: os => operB P fm N ops r o && opsB' P fm N ops rs os
  | _, _ => false

theorem opsB'_ok {N : Nat} {ops : Array Oper} : ∀ {rs : List ROper} {os : List Oper}, opsB' P fm N ops rs os = true → rs.length = os.length ∧ ∀ (i : Nat) (r : ROper), rs[i]? = some r → ∃ o, os[i]? = some o ∧ OperRel P fm N ops r o
  | [], [], _ => ⟨rfl, fun i r h => by simp at h⟩
  | r :: rs, o :: os, h => by
    simp only [opsB', Bool.and_eq_true] at h
    obtain ⟨h1, h2⟩ := opsB'_ok h.2
    refine ⟨by simp [h1], fun i r' hr => ?_⟩
    cases i with
    | zero => simp only [List.getElem?_cons_zero, Option.some.injEq] at hr; subst hr; exact ⟨o, rfl, operB_ok h.1⟩
    | succ i => simpa using h2 i r' (by simpa using hr)
  | [], _ :: _, h => by simp [opsB'] at h
  | _ :: _, [], h => by simp [opsB'] at h

def opsB (P : Program) (fm : FM) (N : Nat) (rs : List ROper) (ops : Array Oper) : Bool := opsB' P fm N ops rs ops.toList

theorem opsB_ok {N : Nat} {rs : List ROper} {ops : Array Oper} (h : opsB P fm N rs ops = true) : OpsRel P fm N rs ops := by
  obtain ⟨h1, h2⟩ := opsB'_ok h
  exact ⟨by simpa using h1, fun i r hr => by simpa using h2 i r hr⟩

theorem operB_free {N : Nat} {ops : Array Oper} {r : ROper} {o : Oper} (h : operB P fm N ops r o = true) (hf : isFree r.op = true) : FreeRun P fm r.op o := by
  unfold operB at h
  simp only [Bool.and_eq_true] at h
  obtain ⟨⟨h1, h2⟩, h3⟩ := h
  have hc : isCall r.op = false := by cases hr : r.op <;> rw [hr] at hf <;> first | rfl | cases hf
  rw [hc] at h3
  simp only [if_false, Bool.false_eq_true] at h3
  exact freeB_ok h3 hf

theorem opsB'_free {N : Nat} {ops : Array Oper} : ∀ {rs : List ROper} {os : List Oper}, opsB' P fm N ops rs os = true → ∀ (i : Nat) (r : ROper) (o : Oper), rs[i]? = some r → os[i]? = some o → isFree r.op = true → FreeRun P fm r.op o
  | [], [], _ => fun i r o h => by simp at h
  | r :: rs, o :: os, h => by
    simp only [opsB', Bool.and_eq_true] at h
    intro i r' o' hr ho hf
    cases i with
    | zero =>
      simp only [List.getElem?_cons_zero, Option.some.injEq] at hr ho
      subst hr; subst ho
      exact operB_free h.1 hf
    | succ i => exact opsB'_free h.2 i r' o' (by simpa using hr) (by simpa using ho) hf
  | [], _ :: _, h => by simp [opsB'] at h
  | _ :: _, [], h => by simp [opsB'] at h

end Go.D
