/-
A check that a program's code is what a table says.
-/
import Derived.Test.YtpmjmbpcdacamaaFwDOpsO
import Derived.Test.YtpmjmbpcdacamaaFwDGood
namespace Go.D
open Go.RowKit

variable {P : Program} {fm : FM}

/-- A constant table that lies in block g. -/
def tabB (fm : FM) (g : Nat) : List DV → Nat → Bool
  | [], _ => true
  | d :: ds, i => (match fm.env g i with | some v => (match cvalL v with | some u => DV.beq u d | none => false) | none => false) && tabB fm g ds (i + 1)

theorem tabB_ok {g : Nat} : ∀ {ds : List DV} {k : Nat}, tabB fm g ds k = true → ∀ i (h : i < ds.length), ∃ v, fm.env g (k + i) = some v ∧ cvalL v = some ds[i]
  | [], _, _, i, h => by simp at h
  | d :: ds, k, hb, i, h => by
    simp only [tabB, Bool.and_eq_true] at hb
    obtain ⟨h1, h2⟩ := hb
    cases i with
    | zero =>
      split at h1
      · rename_i v hv
        split at h1
        · rename_i u hu
          have := DV.beq_eq _ _ h1
          subst this
          exact ⟨v, hv, hu⟩
        · cases h1
      · cases h1
    | succ i =>
      obtain ⟨v, g1, g2⟩ := tabB_ok h2 i (by simpa using h)
      exact ⟨v, by rwa [show k + (i + 1) = k + 1 + i by omega], by simpa using g2⟩

theorem tab_rel {g : Nat} {ds : List DV} (h : tabB fm g ds 0 = true) (G : Gh) : Rel fm G (.cptr ds) (.pointer (some ⟨g, 0, none⟩)) := by
  have key := tabB_ok h
  refine .cptr ds g 0 (fun i => (fm.env g i).getD undef) (fun i hi => ?_) (fun i hi => ?_) ?_
  · obtain ⟨v, h1, h2⟩ := key i hi
    rw [Nat.zero_add] at h1 ⊢
    exact .inr (by rw [h1]; rfl)
  · obtain ⟨v, h1, h2⟩ := key i hi
    rw [Nat.zero_add] at h1
    simp only [h1, Option.getD_some]
    exact cvalL_rel h2 G
  · rw [List.all_eq_true]
    intro x hx
    obtain ⟨i, hi, rfl⟩ := List.getElem_of_mem hx
    obtain ⟨v, h1, h2⟩ := key i hi
    exact cvalL_pure h2

def xB (fm : FM) : X → Operand → Bool
  | .t n, .tmp m => n == m
  | .c v, .const x => (match cval x with | some u => DV.beq u v | none => false)
  | .f g, .func f => (match fm g with | some f' => f' == f | none => false)
  | .c (.cptr cs), .global g => tabB fm g cs 0
  | _, _ => false

theorem xB_ok {x : X} {o : Operand} (h : xB fm x o = true) : XRel fm x o := by
  unfold xB at h
  split at h
  · exact eq_of_beq h
  · split at h
    · rename_i u hu
      have := DV.beq_eq _ _ h
      subst this
      exact fun G => cval_rel hu G
    · cases h
  · split at h
    · rename_i f' hf
      have := eq_of_beq h
      subst this
      exact hf
    · cases h
  · exact fun G => tab_rel h G
  · cases h

def xsB (fm : FM) : List X → List Operand → Bool
  | [], [] => true
  | x :: xs, o :: os => xB fm x o && xsB fm xs os
  | _, _ => false

theorem xsB_ok : ∀ {xs : List X} {os : List Operand}, xsB fm xs os = true → XsRel fm xs os
  | [], [], _ => ⟨rfl, fun i x o h => by simp at h⟩
  | x :: xs, o :: os, h => by
    simp only [xsB, Bool.and_eq_true] at h
    obtain ⟨h1, h2⟩ := xsB_ok h.2
    refine ⟨by simp [h1], fun i y z hy hz => ?_⟩
    cases i with
    | zero => simp only [List.getElem?_cons_zero, Option.some.injEq] at hy hz; subst hy; subst hz; exact xB_ok h.1
    | succ i => exact h2 i y z (by simpa using hy) (by simpa using hz)
  | [], _ :: _, h => by simp [xsB] at h
  | _ :: _, [], h => by simp [xsB] at h

def xoB (fm : FM) : Option X → Option Operand → Bool
  | none, none => true
  | some x, some o => xB fm x o
  | _, _ => false

theorem xoB_ok {x : Option X} {o : Option Operand} (h : xoB fm x o = true) : XOptRel fm x o := by
  unfold xoB at h
  split at h
  · trivial
  · exact xB_ok h
  · cases h

def isAggD : TypeDesc → Bool
  | .struct _ | .array _ _ => true
  | _ => false

def tyCellsB (P : Program) (t : TypeId) (n : Nat) (ag : Bool) : Bool :=
  (match P.underlying t with | some d => isAggD d == ag | none => false) && (match P.info? t with | some i => i.size == n | none => false) && (ag || n == 1)

theorem tyCellsB_ok {t : TypeId} {n : Nat} {ag : Bool} (h : tyCellsB P t n ag = true) : TyCells P t n ag := by
  unfold tyCellsB at h
  simp only [Bool.and_eq_true, Bool.or_eq_true] at h
  obtain ⟨⟨h1, h2⟩, h3⟩ := h
  refine ⟨?_, ?_, ?_⟩
  · split at h1
    · rename_i d hd
      refine ⟨d, hd, ?_⟩
      rw [← eq_of_beq h1]
      cases d <;> rfl
    · cases h1
  · split at h2
    · rename_i i hi; exact ⟨i, hi, eq_of_beq h2⟩
    · cases h2
  · intro hag
    rcases h3 with h3 | h3
    · rw [hag] at h3; cases h3
    · exact eq_of_beq h3

def zerosB (P : Program) (t : TypeId) (zs : List DV) : Bool := match zeroCellsD P t with | some u => DV.beqs u zs | none => false
theorem zerosB_ok {t : TypeId} {zs : List DV} (h : zerosB P t zs = true) : zeroCellsD P t = some zs := by
  unfold zerosB at h
  split at h
  · rename_i u hu; rw [hu, DV.beqs_eq _ _ h]
  · cases h

def zeroB (P : Program) (t : TypeId) (z : DV) : Bool := match zeroD P t with | some u => DV.beq u z | none => false
theorem zeroB_ok {t : TypeId} {z : DV} (h : zeroB P t z = true) : zeroD P t = some z := by
  unfold zeroB at h
  split at h
  · rename_i u hu; rw [hu, DV.beq_eq _ _ h]
  · cases h

def partsB (P : Program) (fm : FM) (t : TypeId) : List (Nat × Nat × X) → List (Nat × Operand) → Bool
  | [], [] => true
  | (off, n, x) :: xs, (i, o) :: os => (match placeOf P t i with | some (a, b) => a == off && b == n | none => false) && xB fm x o && partsB P fm t xs os
  | _, _ => false

theorem partsB_ok {t : TypeId} : ∀ {xs : List (Nat × Nat × X)} {os : List (Nat × Operand)}, partsB P fm t xs os = true → partsRel fm (placeOf P t) xs os
  | [], [], _ => ⟨rfl, fun k off n x i o h => by simp at h⟩
  | (off, n, x) :: xs, (i, o) :: os, h => by
    simp only [partsB, Bool.and_eq_true] at h
    obtain ⟨⟨h0, h1⟩, h2⟩ := h
    obtain ⟨g1, g2⟩ := partsB_ok h2
    refine ⟨by simp [g1], fun k off' n' y i' o' hy hz => ?_⟩
    cases k with
    | zero =>
      simp only [List.getElem?_cons_zero, Option.some.injEq, Prod.mk.injEq] at hy hz
      obtain ⟨rfl, rfl, rfl⟩ := hy
      obtain ⟨rfl, rfl⟩ := hz
      refine ⟨?_, xB_ok h1⟩
      split at h0
      · rename_i a b hab
        simp only [Bool.and_eq_true] at h0
        rw [hab, eq_of_beq h0.1, eq_of_beq h0.2]
      · cases h0
    | succ k => exact g2 k off' n' y i' o' (by simpa using hy) (by simpa using hz)
  | [], _ :: _, h => by simp [partsB] at h
  | _ :: _, [], h => by simp [partsB] at h

def litsB (fm : FM) : List (Nat × X) → List (Nat × Operand) → Bool
  | [], [] => true
  | (j, x) :: xs, (i, o) :: os => j == i && xB fm x o && litsB fm xs os
  | _, _ => false

theorem litsB_ok : ∀ {xs : List (Nat × X)} {os : List (Nat × Operand)}, litsB fm xs os = true → os.length = xs.length ∧ ∀ (k j j' : Nat) (x : X) (o : Operand), xs[k]? = some (j, x) → os[k]? = some (j', o) → j = j' ∧ XRel fm x o
  | [], [], _ => ⟨rfl, fun k off n x i h => by simp at h⟩
  | (j, x) :: xs, (i, o) :: os, h => by
    simp only [litsB, Bool.and_eq_true] at h
    obtain ⟨⟨h0, h1⟩, h2⟩ := h
    obtain ⟨g1, g2⟩ := litsB_ok h2
    refine ⟨by simp [g1], fun k j1 j2 y o' hy hz => ?_⟩
    cases k with
    | zero =>
      simp only [List.getElem?_cons_zero, Option.some.injEq, Prod.mk.injEq] at hy hz
      obtain ⟨rfl, rfl⟩ := hy
      obtain ⟨rfl, rfl⟩ := hz
      exact ⟨eq_of_beq h0, xB_ok h1⟩
    | succ k => exact g2 k j1 j2 y o' (by simpa using hy) (by simpa using hz)
  | [], _ :: _, h => by simp [litsB] at h
  | _ :: _, [], h => by simp [litsB] at h

/-- The check of an operation that runs no code. -/
def opB (P : Program) (fm : FM) (r : ROp) (o : Op) : Bool :=
  match r with
  | .mv x => (match o with | .move xo => xB fm x xo | .assign xo => xB fm x xo | _ => false)
  | .pick c a b => (match o with | .pick co ao bo => xB fm c co && xB fm a ao && xB fm b bo | _ => false)
  | .alloc zs => (match o with | .alloc e => zerosB P e zs | _ => false)
  | .box _ x => (match o with | .box _ xo => xB fm x xo | _ => false)
  | .build zs parts => (match o with | .build t ps => zerosB P t zs && buildTyOk P t && partsB P fm t parts ps.toList | _ => false)
  | .lit n ag zs len parts => (match o with
    | .buildSlice t l ps => l == len && (match P.underlying t with
      | some (.slice e) => (match P.info? e with | some i => i.size == n | none => false) && zerosB P e zs && zs.length == n && (ag || n == 1) && Nat.ble (len * n) 16777216 && litsB fm parts ps.toList
      | _ => false)
    | _ => false)
  | .hlit n _ zs len parts => (match o with
    | .buildSlice t l ps => l == len && (match P.underlying t with
      | some (.slice e) => (match P.info? e with | some i => i.size == n | none => false) && zerosB P e zs && zs.length == n && Nat.ble (len * n) 16777216 && litsB fm parts ps.toList
      | _ => false)
    | _ => false)
  | .load n ag x => (match o with | .load t xo => tyCellsB P t n ag && xB fm x xo | _ => false)
  | .store n x v => (match o with | .store t xo vo => (match P.info? t with | some i => i.size == n | none => false) && xB fm x xo && xB fm v vo | _ => false)
  | .nilchk x => (match o with | .nilCheck xo => xB fm x xo | _ => false)
  | .bin op x y => (match o with | .binOp op' _ xo yo _ => decide (op = op') && xB fm x xo && xB fm y yo | _ => false)
  | .eq k neg x y => (match o with | .binOp op' t xo yo _ => decide (op' = if neg then .neq else .eql) && eqTyOk P t k && xB fm x xo && xB fm y yo | _ => false)
  | .un op x => (match o with | .unOp op' _ xo => decide (op = op') && xB fm x xo | _ => false)
  | .i2i k x => (match o with | .convert s d xo => (P.underlying s).isSome && (match P.underlying d with | some (.int k') => decide (k = k') | _ => false) && xB fm x xo | _ => false)
  | .i2s x => (match o with | .convert s d xo => (P.underlying s).isSome && (match P.underlying d with | some .string => true | _ => false) && xB fm x xo | _ => false)
  | .same x => (match o with | .convert s d xo => (P.underlying s).isSome && (match P.underlying d with | some .string => true | _ => false) && xB fm x xo | _ => false)
  | .s2b x | .s2h x => (match o with
    | .convert s d xo => (match P.underlying s with | some .string => true | _ => false) && (match P.underlying d with | some (.slice e) => (match P.underlying e with | some (.int k) => decide (k = .u8) | _ => false) | _ => false) && xB fm x xo
    | _ => false)
  | .b2s x => (match o with
    | .convert s d xo => (match P.underlying d with | some .string => true | _ => false) && (match P.underlying s with | some (.slice e) => (match P.underlying e with | some (.int k) => decide (k = .u8) | _ => false) | _ => false) && xB fm x xo
    | _ => false)
  | .mkfn g fs cs => (match o with | .makeFunc (.func f) fo co => (match fm g with | some f' => f' == f | none => false) && xsB fm fs fo.toList && xsB fm cs co.toList | _ => false)
  | .mkmap => (match o with | .makeMap _ none => true | _ => false)
  | .mkslice n _ bytes zs l c => (match o with
    | .makeSlice t lo co => (match P.underlying t with
      | some (.slice e) => (match P.info? e with | some i => i.size == n && i.bytes == bytes | none => false) && zerosB P e zs && zs.length == n && xB fm l lo && xB fm c co
      | _ => false)
    | _ => false)
  | .mklist n bytes l c => (match o with
    | .makeSlice t lo co => (match P.underlying t with
      | some (.slice e) => (match P.info? e with | some i => i.size == n && i.bytes == bytes | none => false) && (zeroCellsD P e).isSome && xB fm l lo && xB fm c co
      | _ => false)
    | _ => false)
  | .slice true _ x lo hi mx => (match o with | .slice t xo lo' hi' none => (match P.underlying t with | some .string => true | _ => false) && mx.isNone && xB fm x xo && xoB fm lo lo' && xoB fm hi hi' | _ => false)
  | .slice false n x lo hi mx => (match o with
    | .slice t xo lo' hi' mx' => (match P.underlying t with | some (.slice e) => (match P.info? e with | some i => i.size == n | none => false) | _ => false) && xB fm x xo && xoB fm lo lo' && xoB fm hi hi' && xoB fm mx mx'
    | _ => false)
  | .faddr off x => (match o with
    | .fieldAddr s xo k => (match P.underlying s with | some (.struct fs) => (match fs[k]? with | some f => (match P.info? f.type with | some i => !(i.size == 0) | none => false) && f.offset == off | none => false) | _ => false) && xB fm x xo
    | _ => false)
  | .field n ag off x => (match o with
    | .field s xo k => (match P.underlying s with | some (.struct fs) => (match fs[k]? with | some f => tyCellsB P f.type n ag && f.offset == off | none => false) | _ => false) && xB fm x xo
    | _ => false)
  | .iaddr n x j => (match o with
    | .indexAddr t xo jo => (match P.underlying t with | some (.slice e) => (match P.info? e with | some i => i.size == n | none => false) | _ => false) && xB fm x xo && xB fm j jo
    | _ => false)
  | .iaddrA n len x j => (match o with
    | .indexAddr t xo jo => (match P.underlying t with | some (.array l e) => l == len && (match P.info? e with | some i => i.size == n | none => false) | _ => false) && xB fm x xo && xB fm j jo
    | _ => false)
  | .index x j => (match o with | .index t xo jo => (match P.underlying t with | some .string => true | _ => false) && xB fm x xo && xB fm j jo | _ => false)
  | .indexA n ag len x j => (match o with
    | .index t xo jo => (match P.underlying t with | some (.array l e) => l == len && tyCellsB P e n ag | _ => false) && xB fm x xo && xB fm j jo
    | _ => false)
  | .lookup ks zero x j ok => (match o with
    | .lookup t xo jo ok' => (ok == ok') && (match P.underlying t with | some (.map k e) => keyOk P k ks && zeroB P e zero | _ => false) && xB fm x xo && xB fm j jo
    | _ => false)
  | .mapset ks m k v => (match o with
    | .mapUpdate t mo ko vo => (match P.underlying t with | some (.map kt _) => keyOk P kt ks | _ => false) && xB fm m mo && xB fm k ko && xB fm v vo
    | _ => false)
  | .extract x i => (match o with | .extract xo j => i == j && xB fm x xo | _ => false)
  | .iface t x => (match o with | .makeInterface t' xo => t == t' && (match P.underlying t with | some (.interface _) => false | some _ => true | none => false) && xB fm x xo | _ => false)
  | .len k x => (match o with | .call c => (match c.callee, c.args.toList, c.argTypes.toList with | .builtin .len, [xo], [t] => lenTyOk P t k && xB fm x xo | _, _, _ => false) | _ => false)
  | .lenC n => (match o with
    | .call c => (match c.callee, c.args.toList, c.argTypes.toList with
      | .builtin .len, [_], [t] => (match P.underlying t with | some (.array m _) => m == n | _ => false)
      | .builtin .cap, [_], [t] => (match P.underlying t with | some (.array m _) => m == n | _ => false)
      | _, _, _ => false)
    | _ => false)
  | .cap x => (match o with | .call c => (match c.callee, c.args.toList, c.argTypes.toList with | .builtin .cap, [xo], [t] => (match P.underlying t with | some (.slice _) => true | _ => false) && xB fm x xo | _, _, _ => false) | _ => false)
  | .append n ag bytes x y => (match o with
    | .call c => (match c.callee, c.args.toList, c.argTypes.toList with
      | .builtin .append, [xo, yo], [t, u] => (match P.underlying t with
        | some (.slice e) => (match P.info? e with | some i => i.size == n && i.bytes == bytes | none => false) && (match zeroCellsD P e with | some zs => zs.length == n | none => false) && (ag || n == 1) && appArgOk P u && xB fm x xo && xB fm y yo
        | _ => false)
      | _, _, _ => false)
    | _ => false)
  | .appendH n ag bytes x y => (match o with
    | .call c => (match c.callee, c.args.toList, c.argTypes.toList with
      | .builtin .append, [xo, yo], [t, u] => (match P.underlying t with
        | some (.slice e) => (match P.info? e with | some i => i.size == n && i.bytes == bytes | none => false) && (match zeroCellsD P e with | some zs => zs.length == n | none => false) && (ag || n == 1) && appArgOk P u && xB fm x xo && xB fm y yo
        | _ => false)
      | _, _, _ => false)
    | _ => false)
  | .clear n zs x => (match o with
    | .call c => (match c.callee, c.args.toList, c.argTypes.toList with
      | .builtin .clear, [xo], [t] => (match P.underlying t with
        | some (.slice e) => (match P.info? e with | some i => i.size == n | none => false) && zerosB P e zs && zs.length == n && xB fm x xo
        | _ => false)
      | _, _, _ => false)
    | _ => false)
  | .copy n x y => (match o with
    | .call c => (match c.callee, c.args.toList, c.argTypes.toList with
      | .builtin .copy, [xo, yo], [t, _] => (match P.underlying t with | some (.slice e) => (match P.info? e with | some i => i.size == n | none => false) | _ => false) && xB fm x xo && xB fm y yo
      | _, _, _ => false)
    | _ => false)
  | .max args => (match o with | .call c => (match c.callee with | .builtin .max => xsB fm args c.args.toList | _ => false) | _ => false)
  | .min args => (match o with | .call c => (match c.callee with | .builtin .min => xsB fm args c.args.toList | _ => false) | _ => false)
  | .call .. | .callv .. | .callp .. => false
  | .allocT ty zs => (match o with | .alloc e => e == ty && zerosB P e zs | _ => false)
  | .conv ty n x => (match o with
    | .convert s d xo => (match P.underlying s, P.underlying d with
      | some (.pointer t), some .unsafePointer => (match P.info? t with | some j => !(j.size == 0) | none => false) && Nat.blt 0 n
      | some .unsafePointer, some (.pointer u) => (P.info? u).isSome && liesAt P P.depth ty (n / P.cellsOf ty) 0 u 1
      | _, _ => false) && xB fm x xo
    | _ => false)
  | .appendB ty bytes x y => (match o with
    | .call c => (match c.callee, c.args.toList, c.argTypes.toList with
      | .builtin .append, [xo, yo], [t, u] => (match P.underlying t with
        | some (.slice e) => e == ty && (match P.info? e with | some i => i.size == 1 && i.bytes == bytes | none => false) && (match zeroCellsD P e with | some zs => zs.length == 1 | none => false) && appArgOk P u && xB fm x xo && xB fm y yo
        | _ => false)
      | _, _, _ => false)
    | _ => false)
  | .sldata x => (match o with
    | .call c => (match c.callee, c.args.toList, c.argTypes.toList with
      | .builtin .unsafeSliceData, [xo], [_] => xB fm x xo
      | _, _, _ => false)
    | _ => false)
  | .ustr ty x l => (match o with
    | .call c => (match c.callee, c.args.toList, c.argTypes.toList with
      | .builtin .unsafeString, [xo, lo], [pt, _] => (match P.underlying pt with | some (.pointer e) => e == ty && P.cellsOf e == 1 | _ => false) && xB fm x xo && xB fm l lo
      | _, _, _ => false)
    | _ => false)
  | .sliceA _ _ len x => (match o with
    | .slice t xo none none none => (match P.underlying t with
      | some (.pointer arr) => (match P.underlying arr with | some (.array l e) => l == len && (P.info? e).isSome | _ => false)
      | some (.array l e) => l == len && (P.info? e).isSome
      | _ => false) && xB fm x xo
    | _ => false)
  | .got .. => false
  | .fail => (match o with | .defer _ => false | _ => true)

end Go.D
