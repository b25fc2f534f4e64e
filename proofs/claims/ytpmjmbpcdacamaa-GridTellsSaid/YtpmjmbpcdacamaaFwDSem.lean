/-
A small language of its own (values that bear their contents, a heap of cells, lists that grow) and how it runs. Nothing of Go's model stands here but its kinds of numbers.
-/
import GoSem.Core.Code
import GoSem.Core.View
import GoSem.Op.String
namespace Go.D

/-- What is known of the room behind a list: nothing; none is there; it is owned by this call (which row, which stamp). -/
inductive Tk where
  | no
  | tight
  | own (t s : Nat)
  deriving DecidableEq, Repr, Inhabited

inductive DV where
  | undef
  | bool (b : Bool)
  | int (k : IntKind) (n : Int)
  | str (s : List UInt8)
  | ptr (b off : Nat)
  | nilp
  | cptr (cs : List DV)
  | list (tag n : Nat) (tk : Tk) (nn : Bool) (xs : List DV)
  | hsl (n : Nat) (ag : Bool) (b off len : Nat) (cap : Option Nat)
  | map (b : Nat)
  | nilmap
  | fn (f : Nat) (first captured : List DV)
  | yield (l : Nat)
  | nilfn
  | iface (t : Nat) (v : DV)
  | niliface
  | agg (vs : List DV)
  | tuple (vs : List DV)
  deriving Inhabited

mutual
/-- Are two values the same? -/
def DV.beq : DV → DV → Bool
  | .undef, .undef | .nilp, .nilp | .nilmap, .nilmap | .nilfn, .nilfn | .niliface, .niliface => true
  | .bool a, .bool b => a == b
  | .int k a, .int k' b => k == k' && a == b
  | .str a, .str b => a == b
  | .ptr a b, .ptr a' b' => a == a' && b == b'
  | .cptr a, .cptr b => DV.beqs a b
  | .list t m k n a, .list t' m' k' n' b => t == t' && m == m' && k == k' && n == n' && DV.beqs a b
  | .hsl n ag b o l c, .hsl n' ag' b' o' l' c' => n == n' && ag == ag' && b == b' && o == o' && l == l' && c == c'
  | .map a, .map b => a == b
  | .fn f a c, .fn f' a' c' => f == f' && DV.beqs a a' && DV.beqs c c'
  | .yield a, .yield b => a == b
  | .iface t v, .iface t' v' => t == t' && DV.beq v v'
  | .agg a, .agg b => DV.beqs a b
  | .tuple a, .tuple b => DV.beqs a b
  | _, _ => false
def DV.beqs : List DV → List DV → Bool
  | [], [] => true
  | a :: as, b :: bs => DV.beq a b && DV.beqs as bs
  | _, _ => false
end

mutual
theorem DV.beq_eq : ∀ (a b : DV), DV.beq a b = true → a = b := by
  intro a b h
  cases a <;> cases b <;> simp [DV.beq] at h <;> first
    | rfl
    | (obtain ⟨⟨⟨⟨h1, h2⟩, h3⟩, h4⟩, h5⟩ := h; have := DV.beqs_eq _ _ h5; simp_all; done)
    | (obtain ⟨⟨h1, h2⟩, h3⟩ := h; have a1 := DV.beqs_eq _ _ h2; have a2 := DV.beqs_eq _ _ h3; simp_all; done)
    | (obtain ⟨h1, h2⟩ := h; have := DV.beq_eq _ _ h2; simp_all; done)
    | (have := DV.beqs_eq _ _ h; simp_all; done)
    | (simp_all; done)
theorem DV.beqs_eq : ∀ (a b : List DV), DV.beqs a b = true → a = b := by
  intro a b h
  cases a <;> cases b <;> simp [DV.beqs] at h
  · rfl
  · obtain ⟨h1, h2⟩ := h; have a1 := DV.beq_eq _ _ h1; have a2 := DV.beqs_eq _ _ h2; simp_all
end

mutual
theorem DV.beq_self : ∀ (a : DV), DV.beq a a = true := by
  intro a
  cases a <;> simp [DV.beq] <;> first
    | exact DV.beqs_self _
    | exact DV.beq_self _
    | exact ⟨DV.beqs_self _, DV.beqs_self _⟩
theorem DV.beqs_self : ∀ (a : List DV), DV.beqs a a = true := by
  intro a
  cases a with
  | nil => simp [DV.beqs]
  | cons x r => simp [DV.beqs]; exact ⟨DV.beq_self x, DV.beqs_self r⟩
end

abbrev nilList : DV := .list 0 0 .no false []

/-- A value's cells. -/
def DV.leaves : DV → List DV
  | .agg vs => vs
  | v => [v]

def flat (xs : List DV) : List DV := xs.flatMap DV.leaves

/-- May a value stand within a list? -/
def DV.pure : DV → Bool
  | .bool _ | .int _ _ | .str _ | .nilp | .nilmap | .nilfn | .niliface => true
  | .list _ _ tk _ _ => match tk with | .own _ _ => false | _ => true
  | _ => false

/-- Without what it owns. -/
def DV.demote : DV → DV
  | .list tag n (.own _ _) nn xs => .list tag n .no nn xs
  | v => v

inductive X where
  | t (n : Nat)
  | c (v : DV)
  | f (g : Nat)
  deriving Inhabited

/-- A leaf's kind. -/
inductive LK where
  | bool | int | str
  deriving DecidableEq, Repr, Inhabited

/-- What 'len' counts. -/
inductive LenK where
  | str | slice | map
  deriving DecidableEq, Repr, Inhabited

/-- What '==' compares. -/
inductive EqK where
  | bool | ptr | slice | map | func | iface
  | agg (ks : List LK)
  deriving DecidableEq, Repr, Inhabited

inductive ROp where
  | mv (x : X)
  | pick (c a b : X)
  | alloc (zs : List DV)
  | box (n : Nat) (x : X)
  | build (zs : List DV) (parts : List (Nat × Nat × X))
  | lit (n : Nat) (ag : Bool) (zs : List DV) (len : Nat) (parts : List (Nat × X))
  | hlit (n : Nat) (ag : Bool) (zs : List DV) (len : Nat) (parts : List (Nat × X))
  | load (n : Nat) (ag : Bool) (x : X)
  | store (n : Nat) (x v : X)
  | nilchk (x : X)
  | bin (op : BinOp) (x y : X)
  | eq (k : EqK) (neg : Bool) (x y : X)
  | un (op : UnOp) (x : X)
  | i2i (k : IntKind) (x : X)
  | i2s (x : X)
  | s2b (x : X)
  | s2h (x : X)
  | b2s (x : X)
  | same (x : X)
  | mkfn (g : Nat) (first captured : List X)
  | mkmap
  | mkslice (n : Nat) (ag : Bool) (bytes : Nat) (zs : List DV) (len cap : X)
  | mklist (n : Nat) (bytes : Nat) (len cap : X)
  | slice (str : Bool) (n : Nat) (x : X) (lo hi mx : Option X)
  | faddr (off : Nat) (x : X)
  | field (n : Nat) (ag : Bool) (off : Nat) (x : X)
  | iaddr (n : Nat) (x i : X)
  | iaddrA (n len : Nat) (x i : X)
  | index (x i : X)
  | indexA (n : Nat) (ag : Bool) (len : Nat) (x i : X)
  | lookup (ks : List LK) (zero : DV) (x i : X) (ok : Bool)
  | mapset (ks : List LK) (m k v : X)
  | extract (x : X) (i : Nat)
  | iface (t : Nat) (x : X)
  | call (g : Nat) (args : List X)
  | callv (f : X) (args : List X)
  | callp (f : X) (args : List X)
  | len (k : LenK) (x : X)
  | lenC (n : Nat)
  | cap (x : X)
  | append (n : Nat) (ag : Bool) (bytes : Nat) (x y : X)
  | copy (n : Nat) (x y : X)
  | max (args : List X)
  | min (args : List X)
  | appendH (n : Nat) (ag : Bool) (bytes : Nat) (x y : X)
  | clear (n : Nat) (zs : List DV) (x : X)
  | allocT (ty : Nat) (zs : List DV)
  | conv (ty n : Nat) (x : X)
  | appendB (ty bytes : Nat) (x y : X)
  | sldata (x : X)
  | ustr (ty : Nat) (x l : X)
  | sliceA (n : Nat) (ag : Bool) (len : Nat) (x : X)
  | got (v : DV) (xs : List (X × DV))
  | fail
  deriving Inhabited

structure ROper where
  dst : Option Nat
  op : ROp
  guard : Option (Nat × Bool)
  deriving Inhabited

inductive RC where
  | skip
  | region (ops : List ROper) (live : List Nat)
  | dregion (ops : List ROper) (hs : List Nat) (chk : List (Nat × List Nat)) (live : List Nat)
  | seq (a b : RC)
  | cond (x : X) (a b : RC)
  | block (id : Nat) (a : RC)
  | loop (live : List Nat) (a : RC)
  | exit (id : Nat)
  | ret
  | rfunc (f : X) (params : List Nat) (assign body : RC) (live : List Nat)
  | stuck
  deriving Inhabited

inductive Ex where
  | normal
  | exit (id : Nat)
  | ret
  deriving DecidableEq, Repr, Inhabited

abbrev Fr := List (Nat × DV)

def Fr.get : Fr → Nat → DV
  | [], _ => .undef
  | (u, v) :: r, t => if u = t then v else Fr.get r t

def Fr.set (fr : Fr) (t : Nat) (v : DV) : Fr := (t, v) :: fr
def Fr.put (fr : Fr) (d : Option Nat) (v : DV) : Fr := match d with | some t => (t, v) :: fr | none => fr
def Fr.keep (fr : Fr) (live : List Nat) : Fr := live.map fun t => (t, fr.get t)

structure LoopObj where
  fr : Fr
  params : List Nat
  assign : RC
  body : RC
  state : Nat          -- 0 ready, 1 busy, 2 done, 3 exhausted
  pending : Option Ex
  deriving Inhabited

/-- What a row of cells is: a variable's, one of a known type; one that grows, one that grows and may be frozen at its head. -/
inductive CK where
  | plain
  | typed (ty : Nat)
  | grown
  | frz (ty : Nat)
  deriving DecidableEq, Inhabited

/-- May it be written over? -/
def CK.wr : CK → Bool
  | .frz _ => false
  | _ => true

inductive HO where
  | cells (k : CK) (vs : List DV)
  | map (es : List (DV × DV))
  | loop (l : LoopObj)
  | gone
  deriving Inhabited

structure St where
  heap : List HO
  toks : List Nat
  cur : Nat
  base : Nat
  tbase : Nat
  deriving Inhabited

inductive RRes where
  | t (n : Nat)
  | cell (a : Nat) (n : Nat) (ag : Bool)
  deriving Inhabited

structure RFunc where
  results : List RRes
  body : RC
  pureF : Bool
  deriving Inhabited

inductive Def where
  | code (f : RFunc)
  | prim (p : List DV → St → Option (DV × St))
  | pprim (p : List DV → Option DV)

def X.ev (fr : Fr) : X → DV
  | .t n => fr.get n
  | .c v => v
  | .f g => .fn g [] []

def St.cells (st : St) (b : Nat) : Option (CK × List DV) :=
  match st.heap[b]? with
  | some (.cells g vs) => some (g, vs)
  | _ => none

def takeN (vs : List DV) (off n : Nat) (ag : Bool) : Option DV :=
  if ag then (if off + n ≤ vs.length then some (.agg ((vs.drop off).take n)) else none)
  else vs[off]?

def splice (vs : List DV) (off : Nat) (news : List DV) : List DV :=
  vs.take off ++ news ++ vs.drop (off + news.length)

/-- Does a value fill one cell? -/
def DV.scal : DV → Bool
  | .agg _ | .tuple _ | .undef => false
  | _ => true

def loadD (st : St) (n : Nat) (ag : Bool) : DV → Option DV
  | .ptr b off => match st.cells b with | some (_, vs) => takeN vs off n ag | none => none
  | .cptr cs => takeN cs 0 n ag
  | _ => none

/-- Cells that may be written over. -/
def St.cellsW (st : St) (b : Nat) : Option (CK × List DV) :=
  match st.cells b with
  | some (g, vs) => if g.wr = true then some (g, vs) else none
  | none => none

theorem cells_get {st : St} {b : Nat} {g : CK} {vs : List DV} (h : st.cells b = some (g, vs)) : st.heap[b]? = some (.cells g vs) := by
  unfold St.cells at h
  split at h
  · rename_i g' vs' e; simp only [Option.some.injEq, Prod.mk.injEq] at h; obtain ⟨rfl, rfl⟩ := h; exact e
  · cases h

theorem cellsW_get {st : St} {b : Nat} {g : CK} {vs : List DV} (h : st.cellsW b = some (g, vs)) : st.cells b = some (g, vs) ∧ g.wr = true := by
  unfold St.cellsW at h
  split at h
  · rename_i g' vs' e
    split at h
    · rename_i hw
      simp only [Option.some.injEq, Prod.mk.injEq] at h
      obtain ⟨rfl, rfl⟩ := h
      exact ⟨e, hw⟩
    · cases h
  · cases h

def storeD (st : St) (n : Nat) (p v : DV) : Option St :=
  match p with
  | .ptr b off =>
    match st.cellsW b with
    | some (g, vs) =>
      if st.base ≤ b ∧ v.leaves.length = n ∧ off + n ≤ vs.length ∧ v.leaves.all DV.scal then
        some { st with heap := st.heap.set b (.cells g (splice vs off v.leaves)) }
      else none
    | none => none
  | _ => none

def St.push (st : St) (o : HO) : St := { st with heap := st.heap ++ [o] }

/-- Parts laid over a row of zeros. -/
def fillD (cells : List DV) : List (Nat × Nat × DV) → Option (List DV)
  | [] => some cells
  | (off, n, v) :: r =>
    if v.leaves.length = n ∧ off + n ≤ cells.length ∧ v.leaves.all DV.scal then fillD (splice cells off v.leaves) r else none

/-- A row of cells, read as elements. -/
def chunk (n : Nat) (ag : Bool) : Nat → List DV → List DV
  | 0, _ => []
  | k + 1, vs => (if ag then .agg (vs.take n) else vs.headD .undef) :: chunk n ag k (vs.drop n)

def repl (zs : List DV) : Nat → List DV
  | 0 => []
  | k + 1 => zs ++ repl zs k

def asI : DV → Option Int
  | .int _ n => some n
  | _ => none

/-- A bound of a slice: from 0 up to y. -/
def bnd (x : DV) (y : Nat) : Option Nat :=
  match x with
  | .int _ n => if 0 ≤ n ∧ n ≤ y then some n.toNat else none
  | _ => none

def scalEq : LK → DV → DV → Option Bool
  | .bool, .bool a, .bool b => some (a == b)
  | .int, .int k a, .int k' b => if k = k' then some (a == b) else none
  | .str, .str a, .str b => some (a == b)
  | _, _, _ => none

def leavesEq : List LK → List DV → List DV → Option Bool
  | [], [], [] => some true
  | k :: ks, a :: as, b :: bs => match scalEq k a b, leavesEq ks as bs with | some x, some y => some (x && y) | _, _ => none
  | _, _, _ => none

def eqD : EqK → DV → DV → Option Bool
  | .bool, .bool a, .bool b => some (a == b)
  | .ptr, .nilp, .nilp => some true
  | .ptr, .ptr b o, .ptr b' o' => if b = b' ∧ o = o' then some true else none
  | .ptr, .nilp, .ptr _ _ | .ptr, .ptr _ _, .nilp | .ptr, .nilp, .cptr _ | .ptr, .cptr _, .nilp => some false
  | .slice, .list _ _ _ nn _, .list _ _ _ false _ => some (!nn)
  | .slice, .list _ _ _ false _, .list _ _ _ true _ => some false
  | .slice, .hsl .., .list _ _ _ false _ | .slice, .list _ _ _ false _, .hsl .. => some false
  | .map, .nilmap, .nilmap => some true
  | .map, .nilmap, .map _ | .map, .map _, .nilmap => some false
  | .func, .nilfn, .nilfn => some true
  | .func, .nilfn, .fn .. | .func, .fn .., .nilfn => some false
  | .iface, .niliface, .iface _ _ | .iface, .iface _ _, .niliface => some false
  | .agg ks, .agg xs, .agg ys => leavesEq ks xs ys
  | _, _, _ => none

def bitsD (op : BinOp) (k : IntKind) (x y : Int) : Option Int :=
  let a := BitVec.ofInt k.bits x
  let b := BitVec.ofInt k.bits y
  match op with
  | .and => some (k.wrap (a &&& b).toNat)
  | .or => some (k.wrap (a ||| b).toNat)
  | .xor => some (k.wrap (a ^^^ b).toNat)
  | .andNot => some (k.wrap (a &&& ~~~b).toNat)
  | _ => none

def intBinD (op : BinOp) (k : IntKind) (a b : Int) : Option DV :=
  match op with
  | .add => some (.int k (k.wrap (a + b)))
  | .sub => some (.int k (k.wrap (a - b)))
  | .mul => some (.int k (k.wrap (a * b)))
  | .quo => if b = 0 then none else some (.int k (k.wrap (a.tdiv b)))
  | .rem => if b = 0 then none else some (.int k (a.tmod b))
  | .and | .or | .xor | .andNot => (bitsD op k a b).map (.int k)
  | .eql => some (.bool (a == b))
  | .neq => some (.bool (a != b))
  | .lss => some (.bool (a < b))
  | .leq => some (.bool (a ≤ b))
  | .gtr => some (.bool (a > b))
  | .geq => some (.bool (a ≥ b))
  | .shl | .shr => none

def shiftD (op : BinOp) (k : IntKind) (x y : Int) : Option DV :=
  if y < 0 then none else
    let n := min y.toNat k.bits
    match op with
    | .shl => some (.int k (k.wrap (x * 2 ^ n)))
    | .shr => some (.int k (x.fdiv (2 ^ n)))
    | _ => none

def strBinD (op : BinOp) (x y : List UInt8) : Option DV :=
  match op with
  | .add => if x.length + y.length ≤ 4611686018427387904 then some (.str (x ++ y)) else none
  | .eql => some (.bool (x == y))
  | .neq => some (.bool (!(x == y)))
  | .lss => some (.bool (Op.bytesLess x y))
  | .leq => some (.bool (Op.bytesLess x y || x == y))
  | .gtr => some (.bool (!(Op.bytesLess x y || x == y)))
  | .geq => some (.bool (!(Op.bytesLess x y)))
  | _ => none

def binD (op : BinOp) (x y : DV) : Option DV :=
  match x, y with
  | .int k a, .int k' b =>
    match op with
    | .shl | .shr => shiftD op k a b
    | _ => if k = k' then intBinD op k a b else none
  | .str a, .str b => strBinD op a b
  | _, _ => none

def unD (op : UnOp) (x : DV) : Option DV :=
  match op, x with
  | .neg, .int k n => some (.int k (k.wrap (0 - n)))
  | .xor, .int k n => (bitsD .xor k (if k.signed then -1 else k.max) n).map (.int k)
  | .not, .bool b => some (.bool !b)
  | _, _ => none

/-- The elements that an operand of append or copy brings: the cells, flat. -/
def newsD (st : St) (n : Nat) : DV → Option (Nat × List DV)
  | .list _ n' _ nn xs => if nn = false then some (0, []) else if n' = n then some (xs.length, flat xs) else none
  | .str s => if n = 1 then some (s.length, s.map fun b => .int .u8 b.toNat) else none
  | .hsl n' _ b off len _ =>
    if n' = n then match st.cells b with
      | some (_, vs) => if off + len * n ≤ vs.length then some (len, (vs.drop off).take (len * n)) else none
      | none => none
    else none
  | _ => none

def roomD : Nat := 140737488355328   -- 2^47

def appendD (st : St) (n : Nat) (ag : Bool) (bytes : Nat) (x y : DV) : Option (DV × St) :=
  match newsD st n y with
  | none => none
  | some (m, news) =>
    match x with
    | .list tag n' tk nn xs =>
      if m = 0 then some (.list tag n' tk nn xs, st)
      else if n = 0 ∨ (nn = true ∧ n' ≠ n) ∨ (xs.length + m) * bytes > roomD ∨ xs.length + m > roomD ∨ !(news.map DV.demote).all DV.pure then none
      else
        let ys := xs ++ chunk n ag m (news.map DV.demote)
        match nn, tk with
        | false, _ | true, .tight => some (.list st.cur n (.own st.toks.length 0) true ys, { st with toks := st.toks ++ [0] })
        | true, .own t s =>
          if st.tbase ≤ t ∧ st.toks[t]? = some s then some (.list st.cur n (.own t (s + 1)) true ys, { st with toks := st.toks.set t (s + 1) })
          else none
        | true, .no => none
    | .hsl n' ag' b off len cap =>
      if m = 0 then some (x, st)
      else if n' = n ∧ 0 < n ∧ (len + m) * bytes ≤ roomD ∧ len + m ≤ roomD then
        match cap with
        | none =>
          if off = 0 ∧ st.base ≤ b then
            match st.cells b with
            | some (.grown, vs) =>
              if len * n = vs.length then
                some (.hsl n ag' st.heap.length 0 (len + m) none, { st with heap := st.heap.set b .gone ++ [.cells .grown (vs ++ news)] })
              else none
            | _ => none
          else none
        | some k =>
          match st.cells b with
          | some (g, vs) =>
            if len + m ≤ k then
              if st.base ≤ b ∧ off + len * n + news.length ≤ vs.length ∧ g.wr = true then some (.hsl n ag' b off (len + m) (some k), { st with heap := st.heap.set b (.cells g (splice vs (off + len * n) news)) }) else none
            else if off + len * n ≤ vs.length then
              some (.hsl n ag' st.heap.length 0 (len + m) none, { st with heap := st.heap ++ [.cells .grown ((vs.drop off).take (len * n) ++ news)] })
            else none
          | none => none
      else none
    | _ => none

/-- append onto nothing lays a row of the heap. -/
def appendHD (st : St) (n : Nat) (ag : Bool) (bytes : Nat) (x y : DV) : Option (DV × St) :=
  match x with
  | .list _ _ _ false [] =>
    match newsD st n y with
    | some (m, news) =>
      if m = 0 then some (x, st) else
      if 0 < n ∧ m * bytes ≤ roomD ∧ m ≤ roomD then some (.hsl n ag st.heap.length 0 m none, { st with heap := st.heap ++ [.cells .grown news] }) else none
    | none => none
  | .list _ n' .tight true [] =>
    match newsD st n y with
    | some (m, news) =>
      if m = 0 then some (x, st) else
      if (0 < n ∧ n' = n) ∧ m * bytes ≤ roomD ∧ m ≤ roomD then some (.hsl n ag st.heap.length 0 m none, { st with heap := st.heap ++ [.cells .grown news] }) else none
    | none => none
  | .hsl .. => appendD st n ag bytes x y
  | _ => none

/-- clear of a slice. -/
def clearD (st : St) (n : Nat) (zs : List DV) (x : DV) : Option (DV × St) :=
  match x with
  | .list _ _ _ false [] => some (.tuple [], st)
  | .hsl n' _ b off len _ =>
    if len = 0 then some (.tuple [], st)
    else if n' = n ∧ st.base ≤ b then
      match st.cellsW b with
      | some (g, vs) => if off + (repl zs len).length ≤ vs.length then some (.tuple [], { st with heap := st.heap.set b (.cells g (splice vs off (repl zs len))) }) else none
      | none => none
    else none
  | _ => none

/-- A pointer to a variable of a known type, by way of unsafe.Pointer: as it is. -/
def convD (st : St) (ty n : Nat) (x : DV) : Option DV :=
  match x with
  | .ptr b 0 =>
    match st.heap[b]? with
    | some (.cells (.typed t) vs) => if t = ty ∧ vs.length = n then some (.ptr b 0) else none
    | _ => none
  | _ => none

/-- append of bytes onto a row that may be frozen at its head. -/
def appendBD (st : St) (ty bytes : Nat) (x y : DV) : Option (DV × St) :=
  match newsD st 1 y with
  | none => none
  | some (m, news) =>
    match x with
    | .list tag n' tk false [] =>
      if m = 0 then some (.list tag n' tk false [], st)
      else if m * bytes ≤ roomD ∧ m ≤ roomD then some (.hsl 1 false st.heap.length 0 m none, { st with heap := st.heap ++ [.cells (.frz ty) news] }) else none
    | .hsl n' ag b off len none =>
      if m = 0 then some (.hsl n' ag b off len none, st)
      else if n' = 1 ∧ off = 0 ∧ st.base ≤ b ∧ (len + m) * bytes ≤ roomD ∧ len + m ≤ roomD then
        match st.cells b with
        | some (.frz t, vs) => if t = ty ∧ len = vs.length then some (.hsl 1 ag st.heap.length 0 (len + m) none, { st with heap := st.heap.set b .gone ++ [.cells (.frz ty) (vs ++ news)] }) else none
        | _ => none
      else none
    | _ => none

/-- unsafe.SliceData. -/
def sldataD (x : DV) : Option DV :=
  match x with
  | .list _ _ _ false [] => some .nilp
  | .hsl _ _ b off len _ => if 0 < len then some (.ptr b off) else none
  | _ => none

/-- The bytes of a row of cells. -/
def bytesOfD : List DV → Option (List UInt8)
  | [] => some []
  | .int .u8 n :: r => (bytesOfD r).map fun l => UInt8.ofNat n.toNat :: l
  | _ => none

/-- The same, where each is a byte. -/
def bytesOfR : List DV → Option (List UInt8)
  | [] => some []
  | .int .u8 n :: r => if 0 ≤ n ∧ n ≤ 255 then (bytesOfR r).map fun l => UInt8.ofNat n.toNat :: l else none
  | _ => none

/-- unsafe.String of a row's head. -/
def ustrD (st : St) (ty : Nat) (x l : DV) : Option DV :=
  match x, l with
  | .nilp, .int .i64 n => if n = 0 then some (.str []) else none
  | .ptr b off, .int .i64 n =>
    if n = 0 then some (.str [])
    else match st.cells b with
    | some (.frz t, vs) => if t = ty ∧ off = 0 ∧ st.base ≤ b ∧ 0 ≤ n ∧ n ≤ vs.length ∧ n ≤ roomD then (bytesOfR (vs.take n.toNat)).map .str else none
    | _ => none
  | _, _ => none

def copyD (st : St) (n : Nat) (x y : DV) : Option (DV × St) :=
  match newsD st n y, x with
  | some (m, news), .hsl n' _ b off len _ =>
    if n' = n ∧ st.base ≤ b then
      let k := min m len
      if k = 0 then some (.int .i64 0, st) else
      match st.cellsW b with
      | some (g, vs) =>
        if off + k * n ≤ vs.length then
          some (.int .i64 k, { st with heap := st.heap.set b (.cells g (splice vs off (news.take (k * n)))) })
        else none
      | none => none
    else none
  | _, _ => none

def sliceD (str : Bool) (n : Nat) (x : DV) (lo hi mx : Option DV) : Option DV :=
  match str, x with
  | true, .str s =>
    match mx with
    | some _ => none
    | none =>
      match (match hi with | some v => bnd v s.length | none => some s.length) with
      | none => none
      | some h =>
        match (match lo with | some v => bnd v h | none => some 0) with
        | none => none
        | some l => some (.str ((s.drop l).take (h - l)))
  | false, .list tag en tk nn xs =>
    if nn = true ∧ en ≠ n then none else
    match (match mx with | some v => bnd v xs.length | none => some xs.length) with
    | none => none
    | some m =>
      match (match hi with | some v => bnd v m | none => if mx.isSome then none else some xs.length) with
      | none => none
      | some h =>
        match (match lo with | some v => bnd v h | none => some 0) with
        | none => none
        | some l =>
          let tk' : Tk := if mx.isSome then (if m = h then .tight else .no)
            else if h = xs.length then (if l = 0 then tk else if tk = .tight then .tight else .no) else .no
          some (.list tag en tk' nn ((xs.drop l).take (h - l)))
  | false, .hsl n' ag b off len cap =>
    if n' = n then
      match cap with
      | some c =>
        match (match mx with | some v => bnd v c | none => some c) with
        | none => none
        | some m =>
          match (match hi with | some v => bnd v (if mx.isSome then m else c) | none => if mx.isSome then none else some len) with
          | none => none
          | some h =>
            match (match lo with | some v => bnd v h | none => some 0) with
            | none => none
            | some l => some (.hsl n ag b (if m = l then off else off + l * n) (h - l) (some (m - l)))
      | none =>
        match mx with
        | some v =>
          match bnd v len with
          | none => none
          | some m =>
            match (match hi with | some u => bnd u m | none => none) with
            | none => none
            | some h =>
              match (match lo with | some u => bnd u h | none => some 0) with
              | none => none
              | some l => some (.hsl n ag b (if m = l then off else off + l * n) (h - l) (some (m - l)))
        | none =>
          match (match hi with | some v => bnd v len | none => some len) with
          | none => none
          | some h =>
            match (match lo with | some v => bnd v h | none => some 0) with
            | none => none
            | some l => if l = 0 ∨ l < len then some (.hsl n ag b (off + l * n) (h - l) none) else none
    else none
  | _, _ => none

def keyEq (ks : List LK) (a b : DV) : Option Bool :=
  match ks with
  | [k] => scalEq k a b
  | _ => match a, b with | .agg xs, .agg ys => leavesEq ks xs ys | _, _ => none

def findD (ks : List LK) (k : DV) : List (DV × DV) → Nat → Option (Option (Nat × DV))
  | [], _ => some none
  | (a, v) :: r, i => match keyEq ks k a with | some true => some (some (i, v)) | some false => findD ks k r (i + 1) | none => none

def lookupD (st : St) (ks : List LK) (zero : DV) (m k : DV) (ok : Bool) : Option DV :=
  match (match m with
    | .nilmap => some []
    | .map b => match st.heap[b]? with | some (.map es) => some es | _ => none
    | _ => none) with
  | none => none
  | some es =>
    match findD ks k es 0 with
    | none => none
    | some r =>
      let (v, there) := match r with | some (_, v) => (v, true) | none => (zero, false)
      some (if ok then .tuple [v, .bool there] else v)

def mapsetD (st : St) (ks : List LK) (m k v : DV) : Option St :=
  match m with
  | .map b =>
    match st.heap[b]? with
    | some (.map es) =>
      if st.base ≤ b then
        match findD ks k es 0 with
        | none => none
        | some (some (i, _)) => some { st with heap := st.heap.set b (.map (es.modify i fun _ => (k, v))) }
        | some none => some { st with heap := st.heap.set b (.map (es ++ [(k, v)])) }
      else none
    | _ => none
  | _ => none

/-- Is a key of the shape that is asked? -/
def keyFit (ks : List LK) (k : DV) : Bool :=
  match ks with
  | [_] => true
  | _ => match k with | .agg xs => xs.length == ks.length | _ => false

def max2D : DV → DV → Option DV
  | .int k x, .int k' y => if k = k' then some (.int k (if y > x then y else x)) else none
  | _, _ => none
def min2D : DV → DV → Option DV
  | .int k x, .int k' y => if k = k' then some (.int k (if y < x then y else x)) else none
  | _, _ => none

def foldD (f : DV → DV → Option DV) : List DV → Option DV
  | [] => none
  | x :: r => r.foldlM f x

/-- An operation that runs no code. -/
def stepD (st : St) (fr : Fr) : ROp → Option (DV × St)
  | .mv x => some (x.ev fr, st)
  | .pick c a b => match c.ev fr with | .bool t => some ((if t then a.ev fr else b.ev fr), st) | _ => none
  | .alloc zs => some (.ptr st.heap.length 0, st.push (.cells .plain zs))
  | .box n x => if (x.ev fr).leaves.length = n ∧ (x.ev fr).leaves.all DV.scal then some (.ptr st.heap.length 0, st.push (.cells .plain (x.ev fr).leaves)) else none
  | .build zs parts => (fillD zs (parts.map fun (o, n, x) => (o, n, x.ev fr))).map fun cs => (.agg cs, st)
  | .lit n ag zs len parts =>
    match fillD (repl zs len) (parts.map fun (i, x) => (i * n, n, (x.ev fr))) with
    | some cs => if (cs.map DV.demote).all DV.pure then some (.list st.cur n .tight true (chunk n ag len (cs.map DV.demote)), st) else none
    | none => none
  | .hlit n ag zs len parts =>
    match fillD (repl zs len) (parts.map fun (i, x) => (i * n, n, (x.ev fr))) with
    | some cs => some (.hsl n ag st.heap.length 0 len (some len), st.push (.cells .plain cs))
    | none => none
  | .load n ag x => (loadD st n ag (x.ev fr)).map fun v => (v, st)
  | .store n x v => (storeD st n (x.ev fr) (v.ev fr)).map fun s => (.undef, s)
  | .nilchk x => match x.ev fr with | .nilp | .niliface | .nilfn | .undef | .iface .. | .fn .. | .yield _ => none | v => some (v, st)
  | .bin op x y => (binD op (x.ev fr) (y.ev fr)).map fun v => (v, st)
  | .eq k neg x y => (eqD k (x.ev fr) (y.ev fr)).map fun b => (.bool (neg != b), st)
  | .un op x => (unD op (x.ev fr)).map fun v => (v, st)
  | .i2i k x => match x.ev fr with | .int _ n => some (.int k (k.wrap n), st) | _ => none
  | .i2s x => match x.ev fr with | .int _ n => if 0 ≤ n ∧ n < 128 then some (.str [UInt8.ofNat n.toNat], st) else none | _ => none
  | .s2b x => match x.ev fr with | .str s => some (.list st.cur 1 .no true (s.map fun b => .int .u8 b.toNat), st) | _ => none
  | .s2h x => match x.ev fr with | .str s => some (.hsl 1 false st.heap.length 0 s.length none, st.push (.cells .grown (s.map fun b => .int .u8 b.toNat))) | _ => none
  | .b2s x => match (match x.ev fr with | .str _ => none | v => newsD st 1 v) with | some (_, vs) => (bytesOfD vs).map fun l => (.str l, st) | none => none
  | .same x => match x.ev fr with | .str s => some (.str s, st) | _ => none
  | .mkfn g first captured => some (.fn g (first.map (X.ev fr)) (captured.map (X.ev fr)), st)
  | .mkmap => some (.map st.heap.length, st.push (.map []))
  | .mkslice n ag bytes zs len cap =>
    match len.ev fr, cap.ev fr with
    | .int .i64 l, .int .i64 c => if 0 ≤ l ∧ l ≤ c ∧ c * bytes ≤ roomD ∧ c ≤ roomD then
        some (.hsl n ag st.heap.length 0 l.toNat (some c.toNat), st.push (.cells .plain (repl zs c.toNat))) else none
    | _, _ => none
  | .mklist n bytes len cap =>
    match len.ev fr, cap.ev fr with
    | .int .i64 l, .int .i64 c => if l = 0 ∧ 0 ≤ c ∧ c * bytes ≤ roomD ∧ c ≤ roomD ∧ 0 < n then
        some (.list st.cur n (.own st.toks.length 0) true [], { st with toks := st.toks ++ [0] }) else none
    | _, _ => none
  | .slice str n x lo hi mx => (sliceD str n (x.ev fr) (lo.map (X.ev fr)) (hi.map (X.ev fr)) (mx.map (X.ev fr))).map fun v => (v, st)
  | .faddr off x =>
    match x.ev fr with
    | .ptr b o => some (.ptr b (o + off), st)
    | .cptr cs => if off ≤ cs.length then some (.cptr (cs.drop off), st) else none
    | _ => none
  | .field n ag off x => match x.ev fr with | .agg vs => (takeN vs off n ag).map fun v => (v, st) | _ => none
  | .iaddr n x i =>
    match x.ev fr, i.ev fr with
    | .list _ n' _ _ xs, .int _ j => if 0 ≤ j ∧ n' = n then (match xs[j.toNat]? with | some v => some (.cptr v.leaves, st) | none => none) else none
    | .hsl n' _ b off len _, .int _ j => if n' = n ∧ 0 ≤ j ∧ j < len then some (.ptr b (off + j.toNat * n), st) else none
    | _, _ => none
  | .iaddrA n len x i =>
    match x.ev fr, i.ev fr with
    | .ptr b off, .int _ j => if 0 ≤ j ∧ j < len then some (.ptr b (off + j.toNat * n), st) else none
    | .cptr cs, .int _ j => if 0 ≤ j ∧ j < len ∧ j.toNat * n ≤ cs.length then some (.cptr (cs.drop (j.toNat * n)), st) else none
    | _, _ => none
  | .index x i =>
    match x.ev fr, i.ev fr with
    | .str s, .int _ j => if 0 ≤ j then (s[j.toNat]?).map fun b => (.int .u8 b.toNat, st) else none
    | _, _ => none
  | .indexA n ag len x i =>
    match x.ev fr, i.ev fr with
    | .agg vs, .int _ j => if 0 ≤ j ∧ j < len then (takeN vs (j.toNat * n) n ag).map fun v => (v, st) else none
    | _, _ => none
  | .lookup ks zero x i ok => if keyFit ks (i.ev fr) then (lookupD st ks zero (x.ev fr) (i.ev fr) ok).map fun v => (v, st) else none
  | .mapset ks m k v => if keyFit ks (k.ev fr) then (mapsetD st ks (m.ev fr) (k.ev fr) (v.ev fr)).map fun s => (.undef, s) else none
  | .extract x i => match x.ev fr with | .tuple vs => (vs[i]?).map fun v => (v, st) | _ => none
  | .iface t x => some (.iface t (x.ev fr), st)
  | .len k x =>
    match k, x.ev fr with
    | .str, .str s => some (.int .i64 s.length, st)
    | .slice, .list _ _ _ _ xs => some (.int .i64 xs.length, st)
    | .slice, .hsl _ _ _ _ len _ => some (.int .i64 len, st)
    | .map, .nilmap => some (.int .i64 0, st)
    | .map, .map b => match st.heap[b]? with | some (.map es) => some (.int .i64 es.length, st) | _ => none
    | _, _ => none
  | .lenC n => some (.int .i64 n, st)
  | .cap x =>
    match x.ev fr with
    | .list _ _ .tight true xs => some (.int .i64 xs.length, st)
    | .list _ _ _ false _ => some (.int .i64 0, st)
    | .hsl _ _ _ _ _ (some c) => some (.int .i64 c, st)
    | _ => none
  | .append n ag bytes x y => appendD st n ag bytes (x.ev fr) (y.ev fr)
  | .appendH n ag bytes x y => appendHD st n ag bytes (x.ev fr) (y.ev fr)
  | .clear n zs x => clearD st n zs (x.ev fr)
  | .allocT ty zs => some (.ptr st.heap.length 0, st.push (.cells (.typed ty) zs))
  | .conv ty n x => (convD st ty n (x.ev fr)).map fun v => (v, st)
  | .appendB ty bytes x y => appendBD st ty bytes (x.ev fr) (y.ev fr)
  | .sldata x => (sldataD (x.ev fr)).map fun v => (v, st)
  | .sliceA n ag len x => match x.ev fr with | .ptr b off => some (.hsl n ag b off len (some len), st) | _ => none
  | .ustr ty x l => (ustrD st ty (x.ev fr) (l.ev fr)).map fun v => (v, st)
  | .copy n x y => copyD st n (x.ev fr) (y.ev fr)
  | .max args => (foldD max2D (args.map (X.ev fr))).map fun v => (v, st)
  | .min args => (foldD min2D (args.map (X.ev fr))).map fun v => (v, st)
  | .got v xs => if xs.all (fun p => DV.beq (p.1.ev fr) p.2) then some (v, st) else none
  | .call .. | .callv .. | .callp .. | .fail => none

/-! ### What leaves a call that keeps nothing ('st0': the state when it began) -/
def St.liveB (st : St) (b : Nat) : Bool :=
  match st.heap[b]? with
  | some .gone | none => false
  | _ => true

def exportL (st0 st : St) (v : DV) : Option DV :=
  match v with
  | .list tag n tk nn xs => some (.list tag n (match tk with | .own _ _ => .no | k => k) nn xs)
  | .hsl n ag b off len cap =>
    if st0.liveB b then some v else
    match st.heap[b]? with
    | some (.cells _ vs) =>
      if st0.heap.length ≤ b ∧ off + len * n ≤ vs.length ∧ 0 < n ∧ (ag = true ∨ n = 1) ∧ (((vs.drop off).take (len * n)).map DV.demote).all DV.pure then
        some (.list st.cur n (if cap = some len then .tight else .no) true (chunk n ag len (((vs.drop off).take (len * n)).map DV.demote)))
      else none
    | _ => none
  | .ptr b _ | .map b => if st0.liveB b then some v else none
  | .fn _ first captured => if first.isEmpty && captured.isEmpty then some v else none
  | .bool _ | .int _ _ | .str _ | .nilp | .nilmap | .nilfn | .niliface | .cptr _ => some v
  | _ => none

def exportLs (st0 st : St) : List DV → Option (List DV)
  | [] => some []
  | v :: r => match exportL st0 st v, exportLs st0 st r with | some a, some b => some (a :: b) | _, _ => none

def exportA (st0 st : St) : DV → Option DV
  | .agg vs => (exportLs st0 st vs).map .agg
  | v => exportL st0 st v

def exportAs (st0 st : St) : List DV → Option (List DV)
  | [] => some []
  | v :: r => match exportA st0 st v, exportAs st0 st r with | some a, some b => some (a :: b) | _, _ => none

def exportT (st0 st : St) : DV → Option DV
  | .tuple vs => (exportAs st0 st vs).map .tuple
  | v => exportA st0 st v

def resOne (st : St) (fr : Fr) : RRes → Option DV
  | .t n => some (fr.get n)
  | .cell a n ag => loadD st n ag (fr.get a)

def resAll (st : St) (fr : Fr) : List RRes → Option (List DV)
  | [] => some []
  | r :: rs => match resOne st fr r, resAll st fr rs with | some a, some b => some (a :: b) | _, _ => none

def resD (st : St) (fr : Fr) (rs : List RRes) : Option DV :=
  match resAll st fr rs with
  | some [v] => some v
  | some vs => some (.tuple vs)
  | none => none

def frame0 : List DV → Nat → Fr
  | [], _ => []
  | v :: r, i => (i, v) :: frame0 r (i + 1)

def St.enter (st : St) : St := { st with base := st.heap.length, tbase := st.toks.length }

/-- Is an operation wanted? What one that is not wanted leaves in its slot is '.tuple []'. -/
def wantedD (fr : Fr) : Option (Nat × Bool) → Option Bool
  | none => some true
  | some (t, want) => match fr.get t with | .bool b => some (b == want) | .tuple [] => some false | _ => none

/-- Which slots are read. -/
def X.reads : X → List Nat
  | .t n => [n]
  | _ => []

def ROp.reads : ROp → List Nat
  | .mv x | .box _ x | .load _ _ x | .nilchk x | .un _ x | .i2i _ x | .i2s x | .s2b x | .s2h x | .b2s x | .same x | .faddr _ x | .field _ _ _ x | .extract x _ | .iface _ x | .len _ x | .cap x | .clear _ _ x | .conv _ _ x | .sldata x | .sliceA _ _ _ x => x.reads
  | .pick c a b => c.reads ++ a.reads ++ b.reads
  | .alloc _ | .allocT .. | .mkmap | .lenC _ | .fail => []
  | .build _ parts => parts.flatMap fun (_, _, x) => x.reads
  | .lit _ _ _ _ parts | .hlit _ _ _ _ parts => parts.flatMap fun (_, x) => x.reads
  | .store _ x v | .bin _ x v | .eq _ _ x v | .iaddr _ x v | .iaddrA _ _ x v | .index x v | .indexA _ _ _ x v | .lookup _ _ x v _ | .append _ _ _ x v | .appendH _ _ _ x v | .appendB _ _ x v | .ustr _ x v | .copy _ x v => x.reads ++ v.reads
  | .mkfn _ a b => a.flatMap X.reads ++ b.flatMap X.reads
  | .mkslice _ _ _ _ l c | .mklist _ _ l c => l.reads ++ c.reads
  | .slice _ _ x lo hi mx => x.reads ++ lo.toList.flatMap X.reads ++ hi.toList.flatMap X.reads ++ mx.toList.flatMap X.reads
  | .mapset _ m k v => m.reads ++ k.reads ++ v.reads
  | .call _ args | .max args | .min args => args.flatMap X.reads
  | .callv f args | .callp f args => f.reads ++ args.flatMap X.reads
  | .got _ xs => xs.flatMap fun p => p.1.reads

def ROper.reads (o : ROper) : List Nat := o.op.reads ++ (match o.guard with | some (t, _) => [t] | none => [])

theorem X.ev_congr {fr fr' : Fr} {x : X} (h : ∀ t ∈ x.reads, fr.get t = fr'.get t) : x.ev fr = x.ev fr' := by
  cases x with
  | t n => exact h n (by simp [X.reads])
  | c v => rfl
  | f g => rfl

theorem map_ev_congr {fr fr' : Fr} {xs : List X} (h : ∀ t ∈ xs.flatMap X.reads, fr.get t = fr'.get t) : xs.map (X.ev fr) = xs.map (X.ev fr') := by
  apply List.map_congr_left
  intro x hx
  exact X.ev_congr fun t ht => h t (List.mem_flatMap.2 ⟨x, hx, ht⟩)

theorem opt_ev_congr {fr fr' : Fr} {x : Option X} (h : ∀ t ∈ x.toList.flatMap X.reads, fr.get t = fr'.get t) : x.map (X.ev fr) = x.map (X.ev fr') := by
  cases x with
  | none => rfl
  | some x => simp only [Option.map_some]; rw [X.ev_congr fun t ht => h t (by simpa using ht)]

theorem stepD_congr {st : St} {fr fr' : Fr} (op : ROp) (h : ∀ t ∈ op.reads, fr.get t = fr'.get t) : stepD st fr op = stepD st fr' op := by
  cases op <;> simp only [ROp.reads, List.mem_append] at h <;> simp only [stepD]
  case build zs parts =>
    have : (parts.map fun (o, n, x) => (o, n, X.ev fr x)) = (parts.map fun (o, n, x) => (o, n, X.ev fr' x)) := by
      apply List.map_congr_left
      rintro ⟨o, n, x⟩ hx
      simp only
      rw [X.ev_congr fun t ht => h t (List.mem_flatMap.2 ⟨_, hx, ht⟩)]
    rw [this]
  case lit n ag zs len parts =>
    have : (parts.map fun (i, x) => (i * n, n, X.ev fr x)) = (parts.map fun (i, x) => (i * n, n, X.ev fr' x)) := by
      apply List.map_congr_left
      rintro ⟨i, x⟩ hx
      simp only
      rw [X.ev_congr fun t ht => h t (List.mem_flatMap.2 ⟨_, hx, ht⟩)]
    rw [this]
  case hlit n ag zs len parts =>
    have : (parts.map fun (i, x) => (i * n, n, X.ev fr x)) = (parts.map fun (i, x) => (i * n, n, X.ev fr' x)) := by
      apply List.map_congr_left
      rintro ⟨i, x⟩ hx
      simp only
      rw [X.ev_congr fun t ht => h t (List.mem_flatMap.2 ⟨_, hx, ht⟩)]
    rw [this]
  case got v xs =>
    have : (xs.all fun p => DV.beq (p.1.ev fr) p.2) = (xs.all fun p => DV.beq (p.1.ev fr') p.2) := by
      rw [Bool.eq_iff_iff, List.all_eq_true, List.all_eq_true]
      constructor <;> intro k p hp <;> have := k p hp
      · rwa [X.ev_congr (x := p.1) fun t ht => h t (List.mem_flatMap.2 ⟨p, hp, ht⟩)] at this
      · rwa [X.ev_congr (x := p.1) fun t ht => h t (List.mem_flatMap.2 ⟨p, hp, ht⟩)]
    rw [this]
  case pick c a b => rw [X.ev_congr (x := c) fun t ht => h t (.inl (.inl ht)), X.ev_congr (x := a) fun t ht => h t (.inl (.inr ht)), X.ev_congr (x := b) fun t ht => h t (.inr ht)]
  case mapset ks m k v => rw [X.ev_congr (x := m) fun t ht => h t (.inl (.inl ht)), X.ev_congr (x := k) fun t ht => h t (.inl (.inr ht)), X.ev_congr (x := v) fun t ht => h t (.inr ht)]
  case slice str n x lo hi mx =>
    rw [X.ev_congr (x := x) fun t ht => h t (.inl (.inl (.inl ht))), opt_ev_congr (x := lo) fun t ht => h t (.inl (.inl (.inr ht))), opt_ev_congr (x := hi) fun t ht => h t (.inl (.inr ht)), opt_ev_congr (x := mx) fun t ht => h t (.inr ht)]
  case mkfn g a b => rw [map_ev_congr (xs := a) fun t ht => h t (.inl ht), map_ev_congr (xs := b) fun t ht => h t (.inr ht)]
  all_goals first
    | rfl
    | (rw [X.ev_congr h]; done)
    | (rw [map_ev_congr h]; done)
    | (rename_i x y; rw [X.ev_congr (x := x) fun t ht => h t (.inl ht), X.ev_congr (x := y) fun t ht => h t (.inr ht)]; done)
    | (rename_i x y _; rw [X.ev_congr (x := x) fun t ht => h t (.inl ht), X.ev_congr (x := y) fun t ht => h t (.inr ht)]; done)

/-- Operations that may change the state; a call is one if its function is not among the listed ones. -/
def loudD (isPure : Nat → Bool) : ROp → Bool
  | .alloc _ | .allocT .. | .appendB .. | .ustr .. | .box .. | .hlit .. | .store .. | .s2h _ | .mkmap | .mkslice .. | .mklist .. | .mapset .. | .callv .. | .append .. | .appendH .. | .clear .. | .copy .. => true
  | .call g _ => !isPure g
  | _ => false

/-- What may not change the state does not. -/
theorem stepD_quiet {st st' : St} {fr : Fr} {op : ROp} {v : DV} {pf : Nat → Bool} (hq : loudD pf op = false) (h : stepD st fr op = some (v, st')) : st' = st := by
  cases op <;> simp only [loudD] at hq <;> simp only [stepD] at h <;> first
    | (cases hq; done)
    | (cases h; done)
    | (cases h; rfl)
    | (simp only [Option.map_eq_some_iff] at h; obtain ⟨_, _, h⟩ := h; cases h; rfl)
    | (split at h <;> first | (cases h; done) | (cases h; rfl) | (simp only [Option.map_eq_some_iff] at h; obtain ⟨_, _, h⟩ := h; cases h; rfl) | (split at h <;> first | (cases h; done) | (cases h; rfl) | (simp only [Option.map_eq_some_iff] at h; obtain ⟨_, _, h⟩ := h; cases h; rfl) | (split at h <;> first | (cases h; done) | (cases h; rfl) | (split at h <;> first | (cases h; done) | (cases h; rfl)))))


def setParams : Fr → List Nat → List DV → Fr
  | fr, t :: ts, v :: vs => setParams ((t, v) :: fr) ts vs
  | fr, _, _ => fr



/-! ### Objects that are laid ahead of a region that draws its order -/

/-- A free laying: the value that it tells if its object lies at b, and the object. -/
def freeD (op : ROp) (fr : Fr) (b : Nat) : Option (DV × HO) :=
  match op with
  | .alloc zs => some (.ptr b 0, .cells .plain zs)
  | .mkmap => some (.map b, .map [])
  | .mkslice n ag bytes zs len cap =>
    match len.ev fr, cap.ev fr with
    | .int .i64 l, .int .i64 c => if 0 ≤ l ∧ l ≤ c ∧ c * bytes ≤ roomD ∧ c ≤ roomD then some (.hsl n ag b 0 l.toNat (some c.toNat), .cells .plain (repl zs c.toNat)) else none
    | _, _ => none
  | _ => none

/-- What a free laying asks. -/
def gotX : ROp → List X
  | .mkslice _ _ _ _ len cap => [len, cap]
  | _ => []

theorem freeD_congr {op : ROp} {fr fr' : Fr} {b : Nat} (h : ∀ x ∈ gotX op, x.ev fr = x.ev fr') : freeD op fr b = freeD op fr' b := by
  cases op <;> try rfl
  rename_i n ag bytes zs len cap
  simp only [freeD]
  rw [h len (by simp [gotX]), h cap (by simp [gotX])]

def isLoud : ROp → Bool
  | .call .. | .callv .. | .callp .. => true
  | op => loudD (fun _ => false) op

/-- The region's quiet operations, run at its beginning: a guess of what is asked. -/
def qrun (st : St) : Fr → List ROper → Fr
  | fr, [] => fr
  | fr, o :: r =>
    if isLoud o.op then qrun st fr r else
    match o.guard, stepD st fr o.op with
    | none, some (v, _) => qrun st (fr.put o.dst v) r
    | _, _ => qrun st fr r

/-- The listed ones of the operations are laid ahead; in their place stands what they tell, and what must be asked then. -/
def prep (fr : Fr) (hs : List Nat) : Nat → St → List ROper → Option (St × List ROper)
  | _, st, [] => some (st, [])
  | i, st, o :: r =>
    if hs.contains i then
      match o.guard, freeD o.op fr st.heap.length with
      | none, some (v, ob) =>
        match prep fr hs (i + 1) (st.push ob) r with
        | some (st1, l) => some (st1, ⟨o.dst, .got v ((gotX o.op).map fun x => (x, x.ev fr)), none⟩ :: l)
        | none => none
      | _, _ => none
    else
      match prep fr hs (i + 1) st r with
      | some (st1, l) => some (st1, o :: l)
      | none => none

def prepH (fr : Fr) (hs : List Nat) (st : St) (ops : List ROper) : Option (St × List ROper) :=
  match hs with
  | [] => some (st, ops)
  | _ :: _ => prep (qrun st fr ops) hs 0 st ops

/-- What is known of the places beforehand. -/
def maskR (hs : List Nat) : Nat → List ROper → List ROper
  | _, [] => []
  | i, o :: r => (if hs.contains i then ⟨o.dst, .got .undef ((gotX o.op).map fun x => (x, .undef)), none⟩ else o) :: maskR hs (i + 1) r

end Go.D
