/-
When a value of the small language stands for a value of Go's model, a state for a world.
-/
import Derived.Test.YtpmjmbpcdacamaaFwDRun
import Derived.Below
import Derived.CallsIn
import Derived.RangeFuncLeaves
import Derived.RangeFuncRecord
namespace Go.D
open Go.RowKit

structure Gh where
  ro : Nat → Nat → Option Value
  mu : Nat → Option Nat
  hist : Nat → Nat → Option (Nat × Nat × Nat × Nat)
  gsz : Nat → Nat
  dfr : Nat → Prop
  lps : Nat → Prop
  pend : Nat → Option HO
  floor : Nat
  base : Nat
  tbase : Nat

/-- Which of the program's functions a number of the table is; and cells that lay there, to be read alone, when all began. -/
structure FM where
  fn : Nat → Option FuncId
  env : Nat → Nat → Option Value

instance : CoeFun FM (fun _ => Nat → Option FuncId) := ⟨FM.fn⟩

/-- A cell that is read alone. -/
def ROk (fm : FM) (G : Gh) (r i : Nat) (v : Value) : Prop := G.ro r i = some v ∨ fm.env r i = some v

/-- Nothing that values hang on is lost. -/
structure Gh.sub (G G' : Gh) : Prop where
  ro : ∀ r i v, G.ro r i = some v → G'.ro r i = some v
  mu : ∀ b r, G.mu b = some r → G'.mu b = some r
  hist : ∀ t s x, G.hist t s = some x → G'.hist t s = some x
  gsz : ∀ b r, G.mu b = some r → G'.gsz b = G.gsz b

structure Gh.le (G G' : Gh) : Prop where
  toSub : Gh.sub G G'
  dfr : ∀ r, G.dfr r → G'.dfr r
  lps : ∀ r, G.lps r → G'.lps r
  floor : G'.floor = G.floor
  roFloor : ∀ r i, r < G.floor → G'.ro r i = G.ro r i
  base : G'.base = G.base
  tbase : G'.tbase = G.tbase
  pend : G'.pend = G.pend

theorem Gh.sub.refl (G : Gh) : G.sub G := ⟨fun _ _ _ h => h, fun _ _ h => h, fun _ _ _ h => h, fun _ _ _ => rfl⟩
theorem Gh.sub.trans {A B C : Gh} (h : A.sub B) (k : B.sub C) : A.sub C :=
  ⟨fun r i v x => k.ro r i v (h.ro r i v x), fun b r x => k.mu b r (h.mu b r x), fun t s x y => k.hist t s x (h.hist t s x y),
   fun b r x => (k.gsz b r (h.mu b r x)).trans (h.gsz b r x)⟩
theorem Gh.le.refl (G : Gh) : G.le G := ⟨Gh.sub.refl G, fun _ h => h, fun _ h => h, rfl, fun _ _ _ => rfl, rfl, rfl, rfl⟩
theorem Gh.le.trans {A B C : Gh} (h : A.le B) (k : B.le C) : A.le C :=
  ⟨h.toSub.trans k.toSub, fun r x => k.dfr r (h.dfr r x), fun r x => k.lps r (h.lps r x), k.floor.trans h.floor,
   fun r i hr => (k.roFloor r i (h.floor ▸ hr)).trans (h.roFloor r i hr), k.base.trans h.base, k.tbase.trans h.tbase, k.pend.trans h.pend⟩

/-- As 'le', but for what is laid ahead. -/
structure Gh.leP (G G' : Gh) : Prop where
  toSub : Gh.sub G G'
  dfr : ∀ r, G.dfr r → G'.dfr r
  lps : ∀ r, G.lps r → G'.lps r
  floor : G'.floor = G.floor
  roFloor : ∀ r i, r < G.floor → G'.ro r i = G.ro r i
  base : G'.base = G.base
  tbase : G'.tbase = G.tbase

theorem Gh.le.toP {G G' : Gh} (h : G.le G') : G.leP G' := ⟨h.toSub, h.dfr, h.lps, h.floor, h.roFloor, h.base, h.tbase⟩
theorem Gh.leP.toLe {G G' : Gh} (h : G.leP G') (hp : G'.pend = G.pend) : G.le G' := ⟨h.toSub, h.dfr, h.lps, h.floor, h.roFloor, h.base, h.tbase, hp⟩
theorem Gh.leP.trans {A B C : Gh} (h : A.leP B) (k : B.leP C) : A.leP C :=
  ⟨h.toSub.trans k.toSub, fun r x => k.dfr r (h.dfr r x), fun r x => k.lps r (h.lps r x), k.floor.trans h.floor,
   fun r i hr => (k.roFloor r i (h.floor ▸ hr)).trans (h.roFloor r i hr), k.base.trans h.base, k.tbase.trans h.tbase⟩

def tkOk (G : Gh) (n : Nat) (tk : Tk) (r off len cap : Nat) : Prop :=
  match tk with
  | .no => True
  | .tight => cap = len
  | .own t s => off = 0 ∧ G.hist t s = some (r, len, cap, n)

/-- What the room behind a slice of a mutable row is known to be. -/
def capOk (G : Gh) (n b off len : Nat) (cap : Option Nat) (c : Nat) : Prop :=
  match cap with
  | some k => c = k ∧ len ≤ k
  | none => len ≤ c ∧ off + c * n ≤ G.gsz b

inductive Rel (fm : FM) (G : Gh) : DV → Value → Prop
  | undef (x : Value) : Rel fm G .undef x
  | bool (b : Bool) : Rel fm G (.bool b) (.bool b)
  | int (k : IntKind) (n : Int) : Rel fm G (.int k n) (.int k n)
  | str (l : List UInt8) (s : ByteArray) (h : s.data.toList = l) : Rel fm G (.str l) (.string s)
  | ptr (b off r : Nat) (h : G.mu b = some r) : Rel fm G (.ptr b off) (.pointer (some ⟨r, off, none⟩))
  | nilp : Rel fm G .nilp (.pointer none)
  | cptr (cs : List DV) (r off : Nat) (f : Nat → Value) (hr : ∀ i, i < cs.length → ROk fm G r (off + i) (f i))
      (hc : ∀ i (h : i < cs.length), Rel fm G (cs[i]) (f i)) (hp : cs.all DV.pure = true) : Rel fm G (.cptr cs) (.pointer (some ⟨r, off, none⟩))
  | nils (tag n : Nat) (tk : Tk) : Rel fm G (.list tag n tk false []) (.slice none 0 0)
  | list (tag n : Nat) (tk : Tk) (xs : List DV) (r off cap : Nat) (f : Nat → Value) (hr : ∀ i, i < (flat xs).length → G.ro r (off + i) = some (f i))
      (hc : ∀ i (h : i < (flat xs).length), Rel fm G ((flat xs)[i]) (f i)) (hp : (flat xs).all DV.pure = true) (hk : tkOk G n tk r off xs.length cap) (hl : xs.length ≤ cap) (hn : ∀ x ∈ xs, x.leaves.length = n) :
      Rel fm G (.list tag n tk true xs) (.slice (some ⟨r, off, none⟩) xs.length cap)
  | hsl (n : Nat) (ag : Bool) (b off len : Nat) (cap : Option Nat) (r c : Nat) (h : G.mu b = some r) (hc : capOk G n b off len cap c) :
      Rel fm G (.hsl n ag b off len cap) (.slice (some ⟨r, off, none⟩) len c)
  | map (b r : Nat) (h : G.mu b = some r) : Rel fm G (.map b) (.map (some r))
  | nilmap : Rel fm G .nilmap (.map none)
  | fn (g : Nat) (first captured : List DV) (f : FuncId) (fs cs : Array Value) (h : fm g = some f) (h1 : fs.size = first.length) (h2 : cs.size = captured.length)
      (hf : ∀ i (h : i < first.length), Rel fm G (first[i]) (fs.getD i undef)) (hc : ∀ i (h : i < captured.length), Rel fm G (captured[i]) (cs.getD i undef)) :
      Rel fm G (.fn g first captured) (.func (.func f) fs cs)
  | yield (l r : Nat) (h : G.mu l = some r) : Rel fm G (.yield l) (.func (.yield r) #[] #[])
  | nilfn : Rel fm G .nilfn .nilFunc
  | iface (t : Nat) (v : DV) (x : Value) (h : Rel fm G v x) : Rel fm G (.iface t v) (.iface t x)
  | niliface : Rel fm G .niliface .nilIface
  | agg (vs : List DV) (cs : Array Value) (hl : cs.size = vs.length) (hc : ∀ i (h : i < vs.length), Rel fm G (vs[i]) (cs.getD i undef)) : Rel fm G (.agg vs) (.agg cs)
  | tuple (vs : List DV) (cs : Array Value) (hl : cs.size = vs.length) (hc : ∀ i (h : i < vs.length), Rel fm G (vs[i]) (cs.getD i undef)) : Rel fm G (.tuple vs) (.tuple cs)

theorem tkOk.sub {G G' : Gh} (h : G.sub G') {n : Nat} {tk : Tk} {r off len cap : Nat} (k : tkOk G n tk r off len cap) : tkOk G' n tk r off len cap := by
  cases tk with
  | no => trivial
  | tight => exact k
  | own t s => exact ⟨k.1, h.hist _ _ _ k.2⟩

theorem Rel.sub {fm : FM} {G G' : Gh} (h : G.sub G') {v : DV} {x : Value} (k : Rel fm G v x) : Rel fm G' v x := by
  induction k with
  | undef x => exact .undef x
  | bool b => exact .bool b
  | int k n => exact .int k n
  | str l s hh => exact .str l s hh
  | ptr b off r hh => exact .ptr b off r (h.mu _ _ hh)
  | nilp => exact .nilp
  | cptr cs r off f hr _ hp ih => exact .cptr cs r off f (fun i hi => (hr i hi).imp (h.ro _ _ _) id) ih hp
  | nils tag n tk => exact .nils tag n tk
  | list tag n tk xs r off cap f hr _ hp hk hl hn ih => exact .list tag n tk xs r off cap f (fun i hi => h.ro _ _ _ (hr i hi)) ih hp (hk.sub h) hl hn
  | hsl n ag b off len cap r c hh hc =>
    refine .hsl n ag b off len cap r c (h.mu _ _ hh) ?_
    cases cap with
    | some k => exact hc
    | none => simp only [capOk] at *; rw [h.gsz _ _ hh]; exact hc
  | map b r hh => exact .map b r (h.mu _ _ hh)
  | nilmap => exact .nilmap
  | fn g first captured f fs cs hh h1 h2 _ _ ih1 ih2 => exact .fn g first captured f fs cs hh h1 h2 ih1 ih2
  | yield l r hh => exact .yield l r (h.mu _ _ hh)
  | nilfn => exact .nilfn
  | iface t v x _ ih => exact .iface t v x ih
  | niliface => exact .niliface
  | agg vs cs hl _ ih => exact .agg vs cs hl ih
  | tuple vs cs hl _ ih => exact .tuple vs cs hl ih

theorem Rel.le {fm : FM} {G G' : Gh} (h : G.le G') {v : DV} {x : Value} (k : Rel fm G v x) : Rel fm G' v x := k.sub h.toSub

/-- Values row by row. -/
def Rels (fm : FM) (G : Gh) (vs : List DV) (cs : List Value) : Prop :=
  cs.length = vs.length ∧ ∀ i (h : i < vs.length), Rel fm G (vs[i]) (cs.getD i undef)

def FrRel (fm : FM) (G : Gh) (fr : Fr) (tmps : Array Value) : Prop := ∀ t, Rel fm G (fr.get t) (tmps.getD t undef)

/-- No cell of a row is frozen. -/
def thawed (fz : Nat × Nat) (size : Nat) : Prop := ∀ i, i < size → ¬ (fz.1 ≤ i ∧ i < fz.2)

def XRel (fm : FM) : X → Operand → Prop
  | .t n, .tmp m => n = m
  | .c v, .const x => ∀ G, Rel fm G v x
  | .f g, .func f => fm g = some f
  | .c v, .global g => ∀ G, Rel fm G v (.pointer (some ⟨g, 0, none⟩))
  | _, _ => False

theorem XRel.ev {fm : FM} {G : Gh} {fr : Fr} {a : Act} {x : X} {o : Operand} (h : XRel fm x o) (hf : FrRel fm G fr a.tmps) : Rel fm G (x.ev fr) (a.eval o) := by
  cases x with
  | t n =>
    cases o <;> simp [XRel] at h
    subst h; exact hf _
  | c v =>
    cases o <;> simp [XRel] at h
    · exact h G
    · exact h G
  | f g =>
    cases o <;> simp [XRel] at h
    exact .fn g [] [] _ #[] #[] h rfl rfl (fun i hi => absurd hi (by simp)) (fun i hi => absurd hi (by simp))

theorem FrRel.le {fm : FM} {G G' : Gh} (h : G.le G') {fr : Fr} {tmps : Array Value} (k : FrRel fm G fr tmps) : FrRel fm G' fr tmps := fun t => (k t).le h

theorem Fr.get_keep (fr : Fr) : ∀ (live : List Nat) (t : Nat), (fr.keep live).get t = fr.get t ∨ (fr.keep live).get t = .undef := by
  intro live t
  induction live with
  | nil => exact .inr rfl
  | cons u r ih =>
    show (if u = t then fr.get u else Fr.get (Fr.keep fr r) t) = _ ∨ (if u = t then fr.get u else Fr.get (Fr.keep fr r) t) = _
    by_cases e : u = t
    · subst e; simp
    · simp only [if_neg e]; exact ih

theorem Fr.get_keep_if (fr : Fr) (live : List Nat) (t : Nat) : (fr.keep live).get t = if t ∈ live then fr.get t else .undef := by
  induction live with
  | nil => rfl
  | cons u r ih =>
    show (if u = t then fr.get u else Fr.get (Fr.keep fr r) t) = _
    by_cases e : u = t
    · subst e; simp
    · simp only [if_neg e, ih, List.mem_cons, show ¬ t = u from fun x => e x.symm, false_or]

theorem FrRel.keep {fm : FM} {G : Gh} {fr : Fr} {tmps : Array Value} (k : FrRel fm G fr tmps) (live : List Nat) : FrRel fm G (fr.keep live) tmps := by
  intro t
  rcases Fr.get_keep fr live t with h | h <;> rw [h]
  · exact k t
  · exact .undef _

theorem getD_setIfInBounds (a : Array Value) (i t : Nat) (x d : Value) (h : i < a.size) : (a.setIfInBounds i x).getD t d = if i = t then x else a.getD t d := by
  rw [Array.getD_eq_getD_getElem?, Array.getD_eq_getD_getElem?, Array.getElem?_setIfInBounds]
  by_cases e : i = t
  · subst e; simp [h]
  · simp [e]

theorem FrRel.put {fm : FM} {G : Gh} {fr : Fr} {a : Act} {d : Option Nat} {v : DV} {x : Value} (k : FrRel fm G fr a.tmps) (hv : Rel fm G v x)
    (hd : ∀ t, d = some t → t < a.tmps.size) : FrRel fm G (fr.put d v) (a.put d x).tmps := by
  cases d with
  | none => exact k
  | some t0 =>
    intro t
    show Rel fm G (if t0 = t then v else fr.get t) ((a.tmps.setIfInBounds t0 x).getD t undef)
    rw [getD_setIfInBounds _ _ _ _ _ (hd t0 rfl)]
    by_cases e : t0 = t
    · simp only [if_pos e]; exact hv
    · simp only [if_neg e]; exact k t

theorem put_size (a : Act) (d : Option Nat) (x : Value) : (a.put d x).tmps.size = a.tmps.size := by
  cases d with
  | none => rfl
  | some t => simp [Act.put]

theorem put_defers (a : Act) (d : Option Nat) (x : Value) : (a.put d x).defers = a.defers := by
  cases d <;> rfl

inductive JRel : Option Ex → Option Code → Prop
  | none : JRel none none
  | ret : JRel (some .ret) (some .ret)
  | exit (id : Nat) : JRel (some (.exit id)) (some (.exit id))

end Go.D
