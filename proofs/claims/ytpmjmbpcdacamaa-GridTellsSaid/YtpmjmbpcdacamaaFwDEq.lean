/-
Equations of the runs without a count of steps, shape by shape.
-/
import Derived.Test.YtpmjmbpcdacamaaFwDE
namespace Go.D
variable {T : Tab}

@[simp] theorem C_skip (fr : Fr) (st : St) : (E T).C .skip fr st = some (.normal, fr, st) := EC _ _ _ _
@[simp] theorem C_ret (fr : Fr) (st : St) : (E T).C .ret fr st = some (.ret, fr, st) := EC _ _ _ _
@[simp] theorem C_exit (i : Nat) (fr : Fr) (st : St) : (E T).C (.exit i) fr st = some (.exit i, fr, st) := EC _ _ _ _
@[simp] theorem C_region (ops : List ROper) (live : List Nat) (fr : Fr) (st : St) :
    (E T).C (.region ops live) fr st = match (E T).O ops fr st with | some (fr', st') => some (.normal, fr'.keep live, st') | none => none := EC _ _ _ _
@[simp] theorem C_seq (a b : RC) (fr : Fr) (st : St) :
    (E T).C (.seq a b) fr st = match (E T).C a fr st with
      | some (.normal, fr', st') => (E T).C b fr' st'
      | some (.exit i, fr', st') => some (.exit i, fr', st')
      | some (.ret, fr', st') => some (.ret, fr', st')
      | none => none := by
  rw [EC]
  simp only [runCR]
  rcases (E T).C a fr st with _ | ⟨e, fr', st'⟩
  · rfl
  · cases e <;> rfl
@[simp] theorem C_block (id : Nat) (a : RC) (fr : Fr) (st : St) :
    (E T).C (.block id a) fr st = match (E T).C a fr st with
      | some (.normal, fr', st') => some (.normal, fr', st')
      | some (.exit i, fr', st') => if i = id then some (.normal, fr', st') else some (.exit i, fr', st')
      | some (.ret, fr', st') => some (.ret, fr', st')
      | none => none := by
  rw [EC]
  simp only [runCR]
  rcases (E T).C a fr st with _ | ⟨e, fr', st'⟩
  · rfl
  · cases e <;> rfl
theorem C_loop (live : List Nat) (a : RC) (fr : Fr) (st : St) :
    (E T).C (.loop live a) fr st = match (E T).C a (fr.keep live) st with
      | some (.normal, fr', st') => (E T).C (.loop live a) fr' st'
      | some (.exit i, fr', st') => some (.exit i, fr', st')
      | some (.ret, fr', st') => some (.ret, fr', st')
      | none => none := by
  rw [EC]
  simp only [runCR]
  rcases (E T).C a (fr.keep live) st with _ | ⟨e, fr', st'⟩
  · rfl
  · cases e <;> rfl
@[simp] theorem C_cond (x : X) (a b : RC) (fr : Fr) (st : St) (v : Bool) (h : x.ev fr = .bool v) :
    (E T).C (.cond x a b) fr st = if v = true then (E T).C a fr st else (E T).C b fr st := by
  rw [EC]
  simp only [runCR]
  rw [h]
  cases v <;> rfl

@[simp] theorem O_nil (fr : Fr) (st : St) : (E T).O [] fr st = some (fr, st) := EO _ _ _ _
@[simp] theorem O_cons (o : ROper) (r : List ROper) (fr : Fr) (st : St) :
    (E T).O (o :: r) fr st = match (E T).N o fr st with | some (v, st') => (E T).O r (fr.put o.dst v) st' | none => none := EO _ _ _ _

/-- What an operation does, its guard aside. -/
noncomputable def opE (T : Tab) (op : ROp) (fr : Fr) (st : St) : Option (DV × St) :=
  match op with
  | .call g args => (E T).F g (args.map (X.ev fr)) st
  | .callv f args => (E T).V (f.ev fr) (args.map (X.ev fr)) st
  | .callp f args =>
    match f.ev fr with
    | .fn g first captured => if isPure T g then (E T).F g (first ++ args.map (X.ev fr) ++ captured) st else none
    | _ => none
  | op => stepD st fr op

@[simp] theorem N_none (d : Option Nat) (op : ROp) (fr : Fr) (st : St) : (E T).N ⟨d, op, none⟩ fr st = opE T op fr st := by
  rw [EN]
  simp only [runOneR, wantedD]
  cases op <;> rfl

/-- An operation with a guard that tells b. -/
@[simp] theorem N_some (d : Option Nat) (op : ROp) (t : Nat) (w b : Bool) (fr : Fr) (st : St) (h : fr.get t = .bool b) :
    (E T).N ⟨d, op, some (t, w)⟩ fr st = if b = w then opE T op fr st else some (.tuple [], st) := by
  rw [EN]
  simp only [runOneR, wantedD]
  rw [h]
  cases b <;> cases w <;> first | rfl | (cases op <;> rfl)

@[simp] theorem N_skip (d : Option Nat) (op : ROp) (t : Nat) (w : Bool) (fr : Fr) (st : St) (h : fr.get t = .tuple []) :
    (E T).N ⟨d, op, some (t, w)⟩ fr st = some (.tuple [], st) := by
  rw [EN]
  simp only [runOneR, wantedD]
  rw [h]

@[simp] theorem op_call (g : Nat) (args : List X) (fr : Fr) (st : St) : opE T (.call g args) fr st = (E T).F g (args.map (X.ev fr)) st := rfl
@[simp] theorem op_mv (x : X) (fr : Fr) (st : St) : opE T (.mv x) fr st = some (x.ev fr, st) := rfl
@[simp] theorem op_bin (op : BinOp) (x y : X) (fr : Fr) (st : St) : opE T (.bin op x y) fr st = (binD op (x.ev fr) (y.ev fr)).map fun v => (v, st) := rfl
@[simp] theorem op_un (op : UnOp) (x : X) (fr : Fr) (st : St) : opE T (.un op x) fr st = (unD op (x.ev fr)).map fun v => (v, st) := rfl
@[simp] theorem op_pick (c a b : X) (fr : Fr) (st : St) : opE T (.pick c a b) fr st = stepD st fr (.pick c a b) := rfl
@[simp] theorem op_alloc (zs : List DV) (fr : Fr) (st : St) : opE T (.alloc zs) fr st = stepD st fr (.alloc zs) := rfl
@[simp] theorem op_box (n : Nat) (x : X) (fr : Fr) (st : St) : opE T (.box n x) fr st = stepD st fr (.box n x) := rfl
@[simp] theorem op_build (zs : List DV) (parts : List (Nat × Nat × X)) (fr : Fr) (st : St) : opE T (.build zs parts) fr st = stepD st fr (.build zs parts) := rfl
theorem op_lit (n : Nat) (ag : Bool) (zs : List DV) (len : Nat) (parts : List (Nat × X)) (fr : Fr) (st : St) : opE T (.lit n ag zs len parts) fr st = stepD st fr (.lit n ag zs len parts) := rfl
theorem op_hlit (n : Nat) (ag : Bool) (zs : List DV) (len : Nat) (parts : List (Nat × X)) (fr : Fr) (st : St) : opE T (.hlit n ag zs len parts) fr st = stepD st fr (.hlit n ag zs len parts) := rfl
@[simp] theorem op_load (n : Nat) (ag : Bool) (x : X) (fr : Fr) (st : St) : opE T (.load n ag x) fr st = stepD st fr (.load n ag x) := rfl
@[simp] theorem op_store (n : Nat) (x v : X) (fr : Fr) (st : St) : opE T (.store n x v) fr st = stepD st fr (.store n x v) := rfl
@[simp] theorem op_nilchk (x : X) (fr : Fr) (st : St) : opE T (.nilchk x) fr st = stepD st fr (.nilchk x) := rfl
@[simp] theorem op_eq (k : EqK) (neg : Bool) (x y : X) (fr : Fr) (st : St) : opE T (.eq k neg x y) fr st = stepD st fr (.eq k neg x y) := rfl
@[simp] theorem op_i2i (k : IntKind) (x : X) (fr : Fr) (st : St) : opE T (.i2i k x) fr st = stepD st fr (.i2i k x) := rfl
@[simp] theorem op_i2s (x : X) (fr : Fr) (st : St) : opE T (.i2s x) fr st = stepD st fr (.i2s x) := rfl
@[simp] theorem op_s2b (x : X) (fr : Fr) (st : St) : opE T (.s2b x) fr st = stepD st fr (.s2b x) := rfl
@[simp] theorem op_s2h (x : X) (fr : Fr) (st : St) : opE T (.s2h x) fr st = stepD st fr (.s2h x) := rfl
theorem op_b2s (x : X) (fr : Fr) (st : St) : opE T (.b2s x) fr st = stepD st fr (.b2s x) := rfl
@[simp] theorem op_same (x : X) (fr : Fr) (st : St) : opE T (.same x) fr st = stepD st fr (.same x) := rfl
@[simp] theorem op_mkfn (g : Nat) (first captured : List X) (fr : Fr) (st : St) : opE T (.mkfn g first captured) fr st = stepD st fr (.mkfn g first captured) := rfl
@[simp] theorem op_mkmap  (fr : Fr) (st : St) : opE T (.mkmap ) fr st = stepD st fr (.mkmap ) := rfl
@[simp] theorem op_mkslice (n : Nat) (ag : Bool) (bytes : Nat) (zs : List DV) (len cap : X) (fr : Fr) (st : St) : opE T (.mkslice n ag bytes zs len cap) fr st = stepD st fr (.mkslice n ag bytes zs len cap) := rfl
@[simp] theorem op_mklist (n : Nat) (bytes : Nat) (len cap : X) (fr : Fr) (st : St) : opE T (.mklist n bytes len cap) fr st = stepD st fr (.mklist n bytes len cap) := rfl
@[simp] theorem op_slice (str : Bool) (n : Nat) (x : X) (lo hi mx : Option X) (fr : Fr) (st : St) : opE T (.slice str n x lo hi mx) fr st = stepD st fr (.slice str n x lo hi mx) := rfl
/-- The same, told of a value. -/
def faddrV (st : St) (off : Nat) : DV → Option (DV × St)
  | .ptr b o => some (.ptr b (o + off), st)
  | .cptr cs => if off ≤ cs.length then some (.cptr (cs.drop off), st) else none
  | _ => none
def iaddrV (st : St) (n : Nat) : DV → DV → Option (DV × St)
  | .list _ n' _ _ xs, .int _ j => if 0 ≤ j ∧ n' = n then (match xs[j.toNat]? with | some v => some (.cptr v.leaves, st) | none => none) else none
  | .hsl n' _ b off len _, .int _ j => if n' = n ∧ 0 ≤ j ∧ j < len then some (.ptr b (off + j.toNat * n), st) else none
  | _, _ => none
def lenV (st : St) : LenK → DV → Option (DV × St)
  | .str, .str s => some (.int .i64 s.length, st)
  | .slice, .list _ _ _ _ xs => some (.int .i64 xs.length, st)
  | .slice, .hsl _ _ _ _ len _ => some (.int .i64 len, st)
  | .map, .nilmap => some (.int .i64 0, st)
  | .map, .map b => match st.heap[b]? with | some (.map es) => some (.int .i64 es.length, st) | _ => none
  | _, _ => none
def capV (st : St) : DV → Option (DV × St)
  | .list _ _ .tight true xs => some (.int .i64 xs.length, st)
  | .list _ _ _ false _ => some (.int .i64 0, st)
  | .hsl _ _ _ _ _ (some c) => some (.int .i64 c, st)
  | _ => none
@[simp] theorem faddrV_ptr (st : St) (off b o : Nat) : faddrV st off (.ptr b o) = some (.ptr b (o + off), st) := rfl
@[simp] theorem faddrV_cptr (st : St) (off : Nat) (cs : List DV) : faddrV st off (.cptr cs) = if off ≤ cs.length then some (.cptr (cs.drop off), st) else none := rfl
@[simp] theorem iaddrV_list (st : St) (n t n' : Nat) (tk : Tk) (nn : Bool) (xs : List DV) (k : IntKind) (j : Int) :
    iaddrV st n (.list t n' tk nn xs) (.int k j) = if 0 ≤ j ∧ n' = n then (match xs[j.toNat]? with | some v => some (.cptr v.leaves, st) | none => none) else none := rfl
@[simp] theorem iaddrV_hsl (st : St) (n n' : Nat) (ag : Bool) (b off len : Nat) (c : Option Nat) (k : IntKind) (j : Int) :
    iaddrV st n (.hsl n' ag b off len c) (.int k j) = if n' = n ∧ 0 ≤ j ∧ j < len then some (.ptr b (off + j.toNat * n), st) else none := rfl
@[simp] theorem lenV_str (st : St) (s : List UInt8) : lenV st .str (.str s) = some (.int .i64 s.length, st) := rfl
@[simp] theorem lenV_list (st : St) (t n : Nat) (tk : Tk) (nn : Bool) (xs : List DV) : lenV st .slice (.list t n tk nn xs) = some (.int .i64 xs.length, st) := rfl
@[simp] theorem lenV_hsl (st : St) (n : Nat) (ag : Bool) (b off len : Nat) (c : Option Nat) : lenV st .slice (.hsl n ag b off len c) = some (.int .i64 len, st) := rfl
@[simp] theorem lenV_nilmap (st : St) : lenV st .map .nilmap = some (.int .i64 0, st) := rfl
@[simp] theorem lenV_map (st : St) (b : Nat) : lenV st .map (.map b) = match st.heap[b]? with | some (.map es) => some (.int .i64 es.length, st) | _ => none := rfl
@[simp] theorem capV_tight (st : St) (t n : Nat) (xs : List DV) : capV st (.list t n .tight true xs) = some (.int .i64 xs.length, st) := rfl
@[simp] theorem capV_nil (st : St) (t n : Nat) (tk : Tk) (xs : List DV) : capV st (.list t n tk false xs) = some (.int .i64 0, st) := by cases tk <;> rfl
@[simp] theorem capV_hsl (st : St) (n : Nat) (ag : Bool) (b off len c : Nat) : capV st (.hsl n ag b off len (some c)) = some (.int .i64 c, st) := rfl
@[simp] theorem op_faddr (off : Nat) (x : X) (fr : Fr) (st : St) : opE T (.faddr off x) fr st = faddrV st off (x.ev fr) := by
  simp only [opE, stepD]; cases x.ev fr <;> rfl
@[simp] theorem op_field (n : Nat) (ag : Bool) (off : Nat) (x : X) (fr : Fr) (st : St) : opE T (.field n ag off x) fr st = stepD st fr (.field n ag off x) := rfl
@[simp] theorem op_iaddr (n : Nat) (x i : X) (fr : Fr) (st : St) : opE T (.iaddr n x i) fr st = iaddrV st n (x.ev fr) (i.ev fr) := by
  simp only [opE, stepD]; cases x.ev fr <;> cases i.ev fr <;> rfl
@[simp] theorem op_iaddrA (n len : Nat) (x i : X) (fr : Fr) (st : St) : opE T (.iaddrA n len x i) fr st = stepD st fr (.iaddrA n len x i) := rfl
@[simp] theorem op_index (x i : X) (fr : Fr) (st : St) : opE T (.index x i) fr st = stepD st fr (.index x i) := rfl
@[simp] theorem op_indexA (n : Nat) (ag : Bool) (len : Nat) (x i : X) (fr : Fr) (st : St) : opE T (.indexA n ag len x i) fr st = stepD st fr (.indexA n ag len x i) := rfl
@[simp] theorem op_lookup (ks : List LK) (zero : DV) (x i : X) (ok : Bool) (fr : Fr) (st : St) : opE T (.lookup ks zero x i ok) fr st = stepD st fr (.lookup ks zero x i ok) := rfl
@[simp] theorem op_mapset (ks : List LK) (m k v : X) (fr : Fr) (st : St) : opE T (.mapset ks m k v) fr st = stepD st fr (.mapset ks m k v) := rfl
@[simp] theorem op_extract (x : X) (i : Nat) (fr : Fr) (st : St) : opE T (.extract x i) fr st = stepD st fr (.extract x i) := rfl
@[simp] theorem op_iface (t : Nat) (x : X) (fr : Fr) (st : St) : opE T (.iface t x) fr st = stepD st fr (.iface t x) := rfl
@[simp] theorem op_len (k : LenK) (x : X) (fr : Fr) (st : St) : opE T (.len k x) fr st = lenV st k (x.ev fr) := by
  simp only [opE, stepD]; cases k <;> cases x.ev fr <;> rfl
@[simp] theorem op_lenC (n : Nat) (fr : Fr) (st : St) : opE T (.lenC n) fr st = stepD st fr (.lenC n) := rfl
@[simp] theorem op_cap (x : X) (fr : Fr) (st : St) : opE T (.cap x) fr st = capV st (x.ev fr) := by
  simp only [opE, stepD]; cases x.ev fr <;> try rfl
@[simp] theorem op_append (n : Nat) (ag : Bool) (bytes : Nat) (x y : X) (fr : Fr) (st : St) : opE T (.append n ag bytes x y) fr st = stepD st fr (.append n ag bytes x y) := rfl
@[simp] theorem op_copy (n : Nat) (x y : X) (fr : Fr) (st : St) : opE T (.copy n x y) fr st = stepD st fr (.copy n x y) := rfl
@[simp] theorem op_max (args : List X) (fr : Fr) (st : St) : opE T (.max args) fr st = stepD st fr (.max args) := rfl
@[simp] theorem op_min (args : List X) (fr : Fr) (st : St) : opE T (.min args) fr st = stepD st fr (.min args) := rfl
@[simp] theorem op_appendH (n : Nat) (ag : Bool) (bytes : Nat) (x y : X) (fr : Fr) (st : St) : opE T (.appendH n ag bytes x y) fr st = stepD st fr (.appendH n ag bytes x y) := rfl
@[simp] theorem op_clear (n : Nat) (zs : List DV) (x : X) (fr : Fr) (st : St) : opE T (.clear n zs x) fr st = stepD st fr (.clear n zs x) := rfl
@[simp] theorem op_allocT (ty : Nat) (zs : List DV) (fr : Fr) (st : St) : opE T (.allocT ty zs) fr st = stepD st fr (.allocT ty zs) := rfl
@[simp] theorem op_conv (ty n : Nat) (x : X) (fr : Fr) (st : St) : opE T (.conv ty n x) fr st = stepD st fr (.conv ty n x) := rfl
@[simp] theorem op_appendB (ty bytes : Nat) (x y : X) (fr : Fr) (st : St) : opE T (.appendB ty bytes x y) fr st = stepD st fr (.appendB ty bytes x y) := rfl
@[simp] theorem op_sldata (x : X) (fr : Fr) (st : St) : opE T (.sldata x) fr st = stepD st fr (.sldata x) := rfl
@[simp] theorem op_ustr (ty : Nat) (x l : X) (fr : Fr) (st : St) : opE T (.ustr ty x l) fr st = stepD st fr (.ustr ty x l) := rfl
@[simp] theorem op_sliceA (n : Nat) (ag : Bool) (len : Nat) (x : X) (fr : Fr) (st : St) : opE T (.sliceA n ag len x) fr st = stepD st fr (.sliceA n ag len x) := rfl
@[simp] theorem op_got (v : DV) (xs : List (X × DV)) (fr : Fr) (st : St) : opE T (.got v xs) fr st = stepD st fr (.got v xs) := rfl
@[simp] theorem op_fail  (fr : Fr) (st : St) : opE T (.fail ) fr st = stepD st fr (.fail ) := rfl

/-- A function that keeps nothing. -/
theorem F_pure {g : Nat} {f : RFunc} (args : List DV) (st : St) (h : T g = some (.code f)) (hp : f.pureF = true) {e : Ex} {fr : Fr} {st' : St} {v v' : DV}
    (hr : (E T).C f.body (frame0 args 0) st.enter = some (e, fr, st')) (he : e = .ret ∨ e = .normal) (hv : resD st' fr f.results = some v) (hx : exportT st st' v = some v') : (E T).F g args st = some (v', st) := by
  rw [EF]
  simp only [callFR, h, hp, if_true, hr]
  rcases he with rfl | rfl <;> simp only [hv, hx, Option.map_some]

theorem F_code {g : Nat} {f : RFunc} (args : List DV) (st : St) (h : T g = some (.code f)) (hp : f.pureF = false) {e : Ex} {fr : Fr} {st' : St} {v : DV}
    (hr : (E T).C f.body (frame0 args 0) st = some (e, fr, st')) (he : e = .ret ∨ e = .normal) (hv : resD st' fr f.results = some v) : (E T).F g args st = some (v, st') := by
  rw [EF]
  simp only [callFR, h, hp, hr]
  rcases he with rfl | rfl <;> simp [hv]

theorem F_prim {g : Nat} {p : List DV → Option DV} {args : List DV} {st : St} {v : DV} (h : T g = some (.pprim p)) (hv : p args = some v) : (E T).F g args st = some (v, st) := by
  rw [EF]
  simp only [callFR, h, hv, Option.map_some]

attribute [simp] stepD intBinD takeN unD strBinD
@[simp] theorem loadD_ptr (st : St) (n : Nat) (ag : Bool) (b off : Nat) : loadD st n ag (.ptr b off) = match st.cells b with | some (_, vs) => takeN vs off n ag | none => none := rfl
@[simp] theorem loadD_cptr (st : St) (n : Nat) (ag : Bool) (cs : List DV) : loadD st n ag (.cptr cs) = takeN cs 0 n ag := rfl
@[simp] theorem leaves_int (k : IntKind) (n : Int) : (DV.int k n).leaves = [.int k n] := rfl
@[simp] theorem leaves_str (l : List UInt8) : (DV.str l).leaves = [.str l] := rfl
@[simp] theorem leaves_bool (b : Bool) : (DV.bool b).leaves = [.bool b] := rfl
@[simp] theorem leaves_agg (vs : List DV) : (DV.agg vs).leaves = vs := rfl
@[simp] theorem leaves_list (tag n : Nat) (tk : Tk) (nn : Bool) (xs : List DV) : (DV.list tag n tk nn xs).leaves = [.list tag n tk nn xs] := rfl

@[simp] theorem ev_t (fr : Fr) (n : Nat) : X.ev fr (.t n) = fr.get n := rfl
@[simp] theorem ev_c (fr : Fr) (v : DV) : X.ev fr (.c v) = v := rfl
@[simp] theorem ev_f (fr : Fr) (g : Nat) : X.ev fr (.f g) = .fn g [] [] := rfl
@[simp] theorem get_cons (u : Nat) (v : DV) (r : Fr) (t : Nat) : Fr.get ((u, v) :: r) t = if u = t then v else Fr.get r t := rfl
@[simp] theorem put_some (fr : Fr) (t : Nat) (v : DV) : fr.put (some t) v = (t, v) :: fr := rfl
@[simp] theorem put_none (fr : Fr) (v : DV) : fr.put none v = fr := rfl
@[simp] theorem keep_nil (fr : Fr) : fr.keep [] = [] := rfl
@[simp] theorem keep_cons (fr : Fr) (t : Nat) (l : List Nat) : fr.keep (t :: l) = (t, fr.get t) :: fr.keep l := rfl
@[simp] theorem frame0_nil (i : Nat) : frame0 [] i = [] := rfl
@[simp] theorem frame0_cons (v : DV) (r : List DV) (i : Nat) : frame0 (v :: r) i = (i, v) :: frame0 r (i + 1) := rfl
@[simp] theorem bin_int (op : BinOp) (k : IntKind) (a b : Int) (h : op ≠ .shl) (h' : op ≠ .shr) : binD op (.int k a) (.int k b) = intBinD op k a b := by
  cases op <;> simp [binD] at h h' ⊢
@[simp] theorem bin_str (op : BinOp) (a b : List UInt8) : binD op (.str a) (.str b) = strBinD op a b := rfl

end Go.D
