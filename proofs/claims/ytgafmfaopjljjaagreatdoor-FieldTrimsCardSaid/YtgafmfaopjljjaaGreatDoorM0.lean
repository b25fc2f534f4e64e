import GoSem.Core.Code
import GoSem.Core.View
import GoSem.Op.String
import Derived.Below
import Derived.CallsIn
import Derived.RangeFuncLeaves
import Derived.RangeFuncRecord
import Derived.Laws.AppendOwn
import Derived.RangeFuncCalls
import Derived.OrdersIn
import Derived.Laws.StructEq
import Derived.LaidEql
import Derived.Lib.Strings
import Derived.Lib.ConvBytes
import Derived.Laws.Tables
/-! Texts 0 of this claim, joined. -/
set_option linter.unnecessarySimpa false
set_option linter.unusedSimpArgs false
set_option linter.unusedVariables false
open _root_.Array renaming getD_eq_getD_getElem? → aag, getElem?_append_left → abi, getElem?_eq_some_iff → aa6, getElem?_toList → abt, getElem_replicate → abo, length_toList → aba
open _root_.Bool renaming and_eq_true → aac, eq_iff_iff → aaW, false_eq_true → aaq
open _root_.Classical renaming choose_spec → aaR
open _root_.List renaming all_cons → aa3, all_eq_true → aaf, append_assoc → aas, append_nil → aaE, cons_append → aaF, eq_nil_of_length_eq_zero → abc, flatMap_cons → abx, getD_eq_getElem?_getD → aak, getElem?_append_left → aaj, getElem?_append_right → aat, getElem?_cons_zero → aaw, getElem?_eq_getElem → aaa, getElem?_eq_some_iff → aae, getElem?_map → abe, getElem?_set_ne → aaA, getElem_append_left → aa0, getElem_append_right → aaV, getElem_mem → aar, getElem_of_mem → aa9, length_append → aah, length_cons → aax, length_nil → aaP, map_congr_left → abA, map_cons → aaS, map_nil → abp, mem_append → aaL, mem_cons → aav, mem_flatMap → aaH, mem_map → aaT, mem_of_getElem? → aaB, mem_of_mem_drop → aao, mem_of_mem_take → aaz, mem_range → abz, nil_append → aaX, not_mem_nil → aa7, range → aal, take_append_drop → aaQ
open _root_.Nat renaming add_assoc → aby, add_mul → aaN, add_zero → aa5, le_refl → aai, le_trans → abu, lt_irrefl → aa4, lt_of_lt_of_le → abm, zero_add → aay
open _root_.Option renaming getD_some → abr, isSome_iff_exists → aa1, map_eq_some_iff → aad, map_none → abw, map_some → abg, some → aab
open _root_.UInt8 renaming ofNat → aa2
section
namespace Go.D
inductive Tk where
 | no
 | tight
 | own (t s:Nat)
 deriving DecidableEq,Repr,Inhabited
inductive DV where
 | undef
 | bool (b:Bool)
 | int (k:IntKind) (n:Int)
 | str (s:List UInt8)
 | ptr (b off:Nat)
 | b5
 | bW (cs:List DV)
 | list (tag n:Nat) (tk:Tk) (nn:Bool) (xs:List DV)
 | hsl (n:Nat) (ag:Bool) (b off len:Nat) (cap:Option Nat)
 | map (b:Nat)
 | bn
 | fn (f:Nat) (first captured:List DV)
 | yield (l:Nat)
 | bO
 | iface (t:Nat) (v:DV)
 | aL
 | agg (vs:List DV)
 | tuple (vs:List DV)
 deriving Inhabited
mutual
def DV.beq:DV→DV→Bool
 | .undef,.undef | .b5,.b5 | .bn,.bn | .bO,.bO | .aL,.aL=>true
 | .bool a,.bool b=>a==b
 | .int k a,.int k' b=>k==k'&&a==b
 | .str a,.str b=>a==b
 | .ptr a b,.ptr a' b'=>a==a'&&b==b'
 | .bW a,.bW b=>DV.ly a b
 | .list t m k n a,.list t' m' k' n' b=>t==t'&&m==m'&&k==k'&&n==n'&&DV.ly a b
 | .hsl n ag b o l c,.hsl n' ag' b' o' l' c'=>n==n'&&ag==ag'&&b==b'&&o==o'&&l==l'&&c==c'
 | .map a,.map b=>a==b
 | .fn f a c,.fn f' a' c'=>f==f'&&DV.ly a a'&&DV.ly c c'
 | .yield a,.yield b=>a==b
 | .iface t v,.iface t' v'=>t==t'&&DV.beq v v'
 | .agg a,.agg b=>DV.ly a b
 | .tuple a,.tuple b=>DV.ly a b
 | _,_=>false
def DV.ly:List DV→List DV→Bool
 | [],[]=>true
 | a::as_,b::bs=>DV.beq a b&&DV.ly as_ bs
 | _,_=>false
end
mutual
theorem DV.beq_eq:∀ (a b:DV),DV.beq a b=true→a=b:=by
 intro a b h
 cases a<;>cases b<;>simp[DV.beq] at h<;>first
  | rfl
  | (obtain⟨⟨⟨⟨h1,h2⟩,h3⟩,h4⟩,h5⟩:=h;have:=DV.jJ _ _ h5;simp_all;done)
  | (obtain⟨⟨h1,h2⟩,h3⟩:=h;have a1:=DV.jJ _ _ h2;have a2:=DV.jJ _ _ h3;simp_all;done)
  | (obtain⟨h1,h2⟩:=h;have:=DV.beq_eq _ _ h2;simp_all;done)
  | (have:=DV.jJ _ _ h;simp_all;done)
  | (simp_all;done)
theorem DV.jJ:∀ (a b:List DV),DV.ly a b=true→a=b:=by
 intro a b h;cases a<;>cases b<;>simp[DV.ly] at h
 · rfl
 · obtain⟨h1,h2⟩:=h;have a1:=DV.beq_eq _ _ h1;have a2:=DV.jJ _ _ h2;simp_all
end
mutual
theorem DV.ou:∀ (a:DV),DV.beq a a=true:=by
 intro a
 cases a<;>simp[DV.beq]<;>first
  | exact DV.jf _
  | exact DV.ou _
  | exact⟨DV.jf _,DV.jf _⟩
theorem DV.jf:∀ (a:List DV),DV.ly a a=true:=by
 intro a
 cases a with
 | nil=>simp[DV.ly]
 | cons x r=>simp[DV.ly];exact⟨DV.ou x,DV.jf r⟩
end
abbrev gu:DV:=.list 0 0 .no false []
def DV.leaves:DV→List DV
 | .agg vs=>vs
 | v=>[v]
def flat (xs:List DV):List DV:=xs.flatMap DV.leaves
def DV.pure:DV→Bool
 | .bool _ | .int _ _ | .str _ | .b5 | .bn | .bO | .aL=>true
 | .list _ _ tk _ _=>match tk with | .own _ _=>false | _=>true
 | _=>false
def DV.aP:DV→DV
 | .list tag n (.own _ _) nn xs=>.list tag n .no nn xs
 | v=>v
inductive X where
 | t (n:Nat)
 | c (v:DV)
 | f (g:Nat)
 deriving Inhabited
inductive LK where
 | bool | int | str
 deriving DecidableEq,Repr,Inhabited
inductive wU where
 | str | slice | map
 deriving DecidableEq,Repr,Inhabited
inductive EqK where
 | bool | ptr | slice | map | func | iface
 | agg (ks:List LK)
 deriving DecidableEq,Repr,Inhabited
inductive ROp where
 | mv (x:X)
 | pick (c a b:X)
 | alloc (zs:List DV)
 | box (n:Nat) (x:X)
 | build (zs:List DV) (parts:List (Nat×Nat×X))
 | lit (n:Nat) (ag:Bool) (zs:List DV) (len:Nat) (parts:List (Nat×X))
 | nE (n:Nat) (ag:Bool) (zs:List DV) (len:Nat) (parts:List (Nat×X))
 | load (n:Nat) (ag:Bool) (x:X)
 | store (n:Nat) (x v:X)
 | aX (x:X)
 | bin (op:BinOp) (x y:X)
 | eq (k:EqK) (neg:Bool) (x y:X)
 | un (op:UnOp) (x:X)
 | i2i (k:IntKind) (x:X)
 | i2s (x:X)
 | s2b (x:X)
 | s2h (x:X)
 | b2s (x:X)
 | same (x:X)
 | gD (g:Nat) (first captured:List X)
 | jL
 | cE (n:Nat) (ag:Bool) (bytes:Nat) (zs:List DV) (len cap:X)
 | lk (n:Nat) (bytes:Nat) (len cap:X)
 | slice (str:Bool) (n:Nat) (x:X) (lo hi mx:Option X)
 | gU (off:Nat) (x:X)
 | field (n:Nat) (ag:Bool) (off:Nat) (x:X)
 | aY (n:Nat) (x i:X)
 | cA (n len:Nat) (x i:X)
 | index (x i:X)
 | jE (n:Nat) (ag:Bool) (len:Nat) (x i:X)
 | lookup (ks:List LK) (zero:DV) (x i:X) (ok:Bool)
 | iI (ks:List LK) (m k v:X)
 | extract (x:X) (i:Nat)
 | iface (t:Nat) (x:X)
 | call (g:Nat) (args:List X)
 | bz (f:X) (args:List X)
 | dp (f:X) (args:List X)
 | len (k:wU) (x:X)
 | xh (n:Nat)
 | cap (x:X)
 | append (n:Nat) (ag:Bool) (bytes:Nat) (x y:X)
 | copy (n:Nat) (x y:X)
 | max (args:List X)
 | min (args:List X)
 | gl (n:Nat) (ag:Bool) (bytes:Nat) (x y:X)
 | clear (n:Nat) (zs:List DV) (x:X)
 | gX (ty:Nat) (zs:List DV)
 | conv (ty n:Nat) (x:X)
 | dW (ty bytes:Nat) (x y:X)
 | gR (x:X)
 | pN (ty:Nat) (x l:X)
 | gM (n:Nat) (ag:Bool) (len:Nat) (x:X)
 | sliceB (n:Nat) (ag:Bool) (len:Nat) (x:X) (lo hi mx:Option X)
 | got (v:DV) (xs:List (X×DV))
 | fail
 deriving Inhabited
structure ak where
 dst:Option Nat
 op:ROp
 guard:Option (Nat×Bool)
 deriving Inhabited
inductive RC where
 | skip
 | region (ops:List ak) (live:List Nat)
 | av (ops:List ak) (hs:List Nat) (chk:List (Nat×List Nat)) (live:List Nat)
 | seq (a b:RC)
 | cond (x:X) (a b:RC)
 | block (id:Nat) (a:RC)
 | loop (live:List Nat) (a:RC)
 | exit (id:Nat)
 | ret
 | gK (f:X) (params:List Nat) (assign body:RC) (live:List Nat)
 | stuck
 deriving Inhabited
inductive Ex where
 | normal
 | exit (id:Nat)
 | ret
 deriving DecidableEq,Repr,Inhabited
abbrev Fr:=List (Nat×DV)
def Fr.get:Fr→Nat→DV
 | [],_=>.undef
 | (u,v)::r,t=>if u=t then v else Fr.get r t
def Fr.set (fr:Fr) (t:Nat) (v:DV):Fr:=(t,v)::fr
def Fr.put (fr:Fr) (d:Option Nat) (v:DV):Fr:=match d with | some t=>(t,v)::fr | none=>fr
def Fr.bG (fr:Fr) (live:List Nat):Fr:=live.map fun t=>(t,fr.get t)
structure lB where
 fr:Fr
 params:List Nat
 assign:RC
 body:RC
 state:Nat
 pending:Option Ex
 deriving Inhabited
inductive CK where
 | plain
 | typed (ty:Nat)
 | grown
 | frz (ty:Nat)
 deriving DecidableEq,Inhabited
def CK.wr:CK→Bool
 | .frz _=>false
 | _=>true
inductive HO where
 | cells (k:CK) (vs:List DV)
 | map (es:List (DV×DV))
 | loop (l:lB)
 | gone
 deriving Inhabited
structure St where
 heap:List HO
 bc:List Nat
 cur:Nat
 base:Nat
 aQ:Nat
 deriving Inhabited
inductive fa where
 | t (n:Nat)
 | cell (a:Nat) (n:Nat) (ag:Bool)
 deriving Inhabited
structure aj where
 results:List fa
 body:RC
 dh:Bool
 deriving Inhabited
inductive Def where
 | code (f:aj)
 | g9 (p:List DV→St→Option (DV×St))
 | dy (p:List DV→Option DV)
def X.ev (fr:Fr):X→DV
 | .t n=>fr.get n
 | .c v=>v
 | .f g=>.fn g [] []
def St.cells (st:St) (b:Nat):Option (CK×List DV):=
 match st.heap[b]? with
 | some (.cells g vs)=>some (g,vs)
 | _=>none
def takeN (vs:List DV) (off n:Nat) (ag:Bool):Option DV:=
 if ag then (if off+n≤vs.length then some (.agg ((vs.drop off).take n)) else none)
 else vs[off]?
def cP (vs:List DV) (off:Nat) (news:List DV):List DV:=
 vs.take off++news++vs.drop (off+news.length)
def DV.bp:DV→Bool
 | .agg _ | .tuple _ | .undef=>false
 | _=>true
def c7 (st:St) (n:Nat) (ag:Bool):DV→Option DV
 | .ptr b off=>match st.cells b with | some (_,vs)=>takeN vs off n ag | none=>none
 | .bW cs=>takeN cs 0 n ag
 | _=>none
def St.ll (st:St) (b:Nat):Option (CK×List DV):=
 match st.cells b with
 | some (g,vs)=>if g.wr=true then some (g,vs) else none
 | none=>none
theorem iO {st:St} {b:Nat} {g:CK} {vs:List DV} (h:st.cells b=some (g,vs)):st.heap[b]? = some (.cells g vs):=by
 unfold St.cells at h;split at h
 · rename_i g' vs' e;simp only[aab.injEq,Prod.mk.injEq] at h;obtain⟨rfl,rfl⟩:=h;exact e
 · cases h
theorem xq {st:St} {b:Nat} {g:CK} {vs:List DV} (h:st.ll b=some (g,vs)):st.cells b=some (g,vs)∧g.wr=true:=by
 unfold St.ll at h;split at h
 · rename_i g' vs' e;split at h
   · rename_i hw;simp only[aab.injEq,Prod.mk.injEq] at h;obtain⟨rfl,rfl⟩:=h;exact⟨e,hw⟩
   · cases h
 · cases h
def kU (st:St) (n:Nat) (p v:DV):Option St:=
 match p with
 | .ptr b off=>
   match st.ll b with
   | some (g,vs)=>
     if st.base≤b∧v.leaves.length=n∧off+n≤vs.length∧v.leaves.all DV.bp then
      some { st with heap:=st.heap.set b (.cells g (cP vs off v.leaves)) }
     else none
   | none=>none
 | _=>none
def St.push (st:St) (o:HO):St:={ st with heap:=st.heap++[o] }
def iL (cells:List DV):List (Nat×Nat×DV)→Option (List DV)
 | []=>some cells
 | (off,n,v)::r=>
   if v.leaves.length=n∧off+n≤cells.length∧v.leaves.all DV.bp then iL (cP cells off v.leaves) r else none
def chunk (n:Nat) (ag:Bool):Nat→List DV→List DV
 | 0,_=>[]
 | k+1,vs=>(if ag then .agg (vs.take n) else vs.headD .undef)::chunk n ag k (vs.drop n)
def aK (zs:List DV):Nat→List DV
 | 0=>[]
 | k+1=>zs++aK zs k
def bnd (x:DV) (y:Nat):Option Nat:=
 match x with
 | .int _ n=>if 0≤n∧n≤y then some n.toNat else none
 | _=>none
def gQ:LK→DV→DV→Option Bool
 | .bool,.bool a,.bool b=>some (a==b)
 | .int,.int k a,.int k' b=>if k=k' then some (a==b) else none
 | .str,.str a,.str b=>some (a==b)
 | _,_,_=>none
def bk:List LK→List DV→List DV→Option Bool
 | [],[],[]=>some true
 | k::ks,a::as_,b::bs=>match gQ k a b,bk ks as_ bs with | some x,some y=>some (x&&y) | _,_=>none
 | _,_,_=>none
def eqD:EqK→DV→DV→Option Bool
 | .bool,.bool a,.bool b=>some (a==b)
 | .ptr,.b5,.b5=>some true
 | .ptr,.ptr b o,.ptr b' o'=>if b=b'∧o=o' then some true else none
 | .ptr,.b5,.ptr _ _ | .ptr,.ptr _ _,.b5 | .ptr,.b5,.bW _ | .ptr,.bW _,.b5=>some false
 | .slice,.list _ _ _ nn _,.list _ _ _ false _=>some (!nn)
 | .slice,.list _ _ _ false _,.list _ _ _ true _=>some false
 | .slice,.hsl ..,.list _ _ _ false _ | .slice,.list _ _ _ false _,.hsl .. => some false
 | .map,.bn,.bn=>some true
 | .map,.bn,.map _ | .map,.map _,.bn=>some false
 | .func,.bO,.bO=>some true
 | .func,.bO,.fn .. | .func,.fn ..,.bO=>some false
 | .iface,.aL,.iface _ _ | .iface,.iface _ _,.aL=>some false
 | .agg ks,.agg xs,.agg ys=>bk ks xs ys
 | _,_,_=>none
def yP (op:BinOp) (k:IntKind) (x y:Int):Option Int:=
 let a:=BitVec.ofInt k.bits x
 let b:=BitVec.ofInt k.bits y
 match op with
 | .and=>some (k.wrap (a &&& b).toNat)
 | .or=>some (k.wrap (a ||| b).toNat)
 | .xor=>some (k.wrap (a ^^^ b).toNat)
 | .andNot=>some (k.wrap (a &&& ~~~b).toNat)
 | _=>none
def jw (op:BinOp) (k:IntKind) (a b:Int):Option DV:=
 match op with
 | .add=>some (.int k (k.wrap (a+b)))
 | .sub=>some (.int k (k.wrap (a-b)))
 | .mul=>some (.int k (k.wrap (a*b)))
 | .quo=>if b=0 then none else some (.int k (k.wrap (a.tdiv b)))
 | .rem=>if b=0 then none else some (.int k (a.tmod b))
 | .and | .or | .xor | .andNot=>(yP op k a b).map (.int k)
 | .eql=>some (.bool (a==b))
 | .neq=>some (.bool (a != b))
 | .lss=>some (.bool (a<b))
 | .leq=>some (.bool (a≤b))
 | .gtr=>some (.bool (a>b))
 | .geq=>some (.bool (a≥b))
 | .shl | .shr=>none
def wJ (op:BinOp) (k:IntKind) (x y:Int):Option DV:=
 if y<0 then none else
  let n:=min y.toNat k.bits
  match op with
  | .shl=>some (.int k (k.wrap (x*2 ^ n)))
  | .shr=>some (.int k (x.fdiv (2 ^ n)))
  | _=>none
def l6 (op:BinOp) (x y:List UInt8):Option DV:=
 match op with
 | .add=>if x.length+y.length≤4611686018427387904 then some (.str (x++y)) else none
 | .eql=>some (.bool (x==y))
 | .neq=>some (.bool (!(x==y)))
 | .lss=>some (.bool (Op.bytesLess x y))
 | .leq=>some (.bool (Op.bytesLess x y||x==y))
 | .gtr=>some (.bool (!(Op.bytesLess x y||x==y)))
 | .geq=>some (.bool (!(Op.bytesLess x y)))
 | _=>none
def nK (op:BinOp) (x y:DV):Option DV:=
 match x,y with
 | .int k a,.int k' b=>
   match op with
   | .shl | .shr=>wJ op k a b
   | _=>if k=k' then jw op k a b else none
 | .str a,.str b=>l6 op a b
 | _,_=>none
def unD (op:UnOp) (x:DV):Option DV:=
 match op,x with
 | .neg,.int k n=>some (.int k (k.wrap (0-n)))
 | .xor,.int k n=>(yP .xor k (if k.signed then -1 else k.max) n).map (.int k)
 | .not,.bool b=>some (.bool !b)
 | _,_=>none
def cd (st:St) (n:Nat):DV→Option (Nat×List DV)
 | .list _ n' _ nn xs=>if nn=false then some (0,[]) else if n'=n then some (xs.length,flat xs) else none
 | .str s=>if n=1 then some (s.length,s.map fun b=>.int .u8 b.toNat) else none
 | .hsl n' _ b off len _=>
   if n'=n then match st.cells b with
    | some (_,vs)=>if off+len*n≤vs.length then some (len,(vs.drop off).take (len*n)) else none
    | none=>none
   else none
 | _=>none
def aD:Nat:=140737488355328
def bL (st:St) (n:Nat) (ag:Bool) (bytes:Nat) (x y:DV):Option (DV×St):=
 match cd st n y with
 | none=>none
 | some (m,news)=>
   match x with
   | .list tag n' tk nn xs=>
     if m=0 then some (.list tag n' tk nn xs,st)
     else if n=0∨(nn=true∧n'≠n)∨(xs.length+m)*bytes>aD∨xs.length+m>aD ∨ !(news.map DV.aP).all DV.pure then none
     else
      let ys:=xs++chunk n ag m (news.map DV.aP)
      match nn,tk with
      | false,_ | true,.tight=>some (.list st.cur n (.own st.bc.length 0) true ys,{ st with bc:=st.bc++[0] })
      | true,.own t s=>
        if st.aQ≤t∧st.bc[t]? = some s then some (.list st.cur n (.own t (s+1)) true ys,{ st with bc:=st.bc.set t (s+1) })
        else none
      | true,.no=>none
   | .hsl n' ag' b off len cap=>
     if m=0 then some (x,st)
     else if n'=n∧0<n∧(len+m)*bytes≤aD∧len+m≤aD then
      match cap with
      | none=>
        if off=0∧st.base≤b then
         match st.cells b with
         | some (.grown,vs)=>
           if len*n=vs.length then
            some (.hsl n ag' st.heap.length 0 (len+m) none,{ st with heap:=st.heap.set b .gone++[.cells .grown (vs++news)] })
           else none
         | _=>none
        else none
      | some k=>
        match st.cells b with
        | some (g,vs)=>
          if len+m≤k then
           if st.base≤b∧off+len*n+news.length≤vs.length∧g.wr=true then some (.hsl n ag' b off (len+m) (some k),{ st with heap:=st.heap.set b (.cells g (cP vs (off+len*n) news)) }) else none
          else if off+len*n≤vs.length then
           some (.hsl n ag' st.heap.length 0 (len+m) none,{ st with heap:=st.heap++[.cells .grown ((vs.drop off).take (len*n)++news)] })
          else none
        | none=>none
     else none
   | _=>none
def vi (st:St) (n:Nat) (ag:Bool) (bytes:Nat) (x y:DV):Option (DV×St):=
 match x with
 | .list _ _ _ false []=>
   match cd st n y with
   | some (m,news)=>
     if m=0 then some (x,st) else
     if 0<n∧m*bytes≤aD∧m≤aD then some (.hsl n ag st.heap.length 0 m none,{ st with heap:=st.heap++[.cells .grown news] }) else none
   | none=>none
 | .list _ n' .tight true []=>
   match cd st n y with
   | some (m,news)=>
     if m=0 then some (x,st) else
     if (0<n∧n'=n)∧m*bytes≤aD∧m≤aD then some (.hsl n ag st.heap.length 0 m none,{ st with heap:=st.heap++[.cells .grown news] }) else none
   | none=>none
 | .hsl .. => bL st n ag bytes x y
 | _=>none
def CO (st:St) (n:Nat) (zs:List DV) (x:DV):Option (DV×St):=
 match x with
 | .list _ _ _ false []=>some (.tuple [],st)
 | .hsl n' _ b off len _=>
   if len=0 then some (.tuple [],st)
   else if n'=n∧st.base≤b then
    match st.ll b with
    | some (g,vs)=>if off+(aK zs len).length≤vs.length then some (.tuple [],{ st with heap:=st.heap.set b (.cells g (cP vs off (aK zs len))) }) else none
    | none=>none
   else none
 | _=>none
def uh (st:St) (ty n:Nat) (x:DV):Option DV:=
 match x with
 | .ptr b 0=>
   match st.heap[b]? with
   | some (.cells (.typed t) vs)=>if t=ty∧vs.length=n then some (.ptr b 0) else none
   | _=>none
 | _=>none
def dR (st:St) (ty bytes:Nat) (x y:DV):Option (DV×St):=
 match cd st 1 y with
 | none=>none
 | some (m,news)=>
   match x with
   | .list tag n' tk false []=>
     if m=0 then some (.list tag n' tk false [],st)
     else if m*bytes≤aD∧m≤aD then some (.hsl 1 false st.heap.length 0 m none,{ st with heap:=st.heap++[.cells (.frz ty) news] }) else none
   | .hsl n' ag b off len none=>
     if m=0 then some (.hsl n' ag b off len none,st)
     else if n'=1∧off=0∧st.base≤b∧(len+m)*bytes≤aD∧len+m≤aD then
      match st.cells b with
      | some (.frz t,vs)=>if t=ty∧len=vs.length then some (.hsl 1 ag st.heap.length 0 (len+m) none,{ st with heap:=st.heap.set b .gone++[.cells (.frz ty) (vs++news)] }) else none
      | _=>none
     else none
   | _=>none
def lu (x:DV):Option DV:=
 match x with
 | .list _ _ _ false []=>some .b5
 | .hsl _ _ b off len _=>if 0<len then some (.ptr b off) else none
 | _=>none
def jb:List DV→Option (List UInt8)
 | []=>some []
 | .int .u8 n::r=>(jb r).map fun l=>aa2 n.toNat::l
 | _=>none
def eQ:List DV→Option (List UInt8)
 | []=>some []
 | .int .u8 n::r=>if 0≤n∧n≤255 then (eQ r).map fun l=>aa2 n.toNat::l else none
 | _=>none
def wu (st:St) (ty:Nat) (x l:DV):Option DV:=
 match x,l with
 | .b5,.int .i64 n=>if n=0 then some (.str []) else none
 | .ptr b off,.int .i64 n=>
   if n=0 then some (.str [])
   else match st.cells b with
   | some (.frz t,vs)=>if t=ty∧off=0∧st.base≤b∧0≤n∧n≤vs.length∧n≤aD then (eQ (vs.take n.toNat)).map .str else none
   | _=>none
 | _,_=>none
def IZ (st:St) (n:Nat) (x y:DV):Option (DV×St):=
 match cd st n y,x with
 | some (m,news),.hsl n' _ b off len _=>
   if n'=n∧st.base≤b then
    let k:=min m len
    if k=0 then some (.int .i64 0,st) else
    match st.ll b with
    | some (g,vs)=>
      if off+k*n≤vs.length then
       some (.int .i64 k,{ st with heap:=st.heap.set b (.cells g (cP vs off (news.take (k*n)))) })
      else none
    | none=>none
   else none
 | _,_=>none
def bS (str:Bool) (n:Nat) (x:DV) (lo hi mx:Option DV):Option DV:=
 match str,x with
 | true,.str s=>
   match mx with
   | some _=>none
   | none=>
     match (match hi with | some v=>bnd v s.length | none=>some s.length) with
     | none=>none
     | some h=>
       match (match lo with | some v=>bnd v h | none=>some 0) with
       | none=>none
       | some l=>some (.str ((s.drop l).take (h-l)))
 | false,.list tag en tk nn xs=>
   if nn=true∧en≠n then none else
   match (match mx with | some v=>bnd v xs.length | none=>some xs.length) with
   | none=>none
   | some m=>
     match (match hi with | some v=>bnd v m | none=>if mx.isSome then none else some xs.length) with
     | none=>none
     | some h=>
       match (match lo with | some v=>bnd v h | none=>some 0) with
       | none=>none
       | some l=>
         let tk':Tk:=if mx.isSome then (if m=h then .tight else .no)
          else if h=xs.length then (if l=0 then tk else if tk=.tight then .tight else .no) else .no
         some (.list tag en tk' nn ((xs.drop l).take (h-l)))
 | false,.hsl n' ag b off len cap=>
   if n'=n then
    match cap with
    | some c=>
      match (match mx with | some v=>bnd v c | none=>some c) with
      | none=>none
      | some m=>
        match (match hi with | some v=>bnd v (if mx.isSome then m else c) | none=>if mx.isSome then none else some len) with
        | none=>none
        | some h=>
          match (match lo with | some v=>bnd v h | none=>some 0) with
          | none=>none
          | some l=>some (.hsl n ag b (if m=l then off else off+l*n) (h-l) (some (m-l)))
    | none=>
      match mx with
      | some v=>
        match bnd v len with
        | none=>none
        | some m=>
          match (match hi with | some u=>bnd u m | none=>none) with
          | none=>none
          | some h=>
            match (match lo with | some u=>bnd u h | none=>some 0) with
            | none=>none
            | some l=>some (.hsl n ag b (if m=l then off else off+l*n) (h-l) (some (m-l)))
      | none=>
        match (match hi with | some v=>bnd v len | none=>some len) with
        | none=>none
        | some h=>
          match (match lo with | some v=>bnd v h | none=>some 0) with
          | none=>none
          | some l=>if l=0∨l<len then some (.hsl n ag b (off+l*n) (h-l) none) else none
   else none
 | _,_=>none
def zt (ks:List LK) (a b:DV):Option Bool:=
 match ks with
 | [k]=>gQ k a b
 | _=>match a,b with | .agg xs,.agg ys=>bk ks xs ys | _,_=>none
def findD (ks:List LK) (k:DV):List (DV×DV)→Nat→Option (Option (Nat×DV))
 | [],_=>some none
 | (a,v)::r,i=>match zt ks k a with | some true=>some (some (i,v)) | some false=>findD ks k r (i+1) | none=>none
def ti (st:St) (ks:List LK) (zero:DV) (m k:DV) (ok:Bool):Option DV:=
 match (match m with
  | .bn=>some []
  | .map b=>match st.heap[b]? with | some (.map es)=>some es | _=>none
  | _=>none) with
 | none=>none
 | some es=>
   match findD ks k es 0 with
   | none=>none
   | some r=>
     let (v,there):=match r with | some (_,v)=>(v,true) | none=>(zero,false)
     some (if ok then .tuple [v,.bool there] else v)
def zx (st:St) (ks:List LK) (m k v:DV):Option St:=
 match m with
 | .map b=>
   match st.heap[b]? with
   | some (.map es)=>
     if st.base≤b then
      match findD ks k es 0 with
      | none=>none
      | some (some (i,_))=>some { st with heap:=st.heap.set b (.map (es.modify i fun _=>(k,v))) }
      | some none=>some { st with heap:=st.heap.set b (.map (es++[(k,v)])) }
     else none
   | _=>none
 | _=>none
def tG (ks:List LK) (k:DV):Bool:=
 match ks with
 | [_]=>true
 | _=>match k with | .agg xs=>xs.length==ks.length | _=>false
def pn:DV→DV→Option DV
 | .int k x,.int k' y=>if k=k' then some (.int k (if y>x then y else x)) else none
 | _,_=>none
def j4:DV→DV→Option DV
 | .int k x,.int k' y=>if k=k' then some (.int k (if y<x then y else x)) else none
 | _,_=>none
def fg (f:DV→DV→Option DV):List DV→Option DV
 | []=>none
 | x::r=>r.foldlM f x
def an (st:St) (fr:Fr):ROp→Option (DV×St)
 | .mv x=>some (x.ev fr,st)
 | .pick c a b=>match c.ev fr with | .bool t=>some ((if t then a.ev fr else b.ev fr),st) | _=>none
 | .alloc zs=>some (.ptr st.heap.length 0,st.push (.cells .plain zs))
 | .box n x=>if (x.ev fr).leaves.length=n∧(x.ev fr).leaves.all DV.bp then some (.ptr st.heap.length 0,st.push (.cells .plain (x.ev fr).leaves)) else none
 | .build zs parts=>(iL zs (parts.map fun (o,n,x)=>(o,n,x.ev fr))).map fun cs=>(.agg cs,st)
 | .lit n ag zs len parts=>
   match iL (aK zs len) (parts.map fun (i,x)=>(i*n,n,(x.ev fr))) with
   | some cs=>if (cs.map DV.aP).all DV.pure then some (.list st.cur n .tight true (chunk n ag len (cs.map DV.aP)),st) else none
   | none=>none
 | .nE n ag zs len parts=>
   match iL (aK zs len) (parts.map fun (i,x)=>(i*n,n,(x.ev fr))) with
   | some cs=>some (.hsl n ag st.heap.length 0 len (some len),st.push (.cells .plain cs))
   | none=>none
 | .load n ag x=>(c7 st n ag (x.ev fr)).map fun v=>(v,st)
 | .store n x v=>(kU st n (x.ev fr) (v.ev fr)).map fun s=>(.undef,s)
 | .aX x=>match x.ev fr with | .b5 | .aL | .bO | .undef | .iface .. | .fn .. | .yield _=>none | v=>some (v,st)
 | .bin op x y=>(nK op (x.ev fr) (y.ev fr)).map fun v=>(v,st)
 | .eq k neg x y=>(eqD k (x.ev fr) (y.ev fr)).map fun b=>(.bool (neg != b),st)
 | .un op x=>(unD op (x.ev fr)).map fun v=>(v,st)
 | .i2i k x=>match x.ev fr with | .int _ n=>some (.int k (k.wrap n),st) | _=>none
 | .i2s x=>match x.ev fr with | .int _ n=>if 0≤n∧n<128 then some (.str [aa2 n.toNat],st) else none | _=>none
 | .s2b x=>match x.ev fr with | .str s=>some (.list st.cur 1 .no true (s.map fun b=>.int .u8 b.toNat),st) | _=>none
 | .s2h x=>match x.ev fr with | .str s=>some (.hsl 1 false st.heap.length 0 s.length none,st.push (.cells .grown (s.map fun b=>.int .u8 b.toNat))) | _=>none
 | .b2s x=>match (match x.ev fr with | .str _=>none | v=>cd st 1 v) with | some (_,vs)=>(jb vs).map fun l=>(.str l,st) | none=>none
 | .same x=>match x.ev fr with | .str s=>some (.str s,st) | _=>none
 | .gD g first captured=>some (.fn g (first.map (X.ev fr)) (captured.map (X.ev fr)),st)
 | .jL=>some (.map st.heap.length,st.push (.map []))
 | .cE n ag bytes zs len cap=>
   match len.ev fr,cap.ev fr with
   | .int .i64 l,.int .i64 c=>if 0≤l∧l≤c∧c*bytes≤aD∧c≤aD then
    some (.hsl n ag st.heap.length 0 l.toNat (some c.toNat),st.push (.cells .plain (aK zs c.toNat))) else none
   | _,_=>none
 | .lk n bytes len cap=>
   match len.ev fr,cap.ev fr with
   | .int .i64 l,.int .i64 c=>if l=0∧0≤c∧c*bytes≤aD∧c≤aD∧0<n then
    some (.list st.cur n (.own st.bc.length 0) true [],{ st with bc:=st.bc++[0] }) else none
   | _,_=>none
 | .slice str n x lo hi mx=>(bS str n (x.ev fr) (lo.map (X.ev fr)) (hi.map (X.ev fr)) (mx.map (X.ev fr))).map fun v=>(v,st)
 | .gU off x=>
   match x.ev fr with
   | .ptr b o=>some (.ptr b (o+off),st)
   | .bW cs=>if off≤cs.length then some (.bW (cs.drop off),st) else none
   | _=>none
 | .field n ag off x=>match x.ev fr with | .agg vs=>(takeN vs off n ag).map fun v=>(v,st) | _=>none
 | .aY n x i=>
   match x.ev fr,i.ev fr with
   | .list _ n' _ _ xs,.int _ j=>if 0≤j∧n'=n then (match xs[j.toNat]? with | some v=>some (.bW v.leaves,st) | none=>none) else none
   | .hsl n' _ b off len _,.int _ j=>if n'=n∧0≤j∧j<len then some (.ptr b (off+j.toNat*n),st) else none
   | _,_=>none
 | .cA n len x i=>
   match x.ev fr,i.ev fr with
   | .ptr b off,.int _ j=>if 0≤j∧j<len then some (.ptr b (off+j.toNat*n),st) else none
   | .bW cs,.int _ j=>if 0≤j∧j<len∧j.toNat*n≤cs.length then some (.bW (cs.drop (j.toNat*n)),st) else none
   | _,_=>none
 | .index x i=>
   match x.ev fr,i.ev fr with
   | .str s,.int _ j=>if 0≤j then (s[j.toNat]?).map fun b=>(.int .u8 b.toNat,st) else none
   | _,_=>none
 | .jE n ag len x i=>
   match x.ev fr,i.ev fr with
   | .agg vs,.int _ j=>if 0≤j∧j<len then (takeN vs (j.toNat*n) n ag).map fun v=>(v,st) else none
   | _,_=>none
 | .lookup ks zero x i ok=>if tG ks (i.ev fr) then (ti st ks zero (x.ev fr) (i.ev fr) ok).map fun v=>(v,st) else none
 | .iI ks m k v=>if tG ks (k.ev fr) then (zx st ks (m.ev fr) (k.ev fr) (v.ev fr)).map fun s=>(.undef,s) else none
 | .extract x i=>match x.ev fr with | .tuple vs=>(vs[i]?).map fun v=>(v,st) | _=>none
 | .iface t x=>some (.iface t (x.ev fr),st)
 | .len k x=>
   match k,x.ev fr with
   | .str,.str s=>some (.int .i64 s.length,st)
   | .slice,.list _ _ _ _ xs=>some (.int .i64 xs.length,st)
   | .slice,.hsl _ _ _ _ len _=>some (.int .i64 len,st)
   | .map,.bn=>some (.int .i64 0,st)
   | .map,.map b=>match st.heap[b]? with | some (.map es)=>some (.int .i64 es.length,st) | _=>none
   | _,_=>none
 | .xh n=>some (.int .i64 n,st)
 | .cap x=>
   match x.ev fr with
   | .list _ _ .tight true xs=>some (.int .i64 xs.length,st)
   | .list _ _ _ false _=>some (.int .i64 0,st)
   | .hsl _ _ _ _ _ (some c)=>some (.int .i64 c,st)
   | _=>none
 | .append n ag bytes x y=>bL st n ag bytes (x.ev fr) (y.ev fr)
 | .gl n ag bytes x y=>vi st n ag bytes (x.ev fr) (y.ev fr)
 | .clear n zs x=>CO st n zs (x.ev fr)
 | .gX ty zs=>some (.ptr st.heap.length 0,st.push (.cells (.typed ty) zs))
 | .conv ty n x=>(uh st ty n (x.ev fr)).map fun v=>(v,st)
 | .dW ty bytes x y=>dR st ty bytes (x.ev fr) (y.ev fr)
 | .gR x=>(lu (x.ev fr)).map fun v=>(v,st)
 | .gM n ag len x=>match x.ev fr with | .ptr b off=>some (.hsl n ag b off len (some len),st) | _=>none
 | .sliceB n ag len x lo hi mx=>match x.ev fr with | .ptr b off=>(bS false n (.hsl n ag b off len (some len)) (lo.map (X.ev fr)) (hi.map (X.ev fr)) (mx.map (X.ev fr))).map fun v=>(v,st) | _=>none
 | .pN ty x l=>(wu st ty (x.ev fr) (l.ev fr)).map fun v=>(v,st)
 | .copy n x y=>IZ st n (x.ev fr) (y.ev fr)
 | .max args=>(fg pn (args.map (X.ev fr))).map fun v=>(v,st)
 | .min args=>(fg j4 (args.map (X.ev fr))).map fun v=>(v,st)
 | .got v xs=>if xs.all (fun p=>DV.beq (p.1.ev fr) p.2) then some (v,st) else none
 | .call .. | .bz .. | .dp .. | .fail=>none
def St.nt (st:St) (b:Nat):Bool:=
 match st.heap[b]? with
 | some .gone | none=>false
 | _=>true
def aV (st0 st:St) (v:DV):Option DV:=
 match v with
 | .list tag n tk nn xs=>some (.list tag n (match tk with | .own _ _=>.no | k=>k) nn xs)
 | .hsl n ag b off len cap=>
   if st0.nt b then some v else
   match st.heap[b]? with
   | some (.cells _ vs)=>
     if st0.heap.length≤b∧off+len*n≤vs.length∧0<n∧(ag=true∨n=1)∧(((vs.drop off).take (len*n)).map DV.aP).all DV.pure then
      some (.list st.cur n (if cap=some len then .tight else .no) true (chunk n ag len (((vs.drop off).take (len*n)).map DV.aP)))
     else none
   | _=>none
 | .ptr b _ | .map b=>if st0.nt b then some v else none
 | .fn _ first captured=>if first.isEmpty&&captured.isEmpty then some v else none
 | .bool _ | .int _ _ | .str _ | .b5 | .bn | .bO | .aL | .bW _=>some v
 | _=>none
def cJ (st0 st:St):List DV→Option (List DV)
 | []=>some []
 | v::r=>match aV st0 st v,cJ st0 st r with | some a,some b=>some (a::b) | _,_=>none
def bP (st0 st:St):DV→Option DV
 | .agg vs=>(cJ st0 st vs).map .agg
 | v=>aV st0 st v
def c5 (st0 st:St):List DV→Option (List DV)
 | []=>some []
 | v::r=>match bP st0 st v,c5 st0 st r with | some a,some b=>some (a::b) | _,_=>none
def bB (st0 st:St):DV→Option DV
 | .tuple vs=>(c5 st0 st vs).map .tuple
 | v=>bP st0 st v
def iH (st:St) (fr:Fr):fa→Option DV
 | .t n=>some (fr.get n)
 | .cell a n ag=>c7 st n ag (fr.get a)
def eW (st:St) (fr:Fr):List fa→Option (List DV)
 | []=>some []
 | r::rs=>match iH st fr r,eW st fr rs with | some a,some b=>some (a::b) | _,_=>none
def eO (st:St) (fr:Fr) (rs:List fa):Option DV:=
 match eW st fr rs with
 | some [v]=>some v
 | some vs=>some (.tuple vs)
 | none=>none
def bq:List DV→Nat→Fr
 | [],_=>[]
 | v::r,i=>(i,v)::bq r (i+1)
def St.enter (st:St):St:={ st with base:=st.heap.length,aQ:=st.bc.length }
def eb (fr:Fr):Option (Nat×Bool)→Option Bool
 | none=>some true
 | some (t,want)=>match fr.get t with | .bool b=>some (b==want) | .tuple []=>some false | _=>none
def X.reads:X→List Nat
 | .t n=>[n]
 | _=>[]
def ROp.reads:ROp→List Nat
 | .mv x | .box _ x | .load _ _ x | .aX x | .un _ x | .i2i _ x | .i2s x | .s2b x | .s2h x | .b2s x | .same x | .gU _ x | .field _ _ _ x | .extract x _ | .iface _ x | .len _ x | .cap x | .clear _ _ x | .conv _ _ x | .gR x | .gM _ _ _ x=>x.reads
 | .pick c a b=>c.reads++a.reads++b.reads
 | .alloc _ | .gX .. | .jL | .xh _ | .fail=>[]
 | .build _ parts=>parts.flatMap fun (_,_,x)=>x.reads
 | .lit _ _ _ _ parts | .nE _ _ _ _ parts=>parts.flatMap fun (_,x)=>x.reads
 | .store _ x v | .bin _ x v | .eq _ _ x v | .aY _ x v | .cA _ _ x v | .index x v | .jE _ _ _ x v | .lookup _ _ x v _ | .append _ _ _ x v | .gl _ _ _ x v | .dW _ _ x v | .pN _ x v | .copy _ x v=>x.reads++v.reads
 | .gD _ a b=>a.flatMap X.reads++b.flatMap X.reads
 | .cE _ _ _ _ l c | .lk _ _ l c=>l.reads++c.reads
 | .slice _ _ x lo hi mx | .sliceB _ _ _ x lo hi mx=>x.reads++lo.toList.flatMap X.reads++hi.toList.flatMap X.reads++mx.toList.flatMap X.reads
 | .iI _ m k v=>m.reads++k.reads++v.reads
 | .call _ args | .max args | .min args=>args.flatMap X.reads
 | .bz f args | .dp f args=>f.reads++args.flatMap X.reads
 | .got _ xs=>xs.flatMap fun p=>p.1.reads
def ak.reads (o:ak):List Nat:=o.op.reads++(match o.guard with | some (t,_)=>[t] | none=>[])
theorem X.bD {fr fr':Fr} {x:X} (h:∀ t∈x.reads,fr.get t=fr'.get t):x.ev fr=x.ev fr':=by
 cases x with
 | t n=>exact h n (by simp[X.reads])
 | c v=>rfl
 | f g=>rfl
theorem jt {fr fr':Fr} {xs:List X} (h:∀ t∈xs.flatMap X.reads,fr.get t=fr'.get t):xs.map (X.ev fr)=xs.map (X.ev fr'):=by
 apply abA;intro x hx;exact X.bD fun t ht=>h t (aaH.2 ⟨x,hx,ht⟩)
theorem dN {fr fr':Fr} {x:Option X} (h:∀ t∈x.toList.flatMap X.reads,fr.get t=fr'.get t):x.map (X.ev fr)=x.map (X.ev fr'):=by
 cases x with
 | none=>rfl
 | some x=>simp only[abg];rw[X.bD fun t ht=>h t (by simpa using ht)]
theorem uA {st:St} {fr fr':Fr} (op:ROp) (h:∀ t∈op.reads,fr.get t=fr'.get t):an st fr op=an st fr' op:=by
 cases op<;>simp only[ROp.reads,aaL] at h<;>simp only[an]
 case build zs parts=>
  have:(parts.map fun (o,n,x)=>(o,n,X.ev fr x))=(parts.map fun (o,n,x)=>(o,n,X.ev fr' x)):=by
   apply abA;rintro⟨o,n,x⟩ hx;simp only;rw[X.bD fun t ht=>h t (aaH.2 ⟨_,hx,ht⟩)]
  rw[this]
 case lit n ag zs len parts=>
  have:(parts.map fun (i,x)=>(i*n,n,X.ev fr x))=(parts.map fun (i,x)=>(i*n,n,X.ev fr' x)):=by
   apply abA;rintro⟨i,x⟩ hx;simp only;rw[X.bD fun t ht=>h t (aaH.2 ⟨_,hx,ht⟩)]
  rw[this]
 case nE n ag zs len parts=>
  have:(parts.map fun (i,x)=>(i*n,n,X.ev fr x))=(parts.map fun (i,x)=>(i*n,n,X.ev fr' x)):=by
   apply abA;rintro⟨i,x⟩ hx;simp only;rw[X.bD fun t ht=>h t (aaH.2 ⟨_,hx,ht⟩)]
  rw[this]
 case got v xs=>
  have:(xs.all fun p=>DV.beq (p.1.ev fr) p.2)=(xs.all fun p=>DV.beq (p.1.ev fr') p.2):=by
   rw[aaW,aaf,aaf];constructor<;>intro k p hp<;>have:=k p hp
   · rwa [X.bD (x:=p.1) fun t ht=>h t (aaH.2 ⟨p,hp,ht⟩)] at this
   · rwa [X.bD (x:=p.1) fun t ht=>h t (aaH.2 ⟨p,hp,ht⟩)]
  rw[this]
 case pick c a b=>rw[X.bD (x:=c) fun t ht=>h t (.inl (.inl ht)),X.bD (x:=a) fun t ht=>h t (.inl (.inr ht)),X.bD (x:=b) fun t ht=>h t (.inr ht)]
 case iI ks m k v=>rw[X.bD (x:=m) fun t ht=>h t (.inl (.inl ht)),X.bD (x:=k) fun t ht=>h t (.inl (.inr ht)),X.bD (x:=v) fun t ht=>h t (.inr ht)]
 case slice str n x lo hi mx=>
  rw[X.bD (x:=x) fun t ht=>h t (.inl (.inl (.inl ht))),dN (x:=lo) fun t ht=>h t (.inl (.inl (.inr ht))),dN (x:=hi) fun t ht=>h t (.inl (.inr ht)),dN (x:=mx) fun t ht=>h t (.inr ht)]
 case sliceB n ag len x lo hi mx=>
  rw[X.bD (x:=x) fun t ht=>h t (.inl (.inl (.inl ht))),dN (x:=lo) fun t ht=>h t (.inl (.inl (.inr ht))),dN (x:=hi) fun t ht=>h t (.inl (.inr ht)),dN (x:=mx) fun t ht=>h t (.inr ht)]
 case gD g a b=>rw[jt (xs:=a) fun t ht=>h t (.inl ht),jt (xs:=b) fun t ht=>h t (.inr ht)]
 all_goals first
  | rfl
  | (rw[X.bD h];done)
  | (rw[jt h];done)
  | (rename_i x y;rw[X.bD (x:=x) fun t ht=>h t (.inl ht),X.bD (x:=y) fun t ht=>h t (.inr ht)];done)
  | (rename_i x y _;rw[X.bD (x:=x) fun t ht=>h t (.inl ht),X.bD (x:=y) fun t ht=>h t (.inr ht)];done)
def aH (al:Nat→Bool):ROp→Bool
 | .alloc _ | .gX .. | .dW .. | .pN .. | .box .. | .nE .. | .store .. | .s2h _ | .jL | .cE .. | .lk .. | .iI .. | .bz .. | .append .. | .gl .. | .clear .. | .copy .. => true
 | .call g _ => !al g
 | _=>false
theorem nm {st st':St} {fr:Fr} {op:ROp} {v:DV} {pf:Nat→Bool} (hq:aH pf op=false) (h:an st fr op=some (v,st')):st'=st:=by
 cases op<;>simp only[aH] at hq<;>simp only[an] at h<;>first
  | (cases hq;done)
  | (cases h;done)
  | (cases h;rfl)
  | (simp only[aad] at h;obtain⟨_,_,h⟩:=h;cases h;rfl)
  | (split at h<;>first | (cases h;done) | (cases h;rfl) | (simp only[aad] at h;obtain⟨_,_,h⟩:=h;cases h;rfl) | (split at h<;>first | (cases h;done) | (cases h;rfl) | (simp only[aad] at h;obtain⟨_,_,h⟩:=h;cases h;rfl) | (split at h<;>first | (cases h;done) | (cases h;rfl) | (split at h<;>first | (cases h;done) | (cases h;rfl)))))
def c6:Fr→List Nat→List DV→Fr
 | fr,t::ts,v::vs=>c6 ((t,v)::fr) ts vs
 | fr,_,_=>fr
def je (op:ROp) (fr:Fr) (b:Nat):Option (DV×HO):=
 match op with
 | .alloc zs=>some (.ptr b 0,.cells .plain zs)
 | .jL=>some (.map b,.map [])
 | .cE n ag bytes zs len cap=>
   match len.ev fr,cap.ev fr with
   | .int .i64 l,.int .i64 c=>if 0≤l∧l≤c∧c*bytes≤aD∧c≤aD then some (.hsl n ag b 0 l.toNat (some c.toNat),.cells .plain (aK zs c.toNat)) else none
   | _,_=>none
 | _=>none
def lx:ROp→List X
 | .cE _ _ _ _ len cap=>[len,cap]
 | _=>[]
theorem wv {op:ROp} {fr fr':Fr} {b:Nat} (h:∀ x∈lx op,x.ev fr=x.ev fr'):je op fr b=je op fr' b:=by
 cases op<;>try rfl
 rename_i n ag bytes zs len cap;simp only[je];rw[h len (by simp[lx]),h cap (by simp[lx])]
def Ec:ROp→Bool
 | .call .. | .bz .. | .dp .. => true
 | op=>aH (fun _=>false) op
def Es (st:St):Fr→List ak→Fr
 | fr,[]=>fr
 | fr,o::r=>
   if Ec o.op then Es st fr r else
   match o.guard,an st fr o.op with
   | none,some (v,_)=>Es st (fr.put o.dst v) r
   | _,_=>Es st fr r
def qH (fr:Fr) (hs:List Nat):Nat→St→List ak→Option (St×List ak)
 | _,st,[]=>some (st,[])
 | i,st,o::r=>
   if hs.contains i then
    match o.guard,je o.op fr st.heap.length with
    | none,some (v,ob)=>
      match qH fr hs (i+1) (st.push ob) r with
      | some (st1,l)=>some (st1,⟨o.dst,.got v ((lx o.op).map fun x=>(x,x.ev fr)),none⟩::l)
      | none=>none
    | _,_=>none
   else
    match qH fr hs (i+1) st r with
    | some (st1,l)=>some (st1,o::l)
    | none=>none
def gI (fr:Fr) (hs:List Nat) (st:St) (ops:List ak):Option (St×List ak):=
 match hs with
 | []=>some (st,ops)
 | _::_=>qH (Es st fr ops) hs 0 st ops
def lH (hs:List Nat):Nat→List ak→List ak
 | _,[]=>[]
 | i,o::r=>(if hs.contains i then ⟨o.dst,.got .undef ((lx o.op).map fun x=>(x,.undef)),none⟩ else o)::lH hs (i+1) r
end Go.D
end
section
namespace Go.D
abbrev Tab:=Nat→Option Def
def ez (T:Tab) (g:Nat):Bool:=match T g with | some (.code _)=>true | _=>false
def al (T:Tab) (g:Nat):Bool:=match T g with | some (.code f)=>f.dh | some (.dy _)=>true | _=>false
mutual
def dL (T:Tab):Nat→RC→Fr→St→Option (Ex×Fr×St)
 | 0,_,_,_=>none
 | n+1,c,fr,st=>
   match c with
   | .skip=>some (.normal,fr,st)
   | .region ops live=>match gO T n ops fr st with | some (fr',st')=>some (.normal,fr'.bG live,st') | none=>none
   | .av ops hs chk live=>
     match gI fr hs st ops with
     | some (st1,ops2)=>
       match dJ T n ops2 fr st1 [st1] with
       | some (fr',sts)=>if iG T n fr' ops2 sts.reverse chk then (match sts with | st'::_=>some (.normal,fr'.bG live,st') | []=>none) else none
       | none=>none
     | none=>none
   | .seq a b=>
     match dL T n a fr st with
     | some (.normal,fr',st')=>dL T n b fr' st'
     | r=>r
   | .cond x a b=>match x.ev fr with | .bool true=>dL T n a fr st | .bool false=>dL T n b fr st | _=>none
   | .block id a=>
     match dL T n a fr st with
     | some (.exit id',fr',st')=>if id'=id then some (.normal,fr',st') else some (.exit id',fr',st')
     | r=>r
   | .loop live a=>
     match dL T n a (fr.bG live) st with
     | some (.normal,fr',st')=>dL T n (.loop live a) fr' st'
     | r=>r
   | .exit id=>some (.exit id,fr,st)
   | .ret=>some (.ret,fr,st)
   | .stuck=>none
   | .gK f params assign body live=>
     let l:=st.heap.length
     let fr0:=fr.bG live
     match f.ev fr0 with
     | .fn g first captured=>
       if ez T g then
        match eB T n g (first++[.yield l]++captured) (st.push (.loop ⟨fr0,params,assign,body,0,none⟩)) with
        | some (_,st')=>
          match st'.heap[l]? with
          | some (.loop lo)=>
            if lo.state=1 then none else
            match lo.pending with
            | none=>some (.normal,fr0,{ st' with heap:=st'.heap.set l (.loop { lo with state:=3 }) })
            | some e=>some (e,fr0,{ st' with heap:=st'.heap.set l (.loop { lo with state:=3 }) })
          | _=>none
        | none=>none
       else none
     | _=>none
def gO (T:Tab):Nat→List ak→Fr→St→Option (Fr×St)
 | 0,_,_,_=>none
 | _+1,[],fr,st=>some (fr,st)
 | n+1,o::r,fr,st=>
   match cH T n o fr st with
   | some (v,st')=>gO T n r (fr.put o.dst v) st'
   | none=>none
def dJ (T:Tab):Nat→List ak→Fr→St→List St→Option (Fr×List St)
 | 0,_,_,_,_=>none
 | _+1,[],fr,_,sts=>some (fr,sts)
 | n+1,o::r,fr,st,sts=>
   match cH T n o fr st with
   | some (v,st')=>if aH (al T) o.op then dJ T n r (fr.put o.dst v) st' (st'::sts) else dJ T n r (fr.put o.dst v) st sts
   | none=>none
def cH (T:Tab):Nat→ak→Fr→St→Option (DV×St)
 | 0,_,_,_=>none
 | n+1,o,fr,st=>
   match eb fr o.guard with
   | none=>none
   | some false=>some (.tuple [],st)
   | some true=>
     match o.op with
     | .call g args=>eB T n g (args.map (X.ev fr)) st
     | .bz f args=>jX T n (f.ev fr) (args.map (X.ev fr)) st
     | .dp f args=>
       match f.ev fr with
       | .fn g first captured=>if al T g then eB T n g (first++args.map (X.ev fr)++captured) st else none
       | _=>none
     | op=>an st fr op
def iG (T:Tab):Nat→Fr→List ak→List St→List (Nat×List Nat)→Bool
 | 0,_,_,_,_=>false
 | _+1,_,_,_,[]=>true
 | n+1,fr,ops,sts,(i,vs)::r=>
   (match ops[i]? with
    | some o=>iA T n fr o sts vs
    | none=>false)&&iG T n fr ops sts r
def iA (T:Tab):Nat→Fr→ak→List St→List Nat→Bool
 | 0,_,_,_,_=>false
 | _+1,_,_,_,[]=>true
 | n+1,fr,o,sts,j::r=>
   (match sts[j]? with
    | some st=>(match cH T n o fr st,o.dst with | some (v,_),some d=>DV.beq v (fr.get d) | _,_=>false)
    | none=>false)&&iA T n fr o sts r
def eB (T:Tab):Nat→Nat→List DV→St→Option (DV×St)
 | 0,_,_,_=>none
 | n+1,g,args,st=>
   match T g with
   | none=>none
   | some (.g9 p)=>p args st
   | some (.dy p)=>(p args).map fun v=>(v,st)
   | some (.code f)=>
     if f.dh then
      match dL T n f.body (bq args 0) st.enter with
      | some (.exit _,_,_)=>none
      | some (_,fr,st')=>
        match eO st' fr f.results with
        | some v=>(bB st st' v).map fun v'=>(v',st)
        | none=>none
      | none=>none
     else
      match dL T n f.body (bq args 0) st with
      | some (.exit _,_,_)=>none
      | some (_,fr,st')=>(eO st' fr f.results).map fun v=>(v,st')
      | none=>none
def jX (T:Tab):Nat→DV→List DV→St→Option (DV×St)
 | 0,_,_,_=>none
 | n+1,f,args,st=>
   match f with
   | .fn g first captured=>eB T n g (first++args++captured) st
   | .yield l=>
     match st.heap[l]? with
     | some (.loop lo)=>
       if st.base≤l∧args.length=lo.params.length then
        match dL T n lo.assign (c6 lo.fr lo.params args) st with
        | some (.normal,fr1,st1)=>
          match st1.heap[l]? with
          | some (.loop lo1)=>
            if lo1.state=0 then
             match dL T n lo.body fr1 { st1 with heap:=st1.heap.set l (.loop { lo1 with state:=1 }) } with
             | some (e,_,st2)=>
               match st2.heap[l]? with
               | some (.loop lo2)=>
                 match e with
                 | .normal=>some (.bool true,{ st2 with heap:=st2.heap.set l (.loop { lo2 with state:=0,pending:=none }) })
                 | e=>some (.bool false,{ st2 with heap:=st2.heap.set l (.loop { lo2 with state:=2,pending:=some e }) })
               | _=>none
             | none=>none
            else none
          | _=>none
        | _=>none
       else none
     | _=>none
   | _=>none
end
end Go.D
end
section
namespace Go.D
open Go.RowKit
structure Gh where
 ro:Nat→Nat→Option Value
 mu:Nat→Option Nat
 bt:Nat→Nat→Option (Nat×Nat×Nat×Nat)
 gsz:Nat→Nat
 dfr:Nat→Prop
 lps:Nat→Prop
 bj:Nat→Option HO
 floor:Nat
 base:Nat
 aQ:Nat
structure FM where
 fn:Nat→Option FuncId
 env:Nat→Nat→Option Value
instance:CoeFun FM (fun _=>Nat→Option FuncId):=⟨FM.fn⟩
def ROk (fm:FM) (G:Gh) (r i:Nat) (v:Value):Prop:=G.ro r i=some v∨fm.env r i=some v
structure Gh.sub (G G':Gh):Prop where
 ro:∀ r i v,G.ro r i=some v→G'.ro r i=some v
 mu:∀ b r,G.mu b=some r→G'.mu b=some r
 bt:∀ t s x,G.bt t s=some x→G'.bt t s=some x
 gsz:∀ b r,G.mu b=some r→G'.gsz b=G.gsz b
structure Gh.le (G G':Gh):Prop where
 toSub:Gh.sub G G'
 dfr:∀ r,G.dfr r→G'.dfr r
 lps:∀ r,G.lps r→G'.lps r
 floor:G'.floor=G.floor
 eV:∀ r i,r<G.floor→G'.ro r i=G.ro r i
 base:G'.base=G.base
 aQ:G'.aQ=G.aQ
 bj:G'.bj=G.bj
theorem Gh.sub.refl (G:Gh):G.sub G:=⟨fun _ _ _ h=>h,fun _ _ h=>h,fun _ _ _ h=>h,fun _ _ _=>rfl⟩
theorem Gh.sub.trans {A B C:Gh} (h:A.sub B) (k:B.sub C):A.sub C:=
 ⟨fun r i v x=>k.ro r i v (h.ro r i v x),fun b r x=>k.mu b r (h.mu b r x),fun t s x y=>k.bt t s x (h.bt t s x y),
  fun b r x=>(k.gsz b r (h.mu b r x)).trans (h.gsz b r x)⟩
theorem Gh.le.refl (G:Gh):G.le G:=⟨Gh.sub.refl G,fun _ h=>h,fun _ h=>h,rfl,fun _ _ _=>rfl,rfl,rfl,rfl⟩
theorem Gh.le.trans {A B C:Gh} (h:A.le B) (k:B.le C):A.le C:=
 ⟨h.toSub.trans k.toSub,fun r x=>k.dfr r (h.dfr r x),fun r x=>k.lps r (h.lps r x),k.floor.trans h.floor,
  fun r i hr=>(k.eV r i (h.floor ▸ hr)).trans (h.eV r i hr),k.base.trans h.base,k.aQ.trans h.aQ,k.bj.trans h.bj⟩
structure Gh.leP (G G':Gh):Prop where
 toSub:Gh.sub G G'
 dfr:∀ r,G.dfr r→G'.dfr r
 lps:∀ r,G.lps r→G'.lps r
 floor:G'.floor=G.floor
 eV:∀ r i,r<G.floor→G'.ro r i=G.ro r i
 base:G'.base=G.base
 aQ:G'.aQ=G.aQ
theorem Gh.le.toP {G G':Gh} (h:G.le G'):G.leP G':=⟨h.toSub,h.dfr,h.lps,h.floor,h.eV,h.base,h.aQ⟩
theorem Gh.leP.SP {G G':Gh} (h:G.leP G') (hp:G'.bj=G.bj):G.le G':=⟨h.toSub,h.dfr,h.lps,h.floor,h.eV,h.base,h.aQ,hp⟩
theorem Gh.leP.trans {A B C:Gh} (h:A.leP B) (k:B.leP C):A.leP C:=
 ⟨h.toSub.trans k.toSub,fun r x=>k.dfr r (h.dfr r x),fun r x=>k.lps r (h.lps r x),k.floor.trans h.floor,
  fun r i hr=>(k.eV r i (h.floor ▸ hr)).trans (h.eV r i hr),k.base.trans h.base,k.aQ.trans h.aQ⟩
def A4 (G:Gh) (n:Nat) (tk:Tk) (r off len cap:Nat):Prop:=
 match tk with
 | .no=>True
 | .tight=>cap=len
 | .own t s=>off=0∧G.bt t s=some (r,len,cap,n)
def E1 (G:Gh) (n b off len:Nat) (cap:Option Nat) (c:Nat):Prop:=
 match cap with
 | some k=>c=k∧len≤k
 | none=>len≤c∧off+c*n≤G.gsz b
inductive Rel (fm:FM) (G:Gh):DV→Value→Prop
 | undef (x:Value):Rel fm G .undef x
 | bool (b:Bool):Rel fm G (.bool b) (.bool b)
 | int (k:IntKind) (n:Int):Rel fm G (.int k n) (.int k n)
 | str (l:List UInt8) (s:ByteArray) (h:s.data.toList=l):Rel fm G (.str l) (.string s)
 | ptr (b off r:Nat) (h:G.mu b=some r):Rel fm G (.ptr b off) (.pointer (some ⟨r,off,none⟩))
 | b5:Rel fm G .b5 (.pointer none)
 | bW (cs:List DV) (r off:Nat) (f:Nat→Value) (hr:∀ i,i<cs.length→ROk fm G r (off+i) (f i))
  (hc:∀ i (h:i<cs.length),Rel fm G (cs[i]) (f i)) (hp:cs.all DV.pure=true):Rel fm G (.bW cs) (.pointer (some ⟨r,off,none⟩))
 | ga (tag n:Nat) (tk:Tk):Rel fm G (.list tag n tk false []) (.slice none 0 0)
 | list (tag n:Nat) (tk:Tk) (xs:List DV) (r off cap:Nat) (f:Nat→Value) (hr:∀ i,i<(flat xs).length→G.ro r (off+i)=some (f i))
  (hc:∀ i (h:i<(flat xs).length),Rel fm G ((flat xs)[i]) (f i)) (hp:(flat xs).all DV.pure=true) (hk:A4 G n tk r off xs.length cap) (hl:xs.length≤cap) (hn:∀ x∈xs,x.leaves.length=n) :
  Rel fm G (.list tag n tk true xs) (.slice (some ⟨r,off,none⟩) xs.length cap)
 | hsl (n:Nat) (ag:Bool) (b off len:Nat) (cap:Option Nat) (r c:Nat) (h:G.mu b=some r) (hc:E1 G n b off len cap c) :
  Rel fm G (.hsl n ag b off len cap) (.slice (some ⟨r,off,none⟩) len c)
 | map (b r:Nat) (h:G.mu b=some r):Rel fm G (.map b) (.map (some r))
 | bn:Rel fm G .bn (.map none)
 | fn (g:Nat) (first captured:List DV) (f:FuncId) (fs cs:Array Value) (h:fm g=some f) (h1:fs.size=first.length) (h2:cs.size=captured.length)
  (hf:∀ i (h:i<first.length),Rel fm G (first[i]) (fs.getD i undef)) (hc:∀ i (h:i<captured.length),Rel fm G (captured[i]) (cs.getD i undef)) :
  Rel fm G (.fn g first captured) (.func (.func f) fs cs)
 | yield (l r:Nat) (h:G.mu l=some r):Rel fm G (.yield l) (.func (.yield r) #[] #[])
 | bO:Rel fm G .bO .nilFunc
 | iface (t:Nat) (v:DV) (x:Value) (h:Rel fm G v x):Rel fm G (.iface t v) (.iface t x)
 | aL:Rel fm G .aL .nilIface
 | agg (vs:List DV) (cs:Array Value) (hl:cs.size=vs.length) (hc:∀ i (h:i<vs.length),Rel fm G (vs[i]) (cs.getD i undef)):Rel fm G (.agg vs) (.agg cs)
 | tuple (vs:List DV) (cs:Array Value) (hl:cs.size=vs.length) (hc:∀ i (h:i<vs.length),Rel fm G (vs[i]) (cs.getD i undef)):Rel fm G (.tuple vs) (.tuple cs)
theorem A4.sub {G G':Gh} (h:G.sub G') {n:Nat} {tk:Tk} {r off len cap:Nat} (k:A4 G n tk r off len cap):A4 G' n tk r off len cap:=by
 cases tk with
 | no=>trivial
 | tight=>exact k
 | own t s=>exact⟨k.1,h.bt _ _ _ k.2⟩
theorem Rel.sub {fm:FM} {G G':Gh} (h:G.sub G') {v:DV} {x:Value} (k:Rel fm G v x):Rel fm G' v x:=by
 induction k with
 | undef x=>exact .undef x
 | bool b=>exact .bool b
 | int k n=>exact .int k n
 | str l s hh=>exact .str l s hh
 | ptr b off r hh=>exact .ptr b off r (h.mu _ _ hh)
 | b5=>exact .b5
 | bW cs r off f hr _ hp ih=>exact .bW cs r off f (fun i hi=>(hr i hi).imp (h.ro _ _ _) id) ih hp
 | ga tag n tk=>exact .ga tag n tk
 | list tag n tk xs r off cap f hr _ hp hk hl hn ih=>exact .list tag n tk xs r off cap f (fun i hi=>h.ro _ _ _ (hr i hi)) ih hp (hk.sub h) hl hn
 | hsl n ag b off len cap r c hh hc=>
   refine .hsl n ag b off len cap r c (h.mu _ _ hh) ?_
   cases cap with
   | some k=>exact hc
   | none=>simp only[E1] at *;rw[h.gsz _ _ hh];exact hc
 | map b r hh=>exact .map b r (h.mu _ _ hh)
 | bn=>exact .bn
 | fn g first captured f fs cs hh h1 h2 _ _ ih1 ih2=>exact .fn g first captured f fs cs hh h1 h2 ih1 ih2
 | yield l r hh=>exact .yield l r (h.mu _ _ hh)
 | bO=>exact .bO
 | iface t v x _ ih=>exact .iface t v x ih
 | aL=>exact .aL
 | agg vs cs hl _ ih=>exact .agg vs cs hl ih
 | tuple vs cs hl _ ih=>exact .tuple vs cs hl ih
theorem Rel.le {fm:FM} {G G':Gh} (h:G.le G') {v:DV} {x:Value} (k:Rel fm G v x):Rel fm G' v x:=k.sub h.toSub
def cG (fm:FM) (G:Gh) (fr:Fr) (tmps:Array Value):Prop:=∀ t,Rel fm G (fr.get t) (tmps.getD t undef)
def bu (fm:FM):X→Operand→Prop
 | .t n,.tmp m=>n=m
 | .c v,.const x=>∀ G,Rel fm G v x
 | .f g,.func f=>fm g=some f
 | .c v,.global g=>∀ G,Rel fm G v (.pointer (some ⟨g,0,none⟩))
 | _,_=>False
theorem bu.ev {fm:FM} {G:Gh} {fr:Fr} {a:Act} {x:X} {o:Operand} (h:bu fm x o) (hf:cG fm G fr a.tmps):Rel fm G (x.ev fr) (a.eval o):=by
 cases x with
 | t n=>
   cases o<;>simp[bu] at h
   subst h;exact hf _
 | c v=>
   cases o<;>simp[bu] at h
   · exact h G
   · exact h G
 | f g=>
   cases o<;>simp[bu] at h
   exact .fn g [] [] _ #[] #[] h rfl rfl (fun i hi=>absurd hi (by simp)) (fun i hi=>absurd hi (by simp))
theorem cG.le {fm:FM} {G G':Gh} (h:G.le G') {fr:Fr} {tmps:Array Value} (k:cG fm G fr tmps):cG fm G' fr tmps:=fun t=>(k t).le h
theorem Fr.CS (fr:Fr):∀ (live:List Nat) (t:Nat),(fr.bG live).get t=fr.get t∨(fr.bG live).get t=.undef:=by
 intro live t
 induction live with
 | nil=>exact .inr rfl
 | cons u r ih=>
   show (if u=t then fr.get u else Fr.get (Fr.bG fr r) t)=_∨(if u=t then fr.get u else Fr.get (Fr.bG fr r) t)=_;by_cases e:u=t
   · subst e;simp
   · simp only[if_neg e];exact ih
theorem Fr.ic (fr:Fr) (live:List Nat) (t:Nat):(fr.bG live).get t=if t∈live then fr.get t else .undef:=by
 induction live with
 | nil=>rfl
 | cons u r ih=>
   show (if u=t then fr.get u else Fr.get (Fr.bG fr r) t)=_;by_cases e:u=t
   · subst e;simp
   · simp only[if_neg e,ih,aav,show ¬ t=u from fun x=>e x.symm,false_or]
theorem cG.bG {fm:FM} {G:Gh} {fr:Fr} {tmps:Array Value} (k:cG fm G fr tmps) (live:List Nat):cG fm G (fr.bG live) tmps:=by
 intro t;rcases Fr.CS fr live t with h | h<;>rw[h]
 · exact k t
 · exact .undef _
theorem eu (a:Array Value) (i t:Nat) (x d:Value) (h:i<a.size):(a.setIfInBounds i x).getD t d=if i=t then x else a.getD t d:=by
 rw[aag,aag,Array.getElem?_setIfInBounds];by_cases e:i=t
 · subst e;simp[h]
 · simp[e]
theorem cG.put {fm:FM} {G:Gh} {fr:Fr} {a:Act} {d:Option Nat} {v:DV} {x:Value} (k:cG fm G fr a.tmps) (hv:Rel fm G v x)
 (hd:∀ t,d=some t→t<a.tmps.size):cG fm G (fr.put d v) (a.put d x).tmps:=by
 cases d with
 | none=>exact k
 | some t0=>
   intro t;show Rel fm G (if t0=t then v else fr.get t) ((a.tmps.setIfInBounds t0 x).getD t undef);rw[eu _ _ _ _ _ (hd t0 rfl)];by_cases e:t0=t
   · simp only[if_pos e];exact hv
   · simp only[if_neg e];exact k t
theorem wg (a:Act) (d:Option Nat) (x:Value):(a.put d x).tmps.size=a.tmps.size:=by
 cases d with
 | none=>rfl
 | some t=>simp[Act.put]
theorem put_defers (a:Act) (d:Option Nat) (x:Value):(a.put d x).defers=a.defers:=by
 cases d<;>rfl
inductive Gs:Option Ex→Option Code→Prop
 | none:Gs none none
 | ret:Gs (some .ret) (some .ret)
 | exit (id:Nat):Gs (some (.exit id)) (some (.exit id))
end Go.D
end
section
namespace Go.D
open Go.RowKit
def HO.cb:HO→Bool
 | .gone=>true
 | _=>false
section
variable (P:Program) (fm:FM) (T:Tab)
def kJ (xs:List X) (os:List Operand):Prop:=os.length=xs.length∧∀ (i:Nat) (x:X) (o:Operand),xs[i]? = some x→os[i]? = some o→bu fm x o
def yq (nx:Next) (x:Value):Prop:=nx=.value x∨(nx=.skip∧x=undef)
def D7:Nat→LoopState
 | 0=>.ready
 | 1=>.busy
 | 2=>.done
 | _=>.exhausted
def cS (CR:Nat→RC→Code→Prop) (G:Gh) (b:Nat):HO→Obj→Prop
 | .cells .plain vs,o=>∃ cs t fz,o=.cells cs t fz∧cs.size=vs.length∧(∀ i (h:i<vs.length),Rel fm G (vs[i]) (cs.getD i undef))∧(∀ i,i<cs.size→¬ (fz.1≤i∧i<fz.2))∧vs.all DV.bp=true
 | .cells (.typed ty) vs,o=>∃ cs t fz,o=.cells cs t fz∧t=ty∧cs.size=vs.length∧(∀ i (h:i<vs.length),Rel fm G (vs[i]) (cs.getD i undef))∧(∀ i,i<cs.size→¬ (fz.1≤i∧i<fz.2))∧vs.all DV.bp=true
 | .cells (.frz ty) vs,o=>∃ cs t fz,o=.cells cs t fz∧t=ty∧vs.length≤cs.size∧cs.size=G.gsz b∧(∀ i (h:i<vs.length),Rel fm G (vs[i]) (cs.getD i undef))∧fz.2≤vs.length∧vs.all DV.bp=true
 | .cells .grown vs,o=>∃ cs t fz,o=.cells cs t fz∧vs.length≤cs.size∧cs.size=G.gsz b∧(∀ i (h:i<vs.length),Rel fm G (vs[i]) (cs.getD i undef))∧(∀ i,i<cs.size→¬ (fz.1≤i∧i<fz.2))∧vs.all DV.bp=true
 | .map es,o=>∃ en ck,o=.map en ck∧en.size=es.length∧∀ (i:Nat) (k v:DV),es[i]? = some (k,v)→∃ e:MapEntry,en[i]? = some e∧Rel fm G k e.key∧Rel fm G v e.val
 | .loop lo,o=>∃ l,o=.loop l∧l.state=D7 lo.state∧lo.state≤3∧Gs lo.pending l.pending∧l.params.toList=lo.params ∧
  (∃ N,N≤l.tmps.size∧(∀ p∈lo.params,p<N)∧CR N lo.assign l.assign∧CR N lo.body l.body)∧cG fm G lo.fr l.tmps
 | .gone,_=>True
structure Sim (CR:Nat→RC→Code→Prop) (G:Gh) (w0:World) (st:St) (w:World):Prop where
 bU:∀ b r,G.mu b=some r→b<st.heap.length
 bQ:∀ b b' o o' r,st.heap[b]? = some o→st.heap[b']? = some o'→o.cb=false→o'.cb=false→G.mu b=some r→G.mu b'=some r→b=b'
 obj:∀ b o,st.heap[b]? = some o→o.cb=false→G.bj b=none→∃ r ob,G.mu b=some r∧w.heap[r]? = some ob∧cS fm CR G b o ob∧(st.base≤b→G.floor≤r)
 ro:∀ r i v,G.ro r i=some v→∃ cs t fz,w.heap[r]? = some (.cells cs t fz)∧cs[i]? = some v
 dj:∀ r i v b o,G.ro r i=some v→st.heap[b]? = some o→o.cb=false→G.mu b=some r→False
 tok:∀ t s,st.bc[t]? = some s→∃ r len cap n cs ty,G.bt t s=some (r,len,cap,n)∧0<n∧len≤cap∧w.heap[r]? = some (.cells cs ty (0,0))∧cs.size=cap*n ∧
     (∀ i,len*n≤i→G.ro r i=none)∧(∀ b o,st.heap[b]? = some o→o.cb=false→G.mu b≠some r)∧(st.aQ≤t→G.floor≤r)
 bw:∀ t t' s s' x x',st.bc[t]? = some s→st.bc[t']? = some s'→G.bt t s=some x→G.bt t' s'=some x'→x.1=x'.1→t=t'
 bt:∀ t s x,G.bt t s=some x→∃ s',st.bc[t]? = some s'∧s≤s'
 dfr:∀ r,G.dfr r→w.heap[r]? = some (.deferred (some []))
 lps:∀ r,G.lps r→∃ l,w.heap[r]? = some (.loop l)
 aG:G.floor≤w.heap.size
 below:Below G.floor w0 w
 base:st.base=G.base
 aQ:st.aQ=G.aQ
 bA:st.base≤st.heap.length
 bj:∀ b o,G.bj b=some o→st.heap[b]? = some o∧G.mu b=none
 env:∀ r i v,fm.env r i=some v→r<G.floor∧∃ cs t fz,w0.heap[r]? = some (.cells cs t fz)∧cs[i]? = some v
theorem Sim.np {fm:FM} {CR:Nat→RC→Code→Prop} {G:Gh} {w0 w:World} {st:St} (h:Sim fm CR G w0 st w) {b r:Nat} (hm:G.mu b=some r):G.bj b=none:=by
 cases e:G.bj b with
 | none=>rfl
 | some o=>have:=(h.bj b o e).2;rw[hm] at this;cases this
theorem Sim.rok {fm:FM} {CR:Nat→RC→Code→Prop} {G:Gh} {w0 w:World} {st:St} (h:Sim fm CR G w0 st w) {r i:Nat} {v:Value} (k:ROk fm G r i v):∃ cs t fz,w.heap[r]? = some (.cells cs t fz)∧cs[i]? = some v:=by
 rcases k with k|k
 · exact h.ro r i v k
 · obtain⟨h1,cs,t,fz,h2,h3⟩:=h.env r i v k;exact⟨cs,t,fz,(h.below.block r h1).trans h2,h3⟩
def QD (CR:Nat→RC→Code→Prop) (ro:ROp) (o:Oper):Prop:=
 ∀ (G:Gh) (w0:World) (st:St) (w:World) (fr:Fr) (a:Act) (v:DV) (st':St),Sim fm CR G w0 st w→cG fm G fr a.tmps→an st fr ro=some (v,st') →
   ∃ G' w' x nx,(execOp a.eval o).run P w=.ok nx w'∧yq nx x∧G.le G'∧Sim fm CR G' w0 st' w'∧Rel fm G' v x
def mA:ROp→Bool
 | .call .. | .bz .. | .dp .. => true
 | _=>false
def jT (ops:Array Oper) (g:Option (Nat×Bool)) (g':Option (Nat×Bool)):Prop:=
 match g,g' with
 | none,none=>True
 | some (t,want),some (j,want')=>want=want'∧(ops[j]?).bind (·.dst)=some t
 | _,_=>False
end
def aA (P:Program) (fm:FM) (ro:ROp) (o:Oper):Prop:=∀ CR,QD P fm CR ro o
def l5 (P:Program) (fm:FM) (N:Nat) (ops:Array Oper) (r:ak) (o:Oper):Prop:=
 r.dst=o.dst∧(∀ t,o.dst=some t→t<N)∧jT ops r.guard o.guard∧(∀ c,o.op≠.defer c) ∧
 match r.op with
 | .call g args=>∃ c f,o.op=.call c∧c.callee=.value (.func f)∧fm g=some f∧kJ fm args c.args.toList
 | .bz f args | .dp f args=>∃ c fo,o.op=.call c∧c.callee=.value fo∧bu fm f fo∧kJ fm args c.args.toList
 | op=>aA P fm op o
def sX (P:Program) (fm:FM) (N:Nat) (rs:List ak) (ops:Array Oper):Prop:=
 rs.length=ops.size∧∀ (i:Nat) (r:ak),rs[i]? = some r→∃ o,ops[i]? = some o∧l5 P fm N ops r o
end Go.D
end
section
namespace Go.D
open Go.RowKit
variable {P:Program} {fm:FM} {CR:Nat→RC→Code→Prop} {G:Gh} {w0:World} {st:St} {w:World}
theorem get?_lt {w:World} {r:Nat} {o:Obj} (h:w.heap[r]? = some o):r<w.heap.size:=(aa6.1 h).1
theorem cS.le {G':Gh} (h:G.le G') {b r:Nat} (hb:G.mu b=some r) {o:HO} {ob:Obj} (k:cS fm CR G b o ob):cS fm CR G' b o ob:=by
 cases o with
 | cells g vs=>
   cases g with
   | plain=>obtain⟨cs,t,fz,h1,h2,h3,h4,h5⟩:=k;exact⟨cs,t,fz,h1,h2,fun i hi=>(h3 i hi).le h,h4,h5⟩
   | typed ty=>obtain⟨cs,t,fz,h1,h0,h2,h3,h4,h5⟩:=k;exact⟨cs,t,fz,h1,h0,h2,fun i hi=>(h3 i hi).le h,h4,h5⟩
   | frz ty=>obtain⟨cs,t,fz,h1,h0,h2,h3,h4,h5,h6⟩:=k;exact⟨cs,t,fz,h1,h0,h2,h3.trans (h.toSub.gsz _ _ hb).symm,fun i hi=>(h4 i hi).le h,h5,h6⟩
   | grown=>obtain⟨cs,t,fz,h1,h2,h3,h4,h5,h6⟩:=k;exact⟨cs,t,fz,h1,h2,h3.trans (h.toSub.gsz _ _ hb).symm,fun i hi=>(h4 i hi).le h,h5,h6⟩
 | map es=>
   obtain⟨en,ck,h1,h2,h3⟩:=k;refine⟨en,ck,h1,h2,fun i k v hi=>?_⟩;obtain⟨e,he,hk,hv⟩:=h3 i k v hi;exact⟨e,he,hk.le h,hv.le h⟩
 | loop lo=>obtain⟨l,h1,h2,h3,h4,h5,h6,h7⟩:=k;exact⟨l,h1,h2,h3,h4,h5,h6,h7.le h⟩
 | gone=>trivial
theorem cS.Fv {b:Nat} {o:HO} {ob:Obj} (hg:o.cb=false) (k:cS fm CR G b o ob) (ds:Option (List Deferred)):ob≠.deferred ds:=by
 cases o with
 | cells g vs=>
   cases g with
   | plain=>obtain⟨cs,t,fz,rfl,_⟩:=k;simp
   | typed ty=>obtain⟨cs,t,fz,rfl,_⟩:=k;simp
   | frz ty=>obtain⟨cs,t,fz,rfl,_⟩:=k;simp
   | grown=>obtain⟨cs,t,fz,rfl,_⟩:=k;simp
 | map es=>obtain⟨en,ck,rfl,_⟩:=k;simp
 | loop lo=>obtain⟨l,rfl,_⟩:=k;simp
 | gone=>cases hg
def HO.mP:HO→Bool
 | .loop _=>true
 | _=>false
theorem cS.Ia {b:Nat} {o:HO} {ob:Obj} (hg:o.cb=false) (k:cS fm CR G b o ob) (l:Loop) (h:ob=.loop l):o.mP=true:=by
 subst h
 cases o with
 | cells g vs=>
   cases g with
   | plain=>obtain⟨cs,t,fz,h,_⟩:=k;cases h
   | typed ty=>obtain⟨cs,t,fz,h,_⟩:=k;cases h
   | frz ty=>obtain⟨cs,t,fz,h,_⟩:=k;cases h
   | grown=>obtain⟨cs,t,fz,h,_⟩:=k;cases h
 | map es=>obtain⟨en,ck,h,_⟩:=k;cases h
 | loop lo=>rfl
 | gone=>cases hg
theorem cS.mP {b:Nat} {o:HO} {ob:Obj} (hl:o.mP=true) (k:cS fm CR G b o ob):∃ l,ob=.loop l:=by
 cases o with
 | loop lo=>obtain⟨l,rfl,_⟩:=k;exact⟨l,rfl⟩
 | _=>cases hl
theorem Sim.grow {w':World} (h:Sim fm CR G w0 st w) (hb:Below w.heap.size w w'):Sim fm CR G w0 st w':=by
 have old:∀ r o,w.heap[r]? = some o→w'.heap[r]? = some o:=fun r o hr=>(hb.block r (get?_lt hr)).trans hr;refine { bU:=h.bU,bQ:=h.bQ,obj:=?_,ro:=?_,dj:=h.dj,tok:=?_,bw:=h.bw,bt:=h.bt,dfr:=?_,lps:=?_,aG:=abu h.aG hb.size,below:=h.below.trans (hb.mono h.aG),base:=h.base,aQ:=h.aQ,bA:=h.bA,bj:=h.bj,env:=h.env }
 · intro b o ho hg hpd;obtain⟨r,ob,h1,h2,h3,h4⟩:=h.obj b o ho hg hpd;exact⟨r,ob,h1,old _ _ h2,h3,h4⟩
 · intro r i v hr;obtain⟨cs,t,fz,h1,h2⟩:=h.ro r i v hr;exact⟨cs,t,fz,old _ _ h1,h2⟩
 · intro t s ht;obtain⟨r,len,cap,n,cs,ty,h1,h2,h3,h4,h5⟩:=h.tok t s ht;exact⟨r,len,cap,n,cs,ty,h1,h2,h3,old _ _ h4,h5⟩
 · exact fun r hr=>old _ _ (h.dfr r hr)
 · intro r hr;obtain⟨l,hl⟩:=h.lps r hr;exact⟨l,old _ _ hl⟩
theorem Sim.alloc (h:Sim fm CR G w0 st w) (o:Obj):Sim fm CR G w0 st (w.alloc o):=h.grow ((Below.refl _ w).alloc (aai _) o)
theorem uf (w:World) (n B:Nat):Below B w { w with drawn:=n }:=⟨rfl,rfl,rfl,aai _,fun _ _=>rfl⟩
theorem Sim.draw (h:Sim fm CR G w0 st w) (n:Nat):Sim fm CR G w0 st { w with drawn:=n }:=h.grow (uf _ _ _)
theorem Sim.drew (h:Sim fm CR G w0 st w):Sim fm CR G w0 st w.drew:=h.grow ((Below.refl _ w).drew)
theorem eG (w:World) (r k:Nat) (o:Obj) (h:r<w.heap.size):(w.putObj r o).heap[k]? = if k=r then some o else w.heap[k]?:=by
 by_cases e:k=r
 · subst e;rw[if_pos rfl];exact World.putObj_heap_same h
 · rw[if_neg e];exact World.putObj_heap_other e
theorem jv {B:Nat} (w:World) (r:Nat) (o:Obj) (h:B≤r):Below B w (w.putObj r o):=
 ⟨rfl,rfl,rfl,by simp[World.putObj],fun k hk=>World.putObj_heap_other (by omega)⟩
theorem getElem?_set_cases {α:Type} (l:List α) (b k:Nat) (x y:α) (h:(l.set b x)[k]? = some y):(k=b∧y=x∧b<l.length)∨(k≠b∧l[k]? = some y):=by
 rw[List.getElem?_set] at h;by_cases e:b=k
 · subst e;rw[if_pos rfl] at h;split at h
   · injection h with h;exact .inl ⟨rfl,h.symm,by assumption⟩
   · cases h
 · rw[if_neg e] at h;exact .inr ⟨fun x=>e x.symm,h⟩
theorem Sim.put (h:Sim fm CR G w0 st w) {b r:Nat} {o o':HO} {ob':Obj} (ho:st.heap[b]? = some o) (hg:o.cb=false) (hm:G.mu b=some r)
 (hbase:st.base≤b) (hr:cS fm CR G b o' ob') (hg':o'.cb=false) (hl:o.mP=true→o'.mP=true) :
 Sim fm CR G w0 { st with heap:=st.heap.set b o' } (w.putObj r ob'):=by
 obtain⟨r',ob,h1,h2,h3,h4⟩:=h.obj b o ho hg (h.np hm);obtain rfl:r'=r:=by rw[h1] at hm;exact aab.inj hm
 have hlt:=get?_lt h2;have hp:=fun k=>eG w r' k ob' hlt;refine { bU:=?_,bQ:=?_,obj:=?_,ro:=?_,dj:=?_,tok:=?_,bw:=h.bw,bt:=h.bt,dfr:=?_,lps:=?_,aG:=?_,below:=?_,base:=h.base,aQ:=h.aQ,bA:=by simpa using h.bA,bj:=?_,env:=h.env }
 · intro k x hk;simpa using h.bU k x hk
 · intro k k' x x' y hk hk' gx gx' mk mk';rcases getElem?_set_cases _ _ _ _ _ hk with ⟨rfl,rfl,_⟩ | ⟨e,hk1⟩<;>rcases getElem?_set_cases _ _ _ _ _ hk' with ⟨rfl,rfl,_⟩ | ⟨e',hk1'⟩
   · rfl
   · exact h.bQ _ _ _ _ _ ho hk1' hg gx' mk mk'
   · exact h.bQ _ _ _ _ _ hk1 ho gx hg mk mk'
   · exact h.bQ _ _ _ _ _ hk1 hk1' gx gx' mk mk'
 · intro k x hk gx hpd;rcases getElem?_set_cases _ _ _ _ _ hk with ⟨rfl,rfl,_⟩ | ⟨e,hk⟩
   · exact⟨r',ob',h1,by rw[hp];simp,hr,h4⟩
   · obtain⟨r2,ob2,m2,g2,o2,f2⟩:=h.obj k x hk gx hpd;refine⟨r2,ob2,m2,?_,o2,f2⟩;rw[hp,if_neg]
     · exact g2
     · rintro rfl;exact e (h.bQ _ _ _ _ _ hk ho gx hg m2 h1)
 · intro r2 i v hv;obtain⟨cs,t,fz,g2,c2⟩:=h.ro r2 i v hv;refine⟨cs,t,fz,?_,c2⟩;rw[hp,if_neg]
   · exact g2
   · rintro rfl;exact h.dj _ _ _ _ _ hv ho hg h1
 · intro r2 i v k x hv hk gx mk;rcases getElem?_set_cases _ _ _ _ _ hk with ⟨rfl,rfl,_⟩ | ⟨e,hk⟩
   · exact h.dj _ _ _ _ _ hv ho hg mk
   · exact h.dj _ _ _ _ _ hv hk gx mk
 · intro t s ht;obtain⟨r2,len,cap,n,cs,ty,a1,a2,a3,a4,a5,a6,a7,a8⟩:=h.tok t s ht;refine⟨r2,len,cap,n,cs,ty,a1,a2,a3,?_,a5,a6,?_,a8⟩
   · rw[hp,if_neg]
     · exact a4
     · rintro rfl;exact a7 b o ho hg h1
   · intro k x hk gx;rcases getElem?_set_cases _ _ _ _ _ hk with ⟨rfl,rfl,_⟩ | ⟨e,hk⟩
     · exact a7 _ _ ho hg
     · exact a7 _ _ hk gx
 · intro r2 hr2;have:=h.dfr r2 hr2;rw[hp,if_neg]
   · exact this
   · rintro rfl;rw[h2] at this;exact h3.Fv hg (some []) (aab.inj this)
 · intro r2 hr2;obtain⟨l,hl2⟩:=h.lps r2 hr2;by_cases e:r2=r'
   · subst e;rw[h2] at hl2;have:=h3.Ia hg l (aab.inj hl2);obtain⟨l',rfl⟩:=hr.mP (hl this);exact⟨l',by rw[hp];simp⟩
   · exact⟨l,by rw[hp,if_neg e];exact hl2⟩
 · simpa[World.putObj] using h.aG
 · exact h.below.trans (jv _ _ _ (h4 hbase))
 · intro k x hk;obtain⟨p1,p2⟩:=h.bj k x hk;refine⟨?_,p2⟩;have:b≠k:=by rintro rfl;rw[p2] at hm;cases hm
   rw[aaA this];exact p1
def Gh.push (G:Gh) (b r size:Nat):Gh:={ G with mu:=fun k=>if k=b then some r else G.mu k,gsz:=fun k=>if k=b then size else G.gsz k }
theorem Gh.bK {G:Gh} {b r size:Nat} (h:G.mu b=none):G.le (G.push b r size):=
 ⟨⟨fun _ _ _ x=>x,fun k x hk=>by
   have:k≠b:=by rintro rfl;rw[h] at hk;cases hk
   simp[Gh.push,this,hk],fun _ _ _ x=>x,fun k x hk=>by
   have:k≠b:=by rintro rfl;rw[h] at hk;cases hk
   simp[Gh.push,this]⟩,fun _ x=>x,fun _ x=>x,rfl,fun _ _ _=>rfl,rfl,rfl,rfl⟩
theorem Sim.b9 (h:Sim fm CR G w0 st w):G.mu st.heap.length=none:=by
 cases e:G.mu st.heap.length with
 | none=>rfl
 | some r=>exact absurd (h.bU _ _ e) (aa4 _)
theorem getElem?_push_cases {α:Type} (l:List α) (k:Nat) (x y:α) (h:(l++[x])[k]? = some y):(k=l.length∧y=x)∨(k<l.length∧l[k]? = some y):=by
 by_cases e:k<l.length
 · rw[aaj e] at h;exact .inr ⟨e,h⟩
 · rw[aat (by omega)] at h
   have:k-l.length=0:=by
    cases hk:k-l.length with
    | zero=>rfl
    | succ j=>rw[hk] at h;simp at h
   rw[this] at h;simp at h;exact .inl ⟨by omega,h.symm⟩
theorem Sim.push (h:Sim fm CR G w0 st w) {o:HO} {ob:Obj} (size:Nat) (hr:cS fm CR (G.push st.heap.length w.heap.size size) st.heap.length o ob) (hg:o.cb=false) :
 Sim fm CR (G.push st.heap.length w.heap.size size) w0 (st.push o) (w.alloc ob):=by
 have hn:=h.b9;have hle:G.le (G.push st.heap.length w.heap.size size):=Gh.bK hn;have old:∀ r x,w.heap[r]? = some x→(w.alloc ob).heap[r]? = some x:=fun r x hx=>(Below.heap_alloc w ob r (get?_lt hx)).trans hx;have new:(w.alloc ob).heap[w.heap.size]? = some ob:=World.alloc_heap_new w ob;have muOld:∀ k,k<st.heap.length→(G.push st.heap.length w.heap.size size).mu k=G.mu k:=fun k hk=>by simp[Gh.push,Nat.ne_of_lt hk]
 have eL:(G.push st.heap.length w.heap.size size).mu st.heap.length=some w.heap.size:=by simp[Gh.push]
 refine { bU:=?_,bQ:=?_,obj:=?_,ro:=?_,dj:=?_,tok:=?_,bw:=h.bw,bt:=h.bt,dfr:=?_,lps:=?_,aG:=?_,below:=?_,base:=h.base,aQ:=h.aQ,bA:=by have:=h.bA;simp only[St.push,aah];omega,bj:=?_,env:=h.env }
 · intro k x hk;simp only[St.push,aah,aax,aaP];by_cases e:k=st.heap.length
   · omega
   · have:G.mu k=some x:=by simpa[Gh.push,e] using hk
     have:=h.bU _ _ this;omega
 · intro k k' x x' y hk hk' gx gx' mk mk';rcases getElem?_push_cases _ _ _ _ hk with ⟨rfl,rfl⟩ | ⟨e,hk1⟩<;>rcases getElem?_push_cases _ _ _ _ hk' with ⟨rfl,rfl⟩ | ⟨e',hk1'⟩
   · rfl
   · rw[eL] at mk;rw[muOld _ e'] at mk';obtain⟨r2,ob2,m2,g2,_⟩:=h.obj _ _ hk1' gx' (h.np mk');rw[mk'] at m2;cases m2;cases mk;exact absurd (get?_lt g2) (aa4 _)
   · rw[eL] at mk';rw[muOld _ e] at mk;obtain⟨r2,ob2,m2,g2,_⟩:=h.obj _ _ hk1 gx (h.np mk);rw[mk] at m2;cases m2;cases mk';exact absurd (get?_lt g2) (aa4 _)
   · rw[muOld _ e] at mk;rw[muOld _ e'] at mk';exact h.bQ _ _ _ _ _ hk1 hk1' gx gx' mk mk'
 · intro k x hk gx hpd;rcases getElem?_push_cases _ _ _ _ hk with ⟨rfl,rfl⟩ | ⟨e,hk⟩
   · exact⟨_,_,eL,new,hr,fun _=>h.aG⟩
   · obtain⟨r2,ob2,m2,g2,o2,f2⟩:=h.obj _ _ hk gx hpd;exact⟨r2,ob2,by rw[muOld _ e];exact m2,old _ _ g2,o2.le hle m2,f2⟩
 · intro r i v hv;obtain⟨cs,t,fz,g2,c2⟩:=h.ro r i v hv;exact⟨cs,t,fz,old _ _ g2,c2⟩
 · intro r i v k x hv hk gx mk;rcases getElem?_push_cases _ _ _ _ hk with ⟨rfl,rfl⟩ | ⟨e,hk⟩
   · rw[eL] at mk;cases mk;obtain⟨cs,t,fz,g2,_⟩:=h.ro _ _ _ hv;exact absurd (get?_lt g2) (aa4 _)
   · rw[muOld _ e] at mk;exact h.dj _ _ _ _ _ hv hk gx mk
 · intro t s ht;obtain⟨r2,len,cap,n,cs,ty,a1,a2,a3,a4,a5,a6,a7,a8⟩:=h.tok t s ht;refine⟨r2,len,cap,n,cs,ty,a1,a2,a3,old _ _ a4,a5,a6,?_,a8⟩;intro k x hk gx;rcases getElem?_push_cases _ _ _ _ hk with ⟨rfl,rfl⟩ | ⟨e,hk⟩
   · rw[eL];intro e;cases e;exact absurd (get?_lt a4) (aa4 _)
   · rw[muOld _ e];exact a7 _ _ hk gx
 · exact fun r hr=>old _ _ (h.dfr r hr)
 · intro r hr;obtain⟨l,hl⟩:=h.lps r hr;exact⟨l,old _ _ hl⟩
 · have h1:=h.aG;have h2:(G.push st.heap.length w.heap.size size).floor=G.floor:=rfl;rw[h2];simp;omega
 · exact h.below.alloc h.aG ob
 · intro k x hk;obtain⟨p1,p2⟩:=h.bj k x hk;have hlt:=(aae.1 p1).1;exact⟨by simp only[St.push];rw[aaj hlt];exact p1,(muOld k hlt).trans p2⟩
def Gh.my (G:Gh) (r:Nat):Gh:={ G with dfr:=fun k=>G.dfr k∨k=r }
theorem Gh.q9 (G:Gh) (r:Nat):G.le (G.my r):=⟨⟨fun _ _ _ x=>x,fun _ _ x=>x,fun _ _ _ x=>x,fun _ _ _=>rfl⟩,fun _ x=>.inl x,fun _ x=>x,rfl,fun _ _ _=>rfl,rfl,rfl,rfl⟩
theorem cS.sub {G':Gh} (h:G.sub G') {b r:Nat} (hb:G.mu b=some r) {o:HO} {ob:Obj} (k:cS fm CR G b o ob):cS fm CR G' b o ob:=by
 cases o with
 | cells g vs=>
   cases g with
   | plain=>obtain⟨cs,t,fz,h1,h2,h3,h4,h5⟩:=k;exact⟨cs,t,fz,h1,h2,fun i hi=>(h3 i hi).sub h,h4,h5⟩
   | typed ty=>obtain⟨cs,t,fz,h1,h0,h2,h3,h4,h5⟩:=k;exact⟨cs,t,fz,h1,h0,h2,fun i hi=>(h3 i hi).sub h,h4,h5⟩
   | frz ty=>obtain⟨cs,t,fz,h1,h0,h2,h3,h4,h5,h6⟩:=k;exact⟨cs,t,fz,h1,h0,h2,h3.trans (h.gsz _ _ hb).symm,fun i hi=>(h4 i hi).sub h,h5,h6⟩
   | grown=>obtain⟨cs,t,fz,h1,h2,h3,h4,h5,h6⟩:=k;exact⟨cs,t,fz,h1,h2,h3.trans (h.gsz _ _ hb).symm,fun i hi=>(h4 i hi).sub h,h5,h6⟩
 | map es=>
   obtain⟨en,ck,h1,h2,h3⟩:=k;refine⟨en,ck,h1,h2,fun i k v hi=>?_⟩;obtain⟨e,he,hk,hv⟩:=h3 i k v hi;exact⟨e,he,hk.sub h,hv.sub h⟩
 | loop lo=>obtain⟨l,h1,h2,h3,h4,h5,h6,h7⟩:=k;exact⟨l,h1,h2,h3,h4,h5,h6,fun t=>(h7 t).sub h⟩
 | gone=>trivial
theorem Sim.notes {G':Gh} (h:Sim fm CR G w0 st w) (hro:G'.ro=G.ro) (hmu:G'.mu=G.mu) (hh:G'.bt=G.bt) (hg:G'.gsz=G.gsz) (hf:G'.floor=G.floor) (hb:G'.base=G.base) (ht:G'.aQ=G.aQ) (hpe:G'.bj=G.bj)
 (hd:∀ r,G'.dfr r→w.heap[r]? = some (.deferred (some []))) (hl:∀ r,G'.lps r→∃ l,w.heap[r]? = some (.loop l)):Sim fm CR G' w0 st w:=by
 have hs:G.sub G':=⟨fun r i v x=>by rw[hro];exact x,fun b r x=>by rw[hmu];exact x,fun t s x y=>by rw[hh];exact y,fun b r _=>by rw[hg]⟩;refine { bU:=?_,bQ:=?_,obj:=?_,ro:=?_,dj:=?_,tok:=?_,bw:=?_,bt:=?_,dfr:=hd,lps:=hl,aG:=?_,below:=?_,base:=?_,aQ:=?_,bA:=h.bA,bj:=by rw[hpe,hmu];exact h.bj,env:=by rw[hf];exact h.env }
 · rw[hmu];exact h.bU
 · rw[hmu];exact h.bQ
 · intro b o ho hgn hpd;obtain⟨r,ob,h1,h2,h3,h4⟩:=h.obj b o ho hgn (by rw[← hpe];exact hpd);exact⟨r,ob,by rw[hmu];exact h1,h2,h3.sub hs h1,by rw[hf];exact h4⟩
 · rw[hro];exact h.ro
 · rw[hro,hmu];exact h.dj
 · rw[hro,hmu,hh,hf];exact h.tok
 · rw[hh];exact h.bw
 · rw[hh];exact h.bt
 · rw[hf];exact h.aG
 · rw[hf];exact h.below
 · rw[hb];exact h.base
 · rw[ht];exact h.aQ
theorem Sim.my (h:Sim fm CR G w0 st w) {r:Nat} (hr:w.heap[r]? = some (.deferred (some []))):Sim fm CR (G.my r) w0 st w:=
 h.notes rfl rfl rfl rfl rfl rfl rfl rfl (fun k hk=>by rcases hk with hk | rfl;exact h.dfr k hk;exact hr) h.lps
def Gh.o8 (G:Gh) (r:Nat):Gh:={ G with lps:=fun k=>G.lps k∨k=r }
theorem Gh.CH (G:Gh) (r:Nat):G.le (G.o8 r):=⟨⟨fun _ _ _ x=>x,fun _ _ x=>x,fun _ _ _ x=>x,fun _ _ _=>rfl⟩,fun _ x=>x,fun _ x=>.inl x,rfl,fun _ _ _=>rfl,rfl,rfl,rfl⟩
theorem Sim.o8 (h:Sim fm CR G w0 st w) {r:Nat} {l:Loop} (hr:w.heap[r]? = some (.loop l)):Sim fm CR (G.o8 r) w0 st w:=
 h.notes rfl rfl rfl rfl rfl rfl rfl rfl h.dfr (fun k hk=>by rcases hk with hk | rfl;exact h.lps k hk;exact⟨l,hr⟩)
def Gh.hold (G:Gh) (b:Nat) (o:HO):Gh:={ G with bj:=fun k=>if k=b then some o else G.bj k }
theorem Gh.vS (G:Gh) (b:Nat) (o:HO):G.leP (G.hold b o):=⟨⟨fun _ _ _ x=>x,fun _ _ x=>x,fun _ _ _ x=>x,fun _ _ _=>rfl⟩,fun _ x=>x,fun _ x=>x,rfl,fun _ _ _=>rfl,rfl,rfl⟩
theorem Sim.Kf (h:Sim fm CR G w0 st w) {b:Nat} (hb:st.heap.length≤b):G.bj b=none:=by
 cases e:G.bj b with
 | none=>rfl
 | some o=>have:=(aae.1 (h.bj b o e).1).1;omega
theorem Sim.hold (h:Sim fm CR G w0 st w) (o:HO) (hg:o.cb=false):Sim fm CR (G.hold st.heap.length o) w0 (st.push o) w:=by
 have hn:=h.b9;have hsub:=(G.vS st.heap.length o).toSub;refine { bU:=?_,bQ:=?_,obj:=?_,ro:=h.ro,dj:=?_,tok:=?_,bw:=h.bw,bt:=h.bt,dfr:=h.dfr,lps:=h.lps,aG:=h.aG,below:=h.below,base:=h.base,aQ:=h.aQ,bA:=by have:=h.bA;simp only[St.push,aah];omega,bj:=?_,env:=h.env }
 · intro k x hk;have:=h.bU k x hk;simp only[St.push,aah,aax,aaP];omega
 · intro k k' x x' y hk hk' gx gx' mk mk';have mk0:G.mu k=some y:=mk;have mk0':G.mu k'=some y:=mk';rcases getElem?_push_cases _ _ _ _ hk with ⟨rfl,rfl⟩ | ⟨e,hk1⟩
   · rw[hn] at mk0;cases mk0
   · rcases getElem?_push_cases _ _ _ _ hk' with ⟨rfl,rfl⟩ | ⟨e',hk1'⟩
     · rw[hn] at mk0';cases mk0'
     · exact h.bQ _ _ _ _ _ hk1 hk1' gx gx' mk0 mk0'
 · intro k x hk gx hpd;simp only[Gh.hold] at hpd;split at hpd
   · cases hpd
   · rename_i hne;rcases getElem?_push_cases _ _ _ _ hk with ⟨rfl,rfl⟩ | ⟨e,hk1⟩
     · exact absurd rfl hne
     · obtain⟨r2,ob2,m2,g2,o2,f2⟩:=h.obj _ _ hk1 gx hpd;exact⟨r2,ob2,m2,g2,o2.sub hsub m2,f2⟩
 · intro r i v k x hv hk gx mk;have mk0:G.mu k=some r:=mk;rcases getElem?_push_cases _ _ _ _ hk with ⟨rfl,rfl⟩ | ⟨e,hk1⟩
   · rw[hn] at mk0;cases mk0
   · exact h.dj _ _ _ _ _ hv hk1 gx mk0
 · intro t s ht;obtain⟨r2,len,cap,n,cs,ty,a1,a2,a3,a4,a5,a6,a7,a8⟩:=h.tok t s ht;refine⟨r2,len,cap,n,cs,ty,a1,a2,a3,a4,a5,a6,?_,a8⟩;intro k x hk gx;rcases getElem?_push_cases _ _ _ _ hk with ⟨rfl,rfl⟩ | ⟨e,hk1⟩
   · show G.mu _≠_;rw[hn];intro e;cases e
   · exact a7 _ _ hk1 gx
 · intro k x hk;simp only[Gh.hold] at hk;split at hk
   · rename_i e;subst e;cases hk;exact⟨by simp[St.push],hn⟩
   · obtain⟨p1,p2⟩:=h.bj k x hk;have hlt:=(aae.1 p1).1;exact⟨by simp only[St.push];rw[aaj hlt];exact p1,p2⟩
def Gh.settle (G:Gh) (b r:Nat):Gh:={ G with mu:=fun k=>if k=b then some r else G.mu k,bj:=fun k=>if k=b then none else G.bj k }
theorem Gh.oL {G:Gh} {b r:Nat} (h:G.mu b=none):G.leP (G.settle b r):=
 ⟨⟨fun _ _ _ x=>x,fun k x hk=>by
   have:k≠b:=by rintro rfl;rw[h] at hk;cases hk
   simp[Gh.settle,this,hk],fun _ _ _ x=>x,fun _ _ _=>rfl⟩,fun _ x=>x,fun _ x=>x,rfl,fun _ _ _=>rfl,rfl,rfl⟩
theorem Sim.settle (h:Sim fm CR G w0 st w) {b:Nat} {o:HO} {ob:Obj} (hp:G.bj b=some o) (hr:cS fm CR (G.settle b w.heap.size) b o ob) :
 Sim fm CR (G.settle b w.heap.size) w0 st (w.alloc ob):=by
 obtain⟨hb,hn⟩:=h.bj b o hp;have hsub:G.sub (G.settle b w.heap.size):=(Gh.oL hn).toSub;have old:∀ r x,w.heap[r]? = some x→(w.alloc ob).heap[r]? = some x:=fun r x hx=>(Below.heap_alloc w ob r (get?_lt hx)).trans hx;have new:(w.alloc ob).heap[w.heap.size]? = some ob:=World.alloc_heap_new w ob;have muOld:∀ k,k≠b→(G.settle b w.heap.size).mu k=G.mu k:=fun k hk=>by simp[Gh.settle,hk]
 have eL:(G.settle b w.heap.size).mu b=some w.heap.size:=by simp[Gh.settle]
 have fresh:∀ k x,st.heap[k]? = some x→x.cb=false→G.mu k≠some w.heap.size:=by
  intro k x hk gx e;obtain⟨r2,ob2,m2,g2,_⟩:=h.obj _ _ hk gx (h.np e);rw[e] at m2;cases m2;exact absurd (get?_lt g2) (aa4 _)
 refine { bU:=?_,bQ:=?_,obj:=?_,ro:=?_,dj:=?_,tok:=?_,bw:=h.bw,bt:=h.bt,dfr:=?_,lps:=?_,aG:=?_,below:=?_,base:=h.base,aQ:=h.aQ,bA:=h.bA,bj:=?_,env:=h.env }
 · intro k x hk;by_cases e:k=b
   · subst e;exact(aae.1 hb).1
   · rw[muOld k e] at hk;exact h.bU k x hk
 · intro k k' x x' y hk hk' gx gx' mk mk';by_cases e:k=b<;>by_cases e':k'=b
   · rw[e,e']
   · rw[e,eL] at mk;rw[muOld _ e'] at mk';cases mk;exact absurd mk' (fresh _ _ hk' gx')
   · rw[e',eL] at mk';rw[muOld _ e] at mk;cases mk';exact absurd mk (fresh _ _ hk gx)
   · rw[muOld _ e] at mk;rw[muOld _ e'] at mk';exact h.bQ _ _ _ _ _ hk hk' gx gx' mk mk'
 · intro k x hk gx hpd;by_cases e:k=b
   · subst e;rw[hb] at hk;cases hk;exact⟨_,_,eL,new,hr,fun _=>h.aG⟩
   · have hpd':G.bj k=none:=by simpa[Gh.settle,e] using hpd
     obtain⟨r2,ob2,m2,g2,o2,f2⟩:=h.obj _ _ hk gx hpd';exact⟨r2,ob2,by rw[muOld _ e];exact m2,old _ _ g2,o2.sub hsub m2,f2⟩
 · intro r i v hv;obtain⟨cs,t,fz,g2,c2⟩:=h.ro r i v hv;exact⟨cs,t,fz,old _ _ g2,c2⟩
 · intro r i v k x hv hk gx mk;by_cases e:k=b
   · rw[e,eL] at mk;cases mk;obtain⟨cs,t,fz,g2,_⟩:=h.ro _ _ _ hv;exact absurd (get?_lt g2) (aa4 _)
   · rw[muOld _ e] at mk;exact h.dj _ _ _ _ _ hv hk gx mk
 · intro t s ht;obtain⟨r2,len,cap,n,cs,ty,a1,a2,a3,a4,a5,a6,a7,a8⟩:=h.tok t s ht;refine⟨r2,len,cap,n,cs,ty,a1,a2,a3,old _ _ a4,a5,a6,?_,a8⟩;intro k x hk gx;by_cases e:k=b
   · rw[e,eL];intro e2;cases e2;exact absurd (get?_lt a4) (aa4 _)
   · rw[muOld _ e];exact a7 _ _ hk gx
 · exact fun r hr=>old _ _ (h.dfr r hr)
 · intro r hr;obtain⟨l,hl⟩:=h.lps r hr;exact⟨l,old _ _ hl⟩
 · have h1:=h.aG;have h2:(G.settle b w.heap.size).floor=G.floor:=rfl;rw[h2];simp;omega
 · exact h.below.alloc h.aG ob
 · intro k x hk;by_cases e:k=b
   · subst e;simp[Gh.settle] at hk
   · have hk':G.bj k=some x:=by simpa[Gh.settle,e] using hk
     obtain⟨p1,p2⟩:=h.bj k x hk';exact⟨p1,(muOld k e).trans p2⟩
end Go.D
end
section
namespace Go.D
open Go.RowKit
def cW (pf:Nat→Bool) (rs:List ak) (i:Nat):Bool:=match rs[i]? with | some r=>aH pf r.op | none=>false
def aq (pf:Nat→Bool) (rs:List ak):Nat→Nat
 | 0=>0
 | i+1=>aq pf rs i+if cW pf rs i=true then 1 else 0
def cu:ROp→Bool
 | .mv _ | .pick .. | .build .. | .aX _ | .bin .. | .eq .. | .un .. | .i2i .. | .i2s _ | .same _ | .gD .. | .slice .. | .gU .. | .field .. | .aY .. | .cA .. | .index .. | .jE .. | .extract .. | .iface .. | .gR _ | .gM .. | .sliceB .. | .xh _ | .cap _ | .max _ | .min _ | .got .. | .fail=>true
 | _=>false
def jH (P:Program) (fm:FM) (op:ROp) (o:Oper):Prop:=
 ∀ (CR:Nat→RC→Code→Prop) (G:Gh) (w0:World) (st:St) (w:World) (fr:Fr) (a:Act) (b:Nat) (v:DV) (ob:HO),Sim fm CR G w0 st w→cG fm G fr a.tmps→je op fr b=some (v,ob) →
   ob.cb=false∧∃ obm x nx,(execOp a.eval o).run P w=.ok nx (w.alloc obm)∧yq nx x∧∀ G':Gh,G'.mu b=some w.heap.size→cS fm CR G' b ob obm∧Rel fm G' v x
structure nD (T:Tab) (rs:List ak) (chk:List (Nat×List Nat)) (ops:Array Oper) (anc:Nat→List Nat):Prop where
 AR:∀ (j:Nat) (o:Oper),ops[j]? = some o→∀ i∈anc j,i<j∧∃ e∈o.after.toList,Region.binds .any e=true∧(e.on=i∨(e.on<j∧i∈anc e.on))
 rr:∀ (j:Nat) (o:Oper),ops[j]? = some o→∀ e∈o.after.toList,Region.binds .any e=true→e.on<j
 iY:∀ (j:Nat) (vs:List Nat) (r:ak),(j,vs)∈chk→rs[j]? = some r→∀ (i t:Nat) (r':ak),rs[i]? = some r'→r'.dst=some t→t∈r.reads→i<j
 tO:∀ (i j:Nat) (r r':ak),i<j→rs[i]? = some r→rs[j]? = some r'→aH (al T) r.op=true→aH (al T) r'.op=true→i∈anc j
 gj:∀ (i j t:Nat) (r r':ak),i≠j→rs[i]? = some r→rs[j]? = some r'→r.dst=some t→r'.dst≠some t
 ku:∀ (i j t:Nat) (r r':ak),rs[i]? = some r→rs[j]? = some r'→r.dst=some t→t∈r'.reads→i≠j∧(i<j→i∈anc j)∧(j<i→j∈anc i)
 cover:∀ (j v:Nat) (r:ak),rs[j]? = some r→aH (al T) r.op=false→cu r.op=false →
  (∀ (i:Nat) (r':ak),rs[i]? = some r'→aH (al T) r'.op=true→i∈anc j→aq (al T) rs i<v) →
  (∀ (i:Nat) (r':ak),rs[i]? = some r'→aH (al T) r'.op=true→j∈anc i→v≤aq (al T) rs i) →
  v≤aq (al T) rs rs.length→v=aq (al T) rs j∨∃ vs,(j,vs)∈chk∧v∈vs∧r.dst.isSome=true
structure Jn (P:Program) (fm:FM) (T:Tab) (N:Nat) (rs:List ak) (hs:List Nat) (chk:List (Nat×List Nat)) (ops:Array Oper) (anc:Nat→List Nat):Prop where
 rel:sX P fm N rs ops
 free:∀ (j:Nat) (r:ak) (o:Oper),j∈hs→rs[j]? = some r→ops[j]? = some o→jH P fm r.op o
 rest:nD T (lH hs 0 rs) chk ops anc
def Alike (pf:Nat→Bool) (as_ bs:List ak):Prop:=
 as_.length=bs.length∧∀ (i:Nat) (a b:ak),as_[i]? = some a→bs[i]? = some b→a.dst=b.dst∧a.reads=b.reads∧aH pf a.op=aH pf b.op∧cu a.op=cu b.op
theorem Alike.get {pf:Nat→Bool} {as_ bs:List ak} (h:Alike pf as_ bs) {i:Nat} {b:ak} (hb:bs[i]? = some b):∃ a,as_[i]? = some a∧a.dst=b.dst∧a.reads=b.reads∧aH pf a.op=aH pf b.op∧cu a.op=cu b.op:=by
 have hi:=(aae.1 hb).1;have:i<as_.length:=by rw[h.1];exact hi
 exact⟨as_[i],aaa this,h.2 i _ b (aaa this) hb⟩
theorem Alike.cW {pf:Nat→Bool} {as_ bs:List ak} (h:Alike pf as_ bs) (i:Nat):cW pf as_ i=cW pf bs i:=by
 unfold Go.D.cW
 cases hb:bs[i]? with
 | none=>
   have:as_[i]? = none:=by rw[List.getElem?_eq_none_iff] at hb ⊢;rw[h.1];exact hb
   rw[this]
 | some b=>
   obtain⟨a,ha,_,_,h3,_⟩:=h.get hb;rw[ha];exact h3
theorem Alike.aq {pf:Nat→Bool} {as_ bs:List ak} (h:Alike pf as_ bs):∀ i,aq pf as_ i=aq pf bs i
 | 0=>rfl
 | i+1=>by simp only[Go.D.aq,h.aq i,h.cW i]
theorem nD.alike {T:Tab} {as_ bs:List ak} {chk:List (Nat×List Nat)} {ops:Array Oper} {anc:Nat→List Nat} (h:nD T as_ chk ops anc) (k:Alike (al T) as_ bs):nD T bs chk ops anc where
 AR:=h.AR
 rr:=h.rr
 iY:=by
  intro j vs r hc hr i t r' hr' hd ht;obtain⟨a,ha,d1,d2,_⟩:=k.get hr;obtain⟨a',ha',e1,e2,_⟩:=k.get hr';exact h.iY j vs a hc ha i t a' ha' (e1.trans hd) (d2 ▸ ht)
 tO:=by
  intro i j r r' hij hr hr' hl hl';obtain⟨a,ha,_,_,d3,_⟩:=k.get hr;obtain⟨a',ha',_,_,e3,_⟩:=k.get hr';exact h.tO i j a a' hij ha ha' (d3.trans hl) (e3.trans hl')
 gj:=by
  intro i j t r r' hij hr hr' hd;obtain⟨a,ha,d1,_⟩:=k.get hr;obtain⟨a',ha',e1,_⟩:=k.get hr';rw[← e1];exact h.gj i j t a a' hij ha ha' (d1.trans hd)
 ku:=by
  intro i j t r r' hr hr' hd ht;obtain⟨a,ha,d1,_⟩:=k.get hr;obtain⟨a',ha',_,e2,_⟩:=k.get hr';exact h.ku i j t a a' ha ha' (d1.trans hd) (e2 ▸ ht)
 cover:=by
  intro j v r hr hl hsl hlow hup hv;obtain⟨a,ha,d1,d2,d3,d4⟩:=k.get hr;have:=h.cover j v a ha (d3.trans hl) (d4.trans hsl) ?_ ?_ (by rw[k.1,k.aq];exact hv)
  · rw[k.aq,d1] at this;exact this
  · intro i r' hr' hl' hi;have hi2:=(aae.1 hr').1;have hb:bs[i]? = some (bs[i]'(by rw[← k.1];exact hi2)):=aaa _;have:=(k.2 i r' _ hr' hb).2.2.1;rw[k.aq];exact hlow i _ hb (this ▸ hl') hi
  · intro i r' hr' hl' hi;have hi2:=(aae.1 hr').1;have hb:bs[i]? = some (bs[i]'(by rw[← k.1];exact hi2)):=aaa _;have:=(k.2 i r' _ hr' hb).2.2.1;rw[k.aq];exact hup i _ hb (this ▸ hl') hi
def hZ (P:Program) (fm:FM) (T:Tab) (N:Nat):RC→Code→Prop
 | .skip,c=>c=.skip∨∃ l,c=.label l
 | .region ops _,c=>∃ id oops,c=.region id oops false∧sX P fm N ops oops
 | .av ops hs chk _,c=>∃ id oops anc,c=.region id oops true∧Jn P fm T N ops hs chk oops anc
 | .seq a b,c=>∃ x y,c=.seq x y∧hZ P fm T N a x∧hZ P fm T N b y
 | .cond x a b,c=>∃ o y z,c=.cond o y z∧bu fm x o∧hZ P fm T N a y∧hZ P fm T N b z
 | .block id a,c=>∃ x,c=.block id x∧hZ P fm T N a x
 | .loop _ a,c=>∃ x,c=.loop x∧hZ P fm T N a x
 | .exit id,c=>c=.exit id
 | .ret,c=>c=.ret
 | .stuck,_=>True
 | .gK f ps as_ bo _,c=>∃ o qs x y,c=.rangeFunc o qs x y∧bu fm f o∧qs.toList=ps∧(∀ p∈ps,p<N)∧hZ P fm T N as_ x∧hZ P fm T N bo y
def ik (P:Program) (ty:TypeId) (n:Nat) (ag:Bool):Prop:=
 (∃ d,P.underlying ty=some d∧(match d with | .struct _ | .array _ _=>true | _=>false)=ag)∧(∃ i,P.info? ty=some i∧i.size=n)∧(ag=false→n=1)
def lh (P:Program):fa→ResultVar→Prop
 | .t n,.tmp m=>n=m
 | .cell a n ag,.cell b ty=>a=b∧ik P ty n ag
 | _,_=>False
def cN (fm:FM) (G:Gh) (vs:List DV) (cs:Array Value):Prop:=
 cs.size=vs.length∧∀ i (h:i<vs.length),Rel fm G (vs[i]) (cs.getD i undef)
def lp (P:Program) (f:FuncId) (args:Array Value) (w:World) (R:Value→World→Prop):Prop:=
 ∃ f',(callFunc f args).run P w=.ok (.enter f' args) w∧CallsIn Fence.wide 0 P f' args w (fun e w'=>∃ x,e=.returned x∧R x w')
def wY (P:Program) (f:FuncId) (args:Array Value) (w:World) (R:Value→World→Prop):Prop:=
 lp P f args w R∨∃ x w',(callFunc f args).run P w=.ok (.value x) w'∧R x w'
def vf (P:Program) (t:Target) (args:Array Value) (w:World) (R:Value→World→Prop):Prop:=
 (∃ f' a',(invoke t args).run P w=.ok (.enter f' a') w∧CallsIn Fence.wide 0 P f' a' w (fun e w'=>∃ x,e=.returned x∧R x w')) ∨
 (∃ x w',(invoke t args).run P w=.ok (.value x) w'∧R x w') ∨
 ∃ l f tmps as_ bo w1,(invoke t args).run P w=.ok (.round l f tmps as_ bo) w1∧RoundIn Fence.wide 0 P l f tmps as_ bo w1 (fun e w'=>∃ x,e=.returned x∧R x w')
section
variable (P:Program) (fm:FM) (T:Tab)
abbrev bT (G:Gh) (w0:World) (st:St) (w:World):Prop:=Sim fm (hZ P fm T) G w0 st w
def fE (p:List DV→St→Option (DV×St)) (f:FuncId):Prop:=
 ∀ (G:Gh) (w0:World) (st:St) (w:World) (args:List DV) (args':Array Value) (v:DV) (st':St),bT P fm T G w0 st w→cN fm G args args'→p args st=some (v,st') →
   wY P f args' w fun x w'=>∃ G',G.le G'∧bT P fm T G' w0 st' w'∧Rel fm G' v x
def eo:Def→FuncId→Prop
 | .code F,f=>∃ fn c,(∀ (args:Array Value) (w:World),(callFunc f args).run P w=.ok (.enter f args) w)∧P.funcs[f]? = some fn∧fn.body=some c∧hZ P fm T fn.ntmps F.body c ∧
  fn.results.toList.length=F.results.length∧∀ (i:Nat) (a:fa) (b:ResultVar),F.results[i]? = some a→fn.results.toList[i]? = some b→lh P a b
 | .g9 p,f=>fE P fm T p f
 | .dy p,f=>fE P fm T (fun as_ st=>(p as_).map fun v=>(v,st)) f
def dn:Prop:=∀ g d f,T g=some d→fm g=some f→eo P fm T d f
def fen:Option Nat→Fence
 | none=>Fence.wide
 | some l=>Fence.wide.inRound l
def Ay (G:Gh):Option Nat→Prop
 | none=>True
 | some l=>G.lps l
def kH (G:Gh) (D0:Nat→Prop) (ds:List Deferred):Prop:=
 ∃ rs:List Nat,ds=rs.map (fun r=>{ target:=.collected r,args:=#[] })∧rs.Nodup∧∀ r∈rs,G.dfr r∧¬ D0 r∧G.floor≤r
def im:Ex→Exit→Prop
 | .normal,.normal=>True
 | .exit a,.exit b=>a=b
 | .ret,.ret=>True
 | _,_=>False
def iu (G:Gh) (w0:World) (st:St) (fr:Fr) (ex:Ex) (N:Nat) (D0:Nat→Prop) (e:Exit) (a:Act) (w:World):Prop:=
 im ex e∧∃ G',G.le G'∧bT P fm T G' w0 st w∧cG fm G' fr a.tmps∧N≤a.tmps.size∧kH G' D0 a.defers
structure Good (n:Nat):Prop where
 code:∀ {rc:RC} {c:Code} {N:Nat} {fr:Fr} {st:St} {ex:Ex} {fr':Fr} {st':St} {G:Gh} {w0 w:World} {a:Act} {ro:Option Nat} {D0:Nat→Prop},
  hZ P fm T N rc c→dL T n rc fr st=some (ex,fr',st')→bT P fm T G w0 st w→cG fm G fr a.tmps→N≤a.tmps.size→kH G D0 a.defers→(∀ r,D0 r→G.dfr r)→Ay G ro →
  c.wpIn (fen ro) 0 P (iu P fm T G w0 st' fr' ex N D0) a w
 one:∀ {N:Nat} {ops:Array Oper} {r:ak} {o:Oper} {fr:Fr} {st:St} {v:DV} {st':St} {G:Gh} {w0 w:World} {a:Act} {ro:Option Nat} {K:Act→World→Prop} {Q:Exit→Act→World→Prop},
  l5 P fm N ops r o→cH T n r fr st=some (v,st')→bT P fm T G w0 st w→(∀ t∈r.reads,Rel fm G (fr.get t) (a.tmps.getD t undef)) →
  (∀ x G' w',G.le G'→bT P fm T G' w0 st' w'→Rel fm G' v x→K (a.put o.dst x) w') →
  (if Region.wanted o (yielded ops a.tmps) then o.wpIn (fen ro) 0 P a w K Q else (∀ f,o.about P w a.eval=some f→(fen ro).fn f)∧K (a.put o.dst undef) w)
 fn:∀ {g:Nat} {f:FuncId} {args:List DV} {st:St} {v:DV} {st':St} {G:Gh} {w0 w:World} {args':Array Value},
  fm g=some f→eB T n g args st=some (v,st')→bT P fm T G w0 st w→cN fm G args args' →
  wY P f args' w (fun x w'=>∃ G',G.le G'∧bT P fm T G' w0 st' w'∧Rel fm G' v x) ∧
  (ez T g=true→lp P f args' w (fun x w'=>∃ G',G.le G'∧bT P fm T G' w0 st' w'∧Rel fm G' v x))
 val:∀ {v0:DV} {x0:Value} {args:List DV} {st:St} {v:DV} {st':St} {G:Gh} {w0 w:World} {args':Array Value},
  Rel fm G v0 x0→jX T n v0 args st=some (v,st')→bT P fm T G w0 st w→cN fm G args args' →
  ∃ d,(Deferred.ofValue x0 args').run P w=.ok d w∧vf P d.target d.args w (fun x w'=>∃ G',G.le G'∧bT P fm T G' w0 st' w'∧Rel fm G' v x)
end
end Go.D
end
section
namespace Go.D
open Go.RowKit
variable {P:Program} {fm:FM} {T:Tab}
theorem p8 (ro:Option Nat) (f:FuncId):(fen ro).fn f:=by cases ro<;>trivial
theorem BB (ro:Option Nat):(fen ro).round=ro:=by cases ro<;>rfl
theorem mG (ro:Option Nat):((fen ro).depth.isSome=true→1≤0):=by cases ro<;>(intro h;cases h)
theorem CallsIn.fen {f:FuncId} {args:Array Value} {w:World} {R:Ending→World→Prop} (ro:Option Nat) (h:CallsIn Fence.wide 0 P f args w R):CallsIn (fen ro) 0 P f args w R:=by
 cases ro with
 | none=>exact h
 | some l=>exact Go.CallsIn.inRound l h
theorem RoundIn.fen {l:Nat} {f:FuncId} {tmps:Array Value} {as_ bo:Code} {w:World} {R:Ending→World→Prop} (ro:Option Nat) (h:RoundIn Fence.wide 0 P l f tmps as_ bo w R):RoundIn (fen ro) 0 P l f tmps as_ bo w R:=by
 cases ro with
 | none=>exact h
 | some l=>exact h
theorem rJ {ops:Array Oper} {G:Gh} {fr:Fr} {a:Act} {r:ak} {o:Oper} {b:Bool} (hg:jT ops r.guard o.guard)
 (hr:∀ t∈r.reads,Rel fm G (fr.get t) (a.tmps.getD t undef)) (hw:eb fr r.guard=some b):Region.wanted o (yielded ops a.tmps)=b:=by
 unfold jT at hg;unfold Region.wanted
 cases hr1:r.guard with
 | none=>
   rw[hr1] at hg hw
   cases ho:o.guard with
   | none=>simp only[eb,aab.injEq] at hw;simp[hw]
   | some x=>rw[ho] at hg;exact hg.elim
 | some x=>
   obtain⟨t,want⟩:=x;rw[hr1] at hg hw
   cases ho:o.guard with
   | none=>rw[ho] at hg;exact hg.elim
   | some y=>
     obtain⟨j,want'⟩:=y;rw[ho] at hg;obtain⟨rfl,hd⟩:=hg;have hrel:=hr t (by simp[ak.reads,hr1]);simp only[yielded,hd,Option.bind_some];simp only[eb] at hw;rw[aag] at hrel;generalize fr.get t=v at hw hrel
     cases hx:a.tmps[t]? with
     | none=>
       rw[hx] at hrel;simp only[Option.getD_none] at hrel;cases v<;>try (simp only[reduceCtorEq] at hw;done)
       · cases hrel
       · rename_i vs
         cases vs with
         | nil=>cases hw;try rfl
         | cons _ _=>cases hw
     | some x=>
       rw[hx] at hrel;simp only[abr] at hrel;cases v<;>try (simp only[reduceCtorEq] at hw;done)
       · cases hrel;have hw:some (_==want)=some b:=hw;rw[← aab.inj hw];rfl
       · rename_i vs
         cases vs with
         | nil=>cases hrel;cases hw;rfl
         | cons _ _=>cases hw
theorem gH {a:Act} {G:Gh} {fr:Fr}:∀ {xs:List X} {os:List Operand},kJ fm xs os→(∀ t∈xs.flatMap X.reads,Rel fm G (fr.get t) (a.tmps.getD t undef)) →
 cN fm G (xs.map (X.ev fr)) (os.map a.eval).toArray:=by
 intro xs os h hr;refine⟨by simp[h.1],fun i hi=>?_⟩;have hi':i<xs.length:=by simpa using hi
 have ho:i<os.length:=by rw[h.1];exact hi'
 have hx:=h.2 i xs[i] os[i] (by simp[hi']) (by simp[ho])
 have:Rel fm G (xs[i].ev fr) (a.eval os[i]):=by
  have hk:∀ t∈xs[i].reads,Rel fm G (fr.get t) (a.tmps.getD t undef):=fun t ht=>hr t (aaH.2 ⟨xs[i],by simp,ht⟩);generalize xs[i]=x at hx hk;generalize os[i]=o at hx
  cases x with
  | t n=>cases o<;>simp[bu] at hx;subst hx;exact hk _ (by simp[X.reads])
  | c v=>cases o<;>simp[bu] at hx<;>exact hx G
  | f g=>
    cases o<;>simp[bu] at hx
    exact .fn g [] [] _ #[] #[] hx rfl rfl (fun i hi=>absurd hi (by simp)) (fun i hi=>absurd hi (by simp))
 simpa[Array.getD,hi',ho] using this
theorem Fm {a:Act} {G:Gh} {fr:Fr} {x:X} {o:Operand} (hx:bu fm x o) (hk:∀ t∈x.reads,Rel fm G (fr.get t) (a.tmps.getD t undef)):Rel fm G (x.ev fr) (a.eval o):=by
 cases x with
 | t n=>cases o<;>simp[bu] at hx;subst hx;exact hk _ (by simp[X.reads])
 | c v=>cases o<;>simp[bu] at hx<;>exact hx G
 | f g=>
   cases o<;>simp[bu] at hx
   exact .fn g [] [] _ #[] #[] hx rfl rfl (fun i hi=>absurd hi (by simp)) (fun i hi=>absurd hi (by simp))
theorem j5 {o:Oper} {a:Act} {w:World} {ro:Option Nat} {K:Act→World→Prop} {Q:Exit→Act→World→Prop} {c:Call} (ho:o.op=.call c)
 {d:Deferred} {R:Value→World→Prop} (hd:(resolve a.eval c o.type).run P w=.ok d w) (h:vf P d.target d.args w R) (hK:∀ x w',R x w'→K (a.put o.dst x) w') :
 o.wpIn (fen ro) 0 P a w K Q:=by
 refine⟨fun f _=>p8 ro f,?_⟩;rw[Oper.semAt_eq _ _ _ (by intro c' hc;rw[ho] at hc;cases hc)];unfold execOp;simp only[ho,Sem.run_bind,hd,Result.andThen_ok];rcases h with ⟨f',a',h1,h2⟩ | ⟨x,w',h1,h2⟩ | ⟨l,f,tmps,as_,bo,w1,h1,h2⟩
 · rw[h1];simp only[Oper.uponIn];refine⟨mG ro,(Go.CallsIn.mono (CallsIn.fen ro h2) ?_)⟩;rintro e w'' ⟨x,rfl,hx⟩;exact hK _ _ hx
 · rw[h1];exact hK _ _ h2
 · rw[h1];simp only[Oper.uponIn];refine⟨mG ro,(Go.RoundIn.mono (RoundIn.fen ro h2) ?_)⟩;rintro e w'' ⟨x,rfl,hx⟩;exact hK _ _ hx
theorem BG {f:FuncId} {args:Array Value} {w:World} {R:Value→World→Prop} (h:wY P f args w R):vf P (.fn (.func f) #[]) args w R:=by
 have e:invoke (.fn (.func f) #[]) args=callFunc f args:=by simp[invoke]
 rcases h with ⟨f',h1,h2⟩ | ⟨x,w',h1,h2⟩
 · exact .inl ⟨f',args,by rw[e];exact h1,h2⟩
 · exact .inr (.inl ⟨x,w',by rw[e];exact h1,h2⟩)
theorem HH (as_:Array Operand) (f:Operand→Value):(as_.toList.map f).toArray=as_.map f:=by rw[← Array.toList_map]
theorem cN.append {G:Gh} {vs us:List DV} {cs ds:Array Value} (h:cN fm G vs cs) (k:cN fm G us ds):cN fm G (vs++us) (cs++ds):=by
 refine⟨by simp[h.1,k.1],fun i hi=>?_⟩;by_cases e:i<vs.length
 · have:=h.2 i e;rw[aa0 e];rw[aag] at this ⊢;rw[abi (by rw[h.1];exact e)];exact this
 · have hi2:i-vs.length<us.length:=by simp at hi;omega
   have:=k.2 (i-vs.length) hi2;rw[aaV (by omega)];rw[aag] at this ⊢;rw[Array.getElem?_append_right (by rw[h.1];omega),h.1];exact this
theorem lr {G:Gh} {g:Nat} {first captured:List DV} {x0:Value} {args:List DV} {args':Array Value} {w:World} {R:Value→World→Prop} (hv:Rel fm G (.fn g first captured) x0)
 (hargs:cN fm G args args') (h:∀ f as_,fm g=some f→cN fm G (first++args++captured) as_→wY P f as_ w R) :
 ∃ d,(Deferred.ofValue x0 args').run P w=.ok d w∧vf P d.target d.args w R:=by
 cases hv with
 | fn _ _ _ f fs cs hf h1 h2 hfs hcs=>
   refine⟨{ target:=.fn (.func f) cs,args:=fs++args' },by simp[Deferred.ofValue],?_⟩;have hall:cN fm G (first++args++captured) (fs++args'++cs):=(cN.append (cN.append ⟨h1,hfs⟩ hargs) ⟨h2,hcs⟩);have e:invoke (.fn (.func f) cs) (fs++args')=callFunc f (fs++args'++cs):=by simp[invoke]
   rcases h f _ hf hall with ⟨f',h1,h2⟩ | ⟨x,w',h1,h2⟩
   · exact .inl ⟨f',_,by rw[e];exact h1,h2⟩
   · exact .inr (.inl ⟨x,w',by rw[e];exact h1,h2⟩)
theorem iK {n:Nat} {g:Nat} {args:List DV} {st st':St} {v:DV} (hp:al T g=true) (h:eB T n g args st=some (v,st')):st'=st:=by
 cases n with
 | zero=>simp[eB] at h
 | succ n=>
   simp only[eB] at h;unfold al at hp
   cases hT:T g with
   | none=>rw[hT] at hp;cases hp
   | some d=>
     rw[hT] at hp h
     cases d with
     | g9 p=>cases hp
     | dy p=>
       simp only[aad] at h;obtain⟨_,_,h⟩:=h;cases h;rfl
     | code F=>
       simp only at hp h;simp only[hp,if_true] at h;split at h
       · cases h
       · split at h
         · simp only[aad] at h;obtain⟨_,_,h⟩:=h;cases h;rfl
         · cases h
       · cases h
theorem Cx {op:ROp} {o:Oper} {fr:Fr} {st:St} {v:DV} {st':St} {G:Gh} {w0 w:World} {a:Act} {ro:Option Nat}
 {K:Act→World→Prop} {Q:Exit→Act→World→Prop} (hop:aA P fm op o) (hrun:an st fr op=some (v,st')) (hs:bT P fm T G w0 st w)
 (hro:∀ t∈op.reads,Rel fm G (fr.get t) (a.tmps.getD t undef)) (hnd:∀ c,o.op≠.defer c)
 (hK:∀ x G' w',G.le G'→bT P fm T G' w0 st' w'→Rel fm G' v x→K (a.put o.dst x) w'):o.wpIn (fen ro) 0 P a w K Q:=by
 have hk:cG fm G (fr.bG op.reads) a.tmps:=by
  intro t;rw[Fr.ic];split
  · exact hro t (by assumption)
  · exact .undef _
 have hrun':an st (fr.bG op.reads) op=some (v,st'):=by
  rw[← hrun];exact uA op fun t ht=>by rw[Fr.ic,if_pos ht]
 obtain⟨G',w',x,nx,h1,h2,h3,h4,h5⟩:=hop _ G w0 st w _ a v st' hs hk hrun';refine⟨fun f _=>p8 ro f,?_⟩;rw[Oper.semAt_eq _ _ _ hnd,h1];rcases h2 with rfl | ⟨rfl,rfl⟩
 · exact hK _ _ _ h3 h4 h5
 · exact hK _ _ _ h3 h4 h5
theorem E9 (n:Nat) (hn:Good P fm T n) {N:Nat} {ops:Array Oper} {r:ak} {o:Oper} {fr:Fr} {st:St} {v:DV} {st':St} {G:Gh} {w0 w:World} {a:Act} {ro:Option Nat}
 {K:Act→World→Prop} {Q:Exit→Act→World→Prop} (hrel:l5 P fm N ops r o) (hrun:cH T (n+1) r fr st=some (v,st')) (hs:bT P fm T G w0 st w)
 (hr:∀ t∈r.reads,Rel fm G (fr.get t) (a.tmps.getD t undef)) (hK:∀ x G' w',G.le G'→bT P fm T G' w0 st' w'→Rel fm G' v x→K (a.put o.dst x) w') :
 (if Region.wanted o (yielded ops a.tmps) then o.wpIn (fen ro) 0 P a w K Q else (∀ f,o.about P w a.eval=some f→(fen ro).fn f)∧K (a.put o.dst undef) w):=by
 obtain⟨hdst,hlt,hguard,hnd,hop⟩:=hrel;simp only[cH] at hrun;have hro:∀ t∈r.op.reads,Rel fm G (fr.get t) (a.tmps.getD t undef):=fun t ht=>hr t (by simp[ak.reads,ht]);split at hrun
 · cases hrun
 · rename_i hw;rw[rJ hguard hr hw];injection hrun with hrun;injection hrun with h1 h2;subst h1;subst h2;simp only[if_false,aaq];exact⟨fun f _=>p8 ro f,hK _ G w (.refl G) hs (.tuple [] #[] rfl (fun i hi=>absurd hi (by simp)))⟩
 · rename_i hw;rw[rJ hguard hr hw];simp only[if_true];cases hop':r.op
   case call g args=>
    rw[hop'] at hrun hop hro;obtain⟨c,f,ho,hc,hf,hx⟩:=hop;have hargs:=gH (a:=a) hx hro;obtain⟨hfn,_⟩:=hn.fn hf hrun hs hargs
    have hd:(resolve a.eval c o.type).run P w=.ok { target:=.fn (.func f) #[],args:=(c.args.toList.map a.eval).toArray } w:=by
     unfold resolve;rw[HH];simp[hc,Act.eval,Deferred.ofValue,Sem.run_pure]
    exact j5 ho hd (BG hfn) fun x w' ⟨G',h1,h2,h3⟩=>hK x G' w' h1 h2 h3
   case bz f args=>
    rw[hop'] at hrun hop hro;obtain⟨c,fo,ho,hc,hf,hx⟩:=hop;have hargs:=gH (a:=a) hx fun t ht=>hro t (by simp only[ROp.reads,aaL];exact .inr ht);have hfv:=Fm (a:=a) hf fun t ht=>hro t (by simp only[ROp.reads,aaL];exact .inl ht);obtain⟨d,hd,hinv⟩:=hn.val hfv hrun hs hargs
    have hd':(resolve a.eval c o.type).run P w=.ok d w:=by
     have e:(resolve a.eval c o.type)=Deferred.ofValue (a.eval fo) (c.args.map a.eval):=by unfold resolve;simp only[hc]
     rw[e,← HH];exact hd
    exact j5 ho hd' hinv fun x w' ⟨G',h1,h2,h3⟩=>hK x G' w' h1 h2 h3
   case dp f args=>
    rw[hop'] at hrun hop hro;obtain⟨c,fo,ho,hc,hf,hx⟩:=hop;have hargs:=gH (a:=a) hx fun t ht=>hro t (by simp only[ROp.reads,aaL];exact .inr ht);have hfv:=Fm (a:=a) hf fun t ht=>hro t (by simp only[ROp.reads,aaL];exact .inl ht);simp only at hrun;generalize f.ev fr=v0 at hrun hfv;cases v0<;>simp only[reduceCtorEq] at hrun
    rename_i g first captured;split at hrun
    · obtain⟨d,hd,hinv⟩:=lr hfv hargs fun f' as_ hf' has=>(hn.fn hf' hrun hs has).1
      have hd':(resolve a.eval c o.type).run P w=.ok d w:=by
       have e:(resolve a.eval c o.type)=Deferred.ofValue (a.eval fo) (c.args.map a.eval):=by unfold resolve;simp only[hc]
       rw[e,← HH];exact hd
      exact j5 ho hd' hinv fun x w' ⟨G',h1,h2,h3⟩=>hK x G' w' h1 h2 h3
    · cases hrun
   all_goals
    rw[hop'] at hrun hop hro;simp only at hrun;exact Cx hop hrun hs hro hnd hK
end Go.D
end
section
namespace Go.D
open Go.RowKit
variable {P:Program} {fm:FM} {T:Tab}
theorem Dh {N:Nat} {ops:Array Oper} {rsAll:List ak} (hrel:sX P fm N rsAll ops) {ro:Option Nat} {Q:Exit→Act→World→Prop} {w0:World} :
 ∀ (rs:List ak) (m:Nat),(∀ k,k<m→Good P fm T k)→∀ (i:Nat) (fr:Fr) (st:St) (fr':Fr) (st':St) (G:Gh) (w:World) (a:Act),rsAll.drop i=rs→gO T m rs fr st=some (fr',st') →
   bT P fm T G w0 st w→cG fm G fr a.tmps→N≤a.tmps.size →
   (∀ a' w' G',G.le G'→bT P fm T G' w0 st' w'→cG fm G' fr' a'.tmps→N≤a'.tmps.size→a'.defers=a.defers→Q .normal a' w') →
   wpOpsIn (fen ro) 0 P ops Q (List.range' i (ops.size-i)) a w:=by
 intro rs
 induction rs with
 | nil=>
   intro m _ i fr st fr' st' G w a hd hrun hs hf hN hQ
   have hi:ops.size≤i:=by
    have:=List.drop_eq_nil_iff.1 hd;rw[hrel.1] at this;exact this
   rw[show ops.size-i=0 by omega]
   cases m with
   | zero=>simp[gO] at hrun
   | succ m=>
     simp only[gO,aab.injEq,Prod.mk.injEq] at hrun;obtain⟨rfl,rfl⟩:=hrun;exact hQ a w G (.refl G) hs hf hN rfl
 | cons r rs ih=>
   intro m hm i fr st fr' st' G w a hd hrun hs hf hN hQ
   cases m with
   | zero=>simp[gO] at hrun
   | succ m=>
     have hri:rsAll[i]? = some r:=by
      have:(rsAll.drop i)[0]? = some r:=by rw[hd];rfl
      simpa using this
     have hlt:i<ops.size:=by
      rw[← hrel.1];exact(aae.1 hri).1
     obtain⟨o,ho,hor⟩:=hrel.2 i r hri;rw[show ops.size-i=(ops.size-(i+1))+1 by omega,List.range'_succ];simp only[gO] at hrun;split at hrun
     · rename_i v st1 hone;simp only[wpOpsIn,ho];refine(hm m (by omega)).one (fr:=fr) hor hone hs (fun t _=>hf t) ?_;intro x G1 w1 h1 h2 h3;have hdst:r.dst=o.dst:=hor.1;refine ih m (fun k hk=>hm k (by omega)) (i+1) (fr.put r.dst v) st1 fr' st' G1 w1 (a.put o.dst x) ?_ hrun h2 ?_ ?_ ?_
       · rw[← List.drop_drop,hd];rfl
       · rw[hdst];exact(hf.le h1).put h3 fun t ht=>abm (hor.2.1 t ht) hN
       · rw[wg];exact hN
       · intro a' w' G' g1 g2 g3 g4 g5;exact hQ a' w' G' (h1.trans g1) g2 g3 g4 (g5.trans (put_defers _ _ _))
     · cases hrun
theorem gv (p:Nat→Prop):∀ n,p n→∃ m,p m∧∀ k,p k→m≤k:=by
 intro n
 induction n using Nat.strongRecOn with
 | _ n ih=>
   intro hn;by_cases h:∃ m,m<n∧p m
   · obtain⟨m,hm,hp⟩:=h;exact ih m hm hp
   · exact⟨n,hn,fun k hk=>Nat.le_of_not_lt fun hlt=>h ⟨k,hlt,hk⟩⟩
theorem ox {F:Fence} {n:Nat} {c:Code} {Q:Exit→Act→World→Prop} {a:Act} {w:World} (J:Nat→Act→World→Prop) (k:Nat) (h0:J k a w)
 (round:∀ k a w,J k a w→c.wpIn F n P (Exit.then (fun a' w'=>∃ k',k'<k∧J k' a' w') Q) a w):(Code.loop c).wpIn F n P Q a w:=by
 classical
 let μ:Act→World→Nat:=fun a w=>if h:∃ k,J k a w then Classical.choose (gv (fun k=>J k a w) _ (aaR h)) else 0
 refine wpIn_loop (fun a w=>∃ k,J k a w) μ ⟨k,h0⟩ ?_;intro a w h;have hf:=aaR (gv (fun k=>J k a w) _ (aaR h));refine wpIn_mono (round _ a w hf.1) ?_;intro e a' w' hq;cases e<;>try exact hq
 obtain⟨k',hk,hj⟩:=hq;refine⟨⟨k',hj⟩,?_⟩;have h':∃ k,J k a' w':=⟨k',hj⟩;have hf':=aaR (gv (fun k=>J k a' w') _ (aaR h'));show (if h:∃ k,J k a' w' then _ else 0)<(if h:∃ k,J k a w then _ else 0);rw[dif_pos ⟨k',hj⟩,dif_pos h];exact Nat.lt_of_le_of_lt (hf'.2 _ hj) hk
theorem iu.mono {G G1:Gh} {w0:World} {st:St} {fr:Fr} {ex:Ex} {N:Nat} {D0:Nat→Prop} (h:G.le G1) {e:Exit} {a:Act} {w:World} (k:iu P fm T G1 w0 st fr ex N D0 e a w) :
 iu P fm T G w0 st fr ex N D0 e a w:=by
 obtain⟨h1,G',h2,h3⟩:=k;exact⟨h1,G',h.trans h2,h3⟩
theorem kH.le {G G':Gh} {D0:Nat→Prop} {ds:List Deferred} (h:G.le G') (k:kH G D0 ds):kH G' D0 ds:=by
 obtain⟨rs,h1,h2,h3⟩:=k;exact⟨rs,h1,h2,fun r hr=>⟨h.dfr r (h3 r hr).1,(h3 r hr).2.1,by rw[h.floor];exact(h3 r hr).2.2⟩⟩
theorem Ay.le {G G':Gh} {ro:Option Nat} (h:G.le G') (k:Ay G ro):Ay G' ro:=by
 cases ro with
 | none=>trivial
 | some l=>exact h.lps l k
theorem kA {w:World} {l0:Nat} {L:Loop} (h:w.heap[l0]? = some (.loop L)) (fn:FuncId) (tmps:Array Value) (ps:Array Tmp) (assign body:Code) :
 (Instr.enterLoop fn tmps ps assign body (some l0)).run P w =
  .ok (w.heap.size,[]) (w.alloc (.loop { state:=.ready,pending:=none,fn,tmps,params:=ps,assign,body,defers:=L.defers })):=by
 unfold Instr.enterLoop;simp only[Sem.run_bind,run_getLoop h,run_newObj_alloc,Result.andThen,Sem.run_pure]
theorem yi {G:Gh} {w0 w:World} {st:St} {a:Act} {ro:Option Nat} {D0:Nat→Prop} {N:Nat} {fr0:Fr} {ps:List Nat} {as_ bo:RC} {qs:Array Tmp} {x y:Code} (hs:bT P fm T G w0 st w) (hf:cG fm G fr0 a.tmps)
 (hN:N≤a.tmps.size) (hd:kH G D0 a.defers) (hD0:∀ r,D0 r→G.dfr r) (hro:Ay G ro) (hq:qs.toList=ps) (hp:∀ p∈ps,p<N) (hx:hZ P fm T N as_ x) (hy:hZ P fm T N bo y) (fn:FuncId) :
 ∃ l mark w1 G1,(Instr.enterLoop fn a.tmps qs x y ro).run P w=.ok (l,mark) w1∧G.le G1∧bT P fm T G1 w0 (st.push (.loop ⟨fr0,ps,as_,bo,0,none⟩)) w1∧G1.mu st.heap.length=some l ∧
   kH G1 D0 (mark++a.defers):=by
 cases ro with
 | none=>
   refine⟨_,_,_,(G.my w.heap.size).push st.heap.length (w.heap.size+1) 0,run_enterLoop_outer fn a.tmps qs x y,?_,?_,?_,?_⟩
   · refine(Gh.q9 G w.heap.size).trans (Gh.bK ?_);exact hs.b9
   · have h1:bT P fm T (G.my w.heap.size) w0 st (w.alloc (.deferred (some []))):=(hs.alloc _).my (World.alloc_heap_new w _);have h2:=h1.push (o:=.loop ⟨fr0,ps,as_,bo,0,none⟩) (ob:=.loop { state:=.ready,pending:=none,fn,tmps:=a.tmps,params:=qs,assign:=x,body:=y,defers:=w.heap.size }) 0 ?_ rfl
     · rw[World.size_alloc] at h2;exact h2
     · refine⟨_,rfl,rfl,by simp,.none,hq,⟨N,hN,hp,hx,hy⟩,?_⟩;exact(hf.le (Gh.q9 G w.heap.size)).le (Gh.bK h1.b9)
   · simp[Gh.push]
   · obtain⟨rs,h1,h2,h3⟩:=hd
     have fresh:¬ G.dfr w.heap.size:=fun h=>by
      have:=hs.dfr _ h;exact absurd (get?_lt this) (aa4 _)
     refine⟨w.heap.size::rs,by simp[h1],List.nodup_cons.2 ⟨fun hm=>fresh (h3 _ hm).1,h2⟩,?_⟩;intro r hr;rcases aav.1 hr with rfl | hr
     · exact⟨.inr rfl,fun h=>fresh (hD0 _ h),hs.aG⟩
     · exact⟨.inl (h3 r hr).1,(h3 r hr).2⟩
 | some l0=>
   obtain⟨L,hL⟩:=hs.lps l0 hro;refine⟨_,_,_,G.push st.heap.length w.heap.size 0,kA hL fn a.tmps qs x y,Gh.bK hs.b9,?_,?_,?_⟩
   · refine hs.push 0 ?_ rfl;refine⟨_,rfl,rfl,by simp,.none,hq,⟨N,hN,hp,hx,hy⟩,?_⟩;exact hf.le (Gh.bK hs.b9)
   · simp[Gh.push]
   · exact hd.le (Gh.bK hs.b9)
end Go.D
end
section
namespace Go.D
open Go.RowKit
variable {P:Program} {fm:FM} {T:Tab}
def DF (P:Program) (fm:FM) (T:Tab) (n:Nat):Prop:=
 ∀ {N:Nat} {rs:List ak} {hs:List Nat} {rs2:List ak} {st1:St} {chk:List (Nat×List Nat)} {anc:Nat→List Nat} {ops:Array Oper} {id:Nat} {fr:Fr} {st:St} {fr':Fr} {st':St} {sts:List St} {G:Gh} {w0 w:World} {a:Act} {ro:Option Nat} {D0:Nat→Prop},
   Jn P fm T N rs hs chk ops anc→gI fr hs st rs=some (st1,rs2)→dJ T n rs2 fr st1 [st1]=some (fr',st'::sts)→iG T n fr' rs2 (st'::sts).reverse chk=true→bT P fm T G w0 st w→cG fm G fr a.tmps→N≤a.tmps.size →
   kH G D0 a.defers→(Code.region id ops true).wpIn (fen ro) 0 P (iu P fm T G w0 st' fr' .normal N D0) a w
theorem iu.qR {G:Gh} {w0:World} {st:St} {fr:Fr} {ex:Ex} {N:Nat} {D0:Nat→Prop} {e:Exit} {a:Act} {w:World} {next:Act→World→Prop} (hne:ex≠.normal)
 (k:iu P fm T G w0 st fr ex N D0 e a w):Exit.then next (iu P fm T G w0 st fr ex N D0) e a w:=by
 have hx:=k.1;cases e<;>cases ex<;>simp only[im] at hx<;>first | exact k | exact absurd rfl hne
theorem nW {G1:Gh} {w0 w:World} {st:St} {l r:Nat} {lo:lB} (hs:bT P fm T G1 w0 st w) (hl:st.heap[l]? = some (.loop lo)) (hm:G1.mu l=some r) :
 ∃ L,w.heap[r]? = some (.loop L)∧cS fm (hZ P fm T) G1 l (.loop lo) (.loop L):=by
 obtain⟨r',ob,h1,h2,h3,_⟩:=hs.obj l _ hl rfl (hs.np hm);rw[hm] at h1;cases h1;obtain⟨L,rfl,h4⟩:=h3;exact⟨L,h2,L,rfl,h4⟩
theorem BH (n:Nat) (hall:∀ m,m≤n→Good P fm T m) (hdr:DF P fm T n) {rc:RC} {c:Code} {N:Nat} {fr:Fr} {st:St} {ex:Ex} {fr':Fr} {st':St} {G:Gh} {w0 w:World} {a:Act} {ro:Option Nat} {D0:Nat→Prop}
 (hc:hZ P fm T N rc c) (hrun:dL T (n+1) rc fr st=some (ex,fr',st')) (hs:bT P fm T G w0 st w) (hf:cG fm G fr a.tmps) (hN:N≤a.tmps.size) (hd:kH G D0 a.defers) (hD0:∀ r,D0 r→G.dfr r) (hro:Ay G ro) :
 c.wpIn (fen ro) 0 P (iu P fm T G w0 st' fr' ex N D0) a w:=by
 have hn:=hall n (aai n)
 cases rc with
 | skip=>
   simp only[dL,aab.injEq,Prod.mk.injEq] at hrun;obtain⟨rfl,rfl,rfl⟩:=hrun;have post:iu P fm T G w0 st fr .normal N D0 .normal a w:=⟨trivial,G,.refl G,hs,hf,hN,hd⟩;rcases hc with rfl | ⟨l,rfl⟩
   · exact wpIn_skip post
   · exact wpIn_label post
 | region ops live=>
   obtain⟨id,oops,rfl,hrel⟩:=hc;simp only[dL] at hrun;split at hrun
   · rename_i fr1 st1 hr;simp only[aab.injEq,Prod.mk.injEq] at hrun;obtain⟨rfl,rfl,rfl⟩:=hrun;refine wpIn_region ?_;rw[List.range_eq_range'];refine Dh hrel ops n (fun k hk=>hall k (by omega)) 0 fr st fr1 st1 G w a rfl hr hs hf hN ?_;intro a' w' G' h1 h2 h3 h4 h5;exact⟨trivial,G',h1,h2,h3.bG live,h4,by rw[h5];exact hd.le h1⟩
   · cases hrun
 | av ops hs' chk live=>
   obtain⟨id,oops,anc,rfl,hrel⟩:=hc;simp only[dL] at hrun;split at hrun
   · rename_i st0 ops2 hpr;split at hrun
     · rename_i fr1 sts hr;split at hrun
       · rename_i hck;split at hrun
         · rename_i st1 sts1;simp only[aab.injEq,Prod.mk.injEq] at hrun;obtain⟨rfl,rfl,rfl⟩:=hrun;refine wpIn_mono (hdr hrel hpr hr hck hs hf hN hd) ?_;rintro e a' w' ⟨h1,G',h2,h3,h4,h5⟩;exact⟨h1,G',h2,h3,h4.bG live,h5⟩
         · cases hrun
       · cases hrun
     · cases hrun
   · cases hrun
 | seq x y=>
   obtain⟨cx,cy,rfl,hx,hy⟩:=hc;simp only[dL] at hrun;refine wpIn_seq ?_;split at hrun
   · rename_i fr1 st1 hr;refine wpIn_mono (hn.code hx hr hs hf hN hd hD0 hro) ?_;rintro e a1 w1 ⟨h1,G1,h2,h3,h4,h5,h6⟩;cases e<;>simp only[im] at h1
     show cy.wpIn _ _ _ _ _ _;exact wpIn_mono (hn.code hy hrun h3 h4 h5 h6 (fun r hr=>h2.dfr r (hD0 r hr)) (hro.le h2)) fun e a w k=>k.mono h2
   · rename_i hr;refine wpIn_mono (hn.code hx hrun hs hf hN hd hD0 hro) ?_;intro e a1 w1 k;refine iu.qR ?_ k;rintro rfl;exact hr _ _ hrun
 | cond x cy cz=>
   obtain⟨o,y,z,rfl,hx,hy,hz⟩:=hc;simp only[dL] at hrun;have hev:=hx.ev (a:=a) hf;split at hrun
   · rename_i hb;rw[hb] at hev;refine wpIn_cond_true ?_ (hn.code hy hrun hs hf hN hd hD0 hro);generalize a.eval o=v at hev;cases hev;rfl
   · rename_i hb;rw[hb] at hev;refine wpIn_cond_false ?_ (hn.code hz hrun hs hf hN hd hD0 hro);generalize a.eval o=v at hev;cases hev;rfl
   · cases hrun
 | block id x=>
   obtain⟨cx,rfl,hx⟩:=hc;simp only[dL] at hrun;refine wpIn_block ?_;split at hrun
   · rename_i id' fr1 st1 hr;refine wpIn_mono (hn.code hx hr hs hf hN hd hD0 hro) ?_;rintro e a1 w1 ⟨h1,h2⟩;cases e<;>simp only[im] at h1
     subst h1;show (if _ then _ else _);split at hrun
     · rename_i he;simp only[aab.injEq,Prod.mk.injEq] at hrun;obtain⟨rfl,rfl,rfl⟩:=hrun;rw[if_pos he];exact⟨trivial,h2⟩
     · rename_i he;simp only[aab.injEq,Prod.mk.injEq] at hrun;obtain⟨rfl,rfl,rfl⟩:=hrun;rw[if_neg he];exact⟨rfl,h2⟩
   · rename_i hr;refine wpIn_mono (hn.code hx hrun hs hf hN hd hD0 hro) ?_;rintro e a1 w1 k;have h1:=k.1;cases e<;>try exact k
     cases ex<;>simp only[im] at h1
     exact absurd hrun (hr _ _ _)
 | loop live x=>
   obtain⟨cx,rfl,hx⟩:=hc
   refine ox (fun k a w=>k≤n+1∧∃ fr st G1,dL T k (.loop live x) fr st=some (ex,fr',st')∧G.le G1∧bT P fm T G1 w0 st w∧cG fm G1 fr a.tmps∧N≤a.tmps.size∧kH G1 D0 a.defers)
    (n+1) ⟨aai _,fr,st,G,hrun,.refl G,hs,hf,hN,hd⟩ ?_
   rintro k a1 w1 ⟨hk,fr1,st1,G1,hrun1,h2,h3,h4,h5,h6⟩
   cases k with
   | zero=>simp[dL] at hrun1
   | succ k=>
     simp only[dL] at hrun1;have hk':=hall k (by omega);split at hrun1
     · rename_i fr2 st2 hr;refine wpIn_mono (hk'.code hx hr h3 (h4.bG live) h5 h6 (fun r hr=>h2.dfr r (hD0 r hr)) (hro.le h2)) ?_;rintro e a2 w2 ⟨g1,G2,g2,g3,g4,g5,g6⟩;cases e<;>simp only[im] at g1
       exact⟨k,Nat.lt_succ_self k,by omega,fr2,st2,G2,hrun1,h2.trans g2,g3,g4,g5,g6⟩
     · rename_i hr;refine wpIn_mono (hk'.code hx hrun1 h3 (h4.bG live) h5 h6 (fun r hr=>h2.dfr r (hD0 r hr)) (hro.le h2)) ?_;intro e a2 w2 kk;have kk:=kk.mono h2;refine iu.qR ?_ kk;rintro rfl;exact hr _ _ hrun1
 | exit id=>
   cases hc;simp only[dL,aab.injEq,Prod.mk.injEq] at hrun;obtain⟨rfl,rfl,rfl⟩:=hrun;exact wpIn_exit ⟨rfl,G,.refl G,hs,hf,hN,hd⟩
 | stuck=>simp[dL] at hrun
 | ret=>
   cases hc;simp only[dL,aab.injEq,Prod.mk.injEq] at hrun;obtain⟨rfl,rfl,rfl⟩:=hrun;exact wpIn_ret ⟨trivial,G,.refl G,hs,hf,hN,hd⟩
 | gK f ps as_ bo live=>
   obtain⟨o,qs,x,y,rfl,hxr,hq,hp,hx,hy⟩:=hc;simp only[dL] at hrun;have hf0:=hf.bG live;have hev:=hxr.ev (a:=a) hf0;generalize X.ev (Fr.bG fr live) f=v0 at hrun hev;cases v0<;>try (simp only[reduceCtorEq] at hrun;done)
   rename_i g first captured;simp only at hrun;split at hrun
   · rename_i hcode;split at hrun
     · rename_i v1 st1 hcall;split at hrun
       · rename_i lo hlo;split at hrun
         · cases hrun
         rename_i hst;refine wpIn_rangeFunc ?_;intro fn _;rw[BB];obtain⟨l,mark,w1,G1,he1,hle1,hs1,hmu1,hdf1⟩:=yi hs hf0 hN hd hD0 hro hq hp hx hy fn
         have hargs:cN fm G1 [.yield st.heap.length] #[.func (.yield l) #[] #[]]:=⟨rfl,fun i hi=>by
          have:i=0:=by simp at hi;exact hi
          subst this
          exact .yield _ _ hmu1⟩
         have hev1:=hev.le hle1;generalize hx0:a.eval o=x0 at hev1
         cases hev1 with
         | fn _ _ _ f' fs cs hfm k1 k2 hfs hcs=>
           have hall':cN fm G1 (first++[.yield st.heap.length]++captured) (fs ++ #[.func (.yield l) #[] #[]]++cs):=cN.append (cN.append ⟨k1,hfs⟩ hargs) ⟨k2,hcs⟩;obtain⟨f'',hi1,hi2⟩:=(hn.fn hfm hcall hs1 hall').2 hcode;refine⟨l,mark,w1,{ target:=.fn (.func f') cs,args:=fs ++ #[.func (.yield l) #[] #[]] },w1,f'',fs ++ #[.func (.yield l) #[] #[]]++cs,w1,he1,?_,fun f' _=>p8 ro f',?_,mG ro,?_⟩
           · show (Deferred.ofValue (a.eval o) (#[Operand.const (.func (.yield l) #[] #[])].map a.eval)).run P w1=_;rw[hx0];simp[Deferred.ofValue,Act.eval]
           · have e:invoke (.fn (.func f') cs) (fs ++ #[.func (.yield l) #[] #[]])=callFunc f' (fs ++ #[.func (.yield l) #[] #[]]++cs):=by simp[invoke]
             rw[e];exact hi1
           · refine Go.CallsIn.mono (CallsIn.fen ro hi2) ?_;rintro e w3 ⟨xr,rfl,G2,g1,g2,_⟩;have hm2:=g1.toSub.mu _ _ hmu1;obtain⟨L,hL,hrel⟩:=nW g2 hlo hm2;obtain⟨L',e1,e2,e3,e4,e5,e6,e7⟩:=hrel;cases e1
             have hnb:L.state≠.busy:=by
              rw[e2];intro hb;rcases Nat.lt_or_ge lo.state 4 with h | h
              · have:lo.state=0∨lo.state=1∨lo.state=2∨lo.state=3:=by omega
                rcases this with h|h|h|h<;>rw[h] at hb<;>simp[D7] at hb
                exact hst h
              · omega
             refine⟨_,_,run_endLoop hL hnb,?_⟩
             have hbase:st1.base≤st.heap.length:=by
              rw[g2.base,g1.base,hle1.base,← hs.base];exact hs.bA
             have g3:=g2.put (o':=.loop { lo with state:=3 }) (ob':=.loop { L with state:=.exhausted }) hlo rfl hm2 hbase ⟨_,rfl,rfl,by simp,e4,e5,e6,e7⟩ rfl (fun _=>rfl);have hd3:=hdf1.le g1;have hle3:=hle1.trans g1;split at hrun
             · rename_i hpend;simp only[aab.injEq,Prod.mk.injEq] at hrun;obtain⟨rfl,rfl,rfl⟩:=hrun;rw[hpend] at e4;generalize L.pending=jump at e4 g3;cases e4;exact⟨trivial,G2,hle3,g3,hf0.le hle3,hN,hd3⟩
             · rename_i ex0 hpend;simp only[aab.injEq,Prod.mk.injEq] at hrun;obtain⟨rfl,rfl,rfl⟩:=hrun;rw[hpend] at e4;generalize L.pending=jump at e4 g3;cases e4
               · exact wpIn_ret ⟨trivial,G2,hle3,g3,hf0.le hle3,hN,hd3⟩
               · exact wpIn_exit ⟨rfl,G2,hle3,g3,hf0.le hle3,hN,hd3⟩
       · cases hrun
     · cases hrun
   · cases hrun
end Go.D
end
section
namespace Go.D
open Go.RowKit
variable {P:Program} {fm:FM} {T:Tab}
theorem gT (f:Nat→Value) (n i:Nat) (h:i<n):(((aal n).map f).toArray).getD i undef=f i:=by
 rw[aag];simp[h]
theorem iq {w:World} {ty:TypeId} {n:Nat} {ag:Bool} (ht:ik P ty n ag) (r off:Nat) (f:Nat→Value) (h:∀ j,j<n→w.cell? ⟨r,off+j,none⟩=some (f j)) :
 (loadVar ty ⟨r,off,none⟩).run P w=.ok (if ag then .agg ((aal n).map f).toArray else f 0) w:=by
 obtain⟨⟨d,hd,hag⟩,⟨i,hi,hsz⟩,h1⟩:=ht;have hcells:=run_loadCells (P:=P) w ⟨r,off,none⟩ n f (fun j hj=>by rw[Addr.add_lit];exact h j hj)
 have hisagg:(isAgg ty).run P w=.ok ag w:=by
  unfold isAgg;simp only[Sem.run_bind,run_underlying hd,Result.andThen_ok];cases d<;>simp only at hag<;>subst hag<;>rfl
 have hsize:(sizeOf ty).run P w=.ok n w:=by
  unfold sizeOf typeInfo;simp[hi,hsz]
 unfold loadVar;simp only[Sem.run_bind,hisagg,Result.andThen_ok]
 cases ag with
 | true=>simp[hsize,hcells]
 | false=>
   obtain rfl:=h1 rfl;have:=h 0 (by omega);simp only[aa5] at this;simp[run_load,this]
theorem cell?_cells {w:World} {r i:Nat} {cs:Array Value} {t:TypeId} {fz:Nat×Nat} (h:w.heap[r]? = some (.cells cs t fz)):w.cell? ⟨r,i,none⟩=cs[i]?:=by
 simp[World.cell?,h]
theorem m8 {G:Gh} {vs:List DV} {off n:Nat} {ag:Bool} {v:DV} (h:takeN vs off n ag=some v) (hn:ag=false→n=1) (f:Nat→Value)
 (hr:∀ i (hi:off+i<vs.length),i<n→Rel fm G (vs[off+i]) (f i)):off+n≤vs.length∧Rel fm G v (if ag then .agg ((aal n).map f).toArray else f 0):=by
 unfold takeN at h
 cases ag with
 | true=>
   simp only[if_true] at h;split at h
   · rename_i hle;injection h with h;subst h;refine⟨hle,.agg _ _ (by simp;omega) fun i hi=>?_⟩;have hin:i<n:=by simp at hi;omega
     rw[gT _ _ _ hin];simpa using hr i (by omega) hin
   · cases h
 | false=>
   obtain rfl:=hn rfl;simp only[if_false,aaq] at h;obtain⟨hlt,he⟩:=aae.1 h;subst he;exact⟨by omega,hr 0 (by simpa using hlt) (by omega)⟩
theorem rM {CR:Nat→RC→Code→Prop} {G:Gh} {w0 w:World} {st:St} (hs:Sim fm CR G w0 st w) {ty:TypeId} {n:Nat} {ag:Bool} (ht:ik P ty n ag) {p v:DV} {x:Value} (hp:Rel fm G p x) (hl:c7 st n ag p=some v) :
 ∃ a y,x=.pointer (some a)∧(loadVar ty a).run P w=.ok y w∧Rel fm G v y:=by
 have hn:=ht.2.2;cases p<;>try (simp only[c7,reduceCtorEq] at hl;done)
 · rename_i b off;simp only[c7] at hl;split at hl
   · rename_i gr vs hcs;unfold St.cells at hcs;split at hcs
     · rename_i g' vs' hb;simp only[aab.injEq,Prod.mk.injEq] at hcs;obtain⟨rfl,rfl⟩:=hcs
       cases hp with
       | ptr _ _ r hm=>
         obtain⟨r',ob,h1,h2,h3,_⟩:=hs.obj b _ hb rfl (hs.np hm);rw[hm] at h1;cases h1
         have key:∃ cs t fz,ob=.cells cs t fz∧vs'.length≤cs.size∧∀ i (h:i<vs'.length),Rel fm G (vs'[i]) (cs.getD i undef):=by
          cases g' with
          | plain=>obtain⟨cs,t,fz,e,e2,e3,_⟩:=h3;exact⟨cs,t,fz,e,by omega,e3⟩
          | typed ty=>obtain⟨cs,t,fz,e,_,e2,e3,_⟩:=h3;exact⟨cs,t,fz,e,by omega,e3⟩
          | frz ty=>obtain⟨cs,t,fz,e,_,e2,_,e3,_⟩:=h3;exact⟨cs,t,fz,e,e2,e3⟩
          | grown=>obtain⟨cs,t,fz,e,e2,_,e3,_⟩:=h3;exact⟨cs,t,fz,e,e2,e3⟩
         obtain⟨cs,t,fz,rfl,hsz,hrel⟩:=key;obtain⟨hle,hv⟩:=m8 (fm:=fm) (G:=G) hl hn (fun j=>cs.getD (off+j) undef) fun i hi _=>hrel _ hi;refine⟨_,_,rfl,iq ht r off (fun j=>cs.getD (off+j) undef) ?_,hv⟩;intro j hj;rw[cell?_cells h2,aag];have:off+j<cs.size:=by omega
         simp[this]
     · cases hcs
   · cases hl
 · rename_i cs;simp only[c7] at hl
   cases hp with
   | bW _ r off f hr hc _=>
     obtain⟨hle,hv⟩:=m8 (fm:=fm) (G:=G) hl hn f fun i hi _=>by simpa using hc i (by simpa using hi)
     refine⟨_,_,rfl,iq ht r off f ?_,hv⟩;intro j hj;have:=hs.rok (hr j (by omega));obtain⟨arr,t,fz,e1,e2⟩:=this;rw[cell?_cells e1,e2]
def sy (tmps:Array Value):ResultVar→Sem Value
 | .tmp t=>pure (tmps.getD t undef)
 | .cell a t=>do loadVar t (← asAddr (tmps.getD a undef))
theorem ur {CR:Nat→RC→Code→Prop} {G:Gh} {w0 w:World} {st:St} (hs:Sim fm CR G w0 st w) {fr:Fr} {tmps:Array Value} (hf:cG fm G fr tmps) {rs:List fa} {fn:Func} {v:DV}
 (hl:fn.results.toList.length=rs.length) (hr:∀ (i:Nat) (a:fa) (b:ResultVar),rs[i]? = some a→fn.results.toList[i]? = some b→lh P a b) (h:eO st fr rs=some v) :
 ∃ x,(results fn tmps).run P w=.ok x w∧Rel fm G v x:=by
 have key:∀ (rs:List fa) (bs:List ResultVar) (vs:List DV),bs.length=rs.length→(∀ (i:Nat) (a:fa) (b:ResultVar),rs[i]? = some a→bs[i]? = some b→lh P a b)→eW st fr rs=some vs →
  ∃ xs:List Value,(bs.mapM (sy tmps)).run P w=.ok xs w∧xs.length=vs.length∧∀ i (h:i<vs.length),Rel fm G (vs[i]) (xs.getD i undef):=by
  intro rs
  induction rs with
  | nil=>
    intro bs vs hl _ h
    cases bs with
    | nil=>simp only[eW,aab.injEq] at h;subst h;exact⟨[],by simp,rfl,fun i hi=>absurd hi (by simp)⟩
    | cons _ _=>simp at hl
  | cons a rs ih=>
    intro bs vs hl hr h
    cases bs with
    | nil=>simp at hl
    | cons b bs=>
      simp only[eW] at h;split at h
      · rename_i v1 vs1 h1 h2;injection h with h;subst h;obtain⟨xs,hx,hxl,hxr⟩:=ih bs vs1 (by simpa using hl) (fun i a b ha hb=>hr (i+1) a b (by simpa using ha) (by simpa using hb)) h2;have hab:=hr 0 a b rfl rfl
        have one:∃ x,(sy tmps b).run P w=.ok x w∧Rel fm G v1 x:=by
         cases a with
         | t n=>
           cases b<;>simp only[lh] at hab
           subst hab;simp only[iH,aab.injEq] at h1;subst h1;exact⟨_,rfl,hf n⟩
         | cell p n ag=>
           cases b<;>simp only[lh] at hab
           obtain⟨rfl,ht⟩:=hab;simp only[iH] at h1;obtain⟨ad,y,e1,e2,e3⟩:=rM hs ht (hf p) h1;refine⟨y,?_,e3⟩;simp only[sy,Sem.run_bind,e1,asAddr,Sem.run_pure,Result.andThen_ok,e2]
        obtain⟨x,hx1,hx2⟩:=one;refine⟨x::xs,?_,by simp[hxl],?_⟩
        · rw[List.mapM_cons];simp only[Sem.run_bind,hx1,Result.andThen_ok,hx,Sem.run_pure]
        · intro i hi
          cases i with
          | zero=>exact hx2
          | succ i=>simpa using hxr i (by simpa using hi)
      · cases h
 unfold eO at h
 cases hra:eW st fr rs with
 | none=>rw[hra] at h;cases h
 | some vs=>
   obtain⟨xs,hx,hxl,hxr⟩:=key rs fn.results.toList vs hl hr hra;rw[hra] at h
   have run:(results fn tmps).run P w=.ok (if h:xs.toArray.size=1 then xs.toArray[0] else .tuple xs.toArray) w:=by
    have e:results fn tmps=(do let vs ← fn.results.mapM (sy tmps);pure (if h:vs.size=1 then vs[0] else .tuple vs)):=by
     unfold results
     congr 1
    rw[e,Array.mapM_eq_mapM_toList];simp[hx]
   refine⟨_,run,?_⟩
   cases vs with
   | nil=>
     simp only[aab.injEq] at h;subst h
     cases xs with
     | nil=>exact .tuple [] #[] rfl (fun i hi=>absurd hi (by simp))
     | cons _ _=>simp at hxl
   | cons v1 vs=>
     cases vs with
     | nil=>
       simp only[aab.injEq] at h;subst h
       cases xs with
       | nil=>simp at hxl
       | cons x xs=>
         cases xs with
         | nil=>simpa using hxr 0 (by simp)
         | cons _ _=>simp at hxl
     | cons v2 vs=>
       simp only[aab.injEq] at h;subst h;have hne:¬ xs.toArray.size=1:=by simp only[List.size_toArray,hxl,aax];omega
       rw[dif_neg hne];refine .tuple _ _ (by simpa using hxl) fun i hi=>?_;have:=hxr i hi;rw[aag];simpa[List.getD] using this
end Go.D
end
section
namespace Go.D
open Go.RowKit
variable {P:Program} {fm:FM} {T:Tab}
def Gh.eZ (G:Gh) (rs:List Nat):Gh:={ G with dfr:=fun k=>G.dfr k∧k∉rs }
theorem Sim.Hd {CR:Nat→RC→Code→Prop} {G:Gh} {w0 w:World} {st:St} (h:Sim fm CR G w0 st w) {r:Nat} (hr:G.dfr r) (hf:G.floor≤r) :
 Sim fm CR (G.eZ [r]) w0 st (w.putObj r (.deferred none)):=by
 have hd:=h.dfr r hr;have hlt:=get?_lt hd;have hp:=fun k=>eG w r k (.deferred none) hlt
 have other:∀ (k:Nat) (o:Obj),w.heap[k]? = some o→o≠.deferred (some [])→(w.putObj r (.deferred none)).heap[k]? = some o:=by
  intro k o hk hne;rw[hp,if_neg]
  · exact hk
  · rintro rfl;rw[hd] at hk;exact hne (aab.inj hk).symm
 refine { bU:=h.bU,bQ:=h.bQ,obj:=?_,ro:=?_,dj:=h.dj,tok:=?_,bw:=h.bw,bt:=h.bt,dfr:=?_,lps:=?_,aG:=?_,below:=?_,base:=h.base,aQ:=h.aQ,bA:=h.bA,bj:=h.bj,env:=h.env }
 · intro b o ho hg hpd;obtain⟨r',ob,h1,h2,h3,h4⟩:=h.obj b o ho hg hpd;refine⟨r',ob,h1,other _ _ h2 (h3.Fv hg _),?_,h4⟩;exact cS.sub (G:=G) (G':=G.eZ [r]) ⟨fun _ _ _ x=>x,fun _ _ x=>x,fun _ _ _ x=>x,fun _ _ _=>rfl⟩ h1 h3
 · intro r' i v hv;obtain⟨cs,t,fz,h1,h2⟩:=h.ro r' i v hv;exact⟨cs,t,fz,other _ _ h1 (by simp),h2⟩
 · intro t s ht;obtain⟨r',len,cap,n,cs,ty,h1,h2,h3,h4,h5⟩:=h.tok t s ht;exact⟨r',len,cap,n,cs,ty,h1,h2,h3,other _ _ h4 (by simp),h5⟩
 · intro k hk;rw[hp,if_neg]
   · exact h.dfr k hk.1
   · rintro rfl;exact hk.2 (by simp)
 · intro k hk;obtain⟨l,hl⟩:=h.lps k hk;exact⟨l,other _ _ hl (by simp)⟩
 · simpa[World.putObj,Gh.eZ] using h.aG
 · exact h.below.trans (jv _ _ _ hf)
theorem Gh.sm (G:Gh) (r:Nat) (rs:List Nat):(G.eZ [r]).eZ rs=G.eZ (r::rs):=by
 unfold Gh.eZ;simp only[Gh.mk.injEq,true_and,and_true]
 funext k
 simp only[aav,aa7,or_false,eq_iff_iff];constructor
 · rintro⟨⟨h1,h2⟩,h3⟩;exact⟨h1,fun h=>h.elim h2 h3⟩
 · rintro⟨h1,h2⟩;exact⟨⟨h1,fun h=>h2 (.inl h)⟩,fun h=>h2 (.inr h)⟩
theorem nq {w0:World} {st:St} {fn:Func} {tmps:Array Value} {R:Ending→World→Prop}:∀ (rs:List Nat) (G:Gh) (w:World),bT P fm T G w0 st w→rs.Nodup→(∀ r∈rs,G.dfr r∧G.floor≤r) →
 (∀ w',bT P fm T (G.eZ rs) w0 st w'→∃ v,(results fn tmps).run P w'=.ok v w'∧R (.returned v) w') →
 LeavesInM Fence.wide 0 P fn tmps R (rs.map fun r=>{ target:=.collected r,args:=#[] }) .returning w
 | [],G,w,hs,_,_,hR=>by
   have hs':bT P fm T (G.eZ []) w0 st w:=hs.notes rfl rfl rfl rfl rfl rfl rfl rfl (fun r hr=>hs.dfr r hr.1) hs.lps;obtain⟨v,h1,h2⟩:=hR w hs';exact⟨v,h1,h2⟩
 | r::rs,G,w,hs,hn,hd,hR=>by
   have hr:=hd r (by simp);have hs1:=hs.Hd hr.1 hr.2;obtain⟨hn1,hn2⟩:=List.nodup_cons.1 hn;refine⟨by simp,.inl ⟨r,_,rfl,run_takeDeferred (hs.dfr r hr.1),?_⟩⟩;refine nq rs _ _ hs1 hn2 (fun k hk=>⟨⟨(hd k (by simp[hk])).1,?_⟩,(hd k (by simp[hk])).2⟩) ?_
   · intro h;simp only[List.mem_singleton] at h;subst h;exact hn1 hk
   · rw[Gh.sm];exact hR
theorem xN:∀ (vs:List DV) (i t:Nat),(bq vs i).get t=if i≤t∧t<i+vs.length then vs.getD (t-i) .undef else .undef:=by
 intro vs
 induction vs with
 | nil=>intro i t;simp[bq,Fr.get]
 | cons v vs ih=>
   intro i t;show (if i=t then v else (bq vs (i+1)).get t)=_;by_cases e:i=t
   · subst e;simp
   · rw[if_neg e,ih];by_cases h:i≤t∧t<i+(v::vs).length
     · rw[if_pos h,if_pos (by simp at h;omega)];obtain⟨k,rfl⟩:∃ k,t=i+1+k:=⟨t-(i+1),by omega⟩;simp only[show i+1+k-(i+1)=k by omega,show i+1+k-i=k+1 by omega,List.getD_cons_succ]
     · rw[if_neg h,if_neg (by simp at h ⊢;omega)]
theorem v9 {G:Gh} {vs:List DV} {args:Array Value} (h:cN fm G vs args) (n:Nat):cG fm G (bq vs 0) (args++Array.replicate (n-args.size) undef):=by
 intro t;rw[xN];by_cases e:0≤t∧t<0+vs.length
 · rw[if_pos e];have ht:t<vs.length:=by omega
   have:=h.2 t ht;rw[aag] at this ⊢;rw[abi (by rw[h.1];exact ht)];simp only[Nat.sub_zero];rw[aak,aaa ht];exact this
 · rw[if_neg e];exact .undef _
theorem ko {n:Nat} (hn:Good P fm T n) {F:aj} {f:FuncId} (hdef:eo P fm T (.code F) f) {args:List DV} {args':Array Value} {st:St} {ex:Ex} {fr:Fr} {st':St} {v:DV} {G:Gh} {w0 w:World}
 (hrun:dL T n F.body (bq args 0) st=some (ex,fr,st')) (hex:∀ id,ex≠.exit id) (hres:eO st' fr F.results=some v) (hs:bT P fm T G w0 st w) (ha:cN fm G args args') :
 lp P f args' w (fun x w'=>∃ G',G.le G'∧bT P fm T G' w0 st' w'∧Rel fm G' v x):=by
 obtain⟨fn,c,hcall,hfn,hb,hc,hl,hr⟩:=hdef;refine⟨f,hcall args' w,callsIn_of_wp_marks hfn hb trivial ?_⟩;have hN:fn.ntmps≤(args'++Array.replicate (fn.ntmps-args'.size) undef).size:=by simp;omega
 have hcode:=hn.code (a:={ tmps:=args'++Array.replicate (fn.ntmps-args'.size) undef,defers:=[] }) (ro:=none) (D0:=G.dfr) hc hrun hs (v9 ha _) hN ⟨[],rfl,List.nodup_nil,fun r hr=>by cases hr⟩ (fun r h=>h) trivial;refine wpIn_mono hcode ?_;rintro e a w1 ⟨h1,G1,h2,h3,h4,h5,rs,h6,h7,h8⟩
 have leave:LeavesInM Fence.wide 0 P fn a.tmps (fun e w'=>∃ x,e=Ending.returned x∧∃ G',G.le G'∧bT P fm T G' w0 st' w'∧Rel fm G' v x) a.defers .returning w1:=by
  rw[h6];refine nq rs G1 w1 h3 h7 (fun r hr=>⟨(h8 r hr).1,(h8 r hr).2.2⟩) ?_;intro w' hs';have hsub:G1.sub (G1.eZ rs):=⟨fun _ _ _ x=>x,fun _ _ x=>x,fun _ _ _ x=>x,fun _ _ _=>rfl⟩;obtain⟨x,hx1,hx2⟩:=ur hs' (fun t=>(h4 t).sub hsub) hl hr hres;refine⟨x,hx1,x,rfl,G1.eZ rs,?_,hs',hx2⟩;exact⟨h2.toSub.trans hsub,fun r hr=>⟨h2.dfr r hr,fun hm=>(h8 r hm).2.1 hr⟩,h2.lps,h2.floor,h2.eV,h2.base,h2.aQ,h2.bj⟩
 cases e with
 | normal=>exact leave
 | ret=>exact leave
 | exit id=>
   cases ex<;>simp only[im] at h1
   exact absurd rfl (hex _)
 | goto l=>cases ex<;>simp only[im] at h1
 | panic c=>cases ex<;>simp only[im] at h1
 | outgrown=>cases ex<;>simp only[im] at h1
theorem Sim.rI {CR:Nat→RC→Code→Prop} {G:Gh} {w0 w:World} {st:St} (h:Sim fm CR G w0 st w):∀ r i v,fm.env r i=some v→r<w.heap.size∧∃ cs t fz,w.heap[r]? = some (.cells cs t fz)∧cs[i]? = some v:=by
 intro r i v hv;obtain⟨h1,cs,t,fz,h2,h3⟩:=h.env r i v hv;exact⟨abm h1 h.aG,cs,t,fz,(h.below.block r h1).trans h2,h3⟩
def Gh.enter (G:Gh) (st:St) (w:World):Gh:={ G with floor:=w.heap.size,base:=st.heap.length,aQ:=st.bc.length }
theorem Gh.mZ (G:Gh) (st:St) (w:World):G.sub (G.enter st w):=⟨fun _ _ _ x=>x,fun _ _ x=>x,fun _ _ _ x=>x,fun _ _ _=>rfl⟩
theorem Sim.enter {CR:Nat→RC→Code→Prop} {G:Gh} {w0 w:World} {st:St} (h:Sim fm CR G w0 st w):Sim fm CR (G.enter st w) w st.enter w:=by
 refine { bU:=h.bU,bQ:=h.bQ,obj:=?_,ro:=h.ro,dj:=h.dj,tok:=?_,bw:=h.bw,bt:=h.bt,dfr:=h.dfr,lps:=h.lps,aG:=aai _,below:=Below.refl _ _,base:=rfl,aQ:=rfl,bA:=aai _,bj:=h.bj,env:=h.rI }
 · intro b o ho hg hpd;obtain⟨r,ob,h1,h2,h3,h4⟩:=h.obj b o ho hg hpd;refine⟨r,ob,h1,h2,h3.sub (Gh.mZ G st w) h1,fun hb=>?_⟩;have:b<st.heap.length:=h.bU _ _ h1;exact absurd hb (by simp only[St.enter];omega)
 · intro t s ht;obtain⟨r,len,cap,n,cs,ty,h1,h2,h3,h4,h5,h6,h7,h8⟩:=h.tok t s ht;refine⟨r,len,cap,n,cs,ty,h1,h2,h3,h4,h5,h6,h7,fun hb=>?_⟩;have:t<st.bc.length:=(aae.1 ht).1;exact absurd hb (by simp only[St.enter];omega)
def Gh.shut (G:Gh) (w w':World):Gh:=
 { G with ro:=fun r i=>if r<w.heap.size then G.ro r i else match w'.heap[r]? with | some (.cells cs _ _)=>cs[i]? | _=>none }
theorem Sim.zU {CR:Nat→RC→Code→Prop} {G:Gh} {w0 w:World} {st:St} (h:Sim fm CR G w0 st w) {r i:Nat} {v:Value} (hr:G.ro r i=some v):r<w.heap.size:=by
 obtain⟨_,_,_,h1,_⟩:=h.ro r i v hr;exact get?_lt h1
theorem Gh.ix {CR:Nat→RC→Code→Prop} {G:Gh} {w0 w:World} {st:St} (h:Sim fm CR G w0 st w) (w':World):G.le (G.shut w w'):=by
 refine⟨⟨fun r i v hr=>?_,fun _ _ x=>x,fun _ _ _ x=>x,fun _ _ _=>rfl⟩,fun _ x=>x,fun _ x=>x,rfl,fun r i hr=>?_,rfl,rfl,rfl⟩
 · show (if _ then _ else _)=_;rw[if_pos (h.zU hr)];exact hr
 · show (if _ then _ else _)=_;rw[if_pos (abm hr h.aG)]
theorem Sim.shut {CR:Nat→RC→Code→Prop} {G:Gh} {w0 w w':World} {st:St} (h:Sim fm CR G w0 st w) (hb:Below w.heap.size w w'):Sim fm CR (G.shut w w') w0 st w':=by
 have old:∀ r o,w.heap[r]? = some o→w'.heap[r]? = some o:=fun r o hr=>(hb.block r (get?_lt hr)).trans hr;have hle:=(Gh.ix h w').toSub;refine { bU:=h.bU,bQ:=h.bQ,obj:=?_,ro:=?_,dj:=?_,tok:=?_,bw:=h.bw,bt:=h.bt,dfr:=fun r hr=>old _ _ (h.dfr r hr),lps:=?_,aG:=abu h.aG hb.size,below:=h.below.trans (hb.mono h.aG),base:=h.base,aQ:=h.aQ,bA:=h.bA,bj:=h.bj,env:=h.env }
 · intro b o ho hg hpd;obtain⟨r,ob,h1,h2,h3,h4⟩:=h.obj b o ho hg hpd;exact⟨r,ob,h1,old _ _ h2,h3.sub hle h1,h4⟩
 · intro r i v hr;simp only[Gh.shut] at hr;split at hr
   · obtain⟨cs,t,fz,h1,h2⟩:=h.ro r i v hr;exact⟨cs,t,fz,old _ _ h1,h2⟩
   · split at hr
     · rename_i cs t fz hc;exact⟨cs,t,fz,hc,hr⟩
     · cases hr
 · intro r i v b o hr ho hg hm;obtain⟨r',ob,h1,h2,_⟩:=h.obj b o ho hg (h.np hm);have hm':G.mu b=some r:=hm;rw[hm'] at h1;cases h1;have hlt:=get?_lt h2;simp only[Gh.shut,if_pos hlt] at hr;exact h.dj r i v b o hr ho hg hm'
 · intro t s ht;obtain⟨r,len,cap,n,cs,ty,h1,h2,h3,h4,h5,h6,h7,h8⟩:=h.tok t s ht;refine⟨r,len,cap,n,cs,ty,h1,h2,h3,old _ _ h4,h5,fun i hi=>?_,h7,h8⟩;simp only[Gh.shut,if_pos (get?_lt h4)];exact h6 i hi
 · intro r hr;obtain⟨l,hl⟩:=h.lps r hr;exact⟨l,old _ _ hl⟩
theorem Rel.iE {G G':Gh} (hro:∀ r i v,G.ro r i=some v→G'.ro r i=some v) {v:DV} {x:Value} (k:Rel fm G v x) (hp:v.pure=true):Rel fm G' v x:=by
 induction k with
 | bool b=>exact .bool b
 | int k n=>exact .int k n
 | str l s h=>exact .str l s h
 | b5=>exact .b5
 | ga tag n tk=>exact .ga tag n tk
 | list tag n tk xs r off cap f hr _ hpp hk hl hn ih=>
   refine .list tag n tk xs r off cap f (fun i hi=>hro _ _ _ (hr i hi)) (fun i hi=>ih i hi (aaf.1 hpp _ (aar hi))) hpp ?_ hl hn
   cases tk with
   | no=>trivial
   | tight=>exact hk
   | own t s=>simp[DV.pure] at hp
 | bn=>exact .bn
 | bO=>exact .bO
 | aL=>exact .aL
 | undef=>simp[DV.pure] at hp
 | ptr=>simp[DV.pure] at hp
 | bW=>simp[DV.pure] at hp
 | hsl=>simp[DV.pure] at hp
 | map=>simp[DV.pure] at hp
 | fn=>simp[DV.pure] at hp
 | yield=>simp[DV.pure] at hp
 | iface=>simp[DV.pure] at hp
 | agg=>simp[DV.pure] at hp
 | tuple=>simp[DV.pure] at hp
theorem Rel.aP {G:Gh} {v:DV} {x:Value} (k:Rel fm G v x):Rel fm G v.aP x:=by
 cases k with
 | list tag n tk xs r off cap f hr hc hp hk hl hn=>
   cases tk with
   | no=>exact .list tag n .no xs r off cap f hr hc hp trivial hl hn
   | tight=>exact .list tag n .tight xs r off cap f hr hc hp hk hl hn
   | own t s=>exact .list tag n .no xs r off cap f hr hc hp trivial hl hn
 | ga tag n tk=>cases tk<;>exact .ga tag n _
 | undef x=>exact .undef x
 | bool b=>exact .bool b
 | int k n=>exact .int k n
 | str l s h=>exact .str l s h
 | ptr b off r h=>exact .ptr b off r h
 | b5=>exact .b5
 | bW cs r off f hr hc hp=>exact .bW cs r off f hr hc hp
 | hsl n ag b off len cap r c h hc=>exact .hsl n ag b off len cap r c h hc
 | map b r h=>exact .map b r h
 | bn=>exact .bn
 | fn g a b f fs cs h h1 h2 hf hc=>exact .fn g a b f fs cs h h1 h2 hf hc
 | yield l r h=>exact .yield l r h
 | bO=>exact .bO
 | iface t v x h=>exact .iface t v x h
 | aL=>exact .aL
 | agg vs cs hl hc=>exact .agg vs cs hl hc
 | tuple vs cs hl hc=>exact .tuple vs cs hl hc
theorem nc {v:DV} (h:v.pure=true):v.leaves=[v]:=by
 cases v<;>simp[DV.pure] at h<;>rfl
theorem kV (n:Nat) (ag:Bool) (hn:ag=true∨n=1):∀ (k:Nat) (vs:List DV),vs.length=k*n→vs.all DV.pure=true→flat (chunk n ag k vs)=vs:=by
 intro k
 induction k with
 | zero=>
   intro vs hl _;have:vs=[]:=abc (by simpa using hl);subst this;rfl
 | succ k ih=>
   intro vs hl hp;have hk:(vs.drop n).length=k*n:=by rw[List.length_drop,hl,aaN];omega
   have hp':(vs.drop n).all DV.pure=true:=by
    rw[aaf] at hp ⊢;exact fun x hx=>hp x (aao hx)
   have ih':=ih _ hk hp';unfold flat at ih' ⊢;simp only[chunk,abx,ih']
   cases ag with
   | true=>
     simp only[if_true,DV.leaves];exact aaQ n vs
   | false=>
     have hn1:n=1:=by rcases hn with h | h;cases h;exact h
     subst hn1
     cases vs with
     | nil=>simp at hl
     | cons v vs=>
       simp only[aaq,if_false,List.headD_cons,List.drop_succ_cons,List.drop_zero];rw[nc (aaf.1 hp v (by simp))];rfl
theorem jz (n:Nat) (ag:Bool) (hn:ag=true∨n=1):∀ (k:Nat) (vs:List DV),vs.length=k*n→vs.all DV.pure=true→∀ x∈chunk n ag k vs,x.leaves.length=n:=by
 intro k
 induction k with
 | zero=>intro vs _ _ x hx;cases hx
 | succ k ih=>
   intro vs hl hp x hx;simp only[chunk,aav] at hx;rcases hx with rfl | hx
   · cases ag with
     | true=>simp only[if_true,DV.leaves,List.length_take,hl,aaN];omega
     | false=>
       have hn1:n=1:=by rcases hn with h | h;cases h;exact h
       subst hn1
       cases vs with
       | nil=>simp at hl
       | cons v vs=>simp only[aaq,if_false,List.headD_cons];rw[nc (aaf.1 hp v (by simp))];rfl
   · refine ih (vs.drop n) (by rw[List.length_drop,hl,aaN];omega) ?_ x hx;rw[aaf] at hp ⊢;exact fun x hx=>hp x (aao hx)
theorem jk (n:Nat) (ag:Bool):∀ (k:Nat) (vs:List DV),(chunk n ag k vs).length=k:=by
 intro k
 induction k with
 | zero=>intro vs;rfl
 | succ k ih=>intro vs;simp[chunk,ih]
section
variable {CR:Nat→RC→Code→Prop} {G G1:Gh} {w0 w w':World} {st st2:St}
theorem Gz (hle:(G.enter st w).le G1) (h2:Sim fm CR G1 w st2 w'):∀ r i v,G1.ro r i=some v→(G.shut w w').ro r i=some v:=by
 intro r i v hv;show (if _ then _ else _)=_;by_cases e:r<w.heap.size
 · rw[if_pos e];have:=hle.eV r i e;rw[this] at hv;exact hv
 · rw[if_neg e];obtain⟨cs,t,fz,e1,e2⟩:=h2.ro r i v hv;rw[e1];exact e2
theorem sa (h:Sim fm CR G w0 st w) (hle:(G.enter st w).le G1) (h2:Sim fm CR G1 w st2 w') {b r:Nat} (hl:st.nt b=true) (hm:G1.mu b=some r):G.mu b=some r:=by
 unfold St.nt at hl;split at hl
 · cases hl
 · cases hl
 · rename_i o hne1 hne2
   cases ho:st.heap[b]? with
   | none=>exact absurd ho hne2
   | some o'=>
     obtain⟨r',ob,h1,_⟩:=h.obj b o' ho (by cases o'<;>first|rfl|exact absurd ho hne1) (by have e1:=h2.np hm;rw[hle.bj] at e1;exact e1);have:=hle.toSub.mu b r' h1;rw[hm] at this;cases this;exact h1
theorem ni (h:Sim fm CR G w0 st w) (hle:(G.enter st w).le G1) (h2:Sim fm CR G1 w st2 w') {v v':DV} {x:Value} (hv:Rel fm G1 v x) (he:aV st st2 v=some v'):Rel fm (G.shut w w') v' x:=by
 have hro:=Gz hle h2;cases v<;>simp only[aV,aab.injEq,reduceCtorEq] at he
 case bool=>subst he;exact hv.iE hro rfl
 case int=>subst he;exact hv.iE hro rfl
 case str=>subst he;exact hv.iE hro rfl
 case b5=>subst he;exact hv.iE hro rfl
 case bn=>subst he;exact hv.iE hro rfl
 case bO=>subst he;exact hv.iE hro rfl
 case aL=>subst he;exact hv.iE hro rfl
 case bW cs=>
  subst he
  cases hv with
  | bW _ r off f hr hc hp=>exact .bW cs r off f (fun i hi=>(hr i hi).imp (hro _ _ _) id) (fun i hi=>(hc i hi).iE hro (aaf.1 hp _ (aar hi))) hp
 case list tag n tk nn xs=>
  subst he
  cases hv with
  | ga=>exact .ga _ _ _
  | list _ _ _ _ r off cap f hr hc hp hk hl hn=>
    refine .list tag n _ xs r off cap f (fun i hi=>hro _ _ _ (hr i hi)) (fun i hi=>(hc i hi).iE hro (aaf.1 hp _ (aar hi))) hp ?_ hl hn
    cases tk with
    | no=>trivial
    | tight=>exact hk
    | own t s=>trivial
 case ptr b off=>
  split at he
  · rename_i hl;injection he with he;subst he
    cases hv with
    | ptr _ _ r hm=>exact .ptr b off r (sa h hle h2 hl hm)
  · cases he
 case map b=>
  split at he
  · rename_i hl;injection he with he;subst he
    cases hv with
    | map _ r hm=>exact .map b r (sa h hle h2 hl hm)
  · cases he
 case fn g first captured=>
  split at he
  · rename_i hl;injection he with he;subst he;simp only[aac,List.isEmpty_iff] at hl;obtain⟨rfl,rfl⟩:=hl
    cases hv with
    | fn _ _ _ f fs cs hf h1 h2 _ _=>exact .fn g [] [] f fs cs hf h1 h2 (fun i hi=>absurd hi (by simp)) (fun i hi=>absurd hi (by simp))
  · cases he
 case hsl n ag b off len cap=>
  cases hv with
  | hsl _ _ _ _ _ _ r c hm hc=>
    split at he
    · rename_i hl;injection he with he;subst he;have hm':=sa h hle h2 hl hm;refine .hsl n ag b off len cap r c hm' ?_
      cases cap with
      | some k=>exact hc
      | none=>
        simp only[E1] at hc ⊢;have:G1.gsz b=G.gsz b:=hle.toSub.gsz b r hm';rw[this] at hc;exact hc
    · rename_i hl;split at he
      · rename_i gr vs hb;split at he
        · rename_i hcond;obtain⟨hlen,hle2,hn,hag,hpure⟩:=hcond;injection he with he;subst he;obtain⟨r',ob,m1,m2,m3,m4⟩:=h2.obj b _ hb rfl (h2.np hm);rw[hm] at m1;cases m1
          have hfl:w.heap.size≤r:=by
           have e1:st2.base=st.heap.length:=by rw[h2.base,hle.base];rfl
           have e2:G1.floor=w.heap.size:=hle.floor;have:=m4 (by rw[e1];exact hlen)
           rwa [e2] at this
          have key:∃ cs t fz,ob=.cells cs t fz∧vs.length≤cs.size∧∀ i (h:i<vs.length),Rel fm G1 (vs[i]) (cs.getD i undef):=by
           cases gr with
           | plain=>obtain⟨cs,t,fz,e,e2,e3,_⟩:=m3;exact⟨cs,t,fz,e,by omega,e3⟩
           | typed ty=>obtain⟨cs,t,fz,e,_,e2,e3,_⟩:=m3;exact⟨cs,t,fz,e,by omega,e3⟩
           | frz ty=>obtain⟨cs,t,fz,e,_,e2,_,e3,_⟩:=m3;exact⟨cs,t,fz,e,e2,e3⟩
           | grown=>obtain⟨cs,t,fz,e,e2,_,e3,_⟩:=m3;exact⟨cs,t,fz,e,e2,e3⟩
          obtain⟨cs,t,fz,rfl,hsz,hrel⟩:=key;have hfl2:=kV n ag hag len (((vs.drop off).take (len*n)).map DV.aP) (by simp;omega) hpure;have hlc:=jk n ag len (((vs.drop off).take (len*n)).map DV.aP);have hlist:=Rel.list (fm:=fm) (G:=G.shut w w') st2.cur n (if cap=some len then .tight else .no) (chunk n ag len (((vs.drop off).take (len*n)).map DV.aP)) r off c (fun i=>cs.getD (off+i) undef) ?_ ?_ ?_ ?_ ?_ ?_
          · rw[hlc] at hlist;exact hlist
          · intro i hi;rw[hfl2] at hi;have hi':off+i<cs.size:=by simp at hi;omega
            show (if _ then _ else _)=_;rw[if_neg (by omega),m2,aag];simp[hi']
          · intro i hi;have hi0:=hi;rw[hfl2] at hi
            have e:(flat (chunk n ag len (((vs.drop off).take (len*n)).map DV.aP)))[i]=(((vs.drop off).take (len*n)).map DV.aP)[i]:=by
             congr 1
            rw[e];have hi':off+i<vs.length:=by simp at hi;omega
            have hp1:((((vs.drop off).take (len*n)).map DV.aP)[i]).pure=true:=aaf.1 hpure _ (aar hi);have e2:(((vs.drop off).take (len*n)).map DV.aP)[i]=(vs[off+i]).aP:=by simp
            rw[e2] at hp1 ⊢;exact(hrel _ hi').aP.iE hro hp1
          · rw[hfl2];exact hpure
          · rw[hlc];split
            · rename_i hcap;subst hcap;exact hc.1
            · trivial
          · rw[hlc]
            cases cap with
            | some k=>exact hc.1 ▸ hc.2
            | none=>exact hc.1
          · exact jz n ag hag len _ (by simp;omega) hpure
        · cases he
      · cases he
theorem lP (h:Sim fm CR G w0 st w) (hle:(G.enter st w).le G1) (h2:Sim fm CR G1 w st2 w'):∀ (vs vs':List DV),cJ st st2 vs=some vs'→vs'.length=vs.length∧∀ i (hi:i<vs.length) (hi':i<vs'.length) (x:Value),Rel fm G1 (vs[i]) x→Rel fm (G.shut w w') (vs'[i]) x
 | [],vs',he=>by
   simp only[cJ,aab.injEq] at he;subst he;exact⟨rfl,fun i hi=>absurd hi (by simp)⟩
 | v::vs,vs',he=>by
   simp only[cJ] at he;split at he
   · rename_i a b h1 h3;injection he with he;subst he;obtain⟨l1,r1⟩:=lP h hle h2 vs b h3;refine⟨by simp[l1],fun i hi hi' x hx=>?_⟩
     cases i with
     | zero=>exact ni h hle h2 hx h1
     | succ i=>exact r1 i (by simpa using hi) (by simpa using hi') x hx
   · cases he
theorem nr (h:Sim fm CR G w0 st w) (hle:(G.enter st w).le G1) (h2:Sim fm CR G1 w st2 w') {v v':DV} {x:Value} (hv:Rel fm G1 v x) (he:bP st st2 v=some v'):Rel fm (G.shut w w') v' x:=by
 cases v<;>simp only[bP] at he<;>try exact ni h hle h2 hv he
 rename_i vs;simp only[aad] at he;obtain⟨vs',he,rfl⟩:=he
 cases hv with
 | agg _ cs hl hc=>
   obtain⟨l1,r1⟩:=lP h hle h2 vs vs' he;exact .agg vs' cs (hl.trans l1.symm) fun i hi=>r1 i (by omega) hi _ (hc i (by omega))
theorem lN (h:Sim fm CR G w0 st w) (hle:(G.enter st w).le G1) (h2:Sim fm CR G1 w st2 w'):∀ (vs vs':List DV),c5 st st2 vs=some vs'→vs'.length=vs.length∧∀ i (hi:i<vs.length) (hi':i<vs'.length) (x:Value),Rel fm G1 (vs[i]) x→Rel fm (G.shut w w') (vs'[i]) x
 | [],vs',he=>by
   simp only[c5,aab.injEq] at he;subst he;exact⟨rfl,fun i hi=>absurd hi (by simp)⟩
 | v::vs,vs',he=>by
   simp only[c5] at he;split at he
   · rename_i a b h1 h3;injection he with he;subst he;obtain⟨l1,r1⟩:=lN h hle h2 vs b h3;refine⟨by simp[l1],fun i hi hi' x hx=>?_⟩
     cases i with
     | zero=>exact nr h hle h2 hx h1
     | succ i=>exact r1 i (by simpa using hi) (by simpa using hi') x hx
   · cases he
theorem vR (h:Sim fm CR G w0 st w) (hle:(G.enter st w).le G1) (h2:Sim fm CR G1 w st2 w') {v v':DV} {x:Value} (hv:Rel fm G1 v x) (he:bB st st2 v=some v'):Rel fm (G.shut w w') v' x:=by
 cases v<;>simp only[bB] at he<;>try exact nr h hle h2 hv he
 rename_i vs;simp only[aad] at he;obtain⟨vs',he,rfl⟩:=he
 cases hv with
 | tuple _ cs hl hc=>
   obtain⟨l1,r1⟩:=lN h hle h2 vs vs' he;exact .tuple vs' cs (hl.trans l1.symm) fun i hi=>r1 i (by omega) hi _ (hc i (by omega))
end
theorem Gn (n:Nat) (hn:Good P fm T n) (hT:dn P fm T) {g:Nat} {f:FuncId} {args:List DV} {st:St} {v:DV} {st':St} {G:Gh} {w0 w:World} {args':Array Value}
 (hf:fm g=some f) (hrun:eB T (n+1) g args st=some (v,st')) (hs:bT P fm T G w0 st w) (ha:cN fm G args args') :
 wY P f args' w (fun x w'=>∃ G',G.le G'∧bT P fm T G' w0 st' w'∧Rel fm G' v x) ∧
 (ez T g=true→lp P f args' w (fun x w'=>∃ G',G.le G'∧bT P fm T G' w0 st' w'∧Rel fm G' v x)):=by
 simp only[eB] at hrun
 cases hg:T g with
 | none=>rw[hg] at hrun;cases hrun
 | some d=>
   have hdef:=hT g d f hg hf;rw[hg] at hrun
   cases d with
   | g9 p=>
     refine⟨hdef G w0 st w args args' v st' hs ha hrun,fun hc=>?_⟩;simp[ez,hg] at hc
   | dy p=>
     refine⟨hdef G w0 st w args args' v st' hs ha hrun,fun hc=>?_⟩;simp[ez,hg] at hc
   | code F=>
     have main:lp P f args' w (fun x w'=>∃ G',G.le G'∧bT P fm T G' w0 st' w'∧Rel fm G' v x):=by
      simp only at hrun;split at hrun
      · split at hrun
        · cases hrun
        · rename_i ex fr st2 hex hbody;split at hrun
          · rename_i v1 hres;simp only[aad] at hrun;obtain⟨v2,hexp,hrun⟩:=hrun;cases hrun;have ha':cN fm (G.enter st w) args args':=⟨ha.1,fun i hi=>(ha.2 i hi).sub (Gh.mZ G st w)⟩;obtain⟨f',h1,h2⟩:=ko hn hdef hbody (fun id h=>hex id h) hres hs.enter ha';refine⟨f',h1,Go.CallsIn.mono h2 ?_⟩;rintro e w' ⟨x,rfl,G1,g1,g2,g3⟩
            have hb:Below w.heap.size w w':=by
             have:=g2.below;rw[g1.floor] at this;exact this
            exact⟨x,rfl,G.shut w w',Gh.ix hs w',hs.shut hb,vR hs g1 g2 g3 hexp⟩
          · cases hrun
        · cases hrun
      · split at hrun
        · cases hrun
        · rename_i ex fr st2 hex hbody;simp only[aad] at hrun;obtain⟨v1,hres,hrun⟩:=hrun;cases hrun;exact ko hn hdef hbody (fun id h=>hex id h) hres hs ha
        · cases hrun
     exact⟨.inl main,fun _=>main⟩
end Go.D
end
section
namespace Go.D
open Go.RowKit
variable {P:Program} {fm:FM} {T:Tab}
theorem lT {G:Gh}:∀ (ps:List Nat) (vs:List DV) (xs:List Value) (fr:Fr) (tmps:Array Value),vs.length=ps.length→xs.length=vs.length→(∀ i (h:i<vs.length),Rel fm G (vs[i]) (xs.getD i undef))→(∀ p∈ps,p<tmps.size) →
 cG fm G fr tmps→cG fm G (c6 fr ps vs) ((ps.zip xs).foldl (fun (tmps:Array Value) (x:Nat×Value)=>tmps.setIfInBounds x.1 x.2) tmps)∧((ps.zip xs).foldl (fun (tmps:Array Value) (x:Nat×Value)=>tmps.setIfInBounds x.1 x.2) tmps).size=tmps.size
 | [],vs,xs,fr,tmps,hl,_,_,_,hf=>by
   have:vs=[]:=abc hl;subst this;exact⟨hf,rfl⟩
 | p::ps,[],xs,fr,tmps,hl,_,_,_,_=>by simp at hl
 | p::ps,v::vs,[],fr,tmps,_,hx,_,_,_=>by simp at hx
 | p::ps,v::vs,x::xs,fr,tmps,hl,hx,hr,hp,hf=>by
   have h1:=lT ps vs xs ((p,v)::fr) (tmps.setIfInBounds p x) (by simpa using hl) (by simpa using hx) (fun i hi=>hr (i+1) (by simpa using hi)) (fun q hq=>by simpa using hp q (by simp[hq])) ?_
   · simp only[List.zip_cons_cons,List.foldl_cons,c6];refine⟨h1.1,h1.2.trans (by simp)⟩
   · intro t;rw[eu _ _ _ _ _ (hp p (by simp))];show Rel fm G (if p=t then v else fr.get t) _;by_cases e:p=t
     · rw[if_pos e,if_pos e];exact hr 0 (by simp)
     · rw[if_neg e,if_neg e];exact hf t
theorem val_succ (n:Nat) (hn:Good P fm T n) {v0:DV} {x0:Value} {args:List DV} {st:St} {v:DV} {st':St} {G:Gh} {w0 w:World} {args':Array Value}
 (hv:Rel fm G v0 x0) (hrun:jX T (n+1) v0 args st=some (v,st')) (hs:bT P fm T G w0 st w) (ha:cN fm G args args') :
 ∃ d,(Deferred.ofValue x0 args').run P w=.ok d w∧vf P d.target d.args w (fun x w'=>∃ G',G.le G'∧bT P fm T G' w0 st' w'∧Rel fm G' v x):=by
 cases v0<;>try (simp only[jX,reduceCtorEq] at hrun;done)
 · rename_i g first captured;simp only[jX] at hrun;exact lr hv ha fun f as_ hf has=>(hn.fn hf hrun hs has).1
 · rename_i l;simp only[jX] at hrun
   cases hv with
   | yield _ r hm=>
   split at hrun
   · rename_i lo hlo;split at hrun
     · rename_i hcond;obtain⟨hbase,hlen⟩:=hcond;obtain⟨L,hL,hrel⟩:=nW hs hlo hm;obtain⟨L',e1,e2,e3,e4,e5,⟨N,e6,e7,e8,e9⟩,e10⟩:=hrel;cases e1
       have hsz:args'.size=L.params.size:=by
        rw[ha.1,hlen,← e5];simp
       refine⟨{ target:=.fn (.yield r) #[],args:=args' },by simp[Deferred.ofValue],.inr (.inr ?_)⟩;have hinv:(invoke (.fn (.yield r) #[]) args').run P w=_:=run_yield (P:=P) hL hsz;refine⟨_,_,_,_,_,_,hinv,?_⟩;split at hrun
       · rename_i fr1 st1 hassign;split at hrun
         · rename_i lo1 hlo1;split at hrun
           · rename_i hst1;split at hrun
             · rename_i ex fr2 st2 hbody;split at hrun
               · rename_i lo2 hlo2;have hG1:G.le (G.o8 r):=Gh.CH G r;have hs1:bT P fm T (G.o8 r) w0 st w:=hs.o8 hL
                 have hpar:=lT (fm:=fm) (G:=G.o8 r) lo.params args args'.toList lo.fr L.tmps hlen (by simpa using ha.1)
                  (fun i hi=>by
                   have:=(ha.2 i hi).le hG1;rw[aag] at this
                   rw[aak,abt];exact this) (fun p hp=>abm (e7 p hp) e6) (e10.le hG1)
                 have hfold:((L.params.zip args').foldl (fun tmps (x:Nat×Value)=>tmps.setIfInBounds x.1 x.2) L.tmps)=((lo.params.zip args'.toList).foldl (fun tmps (x:Nat×Value)=>tmps.setIfInBounds x.1 x.2) L.tmps):=by
                  rw[← Array.foldl_toList,Array.toList_zip,e5]
                 refine roundIn_of_wpIn trivial ?_;show L.assign.wpIn (Fence.wide.inRound r) 0 P _ _ w;have hfr:(fen (some r))=Fence.wide.inRound r:=rfl;rw[← hfr]
                 have hcode1:=hn.code (a:={ tmps:=(L.params.zip args').foldl (fun tmps (x:Nat×Value)=>tmps.setIfInBounds x.1 x.2) L.tmps,defers:=[] }) (ro:=some r) (D0:=G.dfr) e8 hassign hs1
                  (by rw[hfold];exact hpar.1) (by rw[hfold,hpar.2];exact e6) ⟨[],rfl,List.nodup_nil,fun r hr=>by cases hr⟩ (fun r h=>h) (.inr rfl)
                 refine wpIn_mono hcode1 ?_;rintro e a1 w1 ⟨k1,G2,k2,k3,k4,k5,k6⟩;cases e<;>simp only[im] at k1
                 have hle2:=hG1.trans k2;have hm2:=hle2.toSub.mu _ _ hm;obtain⟨L1,hL1,hrel1⟩:=nW k3 hlo1 hm2;obtain⟨L1',f1,f2,f3,f4,f5,f6,f7⟩:=hrel1;cases f1;have hready:L1.state=.ready:=by rw[f2,hst1];rfl
                 have hb1:st1.base≤l:=by rw[k3.base,hle2.base,← hs.base];exact hbase
                 refine⟨_,run_beginRound hL1 hready,?_⟩
                 have hs2:bT P fm T G2 w0 { st1 with heap:=st1.heap.set l (.loop { lo1 with state:=1 }) } (w1.putObj r (.loop { L1 with state:=.busy })):=
                  k3.put hlo1 rfl hm2 hb1 ⟨_,rfl,rfl,by simp,f4,f5,f6,f7⟩ rfl (fun _=>rfl)
                 have hcode2:=hn.code (ro:=some r) (D0:=G.dfr) e9 hbody hs2 k4 k5 k6 (fun q hq=>hle2.dfr q hq) (k2.lps r (.inr rfl));refine wpIn_mono hcode2 ?_;rintro e a2 w2 ⟨m1,G3,m2,m3,m4,m5,m6⟩;have hle3:=hle2.trans m2;have hm3:=m2.toSub.mu _ _ hm2;obtain⟨L2,hL2,hrel2⟩:=nW m3 hlo2 hm3;obtain⟨L2',g1,g2,g3,g4,g5,g6,g7⟩:=hrel2;cases g1;have hb2:st2.base≤l:=by rw[m3.base,hle3.base,← hs.base];exact hbase
                 cases ex with
                 | normal=>
                   cases e<;>simp only[im] at m1
                   simp only[aab.injEq,Prod.mk.injEq] at hrun;obtain⟨rfl,rfl⟩:=hrun;refine⟨_,_,run_endRound none hL2,.bool true,rfl,G3,hle3,?_,.bool true⟩;exact m3.put hlo2 rfl hm3 hb2 ⟨_,rfl,rfl,by simp,.none,g5,g6,g7⟩ rfl (fun _=>rfl)
                 | ret=>
                   cases e<;>simp only[im] at m1
                   simp only[aab.injEq,Prod.mk.injEq] at hrun;obtain⟨rfl,rfl⟩:=hrun;refine⟨_,_,run_endRound (some .ret) hL2,.bool false,rfl,G3,hle3,?_,.bool false⟩;exact m3.put hlo2 rfl hm3 hb2 ⟨_,rfl,rfl,by simp,.ret,g5,g6,g7⟩ rfl (fun _=>rfl)
                 | exit id=>
                   cases e<;>simp only[im] at m1
                   subst m1;simp only[aab.injEq,Prod.mk.injEq] at hrun;obtain⟨rfl,rfl⟩:=hrun;refine⟨_,_,run_endRound (some (.exit id)) hL2,.bool false,rfl,G3,hle3,?_,.bool false⟩;exact m3.put hlo2 rfl hm3 hb2 ⟨_,rfl,rfl,by simp,.exit id,g5,g6,g7⟩ rfl (fun _=>rfl)
               · cases hrun
             · cases hrun
           · cases hrun
         · cases hrun
       · cases hrun
     · cases hrun
   · cases hrun
end Go.D
end
section
namespace Go.D
open Go.RowKit
variable {P:Program} {fm:FM} {T:Tab}
section
variable (pf:Nat→Bool) (rs:List ak)
def cnt (L:Nat→Bool):Nat→Nat
 | 0=>0
 | i+1=>cnt L i+if cW pf rs i=true∧L i=true then 1 else 0
theorem uY (L:Nat→Bool) (h:∀ i,L i=false):∀ n,cnt pf rs L n=0
 | 0=>rfl
 | n+1=>by simp[cnt,uY L h n,h n]
theorem zA (L L':Nat→Bool) (k:Nat) (hk:L k=false) (hk':L' k=true) (h:∀ i,i≠k→L' i=L i):∀ n,cnt pf rs L' n=cnt pf rs L n+if k<n∧cW pf rs k=true then 1 else 0
 | 0=>by simp[cnt]
 | n+1=>by
   simp only[cnt,zA L L' k hk hk' h n];by_cases e:n=k
   · subst e;simp[hk,hk']
   · rw[h n e];by_cases h1:k<n
     · simp[h1,show k<n+1 by omega];split<;>split<;>omega
     · simp[h1,show ¬ k<n+1 by omega]
theorem oy (L:Nat→Bool):∀ n,cnt pf rs L n≤aq pf rs n
 | 0=>aai _
 | n+1=>by
   have:=oy L n;simp only[cnt,aq];split<;>split<;>first | omega | (rename_i h1 h2;exact absurd h1.1 h2)
theorem nG {i j:Nat} (h:i≤j):aq pf rs i≤aq pf rs j:=by
 induction j with
 | zero=>have:i=0:=by omega
         subst this;exact aai _
 | succ j ih=>
   by_cases e:i=j+1
   · subst e;exact aai _
   · have:=ih (by omega);simp only[aq];omega
theorem xH (L:Nat→Bool) (k:Nat) (h:∀ i,i<k→cW pf rs i=true→L i=true):∀ n,k≤n→aq pf rs k≤cnt pf rs L n:=by
 intro n
 induction n with
 | zero=>intro hk;have:k=0:=by omega
         subst this;exact aai _
 | succ n ih=>
   intro hk;by_cases e:k≤n
   · have:=ih e;simp only[cnt];omega
   · have:k=n+1:=by omega
     subst this
     have key:∀ m,m≤n+1→aq pf rs m≤cnt pf rs L m:=by
      intro m
      induction m with
      | zero=>intro _;exact aai _
      | succ m ihm=>
        intro hm;have h1:=ihm (by omega);simp only[aq,cnt];split
        · rename_i hl;rw[if_pos ⟨hl,h m (by omega) hl⟩];omega
        · omega
     exact key _ (aai _)
theorem qS (L:Nat→Bool) (k:Nat) (h:∀ i,cW pf rs i=true→L i=true→i<k):∀ n,cnt pf rs L n≤aq pf rs k:=by
 intro n
 induction n with
 | zero=>exact Nat.zero_le _
 | succ n ih=>
   by_cases e:n<k
   · have h1:=oy pf rs L (n+1);exact abu h1 (nG pf rs (by omega))
   · simp only[cnt];rw[if_neg]
     · exact ih
     · rintro⟨h1,h2⟩;exact e (h n h1 h2)
end
theorem lD {n:Nat} {r:ak} {fr:Fr} {st st':St} {v:DV} (hq:aH (al T) r.op=false) (h:cH T n r fr st=some (v,st')):st'=st:=by
 cases n with
 | zero=>simp[cH] at h
 | succ n=>
   simp only[cH] at h;split at h
   · cases h
   · cases h;rfl
   · cases hop:r.op
     case call g args=>
      rw[hop] at hq h;simp only[aH,Bool.not_eq_false'] at hq;exact iK hq h
     case bz f args=>rw[hop] at hq;cases hq
     case dp f args=>
      rw[hop] at h;simp only at h;split at h
      · split at h
        · rename_i hp;exact iK hp h
        · cases h
      · cases h
     all_goals
      rw[hop] at hq h;exact nm hq h
theorem qg {op:ROp} {fr:Fr} {st st' st2:St} {v:DV} (hq:cu op=true) (h:an st fr op=some (v,st')):an st2 fr op=some (v,st2):=by
 cases op<;>simp only[cu,reduceCtorEq] at hq<;>simp only[an] at h ⊢ <;> first
  | (cases h;done)
  | (cases h;rfl)
  | (simp only[aad] at h ⊢;obtain⟨y,hy,h⟩:=h;cases h;exact⟨_,hy,rfl⟩)
  | (split at h<;>first | (cases h;done) | (cases h;rfl) | (simp only[aad] at h ⊢;obtain⟨y,hy,h⟩:=h;cases h;exact⟨_,hy,rfl⟩) | (split at h<;>first | (cases h;done) | (cases h;rfl) | (simp only[aad] at h ⊢;obtain⟨y,hy,h⟩:=h;cases h;exact⟨_,hy,rfl⟩) | (split at h<;>first | (cases h;done) | (cases h;rfl) | (split at h<;>first | (cases h;done) | (cases h;rfl)))))
  | (split at h<;>first | (cases h;done) | (simp_all;done) | (split at h<;>first | (cases h;done) | (simp_all;done) | (split at h<;>first | (cases h;done) | (simp_all;done) | (split at h<;>first | (cases h;done) | (simp_all;done)))))
  | (split at h<;>first | (cases h;done) | (split at h<;>first | (cases h;done) | (rename_i hc;simp only[aad] at h;obtain⟨y,hy,h⟩:=h;cases h;simp_all;done)))
theorem trace:∀ (rs:List ak) (n:Nat) (fr:Fr) (st:St) (sts:List St) (fr':Fr) (out:List St),dJ T n rs fr st sts=some (fr',out) →
 ∃ (F:Nat→Fr) (V:Nat→DV) (S:Nat→St),F 0=fr∧F rs.length=fr'∧S 0=st ∧
   (∀ (i:Nat) (r:ak),rs[i]? = some r→F (i+1)=(F i).put r.dst (V i)∧∃ m s',m<n∧cH T m r (F i) (S (aq (al T) rs i))=some (V i,s') ∧
    (aH (al T) r.op=true→S (aq (al T) rs i+1)=s')) ∧
   out=((aal (aq (al T) rs rs.length)).map fun i=>S (i+1)).reverse++sts
 | [],n,fr,st,sts,fr',out,h=>by
   cases n with
   | zero=>simp[dJ] at h
   | succ n=>
     simp only[dJ,aab.injEq,Prod.mk.injEq] at h;obtain⟨rfl,rfl⟩:=h;exact⟨fun _=>fr,fun _=>.undef,fun _=>st,rfl,rfl,rfl,fun i r hi=>by simp at hi,by simp[aq]⟩
 | r::rs,n,fr,st,sts,fr',out,h=>by
   cases n with
   | zero=>simp[dJ] at h
   | succ n=>
     simp only[dJ] at h;split at h
     · rename_i v st1 hone
       have shift:∀ i,aq (al T) (r::rs) (i+1)=aq (al T) rs i+(if aH (al T) r.op=true then 1 else 0):=by
        intro i
        induction i with
        | zero=>simp[aq,cW]
        | succ i ih=>
          have e:cW (al T) (r::rs) (i+1)=cW (al T) rs i:=by simp[cW]
          rw[aq,ih,e];show _=(aq (al T) rs i+(if cW (al T) rs i=true then 1 else 0))+_;omega
       by_cases hl:aH (al T) r.op=true
       · rw[if_pos hl] at h;obtain⟨F,V,S,h1,h2,h3,h4,h5⟩:=trace rs n _ st1 (st1::sts) fr' out h;refine⟨fun i=>match i with | 0=>fr | i+1=>F i,fun i=>match i with | 0=>v | i+1=>V i,fun i=>match i with | 0=>st | i+1=>S i,rfl,h2,rfl,?_,?_⟩
         · intro i r' hi
           cases i with
           | zero=>
             simp only[aaw,aab.injEq] at hi;subst hi;exact⟨h1,n,st1,Nat.lt_succ_self n,hone,fun _=>h3⟩
           | succ i=>
             simp only[List.getElem?_cons_succ] at hi;obtain⟨g1,m,s',g2,g3,g4⟩:=h4 i r' hi;rw[shift,if_pos hl];exact⟨g1,m,s',by omega,g3,g4⟩
         · rw[h5,aax,shift,if_pos hl];rw[List.range_succ_eq_map];simp only[aaS,List.map_map,List.reverse_cons,aas,List.singleton_append];rw[h3];rfl
       · rw[if_neg hl] at h;obtain⟨F,V,S,h1,h2,h3,h4,h5⟩:=trace rs n _ st sts fr' out h;refine⟨fun i=>match i with | 0=>fr | i+1=>F i,fun i=>match i with | 0=>v | i+1=>V i,S,rfl,h2,h3,?_,?_⟩
         · intro i r' hi
           cases i with
           | zero=>
             simp only[aaw,aab.injEq] at hi;subst hi;refine⟨h1,n,st1,Nat.lt_succ_self n,?_,fun hh=>absurd hh hl⟩;show cH T n r fr (S 0)=_;rw[h3];exact hone
           | succ i=>
             simp only[List.getElem?_cons_succ] at hi;obtain⟨g1,m,s',g2,g3,g4⟩:=h4 i r' hi;rw[shift,if_neg hl];exact⟨g1,m,s',by omega,g3,g4⟩
         · rw[h5,aax,shift,if_neg hl];rfl
     · cases h
theorem pD {sts:List St} {fr:Fr} {r:ak}:∀ (vs:List Nat) (n:Nat),iA T n fr r sts vs=true→∀ v∈vs,∃ m st x s' d,m<n∧sts[v]? = some st∧cH T m r fr st=some (x,s')∧r.dst=some d∧x=fr.get d
 | [],_,_,v,hv=>by cases hv
 | u::vs,n,h,v,hv=>by
   cases n with
   | zero=>simp[iA] at h
   | succ n=>
     simp only[iA,aac] at h;obtain⟨h1,h2⟩:=h;rcases aav.1 hv with rfl | hv
     · split at h1
       · rename_i st hst;split at h1
         · rename_i x s' d hrun hd;exact⟨n,st,x,s',d,Nat.lt_succ_self n,hst,hrun,hd,DV.beq_eq _ _ h1⟩
         · cases h1
       · cases h1
     · obtain⟨m,st,x,s',d,g1,g2⟩:=pD vs n h2 v hv;exact⟨m,st,x,s',d,by omega,g2⟩
theorem pk {sts:List St} {fr:Fr} {rs:List ak}:∀ (chk:List (Nat×List Nat)) (n:Nat),iG T n fr rs sts chk=true→∀ j vs,(j,vs)∈chk→∃ m r,m<n∧rs[j]? = some r∧iA T m fr r sts vs=true
 | [],_,_,j,vs,hv=>by cases hv
 | (i,us)::chk,n,h,j,vs,hv=>by
   cases n with
   | zero=>simp[iG] at h
   | succ n=>
     simp only[iG,aac] at h;obtain⟨h1,h2⟩:=h;rcases aav.1 hv with e | hv
     · cases e;split at h1
       · rename_i r hr;exact⟨n,r,Nat.lt_succ_self n,hr,h1⟩
       · cases h1
     · obtain⟨m,r,g1,g2⟩:=pk chk n h2 j vs hv;exact⟨m,r,by omega,g2⟩
end Go.D
end
section
namespace Go.D
open Go.RowKit
variable {P:Program} {fm:FM} {T:Tab}
theorem xk {rs:List ak} {F:Nat→Fr} {V:Nat→DV} (hw:∀ (i j t:Nat) (r r':ak),i≠j→rs[i]? = some r→rs[j]? = some r'→r.dst=some t→r'.dst≠some t)
 (hF:∀ (i:Nat) (r:ak),rs[i]? = some r→F (i+1)=(F i).put r.dst (V i)) (t:Nat):∀ k,k≤rs.length →
 (∀ (i:Nat) (r:ak),i<k→rs[i]? = some r→r.dst=some t→(F k).get t=V i)∧((∀ (i:Nat) (r:ak),i<k→rs[i]? = some r→r.dst≠some t)→(F k).get t=(F 0).get t):=by
 intro k
 induction k with
 | zero=>intro _;exact⟨fun i r h=>absurd h (Nat.not_lt_zero i),fun _=>rfl⟩
 | succ k ih=>
   intro hk;obtain⟨ih1,ih2⟩:=ih (by omega);have hlt:k<rs.length:=by omega
   have hr:rs[k]? = some rs[k]:=aaa hlt;have hstep:=hF k _ hr
   have hget:(F (k+1)).get t=if (rs[k]).dst=some t then V k else (F k).get t:=by
    rw[hstep]
    cases hd:(rs[k]).dst with
    | none=>simp[Fr.put]
    | some u=>
      show (if u=t then V k else (F k).get t)=_;by_cases e:u=t
      · subst e;simp
      · rw[if_neg e,if_neg];intro h;exact e (aab.inj h)
   constructor
   · intro i r hi hri hdst;by_cases e:i=k
     · subst e;rw[hr] at hri;cases hri;rw[hget,if_pos hdst]
     · rw[hget,if_neg]
       · exact ih1 i r (by omega) hri hdst
       · intro hc;exact hw i k t r _ e hri hr hdst hc
   · intro h;rw[hget,if_neg (h k _ (by omega) hr)];exact ih2 fun i r hi=>h i r (by omega)
theorem qq {op:ROp} {fr:Fr} {b:Nat} {v:DV} {ob:HO} (h:je op fr b=some (v,ob)):ob.cb=false:=by
 unfold je at h;split at h
 · cases h;rfl
 · cases h;rfl
 · split at h
   · split at h
     · cases h;rfl
     · cases h
   · cases h
 · cases h
theorem pJ (op:ROp) (f:X→DV) (v:DV):(ROp.got v ((lx op).map fun x=>(x,f x))).reads=(lx op).flatMap X.reads:=by
 simp only[ROp.reads,List.flatMap_map]
theorem rl:∀ (i:Nat) (rs:List ak),lH [] i rs=rs
 | _,[]=>rfl
 | i,o::r=>by simp[lH,rl (i+1) r]
theorem Alike.refl (pf:Nat→Bool) (as_:List ak):Alike pf as_ as_:=⟨rfl,fun i a b h h'=>by rw[h] at h';cases h';exact⟨rfl,rfl,rfl,rfl⟩⟩
theorem Alike.cons {pf:Nat→Bool} {a b:ak} {as_ bs:List ak} (h:a.dst=b.dst∧a.reads=b.reads∧aH pf a.op=aH pf b.op∧cu a.op=cu b.op) (k:Alike pf as_ bs):Alike pf (a::as_) (b::bs):=by
 refine⟨by simp[k.1],fun i x y hx hy=>?_⟩
 cases i with
 | zero=>simp only[aaw,aab.injEq] at hx hy;subst hx;subst hy;exact h
 | succ i=>exact k.2 i x y (by simpa using hx) (by simpa using hy)
theorem kM (pf:Nat→Bool) {fr1:Fr} {hs:List Nat}:∀ (rs:List ak) (i:Nat) (st st1:St) (l:List ak),qH fr1 hs i st rs=some (st1,l)→Alike pf (lH hs i rs) l
 | [],i,st,st1,l,h=>by
   simp only[qH,aab.injEq,Prod.mk.injEq] at h;obtain⟨rfl,rfl⟩:=h;exact Alike.refl _ _
 | o::r,i,st,st1,l,h=>by
   simp only[qH] at h;split at h
   · rename_i hc;split at h
     · rename_i v ob hg hf;split at h
       · rename_i st2 l2 hp;simp only[aab.injEq,Prod.mk.injEq] at h;obtain⟨rfl,rfl⟩:=h;simp only[lH,if_pos hc];refine Alike.cons ⟨rfl,?_,rfl,rfl⟩ (kM pf r _ _ _ _ hp);simp only[ak.reads,pJ]
       · cases h
     · cases h
   · rename_i hc;split at h
     · rename_i st2 l2 hp;simp only[aab.injEq,Prod.mk.injEq] at h;obtain⟨rfl,rfl⟩:=h;simp only[lH,if_neg hc];exact Alike.cons ⟨rfl,rfl,rfl,rfl⟩ (kM pf r _ _ _ _ hp)
     · cases h
structure MY (P:Program) (fm:FM) (T:Tab) (hs:List Nat) (i:Nat) (rs rs2:List ak) (fr1:Fr) (G G1:Gh) (w0:World) (st st1:St) (w:World) (bf:Nat→Nat):Prop where
 sim:bT P fm T G1 w0 st1 w
 le:G.leP G1
 len:rs2.length=rs.length
 same:∀ k r,rs[k]? = some r→hs.contains (i+k)=false→rs2[k]? = some r
 held:∀ k r,rs[k]? = some r→hs.contains (i+k)=true→r.guard=none∧st.heap.length≤bf k∧∃ v ob,je r.op fr1 (bf k)=some (v,ob)∧G1.bj (bf k)=some ob ∧
  rs2[k]? = some ⟨r.dst,.got v ((lx r.op).map fun x=>(x,x.ev fr1)),none⟩
 inj:∀ k k',k<rs.length→k'<rs.length→hs.contains (i+k)=true→hs.contains (i+k')=true→bf k=bf k'→k=k'
 other:∀ b,(∀ k,k<rs.length→hs.contains (i+k)=true→bf k≠b)→G1.bj b=G.bj b
theorem rW {fr1:Fr} {hs:List Nat} {w0 w:World}:∀ (rs:List ak) (i:Nat) (st st1:St) (l:List ak) (G:Gh),qH fr1 hs i st rs=some (st1,l)→bT P fm T G w0 st w →
 ∃ G1 bf,MY P fm T hs i rs l fr1 G G1 w0 st st1 w bf
 | [],i,st,st1,l,G,h,hsim=>by
   simp only[qH,aab.injEq,Prod.mk.injEq] at h;obtain⟨rfl,rfl⟩:=h;exact⟨G,fun _=>0,hsim,(Gh.le.refl G).toP,rfl,fun k r h=>by simp at h,fun k r h=>by simp at h,fun k k' h=>by simp at h,fun _ _=>rfl⟩
 | o::r,i,st,st1,l,G,h,hsim=>by
   simp only[qH] at h;split at h
   · rename_i hc;split at h
     · rename_i v ob hg hf;split at h
       · rename_i st2 l2 hp;simp only[aab.injEq,Prod.mk.injEq] at h;obtain⟨rfl,rfl⟩:=h;have hng:=qq hf;obtain⟨G1,bf,H⟩:=rW r (i+1) _ _ _ (G.hold st.heap.length ob) hp (hsim.hold ob hng);have hlen:(st.push ob).heap.length=st.heap.length+1:=by simp[St.push]
         have hbf:∀ k,k<r.length→hs.contains (i+1+k)=true→st.heap.length<bf k:=by
          intro k hk hck;have:=(H.held k _ (aaa hk) hck).2.1;omega
         have hidx:∀ k,i+1+k=i+(k+1):=fun k=>by omega
         refine⟨G1,fun k=>match k with | 0=>st.heap.length | k+1=>bf k,H.sim,(G.vS _ _).trans H.le,by simp[H.len],?_,?_,?_,?_⟩
         · intro k r' hk hck
           cases k with
           | zero=>rw[aa5,hc] at hck;cases hck
           | succ k=>simpa using H.same k r' (by simpa using hk) (by rw[hidx];exact hck)
         · intro k r' hk hck
           cases k with
           | zero=>
             simp only[aaw,aab.injEq] at hk;subst hk;refine⟨hg,aai _,v,ob,hf,?_,rfl⟩;show G1.bj st.heap.length=some ob;rw[H.other st.heap.length fun k hk hck=>by have:=hbf k hk hck;omega];simp[Gh.hold]
           | succ k=>
             obtain⟨h1,h2,v',ob',h3,h4,h5⟩:=H.held k r' (by simpa using hk) (by rw[hidx];exact hck);exact⟨h1,by show st.heap.length≤bf k;omega,v',ob',h3,h4,by simpa using h5⟩
         · intro k k' hk hk' hck hck' he
           cases k with
           | zero=>
             cases k' with
             | zero=>rfl
             | succ k'=>
               have:=hbf k' (by simpa using hk') (by rw[hidx];exact hck');have he':st.heap.length=bf k':=he;omega
           | succ k=>
             cases k' with
             | zero=>
               have:=hbf k (by simpa using hk) (by rw[hidx];exact hck);have he':bf k=st.heap.length:=he;omega
             | succ k'=>rw[H.inj k k' (by simpa using hk) (by simpa using hk') (by rw[hidx];exact hck) (by rw[hidx];exact hck') he]
         · intro b hb;have h0:st.heap.length≠b:=hb 0 (by simp) (by rw[aa5];exact hc);rw[H.other b fun k hk hck=>hb (k+1) (by simpa using hk) (by rw[← hidx];exact hck)];simp only[Gh.hold];rw[if_neg (fun e=>h0 e.symm)]
       · cases h
     · cases h
   · rename_i hc;split at h
     · rename_i st2 l2 hp;simp only[aab.injEq,Prod.mk.injEq] at h;obtain⟨rfl,rfl⟩:=h;obtain⟨G1,bf,H⟩:=rW r (i+1) _ _ _ G hp hsim;have hidx:∀ k,i+1+k=i+(k+1):=fun k=>by omega
       refine⟨G1,fun k=>match k with | 0=>0 | k+1=>bf k,H.sim,H.le,by simp[H.len],?_,?_,?_,?_⟩
       · intro k r' hk hck
         cases k with
         | zero=>simpa using hk
         | succ k=>simpa using H.same k r' (by simpa using hk) (by rw[hidx];exact hck)
       · intro k r' hk hck
         cases k with
         | zero=>rw[aa5] at hck;exact absurd hck hc
         | succ k=>simpa using H.held k r' (by simpa using hk) (by rw[hidx];exact hck)
       · intro k k' hk hk' hck hck' he
         cases k with
         | zero=>rw[aa5] at hck;exact absurd hck hc
         | succ k=>
           cases k' with
           | zero=>rw[aa5] at hck';exact absurd hck' hc
           | succ k'=>rw[H.inj k k' (by simpa using hk) (by simpa using hk') (by rw[hidx];exact hck) (by rw[hidx];exact hck') he]
       · intro b hb;exact H.other b fun k hk hck=>hb (k+1) (by simpa using hk) (by rw[← hidx];exact hck)
     · cases h
theorem C9 {fr:Fr} {hs:List Nat} {w0 w:World} {rs:List ak} {st st1:St} {l:List ak} {G:Gh} (h:gI fr hs st rs=some (st1,l)) (hsim:bT P fm T G w0 st w) :
 Alike (al T) (lH hs 0 rs) l∧∃ fr1 G1 bf,MY P fm T hs 0 rs l fr1 G G1 w0 st st1 w bf:=by
 unfold gI at h;split at h
 · simp only[aab.injEq,Prod.mk.injEq] at h;obtain⟨rfl,rfl⟩:=h;refine⟨by rw[rl];exact Alike.refl _ _,[],G,fun _=>0,hsim,(Gh.le.refl G).toP,rfl,fun k r h _=>h,fun k r h hc=>by simp at hc,fun k k' _ _ hc=>by simp at hc,fun _ _=>rfl⟩
 · obtain⟨G1,bf,H⟩:=rW rs 0 _ _ _ G h hsim;exact⟨kM _ _ _ _ _ _ h,_,G1,bf,H⟩
theorem GY (hm:P.follows .mixedOrders=true) (n:Nat) (hall:∀ m,m≤n→Good P fm T m):DF P fm T n:=by
 intro N rs0 hz rs st1 chk anc ops id fr st fr' st' sts G w0 w a ro D0 hrel0 hpr hrun hck hs hf hN hd;obtain⟨hal,fr1,Gp,bf,H⟩:=C9 hpr hs;have hrel:=hrel0.rest.alike hal;have Hsame:∀ k r,rs0[k]? = some r→hz.contains k=false→rs[k]? = some r:=fun k r h hc=>H.same k r h (by rw[aay];exact hc);have Hheld:=fun k r (h:rs0[k]? = some r) (hc:hz.contains k=true)=>H.held k r h (by rw[aay];exact hc)
 have Hinj:∀ k k',k<rs.length→k'<rs.length→hz.contains k=true→hz.contains k'=true→bf k=bf k'→k=k':=
  fun k k' hk hk' hc hc'=>H.inj k k' (by rw[← H.len];exact hk) (by rw[← H.len];exact hk') (by rw[aay];exact hc) (by rw[aay];exact hc')
 obtain⟨F,V,S,hF0,hFn,hS0,hstep,hout⟩:=trace rs n fr st1 [st1] fr' (st'::sts) hrun;have hfg:=fun t=>xk (rs:=rs) (F:=F) (V:=V) hrel.gj (fun i r h=>(hstep i r h).1) t
 have hrev:(st'::sts).reverse=(aal (aq (al T) rs rs.length+1)).map S:=by
  rw[hout,List.reverse_append,List.reverse_reverse,List.range_succ_eq_map];simp[hS0,List.map_map,Function.comp]
 have hlast:st'=S (aq (al T) rs rs.length):=by
  have h1:((st'::sts).reverse)[aq (al T) rs rs.length]? = some (S (aq (al T) rs rs.length)):=by rw[hrev];simp
  have hlen:(st'::sts).length=aq (al T) rs rs.length+1:=by
   have:=congrArg List.length hrev;simpa using this
  rw[List.getElem?_reverse (by omega)] at h1;rw[show (st'::sts).length-1-aq (al T) rs rs.length=0 by omega] at h1;simpa using h1
 have hloudAt:∀ (i:Nat) (r:ak),rs[i]? = some r→cW (al T) rs i=aH (al T) r.op:=fun i r h=>by simp[cW,h]
 have hloudGet:∀ i,cW (al T) rs i=true→∃ r,rs[i]? = some r∧aH (al T) r.op=true:=fun i h=>by
  unfold cW at h;split at h
  · rename_i r hr;exact⟨r,hr,h⟩
  · cases h
 have hsize:rs.length=ops.size:=H.len.trans hrel0.rel.1;refine wpIn_region_any hm ?_
 have main:∀ (fuel:Nat) (L:Array Bool) (a1:Act) (w1:World) (G1:Gh),L.size=ops.size →
  (∀ j,L.getD j false=true→∀ i∈anc j,L.getD i false=true) →
  cnt (fun _=>true) [] (fun i=>L.getD i false) 0=0 →
  (∃ U:List Nat,U.Nodup∧U.length=fuel∧(∀ i,i∈U↔i<ops.size∧L.getD i false=false)) →
  G.leP G1→(∀ k,k<rs.length→hz.contains k=true→L.getD k false=false→G1.bj (bf k)=Gp.bj (bf k)) →
  (∀ b,(∀ k,k<rs.length→hz.contains k=true→L.getD k false=false→bf k≠b)→G1.bj b=G.bj b)→bT P fm T G1 w0 (S (cnt (al T) rs (fun i=>L.getD i false) rs.length)) w1 →
  (∀ t,(∀ (i:Nat) (r:ak),rs[i]? = some r→r.dst=some t→L.getD i false=true→Rel fm G1 (V i) (a1.tmps.getD t undef)) ∧
   ((∀ (i:Nat) (r:ak),rs[i]? = some r→r.dst=some t→L.getD i false=false)→Rel fm G1 (fr.get t) (a1.tmps.getD t undef))) →
  N≤a1.tmps.size→a1.defers=a.defers →
  wpAnyIn (fen ro) 0 P .any ops (iu P fm T G w0 st' fr' .normal N D0) fuel L a1 w1:=by
  intro fuel
  induction fuel with
  | zero=>
    intro L a1 w1 G1 hL hcl _ hU hleP hp1 hp2 hs1 hfr hN1 hd1;obtain⟨U,hUn,hUl,hU⟩:=hU;have hU0:U=[]:=abc hUl;subst hU0
    have hlisted:∀ i,i<ops.size→L.getD i false=true:=fun i hi=>by
     cases h:L.getD i false with
     | true=>rfl
     | false=>exact absurd ((hU i).2 ⟨hi,h⟩) (by simp)
    have hle:G.le G1:=hleP.SP (funext fun b=>hp2 b fun k hk _ hLk=>by rw[hlisted k (by omega)] at hLk;cases hLk);refine⟨?_,trivial,G1,hle,?_,?_,hN1,by rw[hd1];exact hd.le hle⟩
    · cases hrd:Region.ready .any ops L with
      | nil=>rfl
      | cons j _=>
        have hj:j∈Region.ready .any ops L:=by rw[hrd];simp
        rw[mem_ready] at hj;obtain⟨h0,o,ho,_⟩:=hj;have hjlt:j<ops.size:=(aa6.1 ho).1;have:=hlisted j hjlt;have hjL:j<L.size:=by omega
        simp[hjL] at h0 this;rw[h0] at this;cases this
    · have:cnt (al T) rs (fun i=>L.getD i false) rs.length=aq (al T) rs rs.length:=by
       apply Nat.le_antisymm (oy _ _ _ _);exact xH (al T) rs _ rs.length (fun i hi _=>hlisted i (by omega)) rs.length (aai _)
      rw[this,← hlast] at hs1;exact hs1
    · intro t;obtain⟨g1,g2⟩:=hfg t rs.length (aai _);rw[← hFn];by_cases hex:∃ (i:Nat) (r:ak),rs[i]? = some r∧r.dst=some t
      · obtain⟨i,r,hr,hdst⟩:=hex;have hi:i<rs.length:=(aae.1 hr).1;rw[g1 i r hi hr hdst];exact(hfr t).1 i r hr hdst (hlisted i (by omega))
      · have hno:∀ (i:Nat) (r:ak),rs[i]? = some r→r.dst≠some t:=fun i r hr hdst=>hex ⟨i,r,hr,hdst⟩;rw[g2 fun i r _ hr=>hno i r hr,hF0];exact(hfr t).2 fun i r hr hdst=>absurd hdst (hno i r hr)
  | succ fuel ih=>
    intro L a1 w1 G1 hL hcl hzz hU hleP hp1 hp2 hs1 hfr hN1 hd1;obtain⟨U,hUn,hUl,hU⟩:=hU;refine⟨?_,?_⟩
    · intro hrd;exfalso
      have hne:∃ i,i<ops.size∧L.getD i false=false:=by
       cases U with
       | nil=>simp at hUl
       | cons i _=>exact⟨i,(hU i).1 (by simp)⟩
      obtain⟨i0,hi0⟩:=hne;obtain⟨j,⟨hj1,hj2⟩,hmin⟩:=gv (fun i=>i<ops.size∧L.getD i false=false) i0 hi0
      have hj:j∈Region.ready .any ops L:=by
       rw[mem_ready];refine⟨?_,ops[j],by simp[hj1],?_⟩
       · have:j<L.size:=by omega
         simp[this] at hj2 ⊢;exact hj2
       · intro e he hb;have hlt:=hrel.rr j ops[j] (by simp[hj1]) e (by simpa using he) hb
         cases h:L.getD e.on false with
         | true=>rfl
         | false=>exact absurd (hmin e.on ⟨by omega,h⟩) (by omega)
      rw[hrd] at hj;cases hj
    · intro j hj;rw[mem_ready] at hj;obtain⟨hj0,o,ho,hedges⟩:=hj;have hjlt:j<ops.size:=(aa6.1 ho).1;have hjL:j<L.size:=by omega
      have hjf:L.getD j false=false:=by simp[hjL] at hj0 ⊢;exact hj0
      have hjr:j<rs.length:=by omega
      have hr:rs[j]? = some rs[j]:=aaa hjr;obtain⟨r0,hr0⟩:∃ r0,rs0[j]? = some r0:=⟨_,aaa (by rw[← H.len];exact hjr)⟩;obtain⟨o',ho',hor⟩:=hrel0.rel.2 j _ hr0;rw[ho] at ho';cases ho'
      have hdst:(rs[j]).dst=o.dst:=by
       cases hc:hz.contains j with
       | false=>
         have:=Hsame j r0 hr0 hc;rw[hr] at this;rw[aab.inj this];exact hor.1
       | true=>
         obtain⟨_,_,v,ob,_,_,h5⟩:=Hheld j r0 hr0 hc;rw[hr] at h5;rw[aab.inj h5];exact hor.1
      have hancL:∀ i∈anc j,L.getD i false=true:=by
       intro i hi;obtain⟨_,e,he,hb,hcase⟩:=hrel.AR j o ho i hi;have hel:=hedges e (by simpa using he) hb;rcases hcase with rfl | ⟨_,hi2⟩
       · exact hel
       · exact hcl e.on hel i hi2
      have hnotAnc:∀ i,L.getD i false=true→j∉anc i:=fun i hi hmem=>by
       have:=hcl i hi j hmem;rw[hjf] at this;cases this
      obtain⟨hFj,m,s',hmn,hone,hloudS⟩:=hstep j _ hr
      have hreads:∀ t∈(rs[j]).reads,Rel fm G1 ((F j).get t) (a1.tmps.getD t undef):=by
       intro t ht;obtain⟨g1,g2⟩:=hfg t j (by omega);by_cases hex:∃ (i:Nat) (r:ak),rs[i]? = some r∧r.dst=some t
       · obtain⟨i,r,hri,hdst⟩:=hex;obtain⟨hne,hlt1,hlt2⟩:=hrel.ku i j t r _ hri hr hdst ht;rcases Nat.lt_or_ge i j with h|h
         · rw[g1 i r h hri hdst];exact(hfr t).1 i r hri hdst (hancL i (hlt1 h))
         · have hgt:j<i:=by omega
           have hanc:=hlt2 hgt
           have hni:L.getD i false=false:=by
            cases hh:L.getD i false with
            | false=>rfl
            | true=>exact absurd hanc (hnotAnc i hh)
           rw[g2 fun k r' hk hrk hdk=>by
            by_cases e:k=i
            · subst e;omega
            · exact hrel.gj i k t r r' (fun x=>e x.symm) hri hrk hdst hdk,hF0]
           refine(hfr t).2 fun k r' hrk hdk=>?_;by_cases e:k=i
           · subst e;exact hni
           · exact absurd hdk (hrel.gj i k t r r' (fun x=>e x.symm) hri hrk hdst)
       · have hno:∀ (i:Nat) (r:ak),rs[i]? = some r→r.dst≠some t:=fun i r hr hdst=>hex ⟨i,r,hr,hdst⟩;rw[g2 fun i r _ hr=>hno i r hr,hF0];exact(hfr t).2 fun i r hr hdst=>absurd hdst (hno i r hr)
      have hLloud:∀ i,cW (al T) rs i=true→L.getD i false=true→aH (al T) (rs[j]).op=true→i<j:=by
       intro i hi hLi hlj;obtain⟨r,hri,hrl⟩:=hloudGet i hi;rcases Nat.lt_trichotomy i j with h | h | h
       · exact h
       · subst h;rw[hjf] at hLi;cases hLi
       · exact absurd (hrel.tO j i _ r h hr hri hlj hrl) (hnotAnc i hLi)
      have cont:∀ (st2:St),(aH (al T) (rs[j]).op=true→st2=S (cnt (al T) rs (fun i=>L.getD i false) rs.length+1))→(aH (al T) (rs[j]).op=false→st2=S (cnt (al T) rs (fun i=>L.getD i false) rs.length)) →
       ∀ (x:Value) (G':Gh) (w':World),G1.leP G'→(∀ k,k<rs.length→hz.contains k=true→(L.setIfInBounds j true).getD k false=false→G'.bj (bf k)=Gp.bj (bf k)) →
         (∀ b,(∀ k,k<rs.length→hz.contains k=true→(L.setIfInBounds j true).getD k false=false→bf k≠b)→G'.bj b=G.bj b)→bT P fm T G' w0 st2 w'→Rel fm G' (V j) x →
         wpAnyIn (fen ro) 0 P .any ops (iu P fm T G w0 st' fr' .normal N D0) fuel (L.setIfInBounds j true) (a1.put o.dst x) w':=by
       intro st2 hl2 hq2 x G' w' hle' hp1' hp2' hs' hx;have hset:∀ i,i≠j→(L.setIfInBounds j true).getD i false=L.getD i false:=fun i hi=>getD_set_ne false (fun e=>hi e.symm);have hsetj:(L.setIfInBounds j true).getD j false=true:=by simp[hjL]
       have hcnt:=zA (al T) rs (fun i=>L.getD i false) (fun i=>(L.setIfInBounds j true).getD i false) j hjf hsetj (fun i hi=>hset i hi) rs.length;refine ih _ _ _ G' (by simpa using hL) ?_ rfl ?_ (hleP.trans hle') hp1' hp2' ?_ ?_ (by rw[wg];exact hN1) ((put_defers _ _ _).trans hd1)
       · intro k hk i hi;by_cases e:k=j
         · subst e;exact getD_set_true (hancL i hi)
         · rw[hset k e] at hk;exact getD_set_true (hcl k hk i hi)
       · refine⟨U.erase j,hUn.erase j,?_,?_⟩
         · have hjU:j∈U:=(hU j).2 ⟨hjlt,hjf⟩;rw[List.length_erase_of_mem hjU,hUl];rfl
         · intro i;rw[hUn.mem_erase_iff,hU];by_cases e:i=j
           · subst e;rw[hsetj];simp
           · rw[hset i e];exact⟨fun h=>h.2,fun h=>⟨e,h⟩⟩
       · rw[hcnt,hloudAt j _ hr]
         cases hl:aH (al T) (rs[j]).op with
         | true=>
           rw[if_pos ⟨hjr,rfl⟩,← hl2 hl];exact hs'
         | false=>
           rw[if_neg (by simp),aa5,← hq2 hl];exact hs'
       · intro t
         cases hod:o.dst with
         | none=>
           refine⟨fun i r hri hdr hLi=>?_,fun h=>?_⟩
           · have e:i≠j:=by rintro rfl;rw[hr] at hri;cases hri;rw[hdst,hod] at hdr;cases hdr
             rw[hset i e] at hLi;exact((hfr t).1 i r hri hdr hLi).sub hle'.toSub
           · refine((hfr t).2 fun i r hri hdr=>?_).sub hle'.toSub;have:=h i r hri hdr;by_cases e:i=j
             · subst e;exact hjf
             · rw[hset i e] at this;exact this
         | some t0=>
           have ht0:t0<a1.tmps.size:=abm (hor.2.1 t0 hod) hN1;show (∀ (i:Nat) (r:ak),_→_→_→Rel fm G' (V i) ((a1.tmps.setIfInBounds t0 x).getD t undef))∧(_→Rel fm G' (fr.get t) ((a1.tmps.setIfInBounds t0 x).getD t undef));rw[eu _ _ _ _ _ ht0];by_cases e0:t0=t
           · subst e0;rw[if_pos rfl];refine⟨fun i r hri hdr hLi=>?_,fun h=>?_⟩
             · by_cases e:i=j
               · subst e;exact hx
               · exact absurd hdr (hrel.gj j i t0 _ r (fun x=>e x.symm) hr hri (hdst.trans hod))
             · have:=h j _ hr (hdst.trans hod);rw[hsetj] at this;cases this
           · rw[if_neg e0];refine⟨fun i r hri hdr hLi=>?_,fun h=>?_⟩
             · have e:i≠j:=by rintro rfl;rw[hr] at hri;cases hri;rw[hdst,hod] at hdr;exact e0 (aab.inj hdr)
               rw[hset i e] at hLi;exact((hfr t).1 i r hri hdr hLi).sub hle'.toSub
             · refine((hfr t).2 fun i r hri hdr=>?_).sub hle'.toSub;have:=h i r hri hdr;by_cases e:i=j
               · subst e;exact hjf
               · rw[hset i e] at this;exact this
      unfold wpOpIn;rw[ho];simp only
      cases hcj:hz.contains j with
      | true=>
        obtain⟨hg0,hbj,v,ob,hfree,hpj,hrj⟩:=Hheld j r0 hr0 hcj
        have hrj':rs[j]=⟨r0.dst,.got v ((lx r0.op).map fun x=>(x,x.ev fr1)),none⟩:=by
         rw[hr] at hrj;exact aab.inj hrj
        have hone':=hone;rw[hrj'] at hone'
        have hVj:V j=v∧∀ x∈lx r0.op,x.ev (F j)=x.ev fr1:=by
         cases m with
         | zero=>simp[cH] at hone'
         | succ m=>
           simp only[cH,eb,an] at hone';split at hone'
           · rename_i hall';simp only[aab.injEq,Prod.mk.injEq] at hone';refine⟨hone'.1.symm,fun x hx=>?_⟩;exact DV.beq_eq _ _ (aaf.1 hall' _ (aaT.2 ⟨x,hx,rfl⟩))
           · cases hone'
        have hreads0:∀ t∈(lx r0.op).flatMap X.reads,Rel fm G1 ((F j).get t) (a1.tmps.getD t undef):=by
         intro t ht;refine hreads t ?_;rw[hrj'];simp only[ak.reads,pJ,aaE];exact ht
        have hk:cG fm G1 ((F j).bG ((lx r0.op).flatMap X.reads)) a1.tmps:=by
         intro t;rw[Fr.ic];split
         · exact hreads0 t (by assumption)
         · exact .undef _
        have hfree':je r0.op ((F j).bG ((lx r0.op).flatMap X.reads)) (bf j)=some (v,ob):=by
         rw[← hfree];refine wv fun x hx=>?_;rw[← hVj.2 x hx];exact X.bD fun t ht=>by rw[Fr.ic,if_pos (aaH.2 ⟨x,hx,ht⟩)]
        have hpj1:G1.bj (bf j)=some ob:=(hp1 j hjr hcj hjf).trans hpj;obtain⟨_,obm,x,nx,h1,h2,h3⟩:=hrel0.free j r0 o (by simpa using hcj) hr0 ho (hZ P fm T) G1 w0 _ w1 _ a1 (bf j) v ob hs1 hk hfree';obtain⟨h4,h5⟩:=h3 (G1.settle (bf j) w1.heap.size) (by simp[Gh.settle]);have hs2:=hs1.settle hpj1 h4;have hmn:G1.mu (bf j)=none:=(hs1.bj _ _ hpj1).2
        have hog:o.guard=none:=by
         have:=hor.2.2.1;unfold jT at this;rw[hg0] at this
         cases hh:o.guard with
         | none=>rfl
         | some y=>rw[hh] at this;exact this.elim
        have hwant:Region.wanted o (yielded ops a1.tmps)=true:=by unfold Region.wanted;rw[hog]
        rw[hwant];simp only[if_true];refine⟨fun f _=>p8 ro f,?_⟩;rw[Oper.semAt_eq _ _ _ hor.2.2.2.1,h1];have hfin:=cont (S (cnt (al T) rs (fun i=>L.getD i false) rs.length)) (fun h=>by rw[hrj'] at h;cases h) (fun _=>rfl) x _ _ (Gh.oL hmn) ?_ ?_ hs2 (by rw[hVj.1];exact h5)
        · rcases h2 with rfl|⟨rfl,rfl⟩<;>exact hfin
        · intro k hk hck hLk
          have hkj:k≠j:=by
           rintro rfl;have hsj:(L.setIfInBounds k true).getD k false=true:=by simp[hjL]
           rw[hsj] at hLk;cases hLk
          rw[getD_set_ne false (fun e=>hkj e.symm)] at hLk;have:bf k≠bf j:=fun e=>hkj (Hinj k j hk hjr hck hcj e);simp only[Gh.settle,if_neg this];exact hp1 k hk hck hLk
        · intro b hb;simp only[Gh.settle];split
          · rename_i e;rw[e,hs.Kf hbj]
          · rename_i e;refine hp2 b fun k hk hck hLk=>?_;by_cases hkj:k=j
            · subst hkj;exact fun h=>e h.symm
            · exact hb k hk hck (by rw[getD_set_ne false (fun e=>hkj e.symm)];exact hLk)
      | false=>
      have hrj:rs[j]=r0:=by
       have:=Hsame j r0 hr0 hcj;rw[hr] at this;exact aab.inj this
      rw[← hrj] at hor
      have cont:=fun st2 h1 h2 (x:Value) (G':Gh) (w':World) (hle':G1.le G')=>cont st2 h1 h2 x G' w' hle'.toP
       (fun k hk hck hLk=>by
        have hkj:k≠j:=by rintro rfl;rw[hcj] at hck;cases hck
        rw[getD_set_ne false (fun e=>hkj e.symm)] at hLk
        rw[hle'.bj];exact hp1 k hk hck hLk)
       (fun b hb=>by
        rw[hle'.bj];refine hp2 b fun k hk hck hLk=>?_;have hkj:k≠j:=by rintro rfl;rw[hcj] at hck;cases hck
        exact hb k hk hck (by rw[getD_set_ne false (fun e=>hkj e.symm)];exact hLk))
      cases hl:aH (al T) (rs[j]).op with
      | true=>
        have hv:cnt (al T) rs (fun i=>L.getD i false) rs.length=aq (al T) rs j:=by
         apply Nat.le_antisymm
         · exact qS (al T) rs _ j (fun i h1 h2=>hLloud i h1 h2 hl) _
         · refine xH (al T) rs _ j (fun i hi h1=>?_) _ (by omega);obtain⟨r,hri,hrl⟩:=hloudGet i h1;exact hancL i (hrel.tO i j r _ hi hri hr hrl hl)
        rw[← hv] at hone hloudS;refine(hall m (by omega)).one hor hone hs1 hreads ?_;exact cont s' (fun _=>(hloudS hl).symm) (fun h=>by rw[hl] at h;cases h)
      | false=>
        have hs'eq:=lD hl hone
        cases hst:cu (rs[j]).op with
        | true=>
          have hone':cH T m (rs[j]) (F j) (S (cnt (al T) rs (fun i=>L.getD i false) rs.length))=some (V j,S (cnt (al T) rs (fun i=>L.getD i false) rs.length)):=by
           cases m with
           | zero=>simp[cH] at hone
           | succ m=>
             simp only[cH] at hone ⊢;split at hone
             · cases hone
             · injection hone with hone;injection hone with hone _;rw[hone]
             · cases hop:(rs[j]).op
               case call=>rw[hop] at hst;cases hst
               case bz=>rw[hop] at hst;cases hst
               case dp=>rw[hop] at hst;cases hst
               all_goals
                rw[hop] at hst hone;exact qg hst hone
          refine(hall m (by omega)).one hor hone' hs1 hreads ?_;exact cont _ (fun h=>by rw[hl] at h;cases h) (fun _=>rfl)
        | false=>
          have hcov:=hrel.cover j (cnt (al T) rs (fun i=>L.getD i false) rs.length) _ hr hl hst ?_ ?_ (oy _ _ _ _)
          · rcases hcov with hv|⟨vs,hmem,hv,_⟩
            · rw[← hv] at hone;rw[hs'eq,← hv] at hone;refine(hall m (by omega)).one hor hone hs1 hreads ?_;exact cont _ (fun h=>by rw[hl] at h;cases h) (fun _=>rfl)
            · obtain⟨m2,r2,hm2,hr2,hc2⟩:=pk chk n hck j vs hmem;rw[hr] at hr2;cases hr2;obtain⟨m3,st3,x3,s3,d3,hm3,hst3,hrun3,hd3,hx3⟩:=pD vs m2 hc2 _ hv;rw[hrev] at hst3
              have hst3':st3=S (cnt (al T) rs (fun i=>L.getD i false) rs.length):=by
               rw[abe] at hst3;have hle3:=oy (al T) rs (fun i=>L.getD i false) rs.length;rw[List.getElem?_range (by omega)] at hst3;exact(aab.inj hst3).symm
              subst hst3'
              have hV:x3=V j:=by
               rw[hx3,← hFn];exact(hfg d3 rs.length (aai _)).1 j _ hjr hr hd3
              rw[hV] at hrun3;have hs3:=lD hl hrun3
              have hreads3:∀ t∈(rs[j]).reads,Rel fm G1 (fr'.get t) (a1.tmps.getD t undef):=by
               intro t ht
               have hsame:fr'.get t=(F j).get t:=by
                rw[← hFn];obtain⟨g1,g2⟩:=hfg t rs.length (aai _);obtain⟨k1,k2⟩:=hfg t j (by omega);by_cases hex:∃ (i:Nat) (r:ak),rs[i]? = some r∧r.dst=some t
                · obtain⟨i,r,hri,hdst⟩:=hex;have hij:=hrel.iY j vs _ hmem hr i t r hri hdst ht;rw[g1 i r (aae.1 hri).1 hri hdst,k1 i r hij hri hdst]
                · have hno:∀ (i:Nat) (r:ak),rs[i]? = some r→r.dst≠some t:=fun i r hr hdst=>hex ⟨i,r,hr,hdst⟩;rw[g2 fun i r _ hr=>hno i r hr,k2 fun i r _ hr=>hno i r hr]
               rw[hsame];exact hreads t ht
              refine(hall m3 (by omega)).one hor hrun3 hs1 hreads3 ?_;exact cont _ (fun h=>by rw[hl] at h;cases h) (fun _=>hs3)
          · intro i r hri hrl hi;have hLi:=hancL i hi
            have h1:aq (al T) rs (i+1)≤cnt (al T) rs (fun i=>L.getD i false) rs.length:=by
             refine xH (al T) rs _ (i+1) (fun k hk h1=>?_) _ (by have:=(aae.1 hri).1;omega);by_cases e:k=i
             · subst e;exact hLi
             · obtain⟨r',hrk,hrkl⟩:=hloudGet k h1;exact hcl i hLi k (hrel.tO k i r' r (by omega) hrk hri hrkl hrl)
            simp only[aq,hloudAt i r hri,hrl,if_true] at h1;omega
          · intro i r hri hrl hi;refine qS (al T) rs _ i (fun k h1 h2=>?_) _;obtain⟨r',hrk,hrkl⟩:=hloudGet k h1;rcases Nat.lt_trichotomy k i with h | h | h
            · exact h
            · subst h;exact absurd hi (hnotAnc k h2)
            · have:=hcl k h2 i (hrel.tO i k r r' h hri hrk hrl hrkl);exact absurd hi (hnotAnc i this)
 refine main ops.size _ a _ Gp (by simp) ?_ rfl ?_ H.le (fun _ _ _ _=>rfl) ?_ ?_ ?_ hN rfl
 · intro j hj;simp[Array.getD,abo] at hj
 · refine⟨aal ops.size,List.nodup_range,by simp,fun i=>?_⟩;simp only[abz];constructor
   · intro h;exact⟨h,by simp[Array.getD,abo]⟩
   · exact fun h=>h.1
 · intro b hb;exact H.other b fun k hk hck=>hb k (by rw[H.len];exact hk) (by rw[aay] at hck;exact hck) (by simp[Array.getD,abo])
 · rw[uY _ _ _ (fun i=>by simp[Array.getD,abo]),hS0];exact H.sim.draw _
 · intro t;refine⟨fun i r _ _ h=>?_,fun _=>(hf t).sub H.le.toSub⟩;simp[Array.getD,abo] at h
end Go.D
end
section
namespace Go.D
open Go.RowKit
variable {P:Program} {fm:FM} {T:Tab}
theorem Av:Good P fm T 0 where
 code:=fun {rc} {_} {_} {_} {_} {_} {_} {_} {_} {_} {_} {_} {_} {_} _ h=>by cases rc<;>simp[dL] at h
 one:=fun {_} {_} {_} {_} {_} {_} {_} {_} {_} {_} {_} {_} {_} {_} {_} _ h=>by simp[cH] at h
 fn:=fun {_} {_} {_} {_} {_} {_} {_} {_} {_} {_} _ h=>by simp[eB] at h
 val:=fun {_} {_} {_} {_} {_} {_} {_} {_} {_} {_} _ h=>by simp[jX] at h
theorem lR (hT:dn P fm T) (hm:P.follows .mixedOrders=true) (n:Nat):Good P fm T n:=by
 induction n using Nat.strongRecOn with
 | _ n ih=>
   cases n with
   | zero=>exact Av
   | succ n=>
     have hall:∀ m,m≤n→Good P fm T m:=fun m h=>ih m (by omega);have hn:=hall n (aai n)
     exact {
      code:=fun h1 h2 h3 h4 h5 h6 h7 h8=>BH n hall (GY hm n hall) h1 h2 h3 h4 h5 h6 h7 h8
      one:=fun h1 h2 h3 h4 h5=>E9 n hn h1 h2 h3 h4 h5
      fn:=fun h1 h2 h3 h4=>Gn n hn hT h1 h2 h3 h4
      val:=fun h1 h2 h3 h4=>val_succ n hn h1 h2 h3 h4 }
theorem oR (hT:dn P fm T) (hm:P.follows .mixedOrders=true) {n g:Nat} {f:FuncId} {args:List DV} {st:St} {v:DV} {st':St} {G:Gh} {w0 w:World} {args':Array Value}
 (hf:fm g=some f) (hrun:eB T n g args st=some (v,st')) (hs:bT P fm T G w0 st w) (ha:cN fm G args args') (hcode:ez T g=true) (henter:∀ (args:Array Value) (w:World),(callFunc f args).run P w=.ok (.enter f args) w) :
 Calls P f args' w (fun e w'=>∃ x,e=.returned x∧∃ G',G.le G'∧bT P fm T G' w0 st' w'∧Rel fm G' v x):=by
 obtain⟨f',h1,h2⟩:=((lR hT hm n).fn hf hrun hs ha).2 hcode;rw[henter] at h1;cases h1;exact callsIn_wide.1 h2
end Go.D
end
section
namespace Go.D
open Go.RowKit
variable {P:Program} {fm:FM}
theorem ai {w w':World} {s:Sem Value} {x:Value} (h:s.run P w=.ok x w'):(do pure (Next.value (← s)):Sem Next).run P w=.ok (.value x) w':=by
 simp[h]
theorem tH {w w':World} {s:Sem Unit} (h:s.run P w=.ok () w'):(do s;pure Next.skip:Sem Next).run P w=.ok .skip w':=by
 simp[h]
theorem aE {ro:ROp} {o:Oper} (h:∀ (CR:Nat→RC→Code→Prop) (G:Gh) (w0:World) (st:St) (w:World) (fr:Fr) (a:Act) (v:DV) (st':St),Sim fm CR G w0 st w→cG fm G fr a.tmps→an st fr ro=some (v,st') →
 st'=st∧∃ x,(execOp a.eval o).run P w=.ok (.value x) w∧Rel fm G v x):aA P fm ro o:=by
 intro CR G w0 st w fr a v st' hs hf hrun;obtain⟨rfl,x,h1,h2⟩:=h CR G w0 st w fr a v st' hs hf hrun;exact⟨G,w,x,_,h1,.inl rfl,.refl G,hs,h2⟩
theorem vz {x:X} {xo:Operand} {o:Oper} (ho:o.op=.move xo∨o.op=.assign xo) (hx:bu fm x xo):aA P fm (.mv x) o:=by
 refine aE fun CR G w0 st w fr a v st' hs hf hrun=>?_;simp only[an,aab.injEq,Prod.mk.injEq] at hrun;obtain⟨rfl,rfl⟩:=hrun;refine⟨rfl,a.eval xo,?_,hx.ev hf⟩;rcases ho with ho | ho<;>(unfold execOp;simp only[ho];rfl)
theorem w8 {c x y:X} {co xo yo:Operand} {o:Oper} (ho:o.op=.pick co xo yo) (hc:bu fm c co) (hx:bu fm x xo) (hy:bu fm y yo):aA P fm (.pick c x y) o:=by
 refine aE fun CR G w0 st w fr a v st' hs hf hrun=>?_;simp only[an] at hrun;have hcv:=hc.ev (a:=a) hf;split at hrun
 · rename_i t ht;rw[ht] at hcv;simp only[aab.injEq,Prod.mk.injEq] at hrun;obtain⟨rfl,rfl⟩:=hrun;refine⟨rfl,if t then a.eval xo else a.eval yo,?_,?_⟩
   · unfold execOp;simp only[ho];generalize a.eval co=cv at hcv;cases hcv;cases t<;>simp[asBool]
   · cases t
     · exact hy.ev hf
     · exact hx.ev hf
 · cases hrun
theorem sH {x:X} {xo:Operand} {o:Oper} (ho:o.op=.nilCheck xo) (hx:bu fm x xo):aA P fm (.aX x) o:=by
 refine aE fun CR G w0 st w fr a v st' hs hf hrun=>?_;simp only[an] at hrun;have hxv:=hx.ev (a:=a) hf;generalize x.ev fr=v0 at hrun hxv
 have key:v0=v∧st'=st∧v0≠.b5∧v0≠.aL∧v0≠.bO∧v0≠.undef∧(∀ t u,v0≠.iface t u)∧(∀ g a b,v0≠.fn g a b)∧(∀ l,v0≠.yield l):=by
  cases v0<;>simp only[reduceCtorEq,aab.injEq,Prod.mk.injEq] at hrun<;>(obtain⟨h1,h2⟩:=hrun;subst h1;subst h2;simp)
 obtain⟨rfl,rfl,k1,k2,k3,k4,k5,k6,k7⟩:=key;refine⟨rfl,a.eval xo,?_,hxv⟩;unfold execOp;simp only[ho];generalize a.eval xo=y at hxv;cases hxv<;>first|rfl|exact absurd rfl k1|exact absurd rfl k2|exact absurd rfl k3|exact absurd rfl k4|exact absurd rfl (k5 _ _) | exact absurd rfl (k6 _ _ _) | exact absurd rfl (k7 _)
theorem Bx {k:IntKind} {x:X} {xo:Operand} {o:Oper} {s d:TypeId} {e:TypeDesc} (ho:o.op=.convert s d xo) (hs0:P.underlying s=some e) (hd:P.underlying d=some (.int k)) (hx:bu fm x xo):aA P fm (.i2i k x) o:=by
 refine aE fun CR G w0 st w fr a v st' hs hf hrun=>?_;simp only[an] at hrun;have hxv:=hx.ev (a:=a) hf;split at hrun
 · rename_i k0 n hn;rw[hn] at hxv;simp only[aab.injEq,Prod.mk.injEq] at hrun;obtain⟨rfl,rfl⟩:=hrun;refine⟨rfl,.int k (k.wrap n),?_,.int _ _⟩;unfold execOp;simp only[ho];generalize a.eval xo=y at hxv;cases hxv;exact ai (by unfold convert;simp[run_underlying hs0,run_underlying hd,Conv.intToInt])
 · cases hrun
theorem wV {g:Nat} {f:FuncId} {fs cs:List X} {fo co:Array Operand} {o:Oper} (ho:o.op=.makeFunc (.func f) fo co) (hg:fm g=some f) (h1:kJ fm fs fo.toList) (h2:kJ fm cs co.toList):aA P fm (.gD g fs cs) o:=by
 refine aE fun CR G w0 st w fr a v st' hs hf hrun=>?_;simp only[an,aab.injEq,Prod.mk.injEq] at hrun;obtain⟨rfl,rfl⟩:=hrun;have r1:=gH (a:=a) h1 (fun t _=>hf t);have r2:=gH (a:=a) h2 (fun t _=>hf t);rw[HH] at r1 r2;refine⟨rfl,.func (.func f) (fo.map a.eval) (co.map a.eval),?_,.fn g _ _ f _ _ hg r1.1 r2.1 r1.2 r2.2⟩;unfold execOp;simp only[ho];exact ai rfl
theorem qk {x:X} {xo:Operand} {o:Oper} {i:Nat} (ho:o.op=.extract xo i) (hx:bu fm x xo):aA P fm (.extract x i) o:=by
 refine aE fun CR G w0 st w fr a v st' hs hf hrun=>?_;simp only[an] at hrun;have hxv:=hx.ev (a:=a) hf;split at hrun
 · rename_i vs hvs;rw[hvs] at hxv;simp only[aad] at hrun;obtain⟨u,hu,hrun⟩:=hrun;cases hrun;obtain⟨hlt,rfl⟩:=aae.1 hu;generalize hy:a.eval xo=y at hxv
   cases hxv with
   | tuple _ cs hl hc=>
     refine⟨rfl,cs.getD i undef,?_,hc i hlt⟩;unfold execOp;simp only[ho];refine ai ?_;rw[hy];unfold Instr.extract;have:i<cs.size:=by omega
     simp[this]
 · cases hrun
def sd (x y:Value):Bool:=match x,y with | .nilIface,.nilIface=>false | .agg _,.agg _=>false | _,_=>true
theorem cL {op:BinOp} {t:TypeId} {xo yo:Operand} {x y:Value} {w:World} (h:sd x y=true):(eqGuard op t xo yo x y).run P w=.ok () w:=by
 unfold eqGuard
 have key:(match x,y with
  | .nilIface,.nilIface=>
    if (xo matches .const _)||(yo matches .const _) then (pure ():Sem Unit) else do
     if ← Op.eqGuardIn Op.maxDepth t x y then unsupported (.noEntry "binop/eql: two nil values of an interface type with methods, neither of them the literal nil")
  | .agg _,.agg _=>do
    if !(← program).eqGuardType (← program).depth t then pure () else
     if ← Op.eqGuardIn Op.maxDepth t x y then unsupported (.noEntry "binop/eql: two nil values of an interface type with methods, in a part of a struct or an array")
  | _,_=>pure ()).run P w=.ok () w:=by
  unfold sd at h;split
  · simp at h
  · simp at h
  · rfl
 cases op<;>first | rfl | exact key
theorem j3 {op:BinOp} {k:IntKind} {a b n:Int} {w:World} (h:yP op k a b=some n):(Op.intBits op k a b).run P w=.ok (.int k n) w:=by
 unfold yP at h;unfold Op.intBits;cases op<;>simp only[reduceCtorEq,aab.injEq] at h<;>(subst h;rfl)
theorem yf {op:BinOp} {k:IntKind} {a b:Int} {v:DV} {w:World} {t:TypeId} (h:jw op k a b=some v):∃ x,(binOp op t (.int k a) (.int k b)).run P w=.ok x w∧∀ G,Rel fm G v x:=by
 cases op<;>simp only[jw,aab.injEq,reduceCtorEq] at h
 case add=>subst h;exact⟨_,by simp[binOp,Op.intArith],fun G=>.int _ _⟩
 case sub=>subst h;exact⟨_,by simp[binOp,Op.intArith],fun G=>.int _ _⟩
 case mul=>subst h;exact⟨_,by simp[binOp,Op.intArith],fun G=>.int _ _⟩
 case quo=>
  split at h
  · cases h
  · rename_i hb;injection h with h;subst h;exact⟨_,by simp[binOp,Op.intDiv,hb],fun G=>.int _ _⟩
 case rem=>
  split at h
  · cases h
  · rename_i hb;injection h with h;subst h;exact⟨_,by simp[binOp,Op.intDiv,hb],fun G=>.int _ _⟩
 case and=>simp only[aad] at h;obtain⟨n,h,rfl⟩:=h;exact⟨_,by simp only[binOp,ne_eq,not_true_eq_false,if_false];exact j3 h,fun G=>.int _ _⟩
 case or=>simp only[aad] at h;obtain⟨n,h,rfl⟩:=h;exact⟨_,by simp only[binOp,ne_eq,not_true_eq_false,if_false];exact j3 h,fun G=>.int _ _⟩
 case xor=>simp only[aad] at h;obtain⟨n,h,rfl⟩:=h;exact⟨_,by simp only[binOp,ne_eq,not_true_eq_false,if_false];exact j3 h,fun G=>.int _ _⟩
 case andNot=>simp only[aad] at h;obtain⟨n,h,rfl⟩:=h;exact⟨_,by simp only[binOp,ne_eq,not_true_eq_false,if_false];exact j3 h,fun G=>.int _ _⟩
 all_goals (subst h;exact⟨_,by simp only[binOp,ne_eq,not_true_eq_false,if_false,Op.intCmp];rfl,fun G=>.bool _⟩)
theorem rn {op:BinOp} {k yk:IntKind} {a b:Int} {v:DV} {w:World} {t:TypeId} (h:wJ op k a b=some v):∃ x,(binOp op t (.int k a) (.int yk b)).run P w=.ok x w∧∀ G,Rel fm G v x:=by
 unfold wJ at h;split at h
 · cases h
 · rename_i hb;cases op<;>simp only[aab.injEq,reduceCtorEq] at h
   · subst h;exact⟨_,by simp only[binOp,Op.shift,if_neg hb];rfl,fun G=>.int _ _⟩
   · subst h;exact⟨_,by simp only[binOp,Op.shift,if_neg hb];rfl,fun G=>.int _ _⟩
theorem toList_eq (s:ByteArray):s.toList=s.data.toList:=ByteArray.toList_eq s
theorem wT {op:BinOp} {x y:ByteArray} {v:DV} {w:World} {t:TypeId} (h:l6 op x.data.toList y.data.toList=some v):∃ z,(binOp op t (.string x) (.string y)).run P w=.ok z w∧∀ G,Rel fm G v z:=by
 cases op<;>simp only[l6,aab.injEq,reduceCtorEq] at h
 case add=>
  split at h
  · rename_i hl;injection h with h;subst h;refine⟨.string (x++y),?_,fun G=>.str _ _ (by simp)⟩
    have:¬ (((x.size+y.size:Nat):Int)>IntKind.i64.max):=by
     have h1:x.size=x.data.toList.length:=by rw[aba];rfl
     have h2:y.size=y.data.toList.length:=by rw[aba];rfl
     have:IntKind.i64.max=9223372036854775807:=by decide
     omega
    simp only[binOp,Op.stringOp,if_neg this];rfl
  · cases h
 all_goals
  subst h;refine⟨_,by simp only[binOp,Op.stringOp];rfl,fun G=>?_⟩;rw[toList_eq,toList_eq];exact .bool _
theorem AM {op:BinOp} {x y:X} {xo yo:Operand} {t t':TypeId} {o:Oper} (ho:o.op=.binOp op t xo yo t') (hx:bu fm x xo) (hy:bu fm y yo):aA P fm (.bin op x y) o:=by
 refine aE fun CR G w0 st w fr a v st' hs hf hrun=>?_;simp only[an,aad] at hrun;obtain⟨v1,hb,hrun⟩:=hrun;cases hrun;have hxv:=hx.ev (a:=a) hf;have hyv:=hy.ev (a:=a) hf;unfold execOp;simp only[ho];generalize x.ev fr=vx at hb hxv;generalize y.ev fr=vy at hb hyv;generalize hx0:a.eval xo=x0 at hxv;generalize hy0:a.eval yo=y0 at hyv
 have wrap:∀ {z:Value},(eqGuard op t xo yo x0 y0).run P w=.ok () w→(binOp op t x0 y0).run P w=.ok z w→(do eqGuard op t xo yo x0 y0;binOp op t x0 y0:Sem Value).run P w=.ok z w:=by
  intro z h1 h2;simp only[Sem.run_bind,h1,Result.andThen_ok,h2]
 cases vx<;>cases vy<;>simp only[nK,reduceCtorEq] at hb
 · cases hxv;cases hyv;rename_i k a1 k' b1;split at hb
   · obtain⟨z,h1,h2⟩:=rn (P:=P) (fm:=fm) (w:=w) (t:=t) (yk:=k') hb;exact⟨trivial,z,ai (wrap (cL rfl) h1),h2 G⟩
   · obtain⟨z,h1,h2⟩:=rn (P:=P) (fm:=fm) (w:=w) (t:=t) (yk:=k') hb;exact⟨trivial,z,ai (wrap (cL rfl) h1),h2 G⟩
   · split at hb
     · rename_i hk;subst hk;obtain⟨z,h1,h2⟩:=yf (P:=P) (fm:=fm) (w:=w) (t:=t) hb;exact⟨trivial,z,ai (wrap (cL rfl) h1),h2 G⟩
     · cases hb
 · cases hxv with
   | str _ s1 e1=>
   cases hyv with
   | str _ s2 e2=>
   subst e1;subst e2;obtain⟨z,h1,h2⟩:=wT (P:=P) (fm:=fm) (w:=w) (t:=t) hb;exact⟨trivial,z,ai (wrap (cL rfl) h1),h2 G⟩
theorem D3 {op:UnOp} {x:X} {xo:Operand} {t:TypeId} {o:Oper} (ho:o.op=.unOp op t xo) (hx:bu fm x xo):aA P fm (.un op x) o:=by
 refine aE fun CR G w0 st w fr a v st' hs hf hrun=>?_;simp only[an,aad] at hrun;obtain⟨v1,hb,hrun⟩:=hrun;cases hrun;have hxv:=hx.ev (a:=a) hf;unfold execOp;simp only[ho];generalize x.ev fr=vx at hb hxv;generalize hx0:a.eval xo=x0 at hxv;cases op<;>cases vx<;>simp only[unD,reduceCtorEq,aab.injEq] at hb
 · subst hb;cases hxv;exact⟨trivial,_,ai (by simp only[Op.unary,Op.intArith];rfl),.int _ _⟩
 · simp only[aad] at hb;obtain⟨n,hb,rfl⟩:=hb;cases hxv;exact⟨trivial,_,ai (by simp only[Op.unary];exact j3 hb),.int _ _⟩
 · subst hb;cases hxv;exact⟨trivial,_,ai (by simp only[Op.unary];rfl),.bool _⟩
end Go.D
end
section
namespace Go.D
open Go.RowKit
variable {P:Program} {fm:FM}
def gk (P:Program):Nat→TypeId→Option (List LK)
 | 0,_=>none
 | d+1,t=>
   match P.underlying t with
   | some .bool=>some [.bool]
   | some (.int _)=>some [.int]
   | some .string=>some [.str]
   | some (.struct fs)=>if P.stoodInHeld t then none else
     match fs.toList.foldl (fun acc f=>match acc with
      | none=>none
      | some ks=>if f.name ≠ "_" ∧ f.offset=ks.length then (match gk P d f.type with | some k=>some (ks++k) | none=>none) else none) (some []),P.info? t with
     | some ks,some i=>if i.size=ks.length then some ks else none
     | _,_=>none
   | _=>none
def sq (P:Program) (d:Nat) (acc:Option (List LK)) (f:Field):Option (List LK):=
 match acc with
 | none=>none
 | some ks=>if f.name ≠ "_" ∧ f.offset=ks.length then (match gk P d f.type with | some k=>some (ks++k) | none=>none) else none
theorem ny (P:Program) (d:Nat):∀ fs:List Field,fs.foldl (sq P d) none=none
 | []=>rfl
 | _::fs=>ny P d fs
theorem jM:∀ (ks:List LK) (as_ bs:List DV) (ks':List LK) (as' bs':List DV) (b:Bool),as_.length=ks.length→bs.length=ks.length→bk (ks++ks') (as_++as') (bs++bs')=some b→∃ x y,bk ks as_ bs=some x∧bk ks' as' bs'=some y∧b=(x&&y)
 | [],[],[],ks',as',bs',b,_,_,h=>⟨true,b,rfl,h,by simp⟩
 | k::ks,a::as_,c::bs,ks',as',bs',b,hl,hl',h=>by
   simp only[aaF,bk] at h;split at h
   · rename_i x y h1 h2;injection h with h;subst h;obtain⟨x',y',g1,g2,g3⟩:=jM ks as_ bs ks' as' bs' y (by simpa using hl) (by simpa using hl') h2;refine⟨x&&x',y',by simp[bk,h1,g1],g2,by rw[g3,Bool.and_assoc]⟩
   · cases h
 | [],_::_,_,_,_,_,_,hl,_,_=>by simp at hl
 | [],[],_::_,_,_,_,_,_,hl,_=>by simp at hl
 | _::_,[],_,_,_,_,_,hl,_,_=>by simp at hl
 | _::_,_::_,[],_,_,_,_,_,hl,_=>by simp at hl
theorem dk:∀ (ks:List LK) (as_ bs:List DV) (b:Bool),bk ks as_ bs=some b→as_.length=ks.length∧bs.length=ks.length
 | [],[],[],_,_=>⟨rfl,rfl⟩
 | k::ks,a::as_,c::bs,b,h=>by
   simp only[bk] at h;split at h
   · rename_i x y h1 h2;obtain⟨g1,g2⟩:=dk ks as_ bs y h2;exact⟨by simp[g1],by simp[g2]⟩
   · cases h
 | [],_::_,_,_,h=>by simp[bk] at h
 | [],[],_::_,_,h=>by simp[bk] at h
 | _::_,[],_,_,h=>by simp[bk] at h
 | _::_,_::_,[],_,h=>by simp[bk] at h
def cellsOf (fm:FM) (G:Gh) (vs:List DV) (cs:Array Value) (off:Nat):Prop:=off+vs.length≤cs.size∧∀ i (h:i<vs.length),Rel fm G (vs[i]) (cs.getD (off+i) undef)
theorem kc {w:World} {t:TypeId} {d:TypeDesc} {i:TypeInfo} (hd:P.underlying t=some d) (hi:P.info? t=some i) (cs:Array Value) (off:Nat) :
 (match d with | .struct _ | .array _ _=>True | _=>False)→(part t cs off).run P w=.ok (.agg (cs.extract off (off+i.size))) w:=by
 intro h
 have hisagg:(isAgg t).run P w=.ok true w:=by
  unfold isAgg;simp only[Sem.run_bind,run_underlying hd,Result.andThen_ok];cases d<;>simp only at h<;>rfl
 have hsize:(sizeOf t).run P w=.ok i.size w:=by unfold sizeOf typeInfo;simp[hi]
 unfold part;simp[hisagg,hsize]
theorem jC {w:World} {t:TypeId} {d:TypeDesc} (hd:P.underlying t=some d) (cs:Array Value) (off:Nat) (h0:off<cs.size) :
 (match d with | .struct _ | .array _ _=>False | _=>True)→(part t cs off).run P w=.ok (cs.getD off undef) w:=by
 intro h
 have hisagg:(isAgg t).run P w=.ok false w:=by
  unfold isAgg;simp only[Sem.run_bind,run_underlying hd,Result.andThen_ok];cases d<;>simp only at h<;>rfl
 unfold part;simp[hisagg,h0]
theorem u6 {α:Type} {l:List α} (h:l.length=1):∃ v,l=[v]:=by
 cases l with
 | nil=>simp at h
 | cons v r=>cases r with
   | nil=>exact⟨v,rfl⟩
   | cons _ _=>simp at h
theorem lW {w:World} (d:Nat) (ih:∀ (t:TypeId) (ks:List LK),gk P d t=some ks→∀ (G:Gh) (vs us:List DV) (cs ds:Array Value) (o1 o2:Nat) (b:Bool),cellsOf fm G vs cs o1→cellsOf fm G us ds o2 →
 bk ks vs us=some b→∃ x y,(part t cs o1).run P w=.ok x w∧(part t ds o2).run P w=.ok y w∧(Op.equalIn d t x y).run P w=.ok b w) (xs ys:Array Value) :
 ∀ (fs:List Field) (ks0 ks:List LK),fs.foldl (sq P d) (some ks0)=some ks→∃ kr,ks=ks0++kr∧∀ (G:Gh) (vs us:List DV) (b:Bool),cellsOf fm G vs xs ks0.length→cellsOf fm G us ys ks0.length →
   bk kr vs us=some b→(Op.eqFields d xs ys fs).run P w=.ok b w
 | [],ks0,ks,h=>by
   simp only[List.foldl_nil,aab.injEq] at h;subst h;refine⟨[],by simp,fun G vs us b _ _ hl=>?_⟩;obtain⟨h1,h2⟩:=dk _ _ _ _ hl;have h1:vs=[]:=abc h1;have h2:us=[]:=abc h2;subst h1;subst h2;simp only[bk,aab.injEq] at hl;subst hl;rfl
 | f::fs,ks0,ks,h=>by
   simp only[List.foldl_cons] at h
   cases hst:sq P d (some ks0) f with
   | none=>rw[hst,ny] at h;cases h
   | some ks1=>
     rw[hst] at h;simp only[sq] at hst;split at hst
     · rename_i hcond;obtain⟨hname,hoff⟩:=hcond;split at hst
       · rename_i k hk;injection hst with hst;subst hst;obtain⟨kr,rfl,hrest⟩:=lW d ih xs ys fs _ ks h;refine⟨k++kr,by simp,fun G vs us b hc hd hl=>?_⟩;obtain⟨l1,l2⟩:=dk _ _ _ _ hl;simp only[aah] at l1 l2;have e1:vs.take k.length++vs.drop k.length=vs:=aaQ _ _;have e2:us.take k.length++us.drop k.length=us:=aaQ _ _;rw[← e1,← e2] at hl;obtain⟨x,y,g1,g2,g3⟩:=jM k _ _ kr _ _ b (by simp;omega) (by simp;omega) hl
         have sub:∀ {vs:List DV} {cs:Array Value},vs.length=k.length+kr.length→cellsOf fm G vs cs ks0.length→cellsOf fm G (vs.take k.length) cs f.offset∧cellsOf fm G (vs.drop k.length) cs (ks0++k).length:=by
          intro vs cs hl hc;refine⟨⟨by have:=hc.1;simp;omega,fun i hi=>?_⟩,by have:=hc.1;simp;omega,fun i hi=>?_⟩
          · have:=hc.2 i (by simp at hi;omega);rw[hoff];simpa using this
          · have:=hc.2 (k.length+i) (by simp at hi;omega);rw[aah,aby];simpa using this
         obtain⟨c1,c2⟩:=sub l1 hc;obtain⟨d1,d2⟩:=sub l2 hd;obtain⟨p,q,p1,q1,r1⟩:=ih f.type k hk G _ _ xs ys f.offset f.offset x c1 d1 g1;have hr:=hrest G _ _ y c2 d2 g2;unfold Op.eqFields;rw[if_pos hname];simp only[Sem.run_bind,p1,q1,r1,Result.andThen_ok];subst g3;cases x
         · rfl
         · simpa using hr
       · cases hst
     · cases hst
theorem vI {w:World}:∀ (d:Nat) (t:TypeId) (ks:List LK),gk P d t=some ks→∀ (G:Gh) (vs us:List DV) (cs ds:Array Value) (o1 o2:Nat) (b:Bool),cellsOf fm G vs cs o1→cellsOf fm G us ds o2 →
 bk ks vs us=some b→∃ x y,(part t cs o1).run P w=.ok x w∧(part t ds o2).run P w=.ok y w∧(Op.equalIn d t x y).run P w=.ok b w:=by
 intro d
 induction d with
 | zero=>intro t k h;simp[gk] at h
 | succ d ih=>
   intro t ks h G vs us cs ds o1 o2 b hc hd hl;obtain⟨hv,hu⟩:=dk _ _ _ _ hl;simp only[gk] at h
   have bp:∀ {td:TypeDesc} {k:LK},P.underlying t=some td→ks=[k]→(match td,k with | .bool,.bool | .int _,.int | .string,.str=>True | _,_=>False)→∃ x y,(part t cs o1).run P w=.ok x w∧(part t ds o2).run P w=.ok y w∧(Op.equalIn (d+1) t x y).run P w=.ok b w:=by
    intro td k htd hk1 hkind;subst hk1;obtain⟨v,rfl⟩:=u6 hv;obtain⟨u,rfl⟩:=u6 hu;have hcs:=hc.1;have hds:=hd.1;simp only[aax,aaP] at hcs hds;refine⟨_,_,jC htd cs o1 (by omega) (by cases td<;>cases k<;>simp only at hkind ⊢),jC htd ds o2 (by omega) (by cases td<;>cases k<;>simp only at hkind ⊢),?_⟩;have r1:=hc.2 0 (by simp);have r2:=hd.2 0 (by simp);simp only[List.getElem_cons_zero,aa5] at r1 r2;simp only[bk] at hl;split at hl
    · rename_i x y h1 h2;injection h2 with h2;subst h2;injection hl with hl;rw[Bool.and_true] at hl;subst hl;generalize cs.getD o1 undef=x1 at r1;generalize ds.getD o2 undef=x2 at r2;cases k<;>cases td<;>simp only at hkind
      · cases v<;>cases u<;>simp only[gQ,reduceCtorEq,aab.injEq] at h1
        subst h1;cases r1;cases r2;exact run_equalIn_bool' w d t _ _ htd
      · cases v<;>cases u<;>simp only[gQ,reduceCtorEq] at h1
        split at h1
        · rename_i hk;injection h1 with h1;subst h1;subst hk;cases r1;cases r2;exact run_equalIn_int w d t _ _ _ _ htd
        · cases h1
      · cases v<;>cases u<;>simp only[gQ,reduceCtorEq,aab.injEq] at h1
        subst h1
        cases r1 with
        | str _ s1 e1=>
        cases r2 with
        | str _ s2 e2=>
        subst e1;subst e2;rw[← toList_eq,← toList_eq];exact run_equalIn_string w d t _ _ htd
    · cases hl
   split at h
   · rename_i htd;injection h with h;exact bp htd h.symm trivial
   · rename_i htd;injection h with h;exact bp htd h.symm trivial
   · rename_i htd;injection h with h;exact bp htd h.symm trivial
   · rename_i fs htd;split at h
     · cases h
     rename_i hsh;split at h
     · rename_i ks' i hfold hi;split at h
       · rename_i hsz;injection h with h;subst h;have hsh':P.stoodInHeld t=false:=by simpa using hsh
         refine⟨_,_,kc htd hi cs o1 trivial,kc htd hi ds o2 trivial,?_⟩;have hfo:P.fieldsOf t=fs:=by unfold Program.fieldsOf;rw[htd]
         have htd':P.underlying t=some (.struct (P.fieldsOf t)):=by rw[hfo];exact htd
         rw[run_equalIn_struct w d t _ _ htd' hsh',hfo]
         have hext:∀ (vs:List DV) (cs:Array Value) (o:Nat),vs.length=ks'.length→cellsOf fm G vs cs o→cellsOf fm G vs (cs.extract o (o+i.size)) 0:=by
          intro vs cs o hl1 hc1;have h1:=hc1.1;refine⟨by simp;omega,fun j hj=>?_⟩;have:=hc1.2 j hj;rw[aag] at this ⊢;rw[aay,Array.getElem?_extract,if_pos (by omega)];exact this
         obtain⟨kr,hkr,hrest⟩:=lW (w:=w) d ih (cs.extract o1 (o1+i.size)) (ds.extract o2 (o2+i.size)) fs.toList [] ks' hfold;simp only[aaX] at hkr;subst hkr;exact hrest G vs us b (hext vs cs o1 hv hc) (hext us ds o2 hu hd) hl
       · cases h
     · cases h
   · cases h
def xp (P:Program) (t:TypeId):EqK→Bool
 | .bool=>match P.underlying t with | some .bool=>true | _=>false
 | .ptr=>match P.underlying t with | some (.pointer e)=>(P.info? e).isSome | _=>false
 | .slice=>match P.underlying t with | some (.slice _)=>true | _=>false
 | .map=>match P.underlying t with | some (.map _ _)=>true | _=>false
 | .func=>match P.underlying t with | some (.func _ _ _)=>true | _=>false
 | .iface=>match P.underlying t with | some (.interface _)=>true | _=>false
 | .agg ks=>(match P.underlying t with | some (.struct _)=>true | _=>false)&&(gk P Op.maxDepth t==some ks) && !P.eqGuardType P.depth t
section
variable {w:World} (d:Nat) {t:TypeId}
theorem C4 {e:TypeId} (h:P.underlying t=some (.pointer e)) (b:Option Addr):(Op.equalIn (d+1) t (.pointer none) (.pointer b)).run P w=.ok b.isNone w:=by simp[Op.equalIn,run_underlying h]
theorem Fs {e:TypeId} (h:P.underlying t=some (.pointer e)) (a:Addr):(Op.equalIn (d+1) t (.pointer (some a)) (.pointer none)).run P w=.ok false w:=by simp[Op.equalIn,run_underlying h]
theorem C7 {e:TypeId} {j:TypeInfo} (h:P.underlying t=some (.pointer e)) (hj:P.info? e=some j) (a:Addr):(Op.equalIn (d+1) t (.pointer (some a)) (.pointer (some a))).run P w=.ok true w:=by simp[Op.equalIn,run_underlying h,sizeOf,typeInfo,hj,run_sameAddr_same]
theorem Hr {e:TypeId} (h:P.underlying t=some (.slice e)) (b:Option Addr) (n c n' c':Nat):(Op.equalIn (d+1) t (.slice none n c) (.slice b n' c')).run P w=.ok b.isNone w:=by simp[Op.equalIn,run_underlying h]
theorem HM {e:TypeId} (h:P.underlying t=some (.slice e)) (a:Addr) (n c n' c':Nat):(Op.equalIn (d+1) t (.slice (some a) n c) (.slice none n' c')).run P w=.ok false w:=by simp[Op.equalIn,run_underlying h]
theorem CL {e e':TypeId} (h:P.underlying t=some (.map e e')) (b:Option Nat):(Op.equalIn (d+1) t (.map none) (.map b)).run P w=.ok b.isNone w:=by simp[Op.equalIn,run_underlying h]
theorem Fp {e e':TypeId} (h:P.underlying t=some (.map e e')) (a:Nat):(Op.equalIn (d+1) t (.map (some a)) (.map none)).run P w=.ok false w:=by simp[Op.equalIn,run_underlying h]
theorem GR {a b:Array TypeId} {c:Bool} (h:P.underlying t=some (.func a b c)):(Op.equalIn (d+1) t .nilFunc .nilFunc).run P w=.ok true w:=by simp[Op.equalIn,run_underlying h]
theorem Hc {a b:Array TypeId} {c:Bool} (h:P.underlying t=some (.func a b c)) (f:Fn) (x y:Array Value):(Op.equalIn (d+1) t .nilFunc (.func f x y)).run P w=.ok false w:=by simp[Op.equalIn,run_underlying h]
theorem F1 {a b:Array TypeId} {c:Bool} (h:P.underlying t=some (.func a b c)) (f:Fn) (x y:Array Value):(Op.equalIn (d+1) t (.func f x y) .nilFunc).run P w=.ok false w:=by simp[Op.equalIn,run_underlying h]
theorem F0 {a:Array (String×TypeId)} (h:P.underlying t=some (.interface a)) (u:TypeId) (x:Value):(Op.equalIn (d+1) t .nilIface (.iface u x)).run P w=.ok false w:=by simp[Op.equalIn,run_underlying h]
theorem HV {a:Array (String×TypeId)} (h:P.underlying t=some (.interface a)) (u:TypeId) (x:Value):(Op.equalIn (d+1) t (.iface u x) .nilIface).run P w=.ok false w:=by simp[Op.equalIn,run_underlying h]
end
theorem tf (d:Nat) (t:TypeId) (ks:List LK) {fs:Array Field} (htd:P.underlying t=some (.struct fs)) (h2:gk P (d+1) t=some ks):∃ i,P.info? t=some i∧i.size=ks.length:=by
 simp only[gk,htd] at h2;split at h2
 · cases h2
 · split at h2
   · rename_i ks' i _ hi;split at h2
     · rename_i hsz;injection h2 with h2;subst h2;exact⟨i,hi,hsz⟩
     · cases h2
   · cases h2
theorem yN {neg:Bool} {t:TypeId} {xo yo:Operand} {x y:Value} {b:Bool} {w:World} (hg:(eqGuard (if neg then .neq else .eql) t xo yo x y).run P w=.ok () w)
 (hb:∀ op,op=BinOp.eql∨op=.neq→binOp op t x y=(if op=.eql then (do pure (.bool (← Op.equal t x y))) else (do pure (.bool (!(← Op.equal t x y)))))) (he:(Op.equal t x y).run P w=.ok b w) :
 (do pure (Next.value (← (do eqGuard (if neg then .neq else .eql) t xo yo x y;binOp (if neg then .neq else .eql) t x y:Sem Value))):Sem Next).run P w=.ok (.value (.bool (neg != b))) w:=by
 cases neg
 · simp only[aaq,if_false] at hg ⊢;refine ai ?_;simp only[Sem.run_bind,hg,Result.andThen_ok,hb .eql (.inl rfl),if_true,he,Sem.run_pure];cases b<;>rfl
 · simp only[if_true] at hg ⊢;refine ai ?_;simp only[Sem.run_bind,hg,Result.andThen_ok,hb .neq (.inr rfl),reduceCtorEq,if_false,he,Sem.run_pure];cases b<;>rfl
theorem DL {k:EqK} {neg:Bool} {x y:X} {xo yo:Operand} {t t':TypeId} {o:Oper} (ho:o.op=.binOp (if neg then .neq else .eql) t xo yo t') (ht:xp P t k=true) (hx:bu fm x xo) (hy:bu fm y yo):aA P fm (.eq k neg x y) o:=by
 refine aE fun CR G w0 st w fr a v st' hs hf hrun=>?_;simp only[an,aad] at hrun;obtain⟨b,hb,hrun⟩:=hrun;cases hrun;have hxv:=hx.ev (a:=a) hf;have hyv:=hy.ev (a:=a) hf;refine⟨rfl,.bool (neg != b),?_,.bool _⟩;unfold execOp;simp only[ho];generalize x.ev fr=vx at hb hxv;generalize y.ev fr=vy at hb hyv;generalize a.eval xo=x0 at hxv;generalize a.eval yo=y0 at hyv;have depth:Op.maxDepth=9999+1:=rfl
 have fin:sd x0 y0=true→(∀ op,op=BinOp.eql∨op=.neq→binOp op t x0 y0=(if op=.eql then (do pure (.bool (← Op.equal t x0 y0))) else (do pure (.bool (!(← Op.equal t x0 y0)))))) →
  (Op.equal t x0 y0).run P w=.ok b w→(do pure (Next.value (← (do eqGuard (if neg then .neq else .eql) t xo yo x0 y0;binOp (if neg then .neq else .eql) t x0 y0:Sem Value))):Sem Next).run P w=.ok (.value (.bool (neg != b))) w:=
  fun h1 h2 h3=>yN (cL h1) h2 h3
 unfold xp at ht
 cases k with
 | bool=>
   cases vx<;>cases vy<;>simp only[eqD,reduceCtorEq,aab.injEq] at hb
   subst hb;cases hxv;cases hyv;simp only at ht;split at ht
   · rename_i htd;exact fin rfl (by rintro op (rfl | rfl)<;>rfl) (by unfold Op.equal;rw[depth];exact run_equalIn_bool' w _ t _ _ htd)
   · cases ht
 | ptr=>
   simp only at ht;split at ht
   · rename_i e htd;obtain⟨j,hj⟩:=aa1.1 ht;by_cases hpp:∃ b o b' o',vx=.ptr b o∧vy=.ptr b' o'
     · obtain⟨b,o,b',o',rfl,rfl⟩:=hpp;simp only[eqD] at hb;split at hb
       · rename_i hc;obtain⟨rfl,rfl⟩:=hc;injection hb with hb;subst hb
         cases hxv with
         | ptr _ _ r hm=>
         cases hyv with
         | ptr _ _ r' hm'=>
         rw[hm] at hm';cases hm';exact fin rfl (by rintro op (rfl | rfl)<;>rfl) (by unfold Op.equal;rw[depth];exact C7 _ htd hj _)
       · cases hb
     · cases vx<;>cases vy<;>first
        | exact absurd ⟨_,_,_,_,rfl,rfl⟩ hpp
        | (simp only[eqD,reduceCtorEq] at hb;done)
        | (simp only[eqD,aab.injEq] at hb
           subst hb
           cases hxv<;>cases hyv<;>exact fin rfl (by rintro op (rfl | rfl)<;>rfl) (by unfold Op.equal;rw[depth];first | exact C4 _ htd _ | exact Fs _ htd _))
   · cases ht
 | slice=>
   simp only at ht;split at ht
   · rename_i e htd;cases vx<;>cases vy<;>try (simp only[eqD,reduceCtorEq] at hb;done)
     all_goals
      cases hxv<;>cases hyv<;>simp only[eqD,reduceCtorEq,aab.injEq] at hb<;>subst hb <;>
      exact fin rfl (by rintro op (rfl | rfl)<;>rfl) (by unfold Op.equal;rw[depth];first | exact Hr _ htd _ _ _ _ _ | exact HM _ htd _ _ _ _ _)
   · cases ht
 | map=>
   simp only at ht;split at ht
   · rename_i e e' htd
     cases vx<;>cases vy<;>simp only[eqD,reduceCtorEq,aab.injEq] at hb<;>subst hb<;>cases hxv<;>cases hyv <;>
      exact fin rfl (by rintro op (rfl | rfl)<;>rfl) (by unfold Op.equal;rw[depth];first | exact CL _ htd _ | exact Fp _ htd _)
   · cases ht
 | func=>
   simp only at ht;split at ht
   · rename_i e e' e'' htd
     cases vx<;>cases vy<;>simp only[eqD,reduceCtorEq,aab.injEq] at hb<;>subst hb<;>cases hxv<;>cases hyv <;>
      exact fin rfl (by rintro op (rfl | rfl)<;>rfl) (by unfold Op.equal;rw[depth];first | exact GR _ htd | exact Hc _ htd _ _ _ | exact F1 _ htd _ _ _)
   · cases ht
 | iface=>
   simp only at ht;split at ht
   · rename_i e htd
     cases vx<;>cases vy<;>simp only[eqD,reduceCtorEq,aab.injEq] at hb<;>subst hb<;>cases hxv<;>cases hyv <;>
      exact fin rfl (by rintro op (rfl | rfl)<;>rfl) (by unfold Op.equal;rw[depth];first | exact F0 _ htd _ _ | exact HV _ htd _ _)
   · cases ht
 | agg ks=>
   simp only[aac,beq_iff_eq,Bool.not_eq_true'] at ht;obtain⟨⟨h1,h2⟩,h3⟩:=ht;split at h1
   · rename_i fs htd;cases vx<;>cases vy<;>simp only[eqD,reduceCtorEq] at hb
     rename_i vs us
     cases hxv with
     | agg _ cs hl hc=>
     cases hyv with
     | agg _ ds hl' hc'=>
     refine yN ?_ (by rintro op (rfl | rfl)<;>rfl) ?_
     · unfold eqGuard;cases neg<;>simp[h3]
     · obtain⟨l1,l2⟩:=dk _ _ _ _ hb;obtain⟨p,q,p1,q1,r1⟩:=vI (w:=w) Op.maxDepth t ks h2 G vs us cs ds 0 0 b ⟨by omega,fun i hi=>by rw[aay];exact hc i hi⟩ ⟨by omega,fun i hi=>by rw[aay];exact hc' i hi⟩ hb
       have hsz:∃ i,P.info? t=some i∧i.size=ks.length:=by
        exact tf 9999 t ks htd h2
       obtain⟨i,hi,hsz⟩:=hsz;rw[kc htd hi cs 0 trivial] at p1;rw[kc htd hi ds 0 trivial] at q1;cases p1;cases q1;have e1:cs.extract 0 (0+i.size)=cs:=by rw[aay,show i.size=cs.size by omega];exact Array.extract_size
       have e2:ds.extract 0 (0+i.size)=ds:=by rw[aay,show i.size=ds.size by omega];exact Array.extract_size
       rw[e1,e2] at r1;exact r1
   · cases h1
end Go.D
end
section
namespace Go.D
open Go.RowKit
variable {P:Program} {fm:FM}
def ng:Value→Option DV
 | .bool b=>some (.bool b)
 | .int k n=>some (.int k n)
 | .string s=>some (.str s.data.toList)
 | .pointer none=>some .b5
 | .slice none 0 0=>some gu
 | .map none=>some .bn
 | .nilFunc=>some .bO
 | .nilIface=>some .aL
 | _=>none
def gL:List Value→Option (List DV)
 | []=>some []
 | v::r=>match ng v,gL r with | some a,some b=>some (a::b) | _,_=>none
def JS:Value→Option DV
 | .agg cs=>(gL cs.toList).map .agg
 | .tuple cs=>(gL cs.toList).map .tuple
 | v=>ng v
theorem mV {x:Value} {v:DV} (h:ng x=some v) (G:Gh):Rel fm G v x:=by
 unfold ng at h
 split at h<;>first
  | (injection h with h;subst h;first | exact .bool _ | exact .int _ _ | exact .str _ _ rfl | exact .b5 | exact .ga _ _ _ | exact .bn | exact .bO | exact .aL)
  | cases h
theorem ca:∀ {xs:List Value} {vs:List DV},gL xs=some vs→xs.length=vs.length∧∀ (G:Gh) i (h:i<vs.length),Rel fm G (vs[i]) (xs.getD i undef)
 | [],vs,h=>by simp only[gL,aab.injEq] at h;subst h;exact⟨rfl,fun G i hi=>absurd hi (by simp)⟩
 | x::xs,vs,h=>by
   simp only[gL] at h;split at h
   · rename_i a b h1 h2;injection h with h;subst h;obtain⟨l,r⟩:=ca h2;refine⟨by simp[l],fun G i hi=>?_⟩
     cases i with
     | zero=>exact mV h1 G
     | succ i=>exact r G i (by simpa using hi)
   · cases h
theorem aR (cs:Array Value) (i:Nat):cs.toList.getD i undef=cs.getD i undef:=by
 rw[aak,aag,abt]
theorem Cf {x:Value} {v:DV} (h:JS x=some v) (G:Gh):Rel fm G v x:=by
 unfold JS at h;split at h
 · simp only[aad] at h;obtain⟨vs,h,rfl⟩:=h;obtain⟨l,r⟩:=ca (fm:=fm) h;exact .agg _ _ (by simpa using l) fun i hi=>by rw[← aR];exact r G i hi
 · simp only[aad] at h;obtain⟨vs,h,rfl⟩:=h;obtain⟨l,r⟩:=ca (fm:=fm) h;exact .tuple _ _ (by simpa using l) fun i hi=>by rw[← aR];exact r G i hi
 · exact mV h G
theorem oh {x:Value} {v:DV} (h:ng x=some v):v.pure=true:=by
 unfold ng at h;split at h<;>first | (injection h with h;subst h;rfl) | cases h
theorem Bo {v:DV} (h:v.pure=true):v.bp=true:=by cases v<;>first | rfl | simp[DV.pure] at h
theorem db:∀ {xs:List Value} {vs:List DV},gL xs=some vs→vs.all DV.pure=true
 | [],vs,h=>by simp only[gL,aab.injEq] at h;subst h;rfl
 | x::xs,vs,h=>by
   simp only[gL] at h;split at h
   · rename_i a b h1 h2;injection h with h;subst h;simp[oh h1,db h2]
   · cases h
theorem cm {vs:List DV} (h:vs.all DV.pure=true):vs.all DV.bp=true:=by
 rw[aaf] at h ⊢;exact fun v hv=>Bo (h v hv)
def bx (P:Program) (t:TypeId):Option (List DV):=
 match P.info? t with
 | some i=>match i.zero with | some z=>gL z.cells.toList | none=>none
 | none=>none
theorem bR {t:TypeId} {zs:List DV} (h:bx P t=some zs):∃ i z,P.info? t=some i∧i.zero=some z∧gL z.cells.toList=some zs:=by
 unfold bx at h;split at h
 · rename_i i hi;split at h
   · rename_i z hz;exact⟨i,z,hi,hz,h⟩
   · cases h
 · cases h
theorem lS {w:World} {t:TypeId} {i:TypeInfo} {z:Value} (hi:P.info? t=some i) (hz:i.zero=some z):(zeroValue t).run P w=.ok z w:=by
 unfold zeroValue typeInfo;simp[hi,hz]
theorem uJ {e:TypeId} {zs:List DV} {o:Oper} (ho:o.op=.alloc e) (hz:bx P e=some zs):aA P fm (.alloc zs) o:=by
 obtain⟨i,z,hi,hzz,hc⟩:=bR hz;intro CR G w0 st w fr a v st' hs hf hrun;simp only[an,aab.injEq,Prod.mk.injEq] at hrun;obtain⟨rfl,rfl⟩:=hrun;obtain⟨hl,hr⟩:=ca (fm:=fm) hc;have hs':=hs.push (o:=.cells .plain zs) (ob:=.cells z.cells e) 0 ⟨z.cells,e,(0,0),rfl,by simpa using hl,fun i hi=>by rw[← aR];exact hr _ i hi,fun i hi=>by simp,cm (db hc)⟩ rfl;refine⟨_,_,.pointer (some ⟨w.heap.size,0,none⟩),_,?_,.inl rfl,Gh.bK hs.b9,hs',.ptr _ _ _ (by simp[Gh.push])⟩;unfold execOp;simp only[ho];refine ai ?_;unfold Instr.alloc;simp only[Sem.run_bind,lS hi hzz,Result.andThen_ok];rfl
theorem cV {G:Gh} {v:DV} {x:Value} (hv:v.leaves=[v]) (hx:x.cells = #[x]) (h:Rel fm G v x):x.cells.size=v.leaves.length∧(∀ i (h:i<v.leaves.length),Rel fm G (v.leaves[i]) (x.cells.getD i undef)):=by
 refine⟨by rw[hv,hx];rfl,fun i hi=>?_⟩;have h0:i=0:=by rw[hv] at hi;simpa using hi
 subst h0;have e1:v.leaves[0]=v:=by simp[hv]
 have e2:x.cells.getD 0 undef=x:=by rw[hx];rfl
 rw[e1,e2];exact h
theorem kz {G:Gh} {v:DV} {x:Value} (h:Rel fm G v x) (hsc:v.leaves.all DV.bp=true):x.cells.size=v.leaves.length∧(∀ i (h:i<v.leaves.length),Rel fm G (v.leaves[i]) (x.cells.getD i undef)):=by
 cases h with
 | agg vs cs hl hc=>exact⟨hl,hc⟩
 | tuple vs cs hl hc=>simp[DV.leaves,DV.bp] at hsc
 | undef x=>simp[DV.leaves,DV.bp] at hsc
 | bool b=>exact cV rfl rfl (.bool b)
 | int k n=>exact cV rfl rfl (.int k n)
 | str l s h=>exact cV rfl rfl (.str l s h)
 | ptr b off r h=>exact cV rfl rfl (.ptr b off r h)
 | b5=>exact cV rfl rfl .b5
 | bW cs r off f hr hc hp=>exact cV rfl rfl (.bW cs r off f hr hc hp)
 | ga tag n tk=>exact cV rfl rfl (.ga tag n tk)
 | list tag n tk xs r off cap f hr hc hp hk hl hn=>exact cV rfl rfl (.list tag n tk xs r off cap f hr hc hp hk hl hn)
 | hsl n ag b off len cap r c h hc=>exact cV rfl rfl (.hsl n ag b off len cap r c h hc)
 | map b r h=>exact cV rfl rfl (.map b r h)
 | bn=>exact cV rfl rfl .bn
 | fn g a b f fs cs h h1 h2 hf hc=>exact cV rfl rfl (.fn g a b f fs cs h h1 h2 hf hc)
 | yield l r h=>exact cV rfl rfl (.yield l r h)
 | bO=>exact cV rfl rfl .bO
 | iface t v x h=>exact cV rfl rfl (.iface t v x h)
 | aL=>exact cV rfl rfl .aL
theorem ux {G:Gh} {v:DV} {x:Value} (h:Rel fm G v x) (hsc:v.bp=true):x.oneCell'=true:=by
 cases h<;>first | rfl | simp[DV.bp] at hsc
theorem AG {G:Gh} {v:DV} {x:Value} (h:Rel fm G v x) (hsc:v.leaves.all DV.bp=true):∀ u∈x.cells.toList,u.oneCell'=true:=by
 intro u hu;obtain⟨hl,hr⟩:=kz h hsc;obtain⟨i,hi,rfl⟩:=aa9 hu;have hi':i<v.leaves.length:=by rw[← hl];simpa using hi
 have:=hr i hi';rw[← aR,aak,aaa hi] at this;exact ux this (aaf.1 hsc _ (aar hi'))
theorem Az {e:TypeId} {n:Nat} {x:X} {xo:Operand} {o:Oper} (ho:o.op=.box e xo) (hx:bu fm x xo):aA P fm (.box n x) o:=by
 intro CR G w0 st w fr a v st' hs hf hrun;simp only[an] at hrun;have hxv:=hx.ev (a:=a) hf;split at hrun
 · rename_i hc;obtain⟨hln,hsc⟩:=hc;simp only[aab.injEq,Prod.mk.injEq] at hrun;obtain⟨rfl,rfl⟩:=hrun;obtain⟨hl,hr⟩:=kz hxv hsc;have hle:=Gh.bK (r:=w.heap.size) (size:=0) hs.b9;have hs':=hs.push (o:=.cells .plain (x.ev fr).leaves) (ob:=.cells (a.eval xo).cells e) 0 ⟨_,e,(0,0),rfl,hl,fun i hi=>(hr i hi).le hle,fun i hi=>by simp,hsc⟩ rfl;refine⟨_,_,.pointer (some ⟨w.heap.size,0,none⟩),_,?_,.inl rfl,hle,hs',.ptr _ _ _ (by simp[Gh.push])⟩;unfold execOp;simp only[ho];exact ai rfl
 · cases hrun
theorem xC {t:TypeId} {n:Nat} {ag:Bool} {x:X} {xo:Operand} {o:Oper} (ho:o.op=.load t xo) (ht:ik P t n ag) (hx:bu fm x xo):aA P fm (.load n ag x) o:=by
 refine aE fun CR G w0 st w fr a v st' hs hf hrun=>?_;simp only[an,aad] at hrun;obtain⟨u,hl,hrun⟩:=hrun;cases hrun;obtain⟨ad,y,h1,h2,h3⟩:=rM hs ht (hx.ev (a:=a) hf) hl;refine⟨rfl,y,?_,h3⟩;unfold execOp;simp only[ho];refine ai ?_;unfold Instr.loadAt;rw[h1];simp only[Instr.sureAddr,Sem.run_bind,Sem.run_pure,Result.andThen_ok,h2]
def aO (cur:Array Value) (k:Nat) (vs:List Value):Array Value:=(cur.toList.take k++vs++cur.toList.drop (k+vs.length)).toArray
theorem fG {w:World} {g:Nat} {cur cs:Array Value} {t:TypeId} {fz:Nat×Nat} (hg:w.heap[g]? = some (.cells cur t fz)):w.setRow g cs=w.putObj g (.cells cs t fz):=by
 unfold World.setRow World.putObj
 congr 1
 apply Array.ext_getElem?;intro k;rw[Array.getElem?_modify,Array.getElem?_setIfInBounds];by_cases e:g=k
 · subst e;have hlt:=get?_lt hg;have hv:w.heap[g]=.cells cur t fz:=(aa6.1 hg).2;simp[hlt,hv]
 · simp[e]
theorem dc {g off:Nat} {t:TypeId} {fz:Nat×Nat}:∀ (vs:List Value) (i:Nat) (cur:Array Value) (w:World),w.heap[g]? = some (.cells cur t fz)→off+i+vs.length≤cur.size→(∀ j,j<cur.size→¬ (fz.1≤j∧j<fz.2))→(∀ v∈vs,v.oneCell'=true) →
 (storeCells ⟨g,off,none⟩ vs i).run P w=.ok () (w.setRow g (aO cur (off+i) vs))
 | [],i,cur,w,hg,_,_,_=>by
   simp only[storeCells,aO,aaE,aaP,aa5,aaQ,Array.toArray_toList];rw[setRow_self w g cur t fz hg];rfl
 | v::rest,i,cur,w,hg,hl,hfz,h1=>by
   have hi:off+i<cur.size:=by simp at hl;omega
   have hadd:(⟨g,off,none⟩:Addr).add i=⟨g,off+i,none⟩:=Addr.add_lit _ _ _;have hcell:w.cell? ⟨g,off+i,none⟩=some cur[off+i]:=by simp[World.cell?,hg,hi]
   have hfro:w.frozen? ⟨g,off+i,none⟩=false:=by
    have:=hfz _ hi;simp[World.frozen?,hg];omega
   have hst:(store ((⟨g,off,none⟩:Addr).add i) v).run P w=.ok () (w.setRow g (cur.setIfInBounds (off+i) v)):=by
    rw[hadd,run_store P w _ v _ (h1 v (by simp)),hcell];simp[hfro,setCell_eq_setRow w g (off+i) cur t fz v hg]
   have ih:=dc (off:=off) rest (i+1) (cur.setIfInBounds (off+i) v) (w.setRow g (cur.setIfInBounds (off+i) v)) (setRow_heap w g cur _ t _ hg) (by simp at hl ⊢;omega) (by simpa using hfz) (fun x hx=>h1 x (by simp[hx]));simp only[storeCells,Sem.run_bind,hst,Result.andThen_ok,ih,setRow_setRow];unfold aO
   congr 3
   have e:=list_seg_step cur.toList (off+i) v rest (by simp at hl ⊢;omega);simpa[Array.toList_setIfInBounds,aby] using e
theorem eU {cur:Array Value} {k:Nat} {vs:List Value} (h:k+vs.length≤cur.size):(aO cur k vs).size=cur.size:=by
 unfold aO;simp;omega
theorem iz {vs:List DV} {k:Nat} {ns:List DV} (h:k+ns.length≤vs.length):(cP vs k ns).length=vs.length:=by
 unfold cP;simp;omega
theorem px {G:Gh} {vs ns:List DV} {cur:Array Value} {k:Nat} {xs:List Value} (hv:∀ i (h:i<vs.length),Rel fm G (vs[i]) (cur.getD i undef)) (hl:vs.length≤cur.size) (hk:k+ns.length≤vs.length) (hx:xs.length=ns.length)
 (hn:∀ i (h:i<ns.length),Rel fm G (ns[i]) (xs.getD i undef)):∀ i (h:i<(cP vs k ns).length),Rel fm G ((cP vs k ns)[i]) ((aO cur k xs).getD i undef):=by
 intro i h;have hi:i<vs.length:=by rw[iz hk] at h;exact h
 have key:((aO cur k xs).getD i undef)=if i<k then cur.getD i undef else if i<k+xs.length then xs.getD (i-k) undef else cur.getD i undef:=by
  rw[← aR];unfold aO;simp only[aak];by_cases e1:i<k
  · rw[if_pos e1,aas,aaj (by simp;omega),List.getElem?_take_of_lt e1,abt,aag]
  · rw[if_neg e1];have hkl:(cur.toList.take k).length=k:=by simp;omega
    by_cases e2:i<k+xs.length
    · rw[if_pos e2,aas,aat (by omega),hkl,aaj (by omega)]
    · rw[if_neg e2,aat (by rw[aah,hkl];omega),aah,hkl,List.getElem?_drop,show k+xs.length+(i-(k+xs.length))=i by omega,abt,aag]
 rw[key]
 have key2:(cP vs k ns)[i]=if h1:i<k then vs[i] else if h2:i<k+ns.length then ns[i-k]'(by omega) else vs[i]:=by
  apply aab.inj;rw[← aaa h];unfold cP;have hkl:(vs.take k).length=k:=by simp;omega
  by_cases e1:i<k
  · rw[dif_pos e1,aas,aaj (by omega),List.getElem?_take_of_lt e1,aaa hi]
  · rw[dif_neg e1];by_cases e2:i<k+ns.length
    · rw[dif_pos e2,aas,aat (by omega),hkl,aaj (by omega),aaa]
    · rw[dif_neg e2,aat (by rw[aah,hkl];omega),aah,hkl,List.getElem?_drop,show k+ns.length+(i-(k+ns.length))=i by omega,aaa hi]
 rw[key2];by_cases e1:i<k
 · rw[dif_pos e1,if_pos e1];exact hv i hi
 · rw[dif_neg e1,if_neg e1];by_cases e2:i<k+ns.length
   · rw[dif_pos e2,if_pos (by omega)];exact hn (i-k) (by omega)
   · rw[dif_neg e2,if_neg (by omega)];exact hv i hi
theorem ie {vs ns:List DV} {k:Nat} (h1:vs.all DV.bp=true) (h2:ns.all DV.bp=true):(cP vs k ns).all DV.bp=true:=by
 rw[aaf] at h1 h2 ⊢;unfold cP;intro x hx;simp only[aaL] at hx;rcases hx with (hx | hx) | hx
 · exact h1 x (aaz hx)
 · exact h2 x hx
 · exact h1 x (aao hx)
theorem oM {CR:Nat→RC→Code→Prop} {G:Gh} {w0 w:World} {st:St} (hs:Sim fm CR G w0 st w) {b:Nat} {g:CK} {vs:List DV} (hw:g.wr=true) (hb:st.heap[b]? = some (.cells g vs)) (hbase:st.base≤b) {k:Nat} {ns:List DV} {xs:List Value}
 (hk:k+ns.length≤vs.length) (hx:xs.length=ns.length) (hn:∀ i (h:i<ns.length),Rel fm G (ns[i]) (xs.getD i undef)) (hsc:ns.all DV.bp=true) (h1:∀ u∈xs,u.oneCell'=true) {r:Nat} (hm:G.mu b=some r) :
 ∃ cur t fz,w.heap[r]? = some (.cells cur t fz)∧vs.length≤cur.size∧(storeCells ⟨r,k,none⟩ xs 0).run P w=.ok () (w.setRow r (aO cur k xs)) ∧
   Sim fm CR G w0 { st with heap:=st.heap.set b (.cells g (cP vs k ns)) } (w.setRow r (aO cur k xs)):=by
 obtain⟨r',ob,e1,e2,e3,e4⟩:=hs.obj b _ hb rfl (hs.np hm);rw[hm] at e1;cases e1
 have key:∃ cur t fz,ob=.cells cur t fz∧vs.length≤cur.size∧(∀ i (h:i<vs.length),Rel fm G (vs[i]) (cur.getD i undef))∧(∀ i,i<cur.size→¬ (fz.1≤i∧i<fz.2))∧vs.all DV.bp=true:=by
  cases g with
  | plain=>obtain⟨cs,t,fz,e,f1,f2,f3,f4⟩:=e3;exact⟨cs,t,fz,e,by omega,f2,f3,f4⟩
  | typed ty=>obtain⟨cs,t,fz,e,_,f1,f2,f3,f4⟩:=e3;exact⟨cs,t,fz,e,by omega,f2,f3,f4⟩
  | frz ty=>cases hw
  | grown=>obtain⟨cs,t,fz,e,f1,_,f2,f3,f4⟩:=e3;exact⟨cs,t,fz,e,f1,f2,f3,f4⟩
 obtain⟨cur,t,fz,rfl,k1,k2,k3,k4⟩:=key;refine⟨cur,t,fz,e2,k1,?_,?_⟩
 · have:=dc (P:=P) (off:=k) xs 0 cur w e2 (by omega) k3 h1
   rwa [aa5] at this
 · rw[fG e2];refine hs.put hb rfl hm hbase ?_ rfl (fun h=>by cases h);have hsp:=px (fm:=fm) k2 k1 hk hx hn;have hsz:=eU (cur:=cur) (k:=k) (vs:=xs) (by omega);have hln:=iz hk
   cases g with
   | plain=>obtain⟨cs,t',fz',e,f1,f2,f3,f4⟩:=e3;cases e;exact⟨_,t,fz,rfl,by rw[hsz,hln];exact f1,hsp,by rw[hsz];exact k3,ie k4 hsc⟩
   | typed ty=>obtain⟨cs,t',fz',e,f0,f1,f2,f3,f4⟩:=e3;cases e;exact⟨_,t,fz,rfl,f0,by rw[hsz,hln];exact f1,hsp,by rw[hsz];exact k3,ie k4 hsc⟩
   | frz ty=>cases hw
   | grown=>obtain⟨cs,t',fz',e,f1,f5,f2,f3,f4⟩:=e3;cases e;exact⟨_,t,fz,rfl,by rw[hsz,hln];exact f1,by rw[hsz];exact f5,hsp,by rw[hsz];exact k3,ie k4 hsc⟩
theorem uW {t:TypeId} {n:Nat} {x v:X} {xo vo:Operand} {i:TypeInfo} {o:Oper} (ho:o.op=.store t xo vo) (hi:P.info? t=some i) (hn:i.size=n) (hx:bu fm x xo) (hv:bu fm v vo):aA P fm (.store n x v) o:=by
 intro CR G w0 st w fr a u st' hs hf hrun;simp only[an,aad] at hrun;obtain⟨st1,hst,hrun⟩:=hrun;cases hrun;have hxv:=hx.ev (a:=a) hf;have hvv:=hv.ev (a:=a) hf;generalize x.ev fr=p at hst hxv;generalize hx0:a.eval xo=x0 at hxv;cases p<;>simp only[kU,reduceCtorEq] at hst
 rename_i b off
 cases hxv with
 | ptr _ _ r hm=>
 split at hst
 · rename_i g vs hcs;obtain⟨hcs,hw⟩:=xq hcs;unfold St.cells at hcs;split at hcs
   · rename_i g' vs' hb;simp only[aab.injEq,Prod.mk.injEq] at hcs;obtain⟨rfl,rfl⟩:=hcs;split at hst
     · rename_i hc;obtain⟨c1,c2,c3,c4⟩:=hc;injection hst with hst;subst hst;obtain⟨l1,r1⟩:=kz hvv c4;obtain⟨cur,ty,fz,h1,h2,h3,h4⟩:=oM (P:=P) hs hw hb c1 (k:=off) (ns:=(v.ev fr).leaves) (xs:=(a.eval vo).cells.toList) (by omega) (by simpa using l1) (fun i hi=>by rw[aR];exact r1 i hi) c4 (AG hvv c4) hm;refine⟨G,_,undef,.skip,?_,.inr ⟨rfl,rfl⟩,.refl G,h4,.undef _⟩;unfold execOp;simp only[ho];refine tH ?_;unfold Instr.storeAt storeVar;have hsz:(sizeOf t).run P w=.ok n w:=by unfold sizeOf typeInfo;simp[hi,hn]
       have hcsz:(a.eval vo).cells.size=n:=by rw[l1,c2]
       simp only[hx0,Instr.sureAddr,Sem.run_bind,Sem.run_pure,Result.andThen_ok,hsz,hcsz,ne_eq,not_true_eq_false,if_false];exact h3
     · cases hst
   · cases hcs
 · cases hst
end Go.D
end
section
namespace Go.D
open Go.RowKit
variable {P:Program} {fm:FM}
theorem uP {s:TypeId} {k off:Nat} {fs:Array Field} {f:Field} {i:TypeInfo} {x:X} {xo:Operand} {o:Oper} (ho:o.op=.fieldAddr s xo k) (hs0:P.underlying s=some (.struct fs)) (hf0:fs[k]? = some f) (hi:P.info? f.type=some i) (hne:i.size≠0) (hoff:f.offset=off)
 (hx:bu fm x xo):aA P fm (.gU off x) o:=by
 refine aE fun CR G w0 st w fr a v st' hs hf hrun=>?_;simp only[an] at hrun;have hxv:=hx.ev (a:=a) hf;generalize hx0:a.eval xo=x0 at hxv
 have run:∀ r o',x0=.pointer (some ⟨r,o',none⟩)→(Instr.fieldAt s x0 k).run P w=.ok (.pointer (some ⟨r,o'+off,none⟩)) w:=by
  intro r o' e;subst e;have hsz:(sizeOf f.type).run P w=.ok i.size w:=by unfold sizeOf typeInfo;simp[hi]
  unfold Instr.fieldAt;simp only[Sem.run_bind,run_underlying hs0,Result.andThen_ok,hf0,Instr.sureAddr,Sem.run_pure];unfold fieldPlace;simp only[Sem.run_bind,hsz,Result.andThen_ok,if_neg hne,Sem.run_pure,Addr.add_lit,hoff]
 split at hrun
 · rename_i b o' hb;rw[hb] at hxv;simp only[aab.injEq,Prod.mk.injEq] at hrun;obtain⟨rfl,rfl⟩:=hrun
   cases hxv with
   | ptr _ _ r hm=>
     refine⟨rfl,_,?_,.ptr b (o'+off) r hm⟩;unfold execOp;simp only[ho,hx0];exact ai (run _ _ rfl)
 · rename_i cs hb;rw[hb] at hxv;split at hrun
   · rename_i hle;simp only[aab.injEq,Prod.mk.injEq] at hrun;obtain⟨rfl,rfl⟩:=hrun
     cases hxv with
     | bW _ r o' g hr hc hp=>
       refine⟨rfl,.pointer (some ⟨r,o'+off,none⟩),?_,.bW _ r (o'+off) (fun j=>g (off+j)) (fun j hj=>?_) (fun j hj=>?_) ?_⟩
       · unfold execOp;simp only[ho,hx0];exact ai (run _ _ rfl)
       · rw[aby];exact hr _ (by simp at hj;omega)
       · have:=hc (off+j) (by simp at hj;omega);simpa using this
       · rw[aaf] at hp ⊢;exact fun y hy=>hp y (aao hy)
   · cases hrun
 · cases hrun
theorem nA {G:Gh} {vs:List DV} {cs:Array Value} (hl:cs.size=vs.length) (hc:∀ i (h:i<vs.length),Rel fm G (vs[i]) (cs.getD i undef)) {off n:Nat} {ag:Bool} {v:DV} (h:takeN vs off n ag=some v) {w:World} {t:TypeId} (ht:ik P t n ag) :
 ∃ y,(part t cs off).run P w=.ok y w∧Rel fm G v y:=by
 obtain⟨⟨d,hd,hag⟩,⟨i,hi,hsz⟩,h1⟩:=ht;obtain⟨hle,hv⟩:=m8 (fm:=fm) (G:=G) h h1 (fun j=>cs.getD (off+j) undef) (fun j hj _=>hc _ hj)
 cases ag with
 | true=>
   refine⟨_,kc hd hi cs off (by cases d<;>simp at hag ⊢),?_⟩;simp only[if_true] at hv
   have e:((aal n).map fun j=>cs.getD (off+j) undef).toArray=cs.extract off (off+i.size):=by
    apply Array.ext_getElem?;intro j;rw[hsz,Array.getElem?_extract];by_cases hj:j<n
    · rw[if_pos (by omega)];have:off+j<cs.size:=by omega
      simp[hj,Array.getD,this]
    · rw[if_neg (by omega)];simp;omega
   rw[e] at hv;exact hv
 | false=>
   obtain rfl:=h1 rfl;refine⟨_,jC hd cs off (by omega) (by cases d<;>simp at hag ⊢),?_⟩;simpa using hv
theorem wa {s:TypeId} {k off n:Nat} {ag:Bool} {fs:Array Field} {f:Field} {x:X} {xo:Operand} {o:Oper} (ho:o.op=.field s xo k) (hs0:P.underlying s=some (.struct fs)) (hf0:fs[k]? = some f) (ht:ik P f.type n ag) (hoff:f.offset=off)
 (hx:bu fm x xo):aA P fm (.field n ag off x) o:=by
 refine aE fun CR G w0 st w fr a v st' hs hf hrun=>?_;simp only[an] at hrun;have hxv:=hx.ev (a:=a) hf;generalize hx0:a.eval xo=x0 at hxv;split at hrun
 · rename_i vs hvs;rw[hvs] at hxv;simp only[aad] at hrun;obtain⟨u,hu,hrun⟩:=hrun;cases hrun
   cases hxv with
   | agg _ cs hl hc=>
     obtain⟨y,h1,h2⟩:=nA (w:=w) hl hc hu ht;refine⟨rfl,y,?_,h2⟩;unfold execOp;simp only[ho,hx0];refine ai ?_;unfold Instr.field;simp only[Sem.run_bind,run_underlying hs0,Result.andThen_ok,hf0,asAgg,Sem.run_pure,hoff,h1]
 · cases hrun
theorem tp:∀ (xs:List DV) (n j:Nat) (v:DV),(∀ x∈xs,x.leaves.length=n)→xs[j]? = some v→∀ i (_:i<v.leaves.length),∃ h:j*n+i<(flat xs).length,(flat xs)[j*n+i]=v.leaves[i]
 | [],n,j,v,_,hv,_,_=>by simp at hv
 | x::xs,n,0,v,hn,hv,i,hi=>by
   simp only[aaw,aab.injEq] at hv;subst hv;refine⟨by unfold flat;simp only[abx,aah];omega,?_⟩;unfold flat;simp only[abx,Nat.zero_mul,aay];rw[aa0 hi]
 | x::xs,n,j+1,v,hn,hv,i,hi=>by
   simp only[List.getElem?_cons_succ] at hv;obtain⟨h1,h2⟩:=tp xs n j v (fun y hy=>hn y (by simp[hy])) hv i hi;have hx:=hn x (by simp);have e:(j+1)*n+i=x.leaves.length+(j*n+i):=by rw[hx,aaN,Nat.one_mul];omega
   have hfl:flat (x::xs)=x.leaves++flat xs:=by simp[flat]
   refine⟨by rw[hfl,aah,e];omega,?_⟩;rw[← h2];simp only[hfl,e];rw[aaV (by omega)];simp
theorem uy {t e:TypeId} {n:Nat} {i:TypeInfo} {x j:X} {xo jo:Operand} {o:Oper} (ho:o.op=.indexAddr t xo jo) (ht:P.underlying t=some (.slice e)) (hi:P.info? e=some i) (hn:i.size=n) (hx:bu fm x xo) (hj:bu fm j jo):aA P fm (.aY n x j) o:=by
 refine aE fun CR G w0 st w fr a v st' hs hf hrun=>?_;simp only[an] at hrun;have hxv:=hx.ev (a:=a) hf;have hjv:=hj.ev (a:=a) hf;generalize hx0:a.eval xo=x0 at hxv;generalize hj0:a.eval jo=j0 at hjv;have hsz:(sizeOf e).run P w=.ok n w:=by unfold sizeOf typeInfo;simp[hi,hn]
 have run:∀ r o' len cap k q,x0=.slice (some ⟨r,o',none⟩) len cap→j0=.int k q→0≤q→q<len→(Instr.indexAt t x0 j0).run P w=.ok (.pointer (some ⟨r,o'+q.toNat*n,none⟩)) w:=by
  intro r o' len cap k q e1 e2 h1 h2;subst e1;subst e2;unfold Instr.indexAt;simp[asIntOf,run_underlying ht,h1,h2,hsz,Addr.add_lit]
 split at hrun
 · rename_i tag n' tk nn xs k q hb hq;rw[hb] at hxv;rw[hq] at hjv;split at hrun
   · rename_i hc;obtain⟨hc1,rfl⟩:=hc;split at hrun
     · rename_i u hu;simp only[aab.injEq,Prod.mk.injEq] at hrun;obtain⟨rfl,rfl⟩:=hrun;cases hjv;have hlt:q.toNat<xs.length:=(aae.1 hu).1
       cases hxv with
       | ga=>simp at hlt
       | list _ _ _ _ r off cap g hr hcc hp hk hl hnn=>
         refine⟨rfl,_,?_,.bW u.leaves r (off+q.toNat*n') (fun i=>g (q.toNat*n'+i)) (fun i hi=>?_) (fun i hi=>?_) ?_⟩
         · unfold execOp;simp only[ho,hx0,hj0];exact ai (run _ _ _ _ _ _ rfl rfl hc1 (by omega))
         · obtain⟨g1,g2⟩:=tp xs n' q.toNat u hnn hu i hi;rw[aby];exact .inl (hr _ g1)
         · obtain⟨g1,g2⟩:=tp xs n' q.toNat u hnn hu i hi;rw[← g2];exact hcc _ g1
         · rw[aaf] at hp ⊢;intro y hy;exact hp y (aaH.2 ⟨u,aaB hu,hy⟩)
     · cases hrun
   · cases hrun
 · rename_i n' ag b off len cap k q hb hq;rw[hb] at hxv;rw[hq] at hjv;split at hrun
   · rename_i hc;obtain⟨rfl,hc1,hc2⟩:=hc;simp only[aab.injEq,Prod.mk.injEq] at hrun;obtain⟨rfl,rfl⟩:=hrun;cases hjv
     cases hxv with
     | hsl _ _ _ _ _ _ r c hm hcap=>
       refine⟨rfl,_,?_,.ptr b (off+q.toNat*n') r hm⟩;unfold execOp;simp only[ho,hx0,hj0];exact ai (run _ _ _ _ _ _ rfl rfl hc1 hc2)
   · cases hrun
 · cases hrun
theorem vN {t:TypeId} {x j:X} {xo jo:Operand} {o:Oper} (ho:o.op=.index t xo jo) (ht:P.underlying t=some .string) (hx:bu fm x xo) (hj:bu fm j jo):aA P fm (.index x j) o:=by
 refine aE fun CR G w0 st w fr a v st' hs hf hrun=>?_;simp only[an] at hrun;have hxv:=hx.ev (a:=a) hf;have hjv:=hj.ev (a:=a) hf;generalize hx0:a.eval xo=x0 at hxv;generalize hj0:a.eval jo=j0 at hjv;split at hrun
 · rename_i s k q hb hq;rw[hb] at hxv;rw[hq] at hjv;split at hrun
   · rename_i hc;simp only[aad] at hrun;obtain⟨u,hu,hrun⟩:=hrun;cases hrun;cases hjv
     cases hxv with
     | str _ ba hba=>
       refine⟨rfl,.int .u8 u.toNat,?_,.int _ _⟩;unfold execOp;simp only[ho,hx0,hj0];refine ai ?_
       have hget:ba[q.toNat]? = some u:=by
        subst hba;obtain⟨h1,h2⟩:=aae.1 hu;have hlt:q.toNat<ba.size:=by rw[aba] at h1;exact h1
        rw[getElem?_pos ba q.toNat hlt]
        congr 1
       unfold Instr.index;simp[asIntOf,run_underlying ht,hc,hget]
   · cases hrun
 · cases hrun
def builtinCall (b:Builtin) (args:List Operand) (ts:List TypeId) (op:Op):Prop:=∃ c:Call,op=.call c∧c.callee=.builtin b∧c.args.toList=args∧c.argTypes.toList=ts
theorem df {b:Builtin} {args:List Operand} {ts:List TypeId} {o:Oper} (h:builtinCall b args ts o.op) (ρ:Operand→Value):∃ consts,execOp ρ o=builtin b ts.toArray o.type consts (args.map ρ).toArray:=by
 obtain⟨c,ho,h1,h2,h3⟩:=h;refine⟨c.args.map fun | .const _=>true | _=>false,?_⟩;unfold execOp;simp only[ho,resolve,h1,invoke];have e1:c.argTypes=ts.toArray:=by rw[← h3]
 have e2:c.args.map ρ=(args.map ρ).toArray:=by rw[← h2,← Array.toList_map]
 rw[e1,e2];rfl
def tz (P:Program) (t:TypeId):wU→Bool
 | .str=>match P.underlying t with | some .string=>true | _=>false
 | .slice=>match P.underlying t with | some (.slice _)=>true | _=>false
 | .map=>match P.underlying t with | some (.map _ _)=>true | _=>false
theorem Ba {t:TypeId} {k:wU} {x:X} {xo:Operand} {o:Oper} (ho:builtinCall .len [xo] [t] o.op) (ht:tz P t k=true) (hx:bu fm x xo):aA P fm (.len k x) o:=by
 refine aE fun CR G w0 st w fr a v st' hs hf hrun=>?_;simp only[an] at hrun;have hxv:=hx.ev (a:=a) hf;obtain⟨consts,hex⟩:=df ho a.eval;rw[hex];generalize hx0:a.eval xo=x0 at hxv;simp only[aaS,abp,hx0];unfold tz at ht;split at hrun
 · rename_i s hb;rw[hb] at hxv;simp only at ht;split at ht
   · rename_i htd;simp only[aab.injEq,Prod.mk.injEq] at hrun;obtain⟨rfl,rfl⟩:=hrun
     cases hxv with
     | str _ ba hba=>
       refine⟨rfl,.int .i64 ba.size,ai ?_,?_⟩
       · simp[Builtin.len_,run_underlying htd,goInt]
       · subst hba;rw[aba];exact .int _ _
   · cases ht
 · rename_i tag n tk nn xs hb;rw[hb] at hxv;simp only at ht;split at ht
   · rename_i htd;simp only[aab.injEq,Prod.mk.injEq] at hrun;obtain⟨rfl,rfl⟩:=hrun;refine⟨rfl,.int .i64 xs.length,ai ?_,.int _ _⟩;cases hxv<;>simp[Builtin.len_,run_underlying htd,goInt]
   · cases ht
 · rename_i n ag b off len cap hb;rw[hb] at hxv;simp only at ht;split at ht
   · rename_i htd;simp only[aab.injEq,Prod.mk.injEq] at hrun;obtain⟨rfl,rfl⟩:=hrun;refine⟨rfl,.int .i64 len,ai ?_,.int _ _⟩;cases hxv;simp[Builtin.len_,run_underlying htd,goInt]
   · cases ht
 · rename_i hb;rw[hb] at hxv;simp only at ht;split at ht
   · rename_i htd;simp only[aab.injEq,Prod.mk.injEq] at hrun;obtain⟨rfl,rfl⟩:=hrun;refine⟨rfl,.int .i64 0,ai ?_,.int _ _⟩;cases hxv;simp[Builtin.len_,run_underlying htd,goInt]
   · cases ht
 · rename_i b hb;rw[hb] at hxv;simp only at ht;split at ht
   · rename_i htd;split at hrun
     · rename_i es hes;simp only[aab.injEq,Prod.mk.injEq] at hrun;obtain⟨rfl,rfl⟩:=hrun
       cases hxv with
       | map _ r hm=>
         obtain⟨r',ob,h1,h2,h3,_⟩:=hs.obj b _ hes rfl (hs.np hm);rw[hm] at h1;cases h1;obtain⟨en,ck,rfl,h4,_⟩:=h3;refine⟨rfl,.int .i64 en.size,ai ?_,?_⟩
         · simp[Builtin.len_,run_underlying htd,goInt,getObj,Sem.run,h2]
         · rw[h4];exact .int _ _
     · cases hrun
   · cases ht
 · cases hrun
end Go.D
end
section
namespace Go.D
open Go.RowKit
variable {P:Program} {fm:FM}
theorem c8 {v:DV} {y k:Nat} (h:bnd v y=some k):k≤y∧∃ kd n,v=.int kd n∧0≤n∧n.toNat=k:=by
 unfold bnd at h;split at h
 · rename_i kd n;split at h
   · rename_i hc;injection h with h;exact⟨by omega,kd,n,rfl,hc.1,h⟩
   · cases h
 · cases h
theorem gZ {G:Gh} {v:DV} {x:Value} {y y' k:Nat} {c:BoundsCode} {w:World} (h:bnd v y=some k) (hy:y≤y') (hv:Rel fm G v x):(Instr.sliceBound x y' c).run P w=.ok k w:=by
 obtain⟨h1,kd,n,rfl,h2,h3⟩:=c8 h;cases hv;unfold Instr.sliceBound;have:0≤n∧n≤(y':Int):=by omega
 simp[asIntOf,this,h3]
def kN (fm:FM) (G:Gh):Option DV→Option Value→Prop
 | none,none=>True
 | some v,some x=>Rel fm G v x
 | _,_=>False
def dd (fm:FM):Option X→Option Operand→Prop
 | none,none=>True
 | some v,some x=>bu fm v x
 | _,_=>False
theorem dd.ev {G:Gh} {fr:Fr} {a:Act} {x:Option X} {o:Option Operand} (h:dd fm x o) (hf:cG fm G fr a.tmps):kN fm G (x.map (X.ev fr)) (o.map a.eval):=by
 cases x<;>cases o<;>simp only[dd] at h
 · trivial
 · exact h.ev hf
theorem eA {G:Gh} {isS:Bool} {len c0 cap:Nat} {lo hi mx:Option DV} {lo' hi' mx':Option Value} {l h m:Nat} {w:World} (hlo:kN fm G lo lo') (hhi:kN fm G hi hi') (hmx:kN fm G mx mx') (hc:c0≤cap)
 (hm:∀ v,mx=some v→bnd v c0=some m) (hm0:mx=none→m=cap) (hh:∀ v,hi=some v→∃ y,bnd v y=some h∧y≤m) (hh0:hi=none→mx=none∧h=len) (hl:∀ v,lo=some v→bnd v h=some l) (hl0:lo=none→l=0) :
 (Instr.sliceBounds isS len cap lo' hi' mx').run P w=.ok (l,h,m) w:=by
 have e1:∀ {x:Value} {code:BoundsCode},mx'=some x→(Instr.sliceBound x cap code).run P w=.ok m w:=by
  intro x code e;subst e
  cases mx with
  | none=>exact hmx.elim
  | some v=>exact gZ (hm v rfl) hc hmx
 have e2:∀ {x:Value} {code:BoundsCode},hi'=some x→(Instr.sliceBound x m code).run P w=.ok h w:=by
  intro x code e;subst e
  cases hi with
  | none=>exact hhi.elim
  | some v=>
    obtain⟨y,h1,h2⟩:=hh v rfl;exact gZ h1 h2 hhi
 have e3:∀ {x:Value} {code:BoundsCode},lo'=some x→(Instr.sliceBound x h code).run P w=.ok l w:=by
  intro x code e;subst e
  cases lo with
  | none=>exact hlo.elim
  | some v=>exact gZ (hl v rfl) (aai _) hlo
 unfold Instr.sliceBounds
 cases mx' with
 | none=>
   have hmn:mx=none:=by cases mx with
    | none=>rfl
    | some _=>exact hmx.elim
   have:=hm0 hmn;subst this
   cases hi' with
   | none=>
     have hin:hi=none:=by cases hi with
      | none=>rfl
      | some _=>exact hhi.elim
     obtain⟨_,rfl⟩:=hh0 hin
     cases lo' with
     | none=>
       have hln:lo=none:=by cases lo with
        | none=>rfl
        | some _=>exact hlo.elim
       have:=hl0 hln;subst this;simp
     | some x=>simp[e3 rfl]
   | some x=>
     cases lo' with
     | none=>
       have hln:lo=none:=by cases lo with
        | none=>rfl
        | some _=>exact hlo.elim
       have:=hl0 hln;subst this;simp[e2 rfl]
     | some y=>simp[e2 rfl,e3 rfl]
 | some z=>
   cases hi' with
   | none=>
     have hin:hi=none:=by cases hi with
      | none=>rfl
      | some _=>exact hhi.elim
     have:=(hh0 hin).1;subst this;exact hmx.elim
   | some x=>
     cases lo' with
     | none=>
       have hln:lo=none:=by cases lo with
        | none=>rfl
        | some _=>exact hlo.elim
       have:=hl0 hln;subst this;simp[e1 rfl,e2 rfl]
     | some y=>simp[e1 rfl,e2 rfl,e3 rfl]
theorem j9 (xs ys:List DV):flat (xs++ys)=flat xs++flat ys:=by simp[flat]
theorem dD:∀ (xs:List DV) (n:Nat),(∀ x∈xs,x.leaves.length=n)→(flat xs).length=xs.length*n
 | [],n,_=>by simp[flat]
 | x::xs,n,h=>by
   have:=dD xs n fun y hy=>h y (by simp[hy]);have hx:=h x (by simp);have:flat (x::xs)=x.leaves++flat xs:=by simp[flat]
   rw[this,aah,hx,aax,aaN,Nat.one_mul];omega
theorem AJ {G:Gh} {tag n:Nat} {tk tk':Tk} {xs:List DV} {r off cap l h m:Nat} (hv:Rel fm G (.list tag n tk true xs) (.slice (some ⟨r,off,none⟩) xs.length cap)) (h1:l≤h) (h2:h≤xs.length) (h3:h≤m)
 (hk:A4 G n tk' r (if m=l then off else off+l*n) (h-l) (m-l)) :
 Rel fm G (.list tag n tk' true ((xs.drop l).take (h-l))) (.slice (some ⟨r,if m=l then off else off+l*n,none⟩) (h-l) (m-l)):=by
 cases hv with
 | list _ _ _ _ _ _ _ f hr hc hp _ hl hn=>
   have hlen:((xs.drop l).take (h-l)).length=h-l:=by simp;omega
   have e1:xs.take l++((xs.drop l).take (h-l)++(xs.drop l).drop (h-l))=xs:=by rw[aaQ,aaQ]
   have e2:flat xs=flat (xs.take l)++(flat ((xs.drop l).take (h-l))++flat ((xs.drop l).drop (h-l))):=by rw[← j9,← j9,e1]
   have e3:(flat (xs.take l)).length=l*n:=by
    rw[dD _ n fun x hx=>hn x (aaz hx),List.length_take,Nat.min_eq_left (by omega)]
   have hget:∀ i (hi:i<(flat ((xs.drop l).take (h-l))).length),∃ h':l*n+i<(flat xs).length,(flat xs)[l*n+i]=(flat ((xs.drop l).take (h-l)))[i]:=by
    intro i hi;refine⟨by rw[e2];simp only[aah,e3];omega,?_⟩;apply aab.inj;rw[← aaa,← aaa,e2,aat (by omega),e3,show l*n+i-l*n=i by omega,aaj hi]
   have hsub:∀ x∈(xs.drop l).take (h-l),x∈xs:=fun x hx=>aao (aaz hx);have main:=Rel.list (fm:=fm) (G:=G) tag n tk' ((xs.drop l).take (h-l)) r (if m=l then off else off+l*n) (m-l) (fun i=>f (l*n+i)) ?_ ?_ ?_ ?_ ?_ ?_
   · rw[hlen] at main;exact main
   · intro i hi;obtain⟨g1,g2⟩:=hget i hi;by_cases e:m=l
     · have:h-l=0:=by omega
       rw[this] at hi;simp[flat] at hi
     · rw[if_neg e,aby];exact hr _ g1
   · intro i hi;obtain⟨g1,g2⟩:=hget i hi;rw[← g2];exact hc _ g1
   · rw[aaf] at hp ⊢;intro y hy;obtain⟨x,hx,hy⟩:=aaH.1 hy;exact hp y (aaH.2 ⟨x,hsub x hx,hy⟩)
   · rw[hlen];exact hk
   · rw[hlen];omega
   · exact fun x hx=>hn x (hsub x hx)
theorem nQ {t:TypeId} {n:Nat} {x:X} {lo hi:Option X} {xo:Operand} {lo' hi':Option Operand} {o:Oper} (ho:o.op=.slice t xo lo' hi' none) (ht:P.underlying t=some .string) (hx:bu fm x xo) (hlo:dd fm lo lo') (hhi:dd fm hi hi'):aA P fm (.slice true n x lo hi none) o:=by
 refine aE fun CR G w0 st w fr a v st' hs hf hrun=>?_;simp only[an,aad,abw] at hrun;obtain⟨u,hu,hrun⟩:=hrun;cases hrun;have hxv:=hx.ev (a:=a) hf;have hlov:=hlo.ev (a:=a) hf;have hhiv:=hhi.ev (a:=a) hf;generalize hx0:a.eval xo=x0 at hxv;generalize lo.map (X.ev fr)=lov at hu hlov;generalize hi.map (X.ev fr)=hiv at hu hhiv;generalize hl0:lo'.map a.eval=lo0 at hlov;generalize hh0:hi'.map a.eval=hi0 at hhiv;generalize x.ev fr=vx at hu hxv;cases vx<;>simp only[bS,reduceCtorEq] at hu
 rename_i s;split at hu
 · cases hu
 · rename_i h hh;split at hu
   · cases hu
   · rename_i l hl;injection hu with hu;subst hu
     cases hxv with
     | str _ ba hba=>
       have hsz:ba.size=s.length:=by rw[← hba,aba];rfl
       have hb:=eA (P:=P) (G:=G) (isS:=false) (len:=ba.size) (c0:=ba.size) (cap:=ba.size) (lo:=lov) (hi:=hiv) (mx:=none) (lo':=lo0) (hi':=hi0) (mx':=none) (l:=l) (h:=h) (m:=ba.size) (w:=w) hlov hhiv trivial (aai _)
        (fun v e=>by cases e) (fun _=>rfl) (fun v e=>by subst e;exact⟨s.length,hh,by omega⟩) (fun e=>by subst e;simp at hh;exact⟨rfl,by omega⟩) (fun v e=>by subst e;exact hl) (fun e=>by subst e;simp at hl;exact hl.symm)
       refine⟨rfl,.string (ba.extract l h),?_,.str _ _ ?_⟩
       · unfold execOp;simp only[ho,hx0,abw,hl0,hh0];refine ai ?_;unfold Instr.sliceAt Instr.slice;simp[run_underlying ht,hb]
       · rw[← hba];exact Lib.extract_data ba l h
theorem uK {t e:TypeId} {n:Nat} {i:TypeInfo} {x:X} {lo hi mx:Option X} {xo:Operand} {lo' hi' mx':Option Operand} {o:Oper} (ho:o.op=.slice t xo lo' hi' mx') (ht:P.underlying t=some (.slice e)) (hi0:P.info? e=some i) (hn:i.size=n) (hx:bu fm x xo) (hlo:dd fm lo lo') (hhi:dd fm hi hi') (hmx:dd fm mx mx') :
 aA P fm (.slice false n x lo hi mx) o:=by
 refine aE fun CR G w0 st w fr a v st' hs hf hrun=>?_;simp only[an,aad] at hrun;obtain⟨u,hu,hrun⟩:=hrun;cases hrun;have hxv:=hx.ev (a:=a) hf;have hlov:=hlo.ev (a:=a) hf;have hhiv:=hhi.ev (a:=a) hf;have hmxv:=hmx.ev (a:=a) hf;generalize hx0:a.eval xo=x0 at hxv;generalize lo.map (X.ev fr)=lov at hu hlov;generalize hi.map (X.ev fr)=hiv at hu hhiv;generalize mx.map (X.ev fr)=mxv at hu hmxv;generalize hl0:lo'.map a.eval=lo0 at hlov;generalize hh0:hi'.map a.eval=hh1 at hhiv;generalize hm0:mx'.map a.eval=mx0 at hmxv;generalize x.ev fr=vx at hu hxv;have hsz:(sizeOf e).run P w=.ok n w:=by unfold sizeOf typeInfo;simp[hi0,hn]
 have fin:∀ {ad:Option Addr} {len cap l h m:Nat},x0=.slice ad len cap→(Instr.sliceBounds true len cap lo0 hh1 mx0).run P w=.ok (l,h,m) w →
  (execOp a.eval o).run P w=.ok (.value (.slice (if m=l then ad else ad.map (·.add (l*n))) (h-l) (m-l))) w:=by
  intro ad len cap l h m e1 e2;unfold execOp;simp only[ho,hx0,hl0,hh0,hm0];refine ai ?_;subst e1;unfold Instr.sliceAt Instr.slice;simp[run_underlying ht,e2,hsz]
 cases vx<;>simp only[bS,reduceCtorEq] at hu
 · rename_i tag en tk nn xs;split at hu
   · cases hu
   rename_i hnn;split at hu
   · cases hu
   · rename_i m hm;split at hu
     · cases hu
     · rename_i h hh;split at hu
       · cases hu
       · rename_i l hl;injection hu with hu;subst hu;have hm1:∀ v,mxv=some v→bnd v xs.length=some m:=fun v e=>by subst e;exact hm
         have hml:m≤xs.length:=by
          cases mxv with
          | none=>simp at hm;omega
          | some v=>exact(c8 (hm1 v rfl)).1
         have hhle:h≤m:=by
          cases hiv with
          | none=>cases mxv with
            | none=>simp at hh hm;omega
            | some v=>simp at hh
          | some v=>exact(c8 hh).1
         have hll:l≤h:=by
          cases lov with
          | none=>simp at hl;omega
          | some v=>exact(c8 hl).1
         cases hxv with
         | ga=>
           have hl00:l=0:=by simp at hml;omega
           have hh00:h=0:=by simp at hml;omega
           have hm00:m=0:=by simp at hml;omega
           subst hl00;subst hh00;subst hm00
           have hb:=eA (P:=P) (G:=G) (isS:=true) (len:=0) (c0:=0) (cap:=0) (lo:=lov) (hi:=hiv) (mx:=mxv) (lo':=lo0) (hi':=hh1) (mx':=mx0) (l:=0) (h:=0) (m:=0) (w:=w) hlov hhiv hmxv (aai _)
            (fun v e=>by simpa using hm1 v e) (fun _=>rfl) (fun v e=>by subst e;exact⟨0,by simpa using hh,aai _⟩) (fun e=>by subst e;cases mxv with | none=>exact⟨rfl,rfl⟩ | some v=>simp at hh) (fun v e=>by subst e;exact hl) (fun _=>rfl)
           refine⟨rfl,_,fin rfl hb,?_⟩;simp only[List.drop_nil,List.take_nil];exact .ga _ _ _
         | list _ _ _ _ r off cap f hr hc hp hk hle hn1=>
           have hen:en=n:=by
            by_cases hq:en=n
            · exact hq
            · exact absurd ⟨rfl,hq⟩ hnn
           subst hen
           have hmr:∃ mr,(mxv=none→mr=cap)∧(∀ v,mxv=some v→mr=m)∧m≤mr:=by
            cases mxv with
            | none=>exact⟨cap,fun _=>rfl,(fun v e=>nomatch e),by omega⟩
            | some v=>exact⟨m,(fun e=>nomatch e),fun _ _=>rfl,aai _⟩
           obtain⟨mr,g1,g2,g3⟩:=hmr
           have hb:=eA (P:=P) (G:=G) (isS:=true) (len:=xs.length) (c0:=xs.length) (cap:=cap) (lo:=lov) (hi:=hiv) (mx:=mxv) (lo':=lo0) (hi':=hh1) (mx':=mx0) (l:=l) (h:=h) (m:=mr) (w:=w) hlov hhiv hmxv hle
            (fun v e=>by rw[g2 v e];exact hm1 v e) g1 (fun v e=>by subst e;exact⟨m,by simpa using hh,g3⟩) (fun e=>by subst e;cases mxv with | none=>simp at hh;exact⟨rfl,hh.symm⟩ | some v=>simp at hh) (fun v e=>by subst e;exact hl) (fun e=>by subst e;simp at hl;exact hl.symm)
           refine⟨rfl,_,fin rfl hb,?_⟩
           have eaddr:(if mr=l then (some (⟨r,off,none⟩:Addr)) else (some (⟨r,off,none⟩:Addr)).map (·.add (l*en)))=some ⟨r,if mr=l then off else off+l*en,none⟩:=by
            split<;>simp[Addr.add_lit]
           rw[eaddr];refine AJ (.list tag en tk xs r off cap f hr hc hp hk hle hn1) hll (by omega) (by omega) ?_
           cases mxv with
           | some v=>
             simp only[Option.isSome_some,if_true];have:=g2 v rfl;subst this;by_cases hmh:mr=h
             · rw[if_pos hmh];show mr-l=h-l;omega
             · rw[if_neg hmh];trivial
           | none=>
             simp only[Option.isSome_none,aaq,if_false];have:=g1 rfl;subst this;by_cases hhx:h=xs.length
             · rw[if_pos hhx];by_cases hl00:l=0
               · rw[if_pos hl00];subst hl00;subst hhx
                 cases tk with
                 | no=>trivial
                 | tight=>exact hk
                 | own t s=>
                   have:off=0:=hk.1;subst this;refine⟨by simp,?_⟩;exact hk.2
               · rw[if_neg hl00];split
                 · rename_i htk;subst htk;have:mr=xs.length:=hk;show mr-l=h-l;omega
                 · trivial
             · rw[if_neg hhx];trivial
 · rename_i n' ag b off len cap;split at hu
   · rename_i hnn;subst hnn
     cases hxv with
     | hsl _ _ _ _ _ _ r c hm hcap=>
       cases cap with
       | some c0=>
         simp only at hu;obtain⟨rfl,hlc⟩:=hcap;split at hu
         · cases hu
         · rename_i m hm1;split at hu
           · cases hu
           · rename_i h hh;split at hu
             · cases hu
             · rename_i l hl;injection hu with hu;subst hu
               have hb:=eA (P:=P) (G:=G) (isS:=true) (len:=len) (c0:=c) (cap:=c) (lo:=lov) (hi:=hiv) (mx:=mxv) (lo':=lo0) (hi':=hh1) (mx':=mx0) (l:=l) (h:=h) (m:=m) (w:=w) hlov hhiv hmxv (aai _)
                (fun v e=>by subst e;exact hm1) (fun e=>by subst e;simp at hm1;exact hm1.symm)
                (fun v e=>by
                 subst e
                 cases mxv with
                 | none=>simp at hh hm1;exact⟨c,hh,by omega⟩
                 | some v'=>simp at hh;exact⟨m,hh,aai _⟩)
                (fun e=>by subst e;cases mxv with | none=>simp at hh;exact⟨rfl,hh.symm⟩ | some v=>simp at hh) (fun v e=>by subst e;exact hl) (fun e=>by subst e;simp at hl;exact hl.symm)
               refine⟨rfl,_,fin rfl hb,?_⟩
               have eaddr:(if m=l then (some (⟨r,off,none⟩:Addr)) else (some (⟨r,off,none⟩:Addr)).map (·.add (l*n')))=some ⟨r,if m=l then off else off+l*n',none⟩:=by
                split<;>simp[Addr.add_lit]
               rw[eaddr];refine .hsl _ _ _ _ _ _ r _ hm ⟨rfl,?_⟩
               have hhm:h≤m:=by
                cases hiv with
                | none=>cases mxv with
                  | none=>simp at hh hm1;omega
                  | some v=>simp at hh
                | some v=>
                  cases mxv with
                  | none=>simp at hh hm1;have:=(c8 hh).1;omega
                  | some v'=>simp at hh;exact(c8 hh).1
               omega
       | none=>
         simp only at hu
         cases mxv with
         | some v=>
           simp only at hu;obtain⟨hcl,hcg⟩:=hcap;split at hu
           · cases hu
           · rename_i m hm1;have hml:=(c8 hm1).1;split at hu
             · cases hu
             · rename_i h hh;split at hu
               · cases hu
               · rename_i l hl;injection hu with hu;subst hu
                 cases hiv with
                 | none=>simp at hh
                 | some u=>
                   have hhm:h≤m:=(c8 hh).1
                   have hll:l≤h:=by
                    cases lov with
                    | none=>simp at hl;omega
                    | some v=>exact(c8 hl).1
                   have hb:=eA (P:=P) (G:=G) (isS:=true) (len:=len) (c0:=len) (cap:=c) (lo:=lov) (hi:=some u) (mx:=some v) (lo':=lo0) (hi':=hh1) (mx':=mx0) (l:=l) (h:=h) (m:=m) (w:=w) hlov hhiv hmxv hcl
                    (fun v e=>by cases e;exact hm1) (fun e=>by cases e) (fun v e=>by cases e;exact⟨m,hh,aai _⟩) (fun e=>by cases e) (fun v e=>by subst e;exact hl) (fun e=>by subst e;simp at hl;exact hl.symm)
                   refine⟨rfl,_,fin rfl hb,?_⟩
                   have eaddr:(if m=l then (some (⟨r,off,none⟩:Addr)) else (some (⟨r,off,none⟩:Addr)).map (·.add (l*n')))=some ⟨r,if m=l then off else off+l*n',none⟩:=by
                    split<;>simp[Addr.add_lit]
                   rw[eaddr];refine .hsl _ _ _ _ _ _ r _ hm ⟨rfl,?_⟩;omega
         | none=>
           simp only at hu;split at hu
           · cases hu
           · rename_i h hh;split at hu
             · cases hu
             · rename_i l hl;split at hu
               · rename_i hlc;injection hu with hu;subst hu;obtain⟨hcl,hcg⟩:=hcap
                 have hhl:h≤len:=by
                  cases hiv with
                  | none=>simp at hh;omega
                  | some v=>exact(c8 hh).1
                 have hll:l≤h:=by
                  cases lov with
                  | none=>simp at hl;omega
                  | some v=>exact(c8 hl).1
                 have hb:=eA (P:=P) (G:=G) (isS:=true) (len:=len) (c0:=len) (cap:=c) (lo:=lov) (hi:=hiv) (mx:=none) (lo':=lo0) (hi':=hh1) (mx':=mx0) (l:=l) (h:=h) (m:=c) (w:=w) hlov hhiv hmxv hcl
                  (fun v e=>by cases e) (fun _=>rfl) (fun v e=>by subst e;exact⟨len,hh,hcl⟩) (fun e=>by subst e;simp at hh;exact⟨rfl,hh.symm⟩) (fun v e=>by subst e;exact hl) (fun e=>by subst e;simp at hl;exact hl.symm)
                 refine⟨rfl,_,fin rfl hb,?_⟩
                 have eaddr:(if c=l then (some (⟨r,off,none⟩:Addr)) else (some (⟨r,off,none⟩:Addr)).map (·.add (l*n')))=some ⟨r,off+l*n',none⟩:=by
                  split
                  · rename_i hcl';have:l=0:=by omega
                    subst this;simp
                  · simp[Addr.add_lit]
                 rw[eaddr];refine .hsl _ _ _ _ _ _ r _ hm ⟨by omega,?_⟩
                 have e1:off+l*n'+(c-l)*n'=off+c*n':=by
                  have:l*n'+(c-l)*n'=c*n':=by rw[← aaN];congr 1;omega
                  omega
                 rw[e1];exact hcg
               · cases hu
   · cases hu
end Go.D
end
section
namespace Go.D
open Go.RowKit
variable {P:Program} {fm:FM}
theorem Fl {G:Gh} {x y v:DV} {a b:Value} {w:World} (hx:Rel fm G x a) (hy:Rel fm G y b) (h:pn x y=some v):∃ z,(Builtin.max2 a b).run P w=.ok z w∧Rel fm G v z:=by
 cases x<;>cases y<;>simp only[pn,reduceCtorEq] at h
 split at h
 · rename_i hk;injection h with h;subst h;subst hk;cases hx;cases hy;exact⟨_,rfl,.int _ _⟩
 · cases h
theorem EL {G:Gh} {x y v:DV} {a b:Value} {w:World} (hx:Rel fm G x a) (hy:Rel fm G y b) (h:j4 x y=some v):∃ z,(Builtin.min2 a b).run P w=.ok z w∧Rel fm G v z:=by
 cases x<;>cases y<;>simp only[j4,reduceCtorEq] at h
 split at h
 · rename_i hk;injection h with h;subst h;subst hk;cases hx;cases hy;exact⟨_,rfl,.int _ _⟩
 · cases h
theorem mN {f:DV→DV→Option DV} {g:Value→Value→Sem Value} {G:Gh} {w:World} (hfg:∀ {x y v:DV} {a b:Value},Rel fm G x a→Rel fm G y b→f x y=some v→∃ z,(g a b).run P w=.ok z w∧Rel fm G v z) :
 ∀ (vs:List DV) (xs:List Value) (x:DV) (a:Value) (v:DV),xs.length=vs.length→(∀ i (h:i<vs.length),Rel fm G (vs[i]) (xs.getD i undef))→Rel fm G x a→vs.foldlM f x=some v→∃ z,(xs.foldlM g a).run P w=.ok z w∧Rel fm G v z
 | [],[],x,a,v,_,_,hx,h=>by
   simp only[List.foldlM_nil] at h;cases h;exact⟨a,rfl,hx⟩
 | [],_::_,_,_,_,hl,_,_,_=>by simp at hl
 | _::_,[],_,_,_,hl,_,_,_=>by simp at hl
 | u::vs,y::ys,x,a,v,hl,hr,hx,h=>by
   simp only[List.foldlM_cons] at h
   cases hf:f x u with
   | none=>rw[hf] at h;cases h
   | some x1=>
     rw[hf] at h;obtain⟨z1,h1,h2⟩:=hfg hx (hr 0 (by simp)) hf;obtain⟨z,h3,h4⟩:=mN hfg vs ys x1 z1 v (by simpa using hl) (fun i hi=>hr (i+1) (by simpa using hi)) h2 h;refine⟨z,?_,h4⟩;simp only[List.foldlM_cons,Sem.run_bind];have e:(y::ys).getD 0 undef=y:=rfl;rw[e] at h1;rw[h1];exact h3
theorem BF {args:List X} {as_:List Operand} {ts:List TypeId} {o:Oper} (ho:builtinCall .max as_ ts o.op) (hx:kJ fm args as_):aA P fm (.max args) o:=by
 refine aE fun CR G w0 st w fr a v st' hs hf hrun=>?_;simp only[an,aad] at hrun;obtain⟨u,hu,hrun⟩:=hrun;cases hrun;have hr:=gH (a:=a) hx (fun t _=>hf t);obtain⟨consts,hex⟩:=df ho a.eval;rw[hex]
 cases args with
 | nil=>simp[fg] at hu
 | cons x xs=>
   cases as_ with
   | nil=>simp[kJ] at hx
   | cons y ys=>
     simp only[aaS,fg] at hu hr
     obtain⟨z,h1,h2⟩:=mN (P:=P) (w:=w) (G:=G) (fun hx hy h=>Fl hx hy h) (xs.map (X.ev fr)) (ys.map a.eval) (x.ev fr) (a.eval y) v (by have:=hx.1;simp at this ⊢;exact this)
      (fun i hi=>by
       have:=hr.2 (i+1) (by simpa using hi);rw[← aR] at this
       simpa using this) (by have:=hr.2 0 (by simp);rw[← aR] at this;simpa using this) hu
     refine⟨rfl,z,ai ?_,h2⟩;show (Builtin.max_ _ _ (List.map a.eval (y::ys)).toArray).run P w=_;unfold Builtin.max_;exact h1
theorem BP {args:List X} {as_:List Operand} {ts:List TypeId} {o:Oper} (ho:builtinCall .min as_ ts o.op) (hx:kJ fm args as_):aA P fm (.min args) o:=by
 refine aE fun CR G w0 st w fr a v st' hs hf hrun=>?_;simp only[an,aad] at hrun;obtain⟨u,hu,hrun⟩:=hrun;cases hrun;have hr:=gH (a:=a) hx (fun t _=>hf t);obtain⟨consts,hex⟩:=df ho a.eval;rw[hex]
 cases args with
 | nil=>simp[fg] at hu
 | cons x xs=>
   cases as_ with
   | nil=>simp[kJ] at hx
   | cons y ys=>
     simp only[aaS,fg] at hu hr
     obtain⟨z,h1,h2⟩:=mN (P:=P) (w:=w) (G:=G) (fun hx hy h=>EL hx hy h) (xs.map (X.ev fr)) (ys.map a.eval) (x.ev fr) (a.eval y) v (by have:=hx.1;simp at this ⊢;exact this)
      (fun i hi=>by
       have:=hr.2 (i+1) (by simpa using hi);rw[← aR] at this
       simpa using this) (by have:=hr.2 0 (by simp);rw[← aR] at this;simpa using this) hu
     refine⟨rfl,z,ai ?_,h2⟩;show (Builtin.min_ _ _ (List.map a.eval (y::ys)).toArray).run P w=_;unfold Builtin.min_;exact h1
theorem v7 {t:TypeId} {o:Oper} (ho:o.op=.makeMap t none):aA P fm .jL o:=by
 intro CR G w0 st w fr a v st' hs hf hrun;simp only[an,aab.injEq,Prod.mk.injEq] at hrun;obtain⟨rfl,rfl⟩:=hrun;have hs':=hs.push (o:=.map []) (ob:=.map #[] 0) 0 ⟨#[],0,rfl,rfl,fun i k v hi=>by simp at hi⟩ rfl;refine⟨_,_,.map (some w.heap.size),_,?_,.inl rfl,Gh.bK hs.b9,hs',.map _ _ (by simp[Gh.push])⟩;unfold execOp;simp only[ho,abw];exact ai (by simp[Instr.makeMap])
end Go.D
end
section
namespace Go.D
open Go.RowKit
variable {P:Program} {fm:FM}
theorem rb (off:Nat):∀ (xs:List Value) (k:Nat) (cells:Array Value),off+k+xs.length≤cells.size →
 ((xs.zipIdx k).foldl (fun (cs:Array Value) (x:Value×Nat)=>cs.setIfInBounds (off+x.2) x.1) cells)=aO cells (off+k) xs
 | [],k,cells,_=>by
   simp[aO]
 | x::xs,k,cells,h=>by
   simp only[aax] at h;rw[List.zipIdx_cons,List.foldl_cons,rb off xs (k+1) _ (by simp;omega)];unfold aO
   congr 1
   have e:=list_seg_step cells.toList (off+k) x xs (by simp;omega);simpa[Array.toList_setIfInBounds,aby] using e
theorem oO {G:Gh} {place:Nat→Option (Nat×Nat)}:∀ (parts:List (Nat×Nat×DV)) (parts':List (Nat×Value)) (cells:List DV) (arr:Array Value) (cells':List DV),parts'.length=parts.length →
 (∀ (k:Nat) (off n:Nat) (v:DV) (i:Nat) (x:Value),parts[k]? = some (off,n,v)→parts'[k]? = some (i,x)→place i=some (off,n)∧Rel fm G v x) →
 arr.size=cells.length→(∀ i (h:i<cells.length),Rel fm G (cells[i]) (arr.getD i undef))→cells.all DV.bp=true→iL cells parts=some cells' →
 ∃ arr',Instr.fill place arr parts'=some arr'∧arr'.size=cells'.length∧cells'.length=cells.length∧(∀ i (h:i<cells'.length),Rel fm G (cells'[i]) (arr'.getD i undef))∧cells'.all DV.bp=true
 | [],[],cells,arr,cells',_,_,hl,hr,hsc,h=>by
   simp only[iL,aab.injEq] at h;subst h;exact⟨arr,rfl,hl,rfl,hr,hsc⟩
 | [],_::_,_,_,_,hl,_,_,_,_,_=>by simp at hl
 | _::_,[],_,_,_,hl,_,_,_,_,_=>by simp at hl
 | (off,n,v)::parts,(i,x)::parts',cells,arr,cells',hpl,hp,hl,hr,hsc,h=>by
   simp only[iL] at h;split at h
   · rename_i hc;obtain⟨c1,c2,c3⟩:=hc;obtain⟨hpi,hvx⟩:=hp 0 off n v i x rfl rfl;obtain⟨l1,r1⟩:=kz hvx c3;have hsz:x.cells.size=n:=by rw[l1,c1]
     have hlen:(cP cells off v.leaves).length=cells.length:=iz (by omega);have hspl:=px (fm:=fm) (G:=G) (vs:=cells) (ns:=v.leaves) (cur:=arr) (k:=off) (xs:=x.cells.toList) hr (by omega) (by omega) (by simpa using l1) (fun j hj=>by rw[aR];exact r1 j hj)
     obtain⟨arr',g1,g2,g3,g4,g5⟩:=oO parts parts' (cP cells off v.leaves) (aO arr off x.cells.toList) cells' (by simpa using hpl)
      (fun k off n v i x h1 h2=>hp (k+1) off n v i x h1 h2) (by rw[eU (by simp;omega),hlen,hl]) hspl (ie hsc c3) h
     refine⟨arr',?_,g2,g3.trans hlen,g4,g5⟩;unfold Instr.fill;simp only[hpi]
     have hcond:¬ ((x.cells.size≠n||decide (off+x.cells.size>arr.size))=true):=by
      simp[hsz];omega
     rw[if_neg hcond]
     have hfold:(x.cells.zipIdx.foldl (fun (cs:Array Value) (x:Value×Nat)=>cs.setIfInBounds (off+x.2) x.1) arr)=aO arr off x.cells.toList:=by
      rw[← Array.foldl_toList,Array.toList_zipIdx,rb off _ 0 arr (by simp;omega),aa5]
     rw[hfold];exact g1
   · cases h
def uv (fm:FM) (place:Nat→Option (Nat×Nat)) (parts:List (Nat×Nat×X)) (ps:List (Nat×Operand)):Prop:=
 ps.length=parts.length∧∀ (k off n:Nat) (x:X) (i:Nat) (o:Operand),parts[k]? = some (off,n,x)→ps[k]? = some (i,o)→place i=some (off,n)∧bu fm x o
def placeOf (P:Program) (t:TypeId) (i:Nat):Option (Nat×Nat):=
 match P.underlying t with
 | some (.struct fs)=>(match fs[i]? with | some f=>(P.info? f.type).map fun j=>(f.offset,j.size) | none=>none)
 | some (.array _ e)=>(P.info? e).map fun j=>(i*j.size,j.size)
 | _=>none
def oU (P:Program) (fs:List Field):Bool:=fs.all fun f=>(P.info? f.type).isSome
theorem nz:∀ (fs:List Field),oU P fs=true→∃ places,fs.mapM (fun f=>(P.info? f.type).map fun i=>(f.offset,i.size))=some places∧∀ (i:Nat) (f:Field),fs[i]? = some f→places[i]? = (P.info? f.type).map fun j=>(f.offset,j.size)
 | [],_=>⟨[],rfl,fun i f h=>by simp at h⟩
 | f::fs,h=>by
   simp only[oU,aa3,aac] at h;obtain⟨places,h1,h2⟩:=nz fs h.2;obtain⟨i,hi⟩:=aa1.1 h.1;refine⟨(f.offset,i.size)::places,?_,?_⟩
   · rw[List.mapM_cons,hi,h1];rfl
   · intro k g hk
     cases k with
     | zero=>simp only[aaw,aab.injEq] at hk;subst hk;simp[hi]
     | succ k=>simpa using h2 k g (by simpa using hk)
def mq (P:Program) (t:TypeId):Bool:=
 match P.underlying t with
 | some (.struct fs)=>oU P fs.toList
 | some (.array _ e)=>(P.info? e).isSome
 | _=>false
theorem vV {t:TypeId} {zs:List DV} {parts:List (Nat×Nat×X)} {ps:Array (Nat×Operand)} {o:Oper} (ho:o.op=.build t ps) (hz:bx P t=some zs) (ht:mq P t=true) (hp:uv fm (placeOf P t) parts ps.toList):aA P fm (.build zs parts) o:=by
 refine aE fun CR G w0 st w fr a v st' hs hf hrun=>?_;simp only[an,aad] at hrun;obtain⟨cs,hcs,hrun⟩:=hrun;cases hrun;obtain⟨i,z,hi,hzz,hc⟩:=bR hz;obtain⟨zl,zr⟩:=ca (fm:=fm) hc
 have key:∀ (place:Nat→Option (Nat×Nat)),(∀ (k i off n:Nat) (x:X) (y:Operand),parts[k]? = some (off,n,x)→ps.toList[k]? = some (i,y)→place i=some (off,n))→∃ arr',Instr.fill place z.cells (ps.toList.map fun (i,x)=>(i,a.eval x))=some arr'∧Rel fm G (.agg cs) (.agg arr'):=by
  intro place hpl
  obtain⟨arr',g1,g2,g3,g4,g5⟩:=oO (fm:=fm) (G:=G) (place:=place) (parts.map fun (o,n,x)=>(o,n,x.ev fr)) (ps.toList.map fun (i,x)=>(i,a.eval x)) zs z.cells cs (by simp[hp.1])
   (fun k off n v i x h1 h2=>by
    rw[abe] at h1 h2
    cases e1:parts[k]? with
    | none=>rw[e1] at h1;cases h1
    | some q=>
      cases e2:ps.toList[k]? with
      | none=>rw[e2] at h2;cases h2
      | some q'=>
        obtain⟨qo,qn,qx⟩:=q;obtain⟨qi,qv⟩:=q';rw[e1] at h1;rw[e2] at h2;simp only[abg,aab.injEq,Prod.mk.injEq] at h1 h2;obtain⟨rfl,rfl,rfl⟩:=h1;obtain⟨rfl,rfl⟩:=h2
        exact⟨hpl k _ _ _ _ _ e1 e2,(hp.2 k _ _ _ _ _ e1 e2).2.ev hf⟩)
   (by simpa using zl) (fun i hi=>by rw[← aR];exact zr G i hi) (cm (db hc)) hcs
  exact⟨arr',g1,.agg _ _ g2 g4⟩
 have fin:∀ arr',P.built t (ps.map fun (i,x)=>(i,a.eval x)).toList=some arr'→(execOp a.eval o).run P w=.ok (.value (.agg arr')) w:=by
  intro arr' hb;unfold execOp;simp only[ho];exact ai (run_build w t _ arr' hb)
 have e0:(ps.map fun (i,x)=>(i,a.eval x)).toList=ps.toList.map fun (i,x)=>(i,a.eval x):=by rw[Array.toList_map]
 unfold mq at ht;split at ht
 · rename_i fs htd;obtain⟨places,h1,h2⟩:=nz fs.toList ht
   obtain⟨arr',g1,g2⟩:=key (places.toArray[·]?) (fun k i off n x y e1 e2=>by
    have:=(hp.2 k off n x i y e1 e2).1;unfold placeOf at this;rw[htd] at this;simp only at this;split at this
    · rename_i f hfk;rw[← this];simpa using h2 i f (by simpa using hfk)
    · cases this)
   refine⟨rfl,.agg arr',fin arr' ?_,g2⟩;unfold Program.built;simp only[hi,htd,hzz,h1,e0];exact g1
 · rename_i n e htd;obtain⟨j,hj⟩:=aa1.1 ht
   obtain⟨arr',g1,g2⟩:=key (fun i=>some (i*j.size,j.size)) (fun k i off n x y e1 e2=>by
    have:=(hp.2 k off n x i y e1 e2).1;unfold placeOf at this;rw[htd] at this
    simpa[hj] using this)
   refine⟨rfl,.agg arr',fin arr' ?_,g2⟩;unfold Program.built;simp only[hi,htd,hzz,hj,e0];exact g1
 · cases ht
theorem dB (zs:List DV):∀ k,(aK zs k).length=k*zs.length
 | 0=>by simp[aK]
 | k+1=>by simp[aK,dB zs k,aaN];omega
theorem getElem?_repl (zs:List DV):∀ (k i:Nat),i<k*zs.length→(aK zs k)[i]? = zs[i%zs.length]?
 | 0,i,h=>by simp at h
 | k+1,i,h=>by
   show (zs++aK zs k)[i]? = _;by_cases e:i<zs.length
   · rw[aaj e,Nat.mod_eq_of_lt e]
   · rw[aat (by omega),getElem?_repl zs k _ (by rw[aaN] at h;omega)]
     congr 1
     rw[← Nat.mod_eq_sub_mod (by omega)]
theorem mE {G:Gh} {zs:List DV} {z:Array Value} (hl:z.toList.length=zs.length) (hr:∀ i (h:i<zs.length),Rel fm G (zs[i]) (z.toList.getD i undef)) (k:Nat) :
 ((Array.range (k*zs.length)).map (z[· % z.size]!)).size=(aK zs k).length∧∀ i (h:i<(aK zs k).length),Rel fm G ((aK zs k)[i]) (((Array.range (k*zs.length)).map (z[· % z.size]!)).getD i undef):=by
 refine⟨by rw[dB];simp,fun i h=>?_⟩;have hi:i<k*zs.length:=by rw[dB] at h;exact h
 have hpos:0<zs.length:=by
  rcases Nat.eq_zero_or_pos zs.length with e|e
  · rw[e] at hi;simp at hi
  · exact e
 have hm:i%zs.length<zs.length:=Nat.mod_lt _ hpos
 have e1:(aK zs k)[i]=zs[i%zs.length]:=by
  apply aab.inj;rw[← aaa h,← aaa hm];exact getElem?_repl zs k i hi
 rw[e1];have hsz:z.size=zs.length:=by simpa using hl
 have e2:((Array.range (k*zs.length)).map (z[· % z.size]!)).getD i undef=z.toList.getD (i%zs.length) undef:=by
  rw[aR,aag];simp only[Array.getElem?_map,Array.getElem?_range,hi,if_true,abg,abr,hsz];have:i%zs.length<z.size:=by omega
  simp[this,Array.getD]
 rw[e2];exact hr _ hm
theorem qX {G:Gh} {t e:TypeId} {n len:Nat} {zs cs:List DV} {i:TypeInfo} {parts:List (Nat×X)} {ps:Array (Nat×Operand)} {fr:Fr} {a:Act} {w:World} (ht:P.underlying t=some (.slice e)) (hi:P.info? e=some i) (hn:i.size=n) (hz:bx P e=some zs) (hzl:zs.length=n)
 (hsz:len*n≤16777216) (hp:ps.toList.length=parts.length∧∀ (k j j':Nat) (x:X) (o:Operand),parts[k]? = some (j,x)→ps.toList[k]? = some (j',o)→j=j'∧bu fm x o) (hf:cG fm G fr a.tmps)
 (h:iL (aK zs len) (parts.map fun (i,x)=>(i*n,n,x.ev fr))=some cs) :
 ∃ arr,(Instr.buildSlice t len (ps.map fun (i,x)=>(i,a.eval x))).run P w=.ok (.slice (some ⟨w.heap.size,0,none⟩) len len) (w.alloc (.cells arr e))∧arr.size=cs.length∧cs.length=len*n∧(∀ i (h:i<cs.length),Rel fm G (cs[i]) (arr.getD i undef))∧cs.all DV.bp=true:=by
 obtain⟨i',z,hi',hzz,hc⟩:=bR hz;rw[hi] at hi';cases hi';obtain⟨zl,zr⟩:=ca (fm:=fm) hc;obtain⟨s1,s2⟩:=mE (fm:=fm) (G:=G) (zs:=zs) (z:=z.cells) (by simpa using zl) (fun i hi=>zr G i hi) len
 have hscal:(aK zs len).all DV.bp=true:=by
  rw[aaf];intro x hx;obtain⟨j,hj,rfl⟩:=aa9 hx;have hj':=hj;rw[dB] at hj';have:=getElem?_repl zs len j hj';rw[aaa hj] at this;exact aaf.1 (cm (db hc)) _ (aaB this.symm)
 obtain⟨arr,g1,g2,g3,g4,g5⟩:=oO (fm:=fm) (G:=G) (place:=fun i=>some (i*n,n)) (parts.map fun (i,x)=>(i*n,n,x.ev fr)) (ps.toList.map fun (i,x)=>(i,a.eval x)) (aK zs len) _ cs (by simp[hp.1])
  (fun k off n' v i x h1 h2=>by
   rw[abe] at h1 h2
   cases e1:parts[k]? with
   | none=>rw[e1] at h1;cases h1
   | some q=>
     cases e2:ps.toList[k]? with
     | none=>rw[e2] at h2;cases h2
     | some q'=>
       obtain⟨qo,qx⟩:=q;obtain⟨qi,qv⟩:=q';rw[e1] at h1;rw[e2] at h2;simp only[abg,aab.injEq,Prod.mk.injEq] at h1 h2;obtain⟨rfl,rfl,rfl⟩:=h1;obtain⟨rfl,rfl⟩:=h2;obtain⟨e3,e4⟩:=hp.2 k _ _ _ _ e1 e2
       exact⟨by rw[e3],e4.ev hf⟩)
  s1 s2 hscal h
 refine⟨arr,?_,g2,by rw[g3,dB,hzl],g4,g5⟩;have hsize:(sizeOf e).run P w=.ok n w:=by unfold sizeOf typeInfo;simp[hi,hn]
 have hbig:¬ (len*n>2 ^ 24):=by omega
 have e0:(ps.map fun (i,x)=>(i,a.eval x)).toList=ps.toList.map fun (i,x)=>(i,a.eval x):=by rw[Array.toList_map]
 rw[hzl] at g1;unfold Instr.buildSlice;simp only[Sem.run_bind,run_underlying ht,Result.andThen_ok,hsize,if_neg hbig,e0];by_cases e:len*n=0
 · rw[e] at g1 ⊢;simp only[if_true,Sem.run_bind,Sem.run_pure,Result.andThen_ok]
   have g1':Instr.fill (fun i=>some (i*n,n)) ((Array.range 0).map fun x=>(#[]:Array Value)[x%(#[]:Array Value).size]!) (ps.toList.map fun (i,x)=>(i,a.eval x))=some arr:=by
    rw[← g1];congr 1;simp[Array.range]
   rw[g1'];rfl
 · simp only[if_neg e,Sem.run_bind,lS hi hzz,Sem.run_pure,Result.andThen_ok];rw[g1];rfl
theorem xS {t e:TypeId} {n len:Nat} {ag:Bool} {zs:List DV} {i:TypeInfo} {parts:List (Nat×X)} {ps:Array (Nat×Operand)} {o:Oper} (ho:o.op=.buildSlice t len ps) (ht:P.underlying t=some (.slice e)) (hi:P.info? e=some i) (hn:i.size=n) (hz:bx P e=some zs) (hzl:zs.length=n)
 (hsz:len*n≤16777216) (hp:ps.toList.length=parts.length∧∀ (k j j':Nat) (x:X) (o:Operand),parts[k]? = some (j,x)→ps.toList[k]? = some (j',o)→j=j'∧bu fm x o):aA P fm (.nE n ag zs len parts) o:=by
 intro CR G w0 st w fr a v st' hs hf hrun;simp only[an] at hrun;split at hrun
 · rename_i cs hcs;simp only[aab.injEq,Prod.mk.injEq] at hrun;obtain⟨rfl,rfl⟩:=hrun;obtain⟨arr,h1,h2,h3,h4,h5⟩:=qX (P:=P) (w:=w) ht hi hn hz hzl hsz hp hf hcs;have hle:=Gh.bK (r:=w.heap.size) (size:=0) hs.b9;have hs':=hs.push (o:=.cells .plain cs) (ob:=.cells arr e) 0 ⟨arr,e,(0,0),rfl,h2,fun i hi=>(h4 i hi).le hle,fun i hi=>by simp,h5⟩ rfl;refine⟨_,_,.slice (some ⟨w.heap.size,0,none⟩) len len,_,?_,.inl rfl,hle,hs',.hsl _ _ _ _ _ _ _ _ (by simp[Gh.push]) ⟨rfl,aai _⟩⟩;unfold execOp;simp only[ho];exact ai h1
 · cases hrun
def Gh.ir (G:Gh) (r:Nat) (arr:Array Value) (k:Nat):Gh:={ G with ro:=fun r' i=>if r'=r then (if i<k then arr[i]? else none) else G.ro r' i }
theorem Gh.pT {CR:Nat→RC→Code→Prop} {G:Gh} {w0 w:World} {st:St} (hs:Sim fm CR G w0 st w) (arr:Array Value) (k:Nat):G.le (G.ir w.heap.size arr k):=by
 refine⟨⟨fun r i v hr=>?_,fun _ _ x=>x,fun _ _ _ x=>x,fun _ _ _=>rfl⟩,fun _ x=>x,fun _ x=>x,rfl,fun r i hr=>?_,rfl,rfl,rfl⟩
 · have:r≠w.heap.size:=Nat.ne_of_lt (hs.zU hr);simp only[Gh.ir,if_neg this];exact hr
 · have:r≠w.heap.size:=Nat.ne_of_lt (abm hr hs.aG);simp only[Gh.ir,if_neg this]
theorem Sim.ir {CR:Nat→RC→Code→Prop} {G:Gh} {w0 w w':World} {st:St} (hs:Sim fm CR G w0 st w) (hb:Below w.heap.size w w') {arr:Array Value} {e:TypeId} {fz:Nat×Nat} (hnew:w'.heap[w.heap.size]? = some (.cells arr e fz)) (k:Nat):Sim fm CR (G.ir w.heap.size arr k) w0 st w':=by
 have h:=hs.grow hb;have hle:=(Gh.pT hs arr k).toSub;refine { bU:=h.bU,bQ:=h.bQ,obj:=?_,ro:=?_,dj:=?_,tok:=?_,bw:=h.bw,bt:=h.bt,dfr:=h.dfr,lps:=h.lps,aG:=h.aG,below:=h.below,base:=h.base,aQ:=h.aQ,bA:=h.bA,bj:=h.bj,env:=h.env }
 · intro b o ho hg hpd;obtain⟨r,ob,h1,h2,h3,h4⟩:=h.obj b o ho hg hpd;exact⟨r,ob,h1,h2,h3.sub hle h1,h4⟩
 · intro r i v hr;simp only[Gh.ir] at hr;split at hr
   · rename_i e1;subst e1;split at hr
     · exact⟨arr,e,fz,hnew,hr⟩
     · cases hr
   · exact h.ro r i v hr
 · intro r i v b o hr ho hg hm;simp only[Gh.ir] at hr;split at hr
   · rename_i e1;subst e1;obtain⟨r',ob,h1,h2,_⟩:=hs.obj b o ho hg (hs.np hm);have hm':G.mu b=some w.heap.size:=hm;rw[hm'] at h1;cases h1;exact absurd (get?_lt h2) (aa4 _)
   · exact h.dj r i v b o hr ho hg hm
 · intro t s ht;obtain⟨r,len,cap,n,cs,ty,h1,h2,h3,h4,h5,h6,h7,h8⟩:=hs.tok t s ht;have hlt:=get?_lt h4;refine⟨r,len,cap,n,cs,ty,h1,h2,h3,(hb.block r hlt).trans h4,h5,fun i hi=>?_,h7,h8⟩;simp only[Gh.ir,if_neg (Nat.ne_of_lt hlt)];exact h6 i hi
theorem Bs {t e:TypeId} {n len:Nat} {ag:Bool} {zs:List DV} {i:TypeInfo} {parts:List (Nat×X)} {ps:Array (Nat×Operand)} {o:Oper} (ho:o.op=.buildSlice t len ps) (ht:P.underlying t=some (.slice e)) (hi:P.info? e=some i) (hn:i.size=n) (hz:bx P e=some zs) (hzl:zs.length=n) (hag:ag=true∨n=1)
 (hsz:len*n≤16777216) (hp:ps.toList.length=parts.length∧∀ (k j j':Nat) (x:X) (o:Operand),parts[k]? = some (j,x)→ps.toList[k]? = some (j',o)→j=j'∧bu fm x o):aA P fm (.lit n ag zs len parts) o:=by
 intro CR G w0 st w fr a v st' hs hf hrun;simp only[an] at hrun;split at hrun
 · rename_i cs hcs;split at hrun
   · rename_i hpure;simp only[aab.injEq,Prod.mk.injEq] at hrun;obtain⟨rfl,rfl⟩:=hrun;obtain⟨arr,h1,h2,h3,h4,h5⟩:=qX (P:=P) (w:=w) ht hi hn hz hzl hsz hp hf hcs;have hnew:(w.alloc (.cells arr e)).heap[w.heap.size]? = some (.cells arr e (0,0)):=World.alloc_heap_new w _;have hs':=hs.ir ((Below.refl _ w).alloc (aai _) (.cells arr e)) hnew cs.length;have hle:=Gh.pT hs arr cs.length;have hml:(cs.map DV.aP).length=len*n:=by simp[h3]
     have hfl:=kV n ag hag len (cs.map DV.aP) hml hpure;have hlc:=jk n ag len (cs.map DV.aP);have hlist:=Rel.list (fm:=fm) (G:=G.ir w.heap.size arr cs.length) st.cur n .tight (chunk n ag len (cs.map DV.aP)) w.heap.size 0 len (fun i=>arr.getD i undef) ?_ ?_ ?_ ?_ ?_ ?_
     · rw[hlc] at hlist;refine⟨_,_,.slice (some ⟨w.heap.size,0,none⟩) len len,_,?_,.inl rfl,hle,hs',hlist⟩;unfold execOp;simp only[ho];exact ai h1
     · intro j hj;rw[hfl] at hj;have hj':j<cs.length:=by simpa using hj
       have hj2:j<arr.size:=by omega
       simp[Gh.ir,hj',hj2]
     · intro j hj;have hj0:=hj;rw[hfl] at hj;have hj':j<cs.length:=by simpa using hj
       have e1:(flat (chunk n ag len (cs.map DV.aP)))[j]=(cs[j]).aP:=by
        apply aab.inj;rw[← aaa hj0,hfl];simp[hj']
       rw[e1];exact((h4 j hj').le hle).aP
     · rw[hfl];exact hpure
     · rw[hlc];rfl
     · rw[hlc];exact aai _
     · exact jz n ag hag len _ hml hpure
   · cases hrun
 · cases hrun
end Go.D
end
