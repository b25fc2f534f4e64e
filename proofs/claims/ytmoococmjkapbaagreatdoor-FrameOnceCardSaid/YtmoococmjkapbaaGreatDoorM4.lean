import Derived.KernelRfl
import Derived.Test.YtmoococmjkapbaaGreatDoorM3
/-! Texts 4 of this claim, joined. -/
section
set_option linter.unusedSimpArgs false
set_option linter.unusedVariables false
set_option linter.unnecessarySimpa false
namespace Go.D.Tab
def mc (F:Nat→DV):List DV→Option DV
 | [.int .u8 (.ofNat c)]=>if c<256 then some (F c) else none
 | _=>none
theorem nW {g:Nat} {F:Nat→DV} (hr:((List.range 256).all fun c=>lz tree.get 1000 g [.int .u8 (.ofNat c)] st0 (F c))=true) (hf:∀ c,(F c).free=true):∀ as_ v,mc F as_=some v→Ran tree.get g as_ v:=by
 intro as_ v h
 unfold mc at h
 split at h
 · rename_i c
   split at h
   · rename_i hc
     injection h with h
     subst h
     exact yf rfl (hf c) (List.all_eq_true.1 hr c (List.mem_range.2 hc))
   · cases h
 · cases h
def emL:List Nat:=[0,0,0,0,0,0,0,0,0,0,0,0,0,0,0,0,0,0,0,0,0,0,0,0,0,0,0,0,0,0,0,0,3,2,3,6,6,6,6,2,3,3,6,6,2,3,2,6,5,5,5,5,5,5,5,5,5,5,2,2,6,6,6,6,6,6,6,6,6,6,6,6,6,3,6,6,6,8,6,6,6,6,6,6,6,6,6,8,6,6,6,3,6,3,3,3,3,5,5,5,5,5,3,5,5,2,2,5,2,7,5,5,5,5,3,5,3,5,5,7,5,5,5,3,2,3,3,0,0,0,0,0,0,0,0,0,0,0,0,0,0,0,0,0,0,0,0,0,0,0,0,0,0,0,0,0,0,0,0,0,0,0,0,0,0,0,0,0,0,0,0,0,0,0,0,0,0,0,0,0,0,0,0,0,0,0,0,0,0,0,0,0,0,0,0,0,0,0,0,0,0,0,0,0,0,0,0,0,0,0,0,0,0,0,0,0,0,0,0,0,0,0,0,0,0,0,0,0,0,0,0,0,0,0,0,0,0,0,0,0,0,0,0,0,0,0,0,0,0,0,0,0,0,0,0,0]
def em (c:Nat):Int:=Int.ofNat (emL.getD c 0)
def emV (c:Nat):DV:=.int .i64 (em c)
def kdL:List Nat:=[0,6,7,8,0,0,0,0,0,4,0,0,0,0,0,0,0,0,0,0,0,0,0,0,0,0,0,0,0,0,0,5,3,2,2,2,2,2,2,2,2,2,2,2,2,2,2,2,2,2,2,2,2,2,2,2,2,2,2,2,2,2,2,2,2,1,1,1,1,1,1,1,1,1,1,1,1,1,1,1,1,1,1,1,1,1,1,1,1,1,1,2,2,2,2,2,2,1,1,1,1,1,1,1,1,1,1,1,1,1,1,1,1,1,1,1,1,1,1,1,1,1,1,2,2,2,2,0,0,0,0,0,0,0,0,0,0,0,0,0,0,0,0,0,0,0,0,0,0,0,0,0,0,0,0,0,0,0,0,0,0,0,0,0,0,0,0,0,0,0,0,0,0,0,0,0,0,0,0,0,0,0,0,0,0,0,0,0,0,0,0,0,0,0,0,0,0,0,0,0,0,0,0,0,0,0,0,0,0,0,0,0,0,0,0,0,0,0,0,0,0,0,0,0,0,0,0,0,0,0,0,0,0,0,0,0,0,0,0,0,0,0,0,0,0,0,0,0,0,0,0,0,0,0,0,0]
def kd (c:Nat):Int:=Int.ofNat (kdL.getD c 0)
def kdV (c:Nat):DV:=.int .i64 (kd c)
def Af (c:Nat):Bool:=c==94||c==96||c==126
def WH (c:Nat):DV:=.bool (Af c)
theorem BT:((List.range 256).all fun c=>lz tree.get 1000 21 [.int .u8 (.ofNat c)] st0 (emV c))=true:=by kernel_rfl
theorem CG:((List.range 256).all fun c=>lz tree.get 1000 68 [.int .u8 (.ofNat c)] st0 (kdV c))=true:=by kernel_rfl
theorem x9:((List.range 256).all fun c=>lz tree.get 1000 70 [.int .u8 (.ofNat c)] st0 (WH c))=true:=by kernel_rfl
def gG:List (Nat×(List DV→Option DV)):=[(21,mc emV),(68,mc kdV),(70,mc WH)]
theorem re:∀ x∈gG,∀ as_ v,x.2 as_=some v→Ran tree.get x.1 as_ v:=by
 intro x hx
 simp only [gG,List.mem_cons,List.not_mem_nil,or_false] at hx
 rcases hx with rfl | rfl | rfl
 · exact nW BT fun _=>rfl
 · exact nW CG fun _=>rfl
 · exact nW x9 fun _=>rfl
theorem oT:∀ x∈gG,ab tree.get x.1=true:=by
 intro x hx
 simp only [gG,List.mem_cons,List.not_mem_nil,or_false] at hx
 rcases hx with rfl | rfl | rfl<;>kernel_rfl
def Dy:List DV→Option DV
 | []=>some (.bool true)
 | _=>none
theorem Bt {g:Nat} (h:∃ n,lz tree.get n g [] st0 (.bool true)=true):∀ as_ v,Dy as_=some v→Ran tree.get g as_ v:=by
 intro as_ v e
 obtain ⟨n,h⟩:=h
 cases as_ with
 | nil=>cases e;exact yf rfl rfl h
 | cons a r=>cases e
def vj:List UInt8:=[49,116,97,32,49,116,101,32,49,116,105,32,49,116,111,32,49,110,97,32,49,110,101,32,49,110,105,32,49,108,97,32,49,108,101,32,49,108,105,32,49,114,97,32,49,114,101,32,49,109,97,32,49,109,101,32,49,112,97,32,49,112,101,32,49,99,97,32,49,99,111,32,49,100,101,32,49,115,97,32,49,103,101,32,49,98,108,32,116,50,116,101,32,108,50,108,101,32,110,50,110,101,32,114,50,114,101,32,50,98,108,101,46,32,52,108,101,46,32,46,114,101,51,97,32,49,112,104,101]
def fi:List (List UInt8):=[[49,116,97],[49,116,101],[49,116,105],[49,116,111],[49,110,97],[49,110,101],[49,110,105],[49,108,97],[49,108,101],[49,108,105],[49,114,97],[49,114,101],[49,109,97],[49,109,101],[49,112,97],[49,112,101],[49,99,97],[49,99,111],[49,100,101],[49,115,97],[49,103,101],[49,98,108],[116,50,116,101],[108,50,108,101],[110,50,110,101],[114,50,114,101],[50,98,108,101,46],[52,108,101,46],[46,114,101,51,97],[49,112,104,101]]
def ir:List (List UInt8):=[[116,97,45,98,108,101],[112,114,111,45,106,101,99,116],[104,121,45,112,104,101,110,45,97,45,116,105,111,110]]
def nc:List DV→Option DV
 | [.str s]=>if s=vj then some (.list 0 1 .tight true (fi.map DV.str)) else none
 | _=>none
theorem w9:lz tree.get 100000 148 [.str vj] st0 (.list 0 1 .tight true (fi.map DV.str))=true:=by kernel_rfl
theorem wT:∀ as_ v,nc as_=some v→Ran tree.get 148 as_ v:=by
 intro as_ v e
 unfold nc at e
 split at e
 · split at e
   · rename_i h;subst h;cases e;exact yf rfl rfl w9
   · cases e
 · cases e
theorem xw:lz tree.get 10000000 394 [] st0 (.bool true)=true:=by kernel_rfl
def known:List (Nat×(List DV→Option DV)):=[(394,Dy),(148,nc)]++gG
def tab:Tab:=over tree.get known
theorem Cu:∀ x∈known,∀ as_ v,x.2 as_=some v→Ran tree.get x.1 as_ v:=by
 intro x hx
 rcases List.mem_append.1 hx with hx | hx
 · simp only [List.mem_cons,List.not_mem_nil,or_false] at hx
   rcases hx with rfl | rfl
   · exact Bt ⟨_,xw⟩
   · exact wT
 · exact re x hx
theorem yR:∀ x∈known,ab tree.get x.1=true:=by
 intro x hx
 rcases List.mem_append.1 hx with hx | hx
 · simp only [List.mem_cons,List.not_mem_nil,or_false] at hx
   rcases hx with rfl | rfl<;>kernel_rfl
 · exact oT x hx
theorem ak1:tab 148=some (.eK nc):=by kernel_rfl
theorem zi (st:St):(E tab).F 148 [.str vj] st=some (.list 0 1 .tight true (fi.map DV.str),st):=vp ak1 (by simp [nc])
theorem asG:tab 394=some (.eK Dy):=by kernel_rfl
theorem yS (st:St):(E tab).F 394 [] st=some (.bool true,st):=vp asG rfl
@[simp] theorem OK (n:Nat):¬ ((n:Int)<0):=by omega
theorem aZ {H:List HO} {k:Nat} {x:CK×List DV} (h:rowAt H k=some x):k<H.length:=by
 unfold rowAt at h
 split at h
 · rename_i e;exact (List.getElem?_eq_some_iff.1 e).1
 · cases h
theorem fk {H X:List HO} {k:Nat} (h:k<H.length):rowAt (H++X) k=rowAt H k:=by
 unfold rowAt
 rw [List.getElem?_append_left h]
theorem cP {H:List HO} {k:Nat} (h:k<H.length) (g:CK) (vs:List DV):rowAt (H.set k (.cells g vs)) k=some (g,vs):=by
 unfold rowAt
 rw [List.getElem?_set_self h]
theorem b5 {H:List HO} {k:Nat} {g:CK} {vs:List DV} (h:rowAt H k=some (g,vs)) (X:List HO):rowAt (H++X) k=some (g,vs):=by
 rw [fk (aZ h),h]
theorem dn {H X:List HO} (j:Nat):rowAt (H++X) (H.length+j)=rowAt X j:=by
 unfold rowAt
 rw [iL]
theorem oi {H X:List HO} (j:Nat) (x:HO):(H++X).set (H.length+j) x=H++X.set j x:=by simp [List.set_append_right]
@[simp] theorem yB (H X:List HO) (k:Nat) (o:HO) (j:Nat):rowAt (H.set k o++X) (H.length+j)=rowAt X j:=by
  have h:=dn (H:=H.set k o) (X:=X) j
  rwa [List.length_set] at h
@[simp] theorem Oh (H X:List HO) (k:Nat) (o:HO):rowAt (H.set k o++X) H.length=rowAt X 0:=yB H X k o 0
theorem eu {vs:List DV} {i:Nat} {x:DV} (h:i<vs.length):bl vs i [x]=vs.set i x:=by
 rw [List.set_eq_take_append_cons_drop,if_pos h]
 simp [bl]
theorem Cg (st:St) (k:Nat):st.oL (st.heap.length+k)=false:=by
 unfold St.oL
 rw [List.getElem?_eq_none (Nat.le_add_right _ _)]
theorem xD {st:St} {H:List HO} {K:List Nat} {k:Nat} {g:CK} {vs:List DV} (h:rowAt H k=some (g,vs)):(pst st H K).heap[st.heap.length+k]? = some (.cells g vs):=by
 rw [cu]
 unfold rowAt at h
 split at h
 · rename_i e;simp only [Option.some.injEq,Prod.mk.injEq] at h;rw [e,h.1,h.2]
 · cases h
theorem vV {n:Nat} {ag:Bool}:∀ {ys:List DV},(∀ y∈ys,cX n ag y)→(flat ys).length=ys.length*n
 | [],_=>by simp [flat]
 | y::r,h=>by
   have h1:=(h y (List.mem_cons_self ..)).1
   have h2:=vV (ys:=r) fun z hz=>h z (List.mem_cons_of_mem _ hz)
   simp only [flat,List.flatMap_cons,List.length_append,h1,List.length_cons] at h2 ⊢
   rw [h2,Nat.succ_mul];omega
theorem tJ {st:St} {H:List HO} {K:List Nat} {k n:Nat} {ag:Bool} {g:CK} {ys:List DV} {cap:Option Nat} (hr:rowAt H k=some (g,flat ys)) (hn:0<n) (hag:ag=true∨n=1) (he:∀ y∈ys,cX n ag y) :
 a9 st (pst st H K) (.hsl n ag (st.heap.length+k) 0 ys.length cap)=some (.list st.cur n (if cap=some ys.length then .tight else .no) true ys):=by
 have hl:=vV he
 have hp:=iT he
 have hd:=dx hp
 simp only [a9,Cg,Bool.false_eq_true,if_false,xD hr]
 have ht:(flat ys).take (ys.length*n)=flat ys:=List.take_of_length_le (by omega)
 simp only [List.drop_zero,ht,hd,hp,fp he]
 rw [if_pos ⟨Nat.le_add_right _ _,by omega,hn,hag,trivial⟩]
 rfl
theorem mR (z:DV):∀ n,bk [z] n=List.replicate n z
 | 0=>rfl
 | n+1=>by rw [bk,mR z n];rfl
theorem gq:∀ (ys:List DV),(∀ y∈ys,cX 1 false y)→flat ys=ys
 | [],_=>rfl
 | y::r,h=>by
   have h1:=(h y (List.mem_cons_self ..)).2.2
   have h2:=gq r fun z hz=>h z (List.mem_cons_of_mem _ hz)
   simp only [Bool.false_eq_true,if_false] at h1
   simp only [flat,List.flatMap_cons,h1] at h2 ⊢
   rw [h2];rfl
variable {T:Tab}
def fZ (fr:Fr) (params:List Nat) (assign body:RC) (s:Nat) (q:Option Ex):l4:=⟨fr,params,assign,body,s,q⟩
def yT:Ex→Option Ex
 | .normal=>none
 | e=>some e
theorem wL {st:St} {H H1 H2:List HO} {K K1 K2:List Nat} {k:Nat} {fr:Fr} {params:List Nat} {assign body:RC} {args:List DV} {fr1:Fr} {e:Ex}
 (h:H[k]? = some (.loop (fZ fr params assign body 0 none))) (hl:args.length=params.length)
 (hA:(E T).C assign (cJ fr params args) (pst st H K)=some (.normal,fr1,pst st H1 K1)) (h1:H1[k]? = some (.loop (fZ fr params assign body 0 none)))
 (hB:∃ fr2,(E T).C body fr1 (pst st (H1.set k (.loop (fZ fr params assign body 1 none))) K1)=some (e,fr2,pst st H2 K2)) (h2:H2[k]? = some (.loop (fZ fr params assign body 1 none))) :
 (E T).V (.yield (st.heap.length+k)) args (pst st H K)=some (.bool (yT e).isNone,pst st (H2.set k (.loop (fZ fr params assign body (if (yT e).isNone then 0 else 2) (yT e)))) K2):=by
 obtain ⟨fr2,hB⟩:=hB
 rw [Aq h hl]
 have e1:(fZ fr params assign body 0 none).assign=assign:=rfl
 have e2:(fZ fr params assign body 0 none).params=params:=rfl
 have e3:(fZ fr params assign body 0 none).fr=fr:=rfl
 have e4:(fZ fr params assign body 0 none).state=0:=rfl
 have hB1:(E T).C (fZ fr params assign body 0 none).body fr1 (pst st (H1.set k (.loop (fZ fr params assign body 1 none))) K1)=some (e,fr2,pst st H2 K2):=hB
 rw [e1,e2,e3,hA]
 simp only [cu,h1,e4,if_true,mF]
 erw [hB1]
 cases e<;>simp only [cu,h2,mF]<;>rfl
theorem oG {st:St} {H H':List HO} {K K':List Nat} {f:X} {params live:List Nat} {assign body:RC} {fr:Fr} {g:Nat} {first captured:List DV} {F:an} {v:DV} {s:Nat} {q:Option Ex} (hf:f.ev (fr.bF live)=.fn g first captured) (hg:T g=some (.code F))
 (hF:(E T).F g (first++[.yield (st.heap.length+H.length)]++captured) (pst st (H++[.loop (fZ (fr.bF live) params assign body 0 none)]) K)=some (v,pst st H' K'))
 (h2:H'[H.length]? = some (.loop (fZ (fr.bF live) params assign body s q))) (hs:s≠1) :
 (E T).C (.fg f params assign body live) fr (pst st H K)=some (q.getD .normal,fr.bF live,pst st (H'.set H.length (.loop (fZ (fr.bF live) params assign body 3 q))) K'):=by
 rw [Bi hf hg]
 have e1:(pst st H K).heap.length=st.heap.length+H.length:=by simp
 have e2:(pst st H K).push (.loop (fZ (fr.bF live) params assign body 0 none))=pst st (H++[.loop (fZ (fr.bF live) params assign body 0 none)]) K:=by simp
 rw [e1]
 erw [e2]
 rw [hF]
 have e3:(fZ (fr.bF live) params assign body s q).state=s:=rfl
 cases q with
 | none=>simp only [cu,h2,e3,hs,if_false,mF];rfl
 | some e=>simp only [cu,h2,e3,hs,if_false,mF];rfl
theorem zt {ops ops2:List aq} {hs:List Nat} {chk:List (Nat×List Nat)} {live:List Nat} {fr:Fr} {st st1:St} (h:gO fr hs st ops=some (st1,ops2)):(E T).C (.au ops hs chk live) fr st =
 match (E T).S ops2 fr st1 [st1] with
 | some (fr',sts)=>if (E T).A fr' ops2 sts.reverse chk=true then (match sts with | st'::_=>some (.normal,fr'.bF live,st') | []=>none) else none
 | none=>none:=by
 rw [EC]
 simp only [cD,h]
 cases (E T).S ops2 fr st1 [st1] with
 | none=>rfl
 | some p=>obtain ⟨fr',sts⟩:=p;rfl
theorem nA {A B:RC} {f f':Fr} {S S':St} (h:(E T).C (.seq A B) f S=some (.normal,f',S')):∃ fu1 S1,(E T).C A f S=some (.normal,fu1,S1)∧(E T).C B fu1 S1=some (.normal,f',S'):=by
 rw [cK] at h
 split at h
 · rename_i fu1 S1 e;exact ⟨fu1,S1,e,h⟩
 · cases h
 · cases h
 · cases h
inductive Vw (st:St) (n:Nat) (ag:Bool) (xs:List DV):DV→Prop
 | list (t n':Nat) (tk:Tk) (nn:Bool) (h1:nn=true→n'=n) (h2:nn=false→xs=[]):Vw st n ag xs (.list t n' tk nn xs)
 | hsl (b off c:Nat) (g:CK) (vs:List DV) (hc:st.cells b=some (g,vs)) (hl:off+xs.length*n≤vs.length) (hx:(vs.drop off).take (xs.length*n)=flat xs) (hcap:xs.length≤c) :
  Vw st n ag xs (.hsl n ag b off xs.length (some c))
theorem Vw.q9 {st st':St} {n:Nat} {ag:Bool} {xs:List DV} {v:DV} (h:Vw st n ag xs v) (hs:∀ b g vs,st.cells b=some (g,vs)→st'.cells b=some (g,vs)):Vw st' n ag xs v:=by
 cases h with
 | list t n' tk nn h1 h2=>exact .list t n' tk nn h1 h2
 | hsl b off c g vs hc hl hx hcap=>exact .hsl b off c g vs (hs _ _ _ hc) hl hx hcap
theorem B7 {st:St} {H:List HO} {K:List Nat} {b:Nat} {g:CK} {vs:List DV} (h:st.cells b=some (g,vs)):(pst st H K).cells b=some (g,vs):=by
 have h1:=iS h
 have hb:=(List.getElem?_eq_some_iff.1 h1).1
 unfold St.cells
 show (match (st.heap++H)[b]? with | some (.cells g vs)=>some (g,vs) | _=>none)=_
 rw [List.getElem?_append_left hb,h1]
theorem Vw.inn {st:St} {n:Nat} {ag:Bool} {xs:List DV} {v:DV} (h:Vw st n ag xs v) (H:List HO) (K:List Nat):Vw (pst st H K) n ag xs v:=h.q9 fun _ _ _=>B7
theorem Vw.out {st:St} {n:Nat} {ag:Bool} {xs:List DV} {v:DV} (h:Vw (pst st [] []) n ag xs v):Vw st n ag xs v:=h.q9 fun b g vs hc=>by
 have:(pst st [] []).cells b=st.cells b:=by unfold St.cells;simp only [pst,List.append_nil]
 rw [← this];exact hc
theorem Vw.app {st:St} {H:List HO} {K:List Nat} {n:Nat} {ag:Bool} {xs:List DV} {v:DV} (h:Vw (pst st H K) n ag xs v) (X:List HO) (K':List Nat):Vw (pst st (H++X) K') n ag xs v:=by
 refine h.q9 fun b g vs hc => ?_
 have h1:=iS hc
 have hb:=(List.getElem?_eq_some_iff.1 h1).1
 unfold St.cells
 change (st.heap++H)[b]? = _ at h1
 show (match (st.heap++(H++X))[b]? with | some (.cells g vs)=>some (g,vs) | _=>none)=_
 rw [← List.append_assoc,List.getElem?_append_left (show b<(st.heap++H).length from hb),h1]
def elP (n:Nat):DV→Nat→DV
 | .list _ _ _ _ xs,i=>.bX ((xs.getD i .undef).leaves)
 | .hsl _ _ b off _ _,i=>.ptr b (off+i*n)
 | _,_=>.undef
def faP (off:Nat):DV→DV
 | .ptr b o=>.ptr b (o+off)
 | .bX cs=>.bX (cs.drop off)
 | _=>.undef
section
variable {st:St} {H:List HO} {K:List Nat} {n:Nat} {ag:Bool} {xs:List DV} {v:DV}
theorem Vw.len (h:Vw st n ag xs v) (st':St):oY st' .slice v=some (.int .i64 xs.length,st'):=by
 cases h<;>rfl
theorem Vw.aE (h:Vw st n ag xs v) {i:Nat} (hi:i<xs.length) (k:IntKind) (st':St):iF st' n v (.int k i)=some (elP n v i,st'):=by
 cases h with
 | list t n' tk nn h1 h2=>
   cases nn with
   | false=>rw [h2 rfl] at hi;cases hi
   | true=>simp [h1 rfl,hi,elP,List.getD_eq_getElem?_getD]
 | hsl b off c g vs hc hl hx hcap=>
   simp [hi,elP]
theorem Ey (he:∀ x∈xs,cX n ag x):∀ {i:Nat} {x:DV},xs[i]? = some x→((flat xs).drop (i*n)).take n=x.leaves:=by
 induction xs with
 | nil=>intro i x h;cases h
 | cons y r ih=>
   intro i x h
   have hy:=(he y (List.mem_cons_self ..)).1
   have e:flat (y::r)=y.leaves++flat r:=by simp [flat]
   rw [e]
   cases i with
   | zero=>
     simp only [List.getElem?_cons_zero,Option.some.injEq] at h
     subst h
     simp [← hy]
   | succ i=>
     rw [List.getElem?_cons_succ] at h
     rw [Nat.succ_mul,Nat.add_comm,← List.drop_drop,← hy]
     simp only [List.drop_left]
     rw [hy]
     exact ih (fun z hz=>he z (List.mem_cons_of_mem _ hz)) h
theorem jv {off:Nat} {vs:List DV} (he:∀ x∈xs,cX n ag x) (hl:off+xs.length*n≤vs.length) (hx:(vs.drop off).take (xs.length*n)=flat xs) {i:Nat} {x:DV} (h:xs[i]? = some x) :
 (vs.drop (off+i*n)).take n=x.leaves∧off+i*n+n≤vs.length:=by
 have hi:=(List.getElem?_eq_some_iff.1 h).1
 have h1:=Ey he h
 have hle:(i+1)*n≤xs.length*n:=Nat.mul_le_mul_right _ hi
 rw [Nat.succ_mul] at hle
 refine ⟨?_,by omega⟩
 rw [← h1,← hx,List.drop_take,List.drop_drop,List.take_take]
 congr 1
 omega
theorem Vw.load (h:Vw st n ag xs v) (he:∀ x∈xs,cX n ag x) (ha:ag=true) {i:Nat} {x:DV} (hx:xs[i]? = some x):cE st n true (elP n v i)=some x:=by
 have hm:=he x (List.mem_of_getElem? hx)
 have hxl:x=.agg x.leaves:=by have:=hm.2.2;rw [ha] at this;exact this
 cases h with
 | list t n' tk nn h1 h2=>
   simp only [elP,cE,takeN,List.getD_eq_getElem?_getD,hx,Option.getD_some,if_true,Nat.zero_add]
   rw [if_pos (by rw [hm.1];exact Nat.le_refl _),List.drop_zero,List.take_of_length_le (by rw [hm.1];exact Nat.le_refl _),← hxl]
 | hsl b off c g vs hc hl hxx hcap=>
   obtain ⟨h1,h2⟩:=jv he hl hxx hx
   simp only [elP,cE,takeN,hc,if_true,h1]
   rw [if_pos h2,← hxl]
theorem Vw.Da (h:Vw st 1 false xs v) (he:∀ x∈xs,cX 1 false x) {i:Nat} {x:DV} (hx:xs[i]? = some x):cE st 1 false (elP 1 v i)=some x:=by
 have hm:=he x (List.mem_of_getElem? hx)
 have hxl:x.leaves=[x]:=by have:=hm.2.2;simpa using this
 cases h with
 | list t n' tk nn h1 h2=>simp [elP,List.getD_eq_getElem?_getD,hx,hxl]
 | hsl b off c g vs hc hl hxx hcap=>
   obtain ⟨h1,h2⟩:=jv he hl hxx hx
   simp only [elP,cE,takeN,hc]
   have:=congrArg (fun l=>l[0]?) h1
   simp [hxl] at this
   simpa using this
theorem Vw.fF (h:Vw st n ag xs v) (he:∀ x∈xs,cX n ag x) {i:Nat} (hi:i<xs.length) {off:Nat} (ho:off≤n) (st':St):km st' off (elP n v i)=some (faP off (elP n v i),st'):=by
 have hx:xs[i]? = some xs[i]:=List.getElem?_eq_getElem hi
 have hm:=he _ (List.getElem_mem hi)
 cases h with
 | list t n' tk nn h1 h2=>
   simp only [elP,km,faP,List.getD_eq_getElem?_getD,hx,Option.getD_some]
   rw [if_pos (by rw [hm.1];exact ho)]
 | hsl b off c g vs hc hl hxx hcap=>simp [elP,faP]
theorem Vw.Fg (h:Vw st n ag xs v) (he:∀ x∈xs,cX n ag x) {i:Nat} {x:DV} (hx:xs[i]? = some x) {off:Nat} {y:DV} (ho:x.leaves[off]? = some y):cE st 1 false (faP off (elP n v i))=some y:=by
 have hm:=he x (List.mem_of_getElem? hx)
 have hlt:off<n:=by have:=(List.getElem?_eq_some_iff.1 ho).1;rw [hm.1] at this;exact this
 cases h with
 | list t n' tk nn h1 h2=>
   simp only [elP,faP,cE,takeN,List.getD_eq_getElem?_getD,hx,Option.getD_some,Bool.false_eq_true,if_false]
   rw [List.getElem?_drop];simpa using ho
 | hsl b off' c g vs hc hl hxx hcap=>
   obtain ⟨h1,h2⟩:=jv he hl hxx hx
   simp only [elP,faP,cE,takeN,hc,Bool.false_eq_true,if_false]
   rw [← h1,List.getElem?_take_of_lt hlt,List.getElem?_drop] at ho
   exact ho
theorem Vw.news (h:Vw st n ag xs v):bP st n v=some (xs.length,flat xs):=by
 cases h with
 | list t n' tk nn h1 h2=>
   cases nn with
   | false=>simp [bP,h2 rfl,flat]
   | true=>simp [bP,h1 rfl]
 | hsl b off c g vs hc hl hx hcap=>simp [bP,hc,hl,hx]
theorem Vw.slice (h:Vw st n ag xs v) (hn:0<n) (he:∀ x∈xs,cX n ag x) {lo hi:Nat} (h1:lo≤hi) (h2:hi≤xs.length) (k k':IntKind) :
 ∃ v',bY false n v (some (.int k lo)) (some (.int k' hi)) none=some v'∧Vw st n ag ((xs.drop lo).take (hi-lo)) v':=by
 cases h with
 | list t n' tk nn g1 g2=>
   refine ⟨_,vM g1 (by omega) (by omega) (by omega),?_⟩
   simp only [Int.toNat_natCast]
   exact .list _ _ _ _ g1 fun e=>by rw [g2 e];simp
 | hsl b off c g vs hc hl hx hcap=>
   have hb1:bnd (.int k' (hi:Int)) c=some hi:=by rw [gj (by omega) (by omega)];simp
   have hb2:bnd (.int k (lo:Int)) hi=some lo:=by rw [gj (by omega) (by omega)];simp
   refine ⟨_,by simp only [bY,if_true,Option.isSome_none,Bool.false_eq_true,if_false,hb1,hb2];rfl,?_⟩
   have hlen:((xs.drop lo).take (hi-lo)).length=hi-lo:=by simp;omega
   by_cases hcl:c=lo
   · have e0:hi-lo=0:=by omega
     rw [if_pos hcl]
     have h3:=Vw.hsl (st:=st) (n:=n) (ag:=ag) (xs:=(xs.drop lo).take (hi-lo)) b off (c-lo) g vs hc (by rw [hlen,e0];omega) (by rw [hlen,e0];simp [flat]) (by rw [hlen];omega)
     rw [hlen] at h3;exact h3
   · rw [if_neg hcl]
     have hmul:lo*n+(hi-lo)*n≤xs.length*n:=by rw [← Nat.add_mul];exact Nat.mul_le_mul_right _ (by omega)
     have fl:∀ (ys:List DV),(∀ y∈ys,cX n ag y)→∀ k,(flat ys).take (k*n)=flat (ys.take k)∧(flat ys).drop (k*n)=flat (ys.drop k):=by
      intro ys
      induction ys with
      | nil=>intro _ k;simp [flat]
      | cons y r ih=>
        intro hy k
        have e:flat (y::r)=y.leaves++flat r:=by simp [flat]
        have hly:=(hy y (List.mem_cons_self ..)).1
        cases k with
        | zero=>simp [flat]
        | succ k=>
          have:=ih (fun z hz=>hy z (List.mem_cons_of_mem _ hz)) k
          rw [e,Nat.succ_mul,Nat.add_comm (k*n)]
          constructor
          · rw [List.take_append,List.take_of_length_le (by omega),hly,show n+k*n-n=k*n by omega,this.1];simp [flat]
          · rw [← List.drop_drop,← hly,List.drop_left,hly,this.2,List.drop_succ_cons]
     have h3:=Vw.hsl (st:=st) (n:=n) (ag:=ag) (xs:=(xs.drop lo).take (hi-lo)) b (off+lo*n) (c-lo) g vs hc (by rw [hlen];omega) (by
      rw [hlen,← (fl _ (fun y hy=>he y (List.mem_of_mem_drop hy)) _).1,← (fl xs he _).2,← hx,List.drop_take,List.drop_drop,List.take_take]
      congr 1
      rw [Nat.min_eq_left (by omega)]) (by rw [hlen];omega)
     rw [hlen] at h3;exact h3
end
theorem Fk {n b off len c hi:Nat} {ag:Bool} {k:IntKind} (h:hi≤c):bY false n (.hsl n ag b off len (some c)) none (some (.int k hi)) none=some (.hsl n ag b off hi (some c)):=by
 have hb:bnd (.int k (hi:Int)) c=some hi:=by rw [gj (by omega) (by omega)];simp
 simp [bY,hb]
inductive Lw (n:Nat) (xs:List DV):DV→Prop
 | list (t n':Nat) (tk:Tk) (nn:Bool) (h1:nn=true→n'=n) (h2:nn=false→xs=[]):Lw n xs (.list t n' tk nn xs)
theorem Lw.vw {st:St} {n:Nat} {ag:Bool} {xs:List DV} {w:DV} (h:Lw n xs w):Vw st n ag xs w:=by
 cases h with | list t n' tk nn h1 h2=>exact .list t n' tk nn h1 h2
theorem Lw.ex {st st':St} {n:Nat} {xs:List DV} {w:DV} (h:Lw n xs w):∃ w',a9 st st' w=some w'∧bV st st' w=some w'∧bJ st st' w=some w'∧Lw n xs w':=by
 cases h with | list t n' tk nn h1 h2=>exact ⟨_,rfl,rfl,rfl,.list _ _ _ _ h1 h2⟩
theorem Ei {st:St} {H:List HO} {K:List Nat} {n t n' by_:Nat} {ag:Bool} {tk:Tk} {xs:List DV} {v:DV} (hv:Vw (pst st H K) n ag xs v) (he:∀ x∈xs,cX n ag x) (hx:xs≠[]) (hn:0<n) (hr:xs.length*by_≤aA) (hr2:xs.length≤aA) :
 bd (pst st H K) n ag by_ (.list t n' tk false []) v=some (.list st.cur n (.own (st.aW.length+K.length) 0) true xs,pst st H (K++[0])):=by
 have hl:xs.length≠0:=fun h=>hx (List.length_eq_zero_iff.1 h)
 have hp:=iT he
 have hc:=fp he
 have h0:¬ n=0:=by omega
 have h2:¬ ((0+xs.length)*by_>aA):=by rw [Nat.zero_add];omega
 have h3:¬ (0+xs.length>aA):=by omega
 simp only [bd,Vw.news hv,dx hp,hc,hl,h0,List.length_nil,h2,h3,hp,if_false,Bool.not_true,Bool.false_eq_true,or_false,false_and]
 simp [pst]
theorem Bv {st:St} {n t n' by_:Nat} {ag:Bool} {tk:Tk} {nn:Bool} {ys:List DV} {v:DV} (hv:Vw st n ag [] v):bd st n ag by_ (.list t n' tk nn ys) v=some (.list t n' tk nn ys,st):=by
 refine wR ?_
 have:=Vw.news hv
 simpa [flat] using this
theorem aub:tab 51=some (.code f51):=by kernel_rfl
theorem aud:tab 30=some (.code f30):=by kernel_rfl
theorem auh:tab 31=some (.code f31):=by kernel_rfl
theorem Pe:tab 17=some (.code f17):=by kernel_rfl
theorem auD:tab 21=some (.eK (mc emV)):=by kernel_rfl
theorem nr (n:Int) (st:St):(E tab).F 51 [.int .i64 n] st=some (.bool (decide (1≤n∧n≤64)),st):=by
 refine kz (e:=.ret) (fr:=[(2,.bool (decide (1≤n∧n≤64)))]) (st':=st.enter) (v:=.bool (decide (1≤n∧n≤64))) _ _ aub rfl ?_ (.inl rfl) rfl rfl
 by_cases h1:1≤n<;>by_cases h2:n≤64 <;>
 simp [f51,h1,h2]
theorem auT (c:UInt8) (st:St):(E tab).F 21 [.int .u8 (c.toNat:Int)] st=some (.int .i64 (em c.toNat),st):=
 vp auD (by show (if c.toNat<256 then some (emV c.toNat) else _)=_;rw [if_pos (by exact c.toNat_lt)];rfl)
def wd (c:UInt8) (size:Int):Int:=IntKind.i64.wrap ((IntKind.i64.wrap (em c.toNat*size)).tdiv 8)
theorem wj (c:UInt8) (n:Int) (st:St):(E tab).F 30 [.int .u8 (c.toNat:Int),.int .i64 n] st=some (.int .i64 (wd c n),st):=by
 refine kz (e:=.ret) (fr:=[(4,.int .i64 (wd c n))]) (st':=st.enter) (v:=.int .i64 (wd c n)) _ _ aud rfl ?_ (.inl rfl) rfl rfl
 simp [f30,auT,wd]
def tw (n:Int):Int→List UInt8→Int
 | a,[]=>a
 | a,c::r=>tw n (IntKind.i64.wrap (a+wd c n)) r
theorem FW (n:Int) (bs:List UInt8) (hb:bs.length≤4096) (st:St) (cur:Nat):∀ (r d:List UInt8) (a:Int),bs=d++r →
 (E tab).C AF [(1,.int .i64 n),(5,.int .i64 a),(9,.list cur 1 .no true (bs.map fun b=>.int .u8 b.toNat)),(10,.int .i64 bs.length),(11,.int .i64 d.length)] st =
  some (.exit 0,[(1,.int .i64 n),(5,.int .i64 (tw n a r)),(9,.list cur 1 .no true (bs.map fun b=>.int .u8 b.toNat)),(10,.int .i64 bs.length),(11,.int .i64 bs.length),(12,.bool false)],st):=by
 intro r
 induction r with
 | nil=>
   intro d a hd
   rw [aj (L:=AF) rfl]
   simp [FF,hd,tw]
 | cons c r ih=>
   intro d a hd
   have hl:d.length<bs.length:=by rw [hd];simp
   have hg:bs[d.length]=c:=by simp [hd]
   have hw:IntKind.i64.wrap ((d.length:Int)+1)=((d++[c]).length:Nat):=by rw [IntWalk.i64_in _ (by omega)];simp
   rw [tw,← ih (d++[c]) (IntKind.i64.wrap (a+wd c n)) (by simp [hd])]
   rw [aj (L:=AF) rfl]
   simp [FF,hl,hg,wj,hw]
theorem vB (bs:List UInt8) (hb:bs.length≤4096) (n:Int) (st:St):(E tab).F 31 [.str bs,.int .i64 n] st=some (.int .i64 (tw n 0 bs),st):=by
 refine kz (e:=.ret) (fr:=[(4,.int .i64 (tw n 0 bs))]) (st':=st.enter) (v:=.int .i64 (tw n 0 bs)) _ _ auh rfl ?_ (.inl rfl) rfl rfl
 have h:=FW n bs hb st.enter st.enter.cur bs [] 0 rfl
 simp at h
 simp [f31,h]
theorem auO:tab 57=some (.code f57):=by kernel_rfl
theorem auJ:tab 32=some (.code f32):=by kernel_rfl
def fq (bs:List UInt8) (n:Int):DV:=
 if 1≤n∧n≤64 then (if 4096<bs.length then .tuple [.int .i64 0,.int .i64 3] else .tuple [.int .i64 (tw n 0 bs),.int .i64 0]) else .tuple [.int .i64 0,.int .i64 5]
theorem tP (bs:List UInt8) (n:Int) (st:St):(E tab).F 17 [.str bs,.int .i64 n] st=some (fq bs n,st):=by
 by_cases h1:1≤n∧n≤64
 · by_cases h2:4096<bs.length
   · refine kz (e:=.ret) (fr:=[(4,.int .i64 0),(5,.int .i64 3)]) (st':=st.enter) (v:=fq bs n) _ _ Pe rfl ?_ (.inl rfl) (by simp [fq,h1,h2,f17,eN,eU,iz]) (by simp [fq,h1,h2])
     have h3:(4096:Int)<bs.length:=by omega
     simp [f17,nr,h1,h3]
   · refine kz (e:=.ret) (fr:=[(4,.int .i64 (tw n 0 bs)),(5,.int .i64 0)]) (st':=st.enter) (v:=fq bs n) _ _ Pe rfl ?_ (.inl rfl) (by simp [fq,h1,h2,f17,eN,eU,iz]) (by simp [fq,h1,h2])
     have h3:¬ (4096:Int)<bs.length:=by omega
     simp [f17,nr,h1,h3,vB bs (by omega)]
 · refine kz (e:=.ret) (fr:=[(4,.int .i64 0),(5,.int .i64 5)]) (st':=st.enter) (v:=fq bs n) _ _ Pe rfl ?_ (.inl rfl) (by simp [fq,h1,f17,eN,eU,iz]) (by simp [fq,h1])
   simp [f17,nr,h1]
def pr (a b:UInt8):List UInt8→Bool
 | x::y::_::r=>(x==a&&y==b)||pr a b r
 | _=>false
theorem EX (x a:UInt8):((x.toNat:Int)==(a.toNat:Int))=(x==a):=by
 rw [Bool.eq_iff_iff]
 simp only [beq_iff_eq]
 constructor
 · intro h;exact UInt8.toNat_inj.1 (by omega)
 · rintro rfl;rfl
theorem Mq (s:List UInt8) (hs:s.length≤1000) (a b:UInt8) (st:St):∀ (k:Nat) (r d:List UInt8),r.length=3*k→s=d++r →
 (E tab).C An [(0,.str s),(1,.int .u8 a.toNat),(2,.int .u8 b.toNat),(7,.int .i64 d.length)] st =
  some (if pr a b r then (.ret,[(6,.bool true)],st) else (.exit 0,[(0,.str s),(1,.int .u8 a.toNat),(2,.int .u8 b.toNat),(7,.int .i64 s.length),(12,.bool false)],st)):=by
 intro k
 induction k with
 | zero=>
   intro r d hr hd
   obtain rfl:r=[]:=List.length_eq_zero_iff.1 (by omega)
   have hw:IntKind.i64.wrap ((d.length:Int)+1)=d.length+1:=by rw [IntWalk.i64_in _ (by simp at hd;subst hd;omega)]
   rw [aj (L:=An) rfl]
   simp at hd
   subst hd
   have hn:¬ (s.length:Int)+1<s.length:=by omega
   simp [xX,pr,hw,hn]
 | succ k ih=>
   intro r d hr hd
   match r,hr with
   | x::y::z::r,hr=>
     have e0:d.length+3+r.length=s.length:=by simp [hd];omega
     have hw:IntKind.i64.wrap ((d.length:Int)+1)=d.length+1:=by rw [IntWalk.i64_in _ (by omega)]
     have hw3:IntKind.i64.wrap ((d.length:Int)+3)=((d++[x,y,z]).length:Nat):=by rw [IntWalk.i64_in _ (by omega)];simp
     have hl:d.length<s.length:=by omega
     have hl1:d.length+1<s.length:=by omega
     have hl2:(d.length:Int)+1<s.length:=by omega
     have hg:s[d.length]=x:=by simp [hd]
     have hg1:s[d.length+1]=y:=by simp [hd]
     have ht:((d.length:Int)+1).toNat=d.length+1:=by omega
     have h0:(0:Int)≤(d.length:Int)+1:=by omega
     rw [aj (L:=An) rfl]
     by_cases hx:x=a
     · by_cases hy:y=b
       · simp [xX,hw,hl,hl1,hl2,hg,hg1,ht,h0,pr,hx,hy]
       · have:=ih r (d++[x,y,z]) (by simp at hr;omega) (by simp [hd])
         simp [xX,hw,hl,hl1,hl2,hg,hg1,ht,h0,EX,pr,hx,hy,hw3] at this ⊢
         exact this
     · have:=ih r (d++[x,y,z]) (by simp at hr;omega) (by simp [hd])
       simp [xX,hw,hl,hl2,hg,EX,pr,hx,hw3] at this ⊢
       exact this
theorem pA (s:List UInt8) (k:Nat) (hk:s.length=3*k) (hs:s.length≤1000) (a b:UInt8) (st:St):(E tab).F 57 [.str s,.int .u8 a.toNat,.int .u8 b.toNat] st=some (.bool (pr a b s),st):=by
 refine kz (e:=.ret) (fr:=[(6,.bool (pr a b s))]) (st':=st.enter) (v:=.bool (pr a b s)) _ _ auO rfl ?_ (.inl rfl) rfl rfl
 have h:=Mq s hs a b st.enter k s [] hk rfl
 simp at h
 by_cases hp:pr a b s=true
 · simp only [hp,if_true] at h
   simp [f57,h,hp]
 · simp only [hp] at h
   simp [f57,h,hp]
def P19:List (UInt8×UInt8):=[(65,84),(65,86),(65,87),(65,89),(84,65),(86,65),(87,65),(89,65),(76,84),(76,86),(76,89),(80,65),(84,111),(84,97),(84,101),(86,111),(86,97),(89,111),(89,97)]
def P10:List (UInt8×UInt8):=[(114,46),(114,44),(102,46),(102,44),(118,46),(121,46),(65,118),(65,121),(111,118),(118,111)]
def isP (l:List (UInt8×UInt8)) (a b:UInt8):Bool:=l.any fun p=>p.1==a&&p.2==b
def txt (l:List (UInt8×UInt8)):List UInt8:=l.flatMap fun p=>[p.1,p.2,32]
def two (l:List (UInt8×UInt8)):List (List UInt8):=l.map fun p=>[p.1,p.2]
theorem FH (a b:UInt8):∀ l,pr a b (txt l)=isP l a b
 | []=>rfl
 | p::r=>by
   have:=FH a b r
   unfold txt isP at *
   simp only [List.flatMap_cons,List.cons_append,List.nil_append,pr,List.any_cons,this]
def j3 (a b:UInt8) (n:Int):Int:=if isP P10 a b then -(n/16) else if isP P19 a b then -(2*n/16) else 0
theorem zR (a b:UInt8) (n:Int) (hn:1≤n∧n≤64) (st:St):(E tab).F 32 [.int .u8 a.toNat,.int .u8 b.toNat,.int .i64 n] st=some (.int .i64 (j3 a b n),st):=by
 refine kz (e:=.ret) (fr:=[(6,.int .i64 (j3 a b n))]) (st':=st.enter) (v:=.int .i64 (j3 a b n)) _ _ auJ rfl ?_ (.inl rfl) rfl rfl
 have h19:=pA (txt P19) 19 (by rfl) (by decide) a b st.enter
 have h10:=pA (txt P10) 10 (by rfl) (by decide) a b st.enter
 rw [FH] at h19 h10
 simp only [show txt P19=[65,84,32,65,86,32,65,87,32,65,89,32,84,65,32,86,65,32,87,65,32,89,65,32,76,84,32,76,86,32,76,89,32,80,65,32,84,111,32,84,97,32,84,101,32,86,111,32,86,97,32,89,111,32,89,97,32] from rfl] at h19
 simp only [show txt P10=[114,46,32,114,44,32,102,46,32,102,44,32,118,46,32,121,46,32,65,118,32,65,121,32,111,118,32,118,111,32] from rfl] at h10
 have w1:IntKind.i64.wrap n=n:=IntWalk.i64_in _ (by omega)
 have w2:IntKind.i64.wrap (2*n)=2*n:=IntWalk.i64_in _ (by omega)
 have w3:IntKind.i64.wrap ((2*n).tdiv 16)=2*n/16:=IntWalk.i64_quo _ _ (by omega)
 have w4:IntKind.i64.wrap (n.tdiv 16)=n/16:=IntWalk.i64_quo _ _ (by omega)
 have w5:IntKind.i64.wrap (-(n/16)) = -(n/16):=IntWalk.i64_in _ (by omega)
 have w6:IntKind.i64.wrap (-(2*n/16)) = -(2*n/16):=IntWalk.i64_in _ (by omega)
 have w7:IntKind.i64.wrap 0=0:=by decide
 cases e1:isP P19 a b<;>cases e2:isP P10 a b<;>rw [e1] at h19<;>rw [e2] at h10 <;>
 simp [f32,h19,h10,j3,e1,e2,w1,w2,w3,w4,w5,w6,w7]
theorem auY:tab 23=some (.code f23):=by kernel_rfl
structure ak where
 a:Int
 b:Int
 k:Int
 s:Int
 w:Int
 e:Int
 deriving DecidableEq
def ak.cs (m:ak):List DV:=[.int .i64 m.a,.int .i64 m.b,.int .i64 m.k,.int .i64 m.s,.int .i64 m.w,.int .i64 m.e]
def ak.dv (m:ak):DV:=.agg m.cs
@[simp] theorem ak.leaves (m:ak):m.dv.leaves=m.cs:=rfl
def okM (m:ak):Bool:=decide (0≤m.w∧m.w≤4095 ∧ -64≤m.e∧m.e≤0)
def jX (o:Bool) (n:Int):List ak→Int
 | []=>n
 | m::r=>jX false (if o then n+m.w else n+m.w+m.e) r
theorem alY (l:List ak) (hl:l.length≤4096) (x y:DV) (t n6:Nat) (tk:Tk) (nn:Bool) (h6:l≠[]→n6=6) (st:St) (K:List Nat):∀ (r d:List ak) (H:List HO),l=d++r →
 ∃ J,(E tab).C wc [(0,.list t n6 tk nn (l.map ak.dv)),(1,x),(2,y),(16,.list t n6 tk nn (l.map ak.dv)),(17,.int .i64 l.length),(18,.int .i64 d.length)] (pst st H K) =
   some (if r.all okM then (.exit 0,[(0,.list t n6 tk nn (l.map ak.dv)),(1,x),(2,y),(16,.list t n6 tk nn (l.map ak.dv)),(17,.int .i64 l.length),(18,.int .i64 l.length),(19,.bool false)],pst st (H++J) K)
    else (.ret,[(6,.int .i64 0),(7,.int .i64 2)],pst st (H++J) K)):=by
 intro r
 induction r with
 | nil=>
   intro d H hd
   refine ⟨[],?_⟩
   rw [aj (L:=wc) rfl]
   simp [pI,hd]
 | cons m r ih=>
   intro d H hd
   obtain rfl:n6=6:=h6 (by simp [hd])
   have h0:d.length<l.length:=by simp [hd]
   have hw:IntKind.i64.wrap ((d.length:Int)+1)=((d++[m]).length:Nat):=by rw [aD (by omega)];simp
   have hg:l[d.length]=m:=by simp [hd]
   by_cases ho:okM m=true
   · obtain ⟨J,hJ⟩:=ih (d++[m]) (H++[.cells .plain m.cs]) (by simp [hd])
     refine ⟨.cells .plain m.cs::J,?_⟩
     rw [aj (L:=wc) rfl]
     obtain ⟨o1,o2,o3,o4⟩:0≤m.w∧m.w≤4095 ∧ -64≤m.e∧m.e≤0:=by simpa [okM] using ho
     have o1':¬ m.w<0:=by omega
     have o2':¬ 4095<m.w:=by omega
     have o3':¬ m.e < -64:=by omega
     have o4':¬ 0<m.e:=by omega
     simp [pI,h0,hg,hw,ak.cs,o1',o2',o3',o4',ho] at hJ ⊢
     exact hJ
   · refine ⟨[.cells .plain m.cs],?_⟩
     rw [aj (L:=wc) rfl]
     simp [okM] at ho
     by_cases o1:m.w<0
     · simp [pI,h0,hg,ak.cs,o1,okM,show ¬ 0≤m.w by omega]
     by_cases o2:4095<m.w
     · simp [pI,h0,hg,ak.cs,o1,o2,okM,show ¬ m.w≤4095 by omega]
     by_cases o3:m.e < -64
     · simp [pI,h0,hg,ak.cs,o1,o2,o3,okM,show ¬ -64≤m.e by omega]
     have o4:0<m.e:=by omega
     simp [pI,h0,hg,ak.cs,o1,o2,o3,o4,okM,show ¬ m.e≤0 by omega]
theorem ast (l:List ak) (hl:l.length≤4096) (hok:l.all okM=true) (t n6:Nat) (tk:Tk) (nn:Bool) (h6:l≠[]→n6=6) (st:St) (K:List Nat):∀ (r d:List ak) (H:List HO) (n:Int),l=d++r → -64*(d.length:Int)≤n→n≤4095*d.length →
 ∃ J,(E tab).C Bk [(10,.int .i64 n),(57,.list t n6 tk nn (l.map ak.dv)),(58,.int .i64 l.length),(59,.int .i64 d.length)] (pst st H K) =
   some (.exit 2,[(10,.int .i64 (jX d.isEmpty n r)),(57,.list t n6 tk nn (l.map ak.dv)),(58,.int .i64 l.length),(59,.int .i64 l.length),(60,.bool false)],pst st (H++J) K):=by
 intro r
 induction r with
 | nil=>
   intro d H n hd _ _
   refine ⟨[],?_⟩
   rw [aj (L:=Bk) rfl]
   simp [AG,hd,jX]
 | cons m r ih=>
   intro d H n hd h1 h2
   obtain rfl:n6=6:=h6 (by simp [hd])
   have h0:d.length<l.length:=by simp [hd]
   have hw:IntKind.i64.wrap ((d.length:Int)+1)=((d++[m]).length:Nat):=by rw [aD (by omega)];simp
   have hg:l[d.length]=m:=by simp [hd]
   have hm:okM m=true:=List.all_eq_true.1 hok m (by simp [hd])
   obtain ⟨o1,o2,o3,o4⟩:0≤m.w∧m.w≤4095 ∧ -64≤m.e∧m.e≤0:=by simpa [okM] using hm
   have hd':d.length+r.length+1=l.length:=by simp [hd];omega
   have hw1:IntKind.i64.wrap (n+m.w)=n+m.w:=aD (by omega)
   have hw2:IntKind.i64.wrap (n+m.w+m.e)=n+m.w+m.e:=aD (by omega)
   obtain ⟨J,hJ⟩:=ih (d++[m]) (H++[.cells .plain m.cs]) (if d.isEmpty then n+m.w else n+m.w+m.e) (by simp [hd]) (by split<;>simp<;>omega) (by split<;>simp<;>omega)
   refine ⟨.cells .plain m.cs::J,?_⟩
   have hE:(d++[m]).isEmpty=false:=by cases d<;>rfl
   rw [hE] at hJ
   rw [aj (L:=Bk) rfl]
   by_cases he:d=[]
   · subst he
     simp at h0 hg hw
     simp [AG,h0,hg,hw,ak.cs,hw1,jX] at hJ ⊢
     exact hJ
   · have hp:0<d.length:=List.length_pos_iff.2 he
     simp [AG,h0,hg,hw,ak.cs,hw1,hw2,jX,he,hp] at hJ ⊢
     exact hJ
def u0 (l:List ak) (x y:Int):DV:=
 if 4096<l.length then .tuple [.int .i64 0,.int .i64 3] else
 if l.all okM=false then .tuple [.int .i64 0,.int .i64 2] else
 if 0≤x∧x≤y∧y≤l.length then .tuple [.int .i64 (jX true 0 ((l.drop x.toNat).take (y.toNat-x.toNat))),.int .i64 0] else .tuple [.int .i64 0,.int .i64 5]
theorem BY (l:List ak) (x y:Int) (t n6:Nat) (tk:Tk) (nn:Bool) (h6:l≠[]→n6=6) (h7:nn=true→n6=6) (st:St) :
 (E tab).F 23 [.list t n6 tk nn (l.map ak.dv),.int .i64 x,.int .i64 y] st=some (u0 l x y,st):=by
 rw [aT auY rfl]
 by_cases h1:4096<l.length
 · have h1':(4096:Int)<l.length:=by omega
   simp [f23,h1',u0,h1]
 have h1':¬ (4096:Int)<l.length:=by omega
 obtain ⟨J,hJ⟩:=alY l (by omega) (.int .i64 x) (.int .i64 y) t n6 tk nn h6 st [] l [] [] rfl
 simp at hJ
 by_cases h2:l.all okM=true
 · rw [List.all_eq_true] at h2
   rw [if_pos h2] at hJ
   rw [← List.all_eq_true] at h2
   by_cases a1:x<0
   · simp [f23,h1',u0,h1,hJ,h2,a1,show ¬ 0≤x by omega]
   by_cases a2:y<x
   · simp [f23,h1',u0,h1,hJ,h2,a1,a2,show ¬ x≤y by omega]
   by_cases a3:l.length<y
   · simp [f23,h1',u0,h1,hJ,h2,a1,a2,a3,show ¬ y≤l.length by omega]
   have a4:bY false 6 (.list t n6 tk nn (l.map ak.dv)) (some (.int .i64 x)) (some (.int .i64 y)) none=_:=vM h7 (by omega) (by omega) (by simp;omega)
   rw [← List.map_drop,← List.map_take] at a4
   have hq:((l.drop x.toNat).take (y.toNat-x.toNat)).all okM=true:=by
    rw [List.all_eq_true] at h2 ⊢
    exact fun m hm=>h2 m (List.mem_of_mem_drop (List.mem_of_mem_take hm))
   have hl:((l.drop x.toNat).take (y.toNat-x.toNat)).length≤4096:=by simp;omega
   have hb:0≤x∧x≤y∧y≤l.length:=by omega
   obtain ⟨J2,hJ2⟩:=ast _ hl hq t n6 (rG tk l.length x.toNat y.toNat) nn (fun h=>h6 (fun e=>h (by rw [e];simp))) st [] _ [] J 0 rfl (by simp) (by simp)
   have e1:min (y.toNat-x.toNat) (l.length-x.toNat)=y.toNat-x.toNat:=by omega
   simp [e1] at hJ2 a4
   simp [f23,h1',u0,h1,hJ,h2,a1,a2,a3,a4,hb,hJ2,e1]
 · have h3:l.all okM=false:=by simpa using h2
   rw [List.all_eq_true] at h2
   rw [if_neg h2] at hJ
   simp [f23,h1',u0,h1,hJ,h3]
theorem Hw (m:ak):cX 6 true m.dv:=⟨rfl,rfl,rfl⟩
theorem auf:tab 54=some (.code f54):=by kernel_rfl
theorem aul:tab 27=some (.code f27):=by kernel_rfl
theorem auH:tab 55=some (.code f55):=by kernel_rfl
theorem arU:tab 69=some (.code f69):=by kernel_rfl
theorem avd:tab 68=some (.eK (mc kdV)):=by kernel_rfl
theorem atZ:tab 70=some (.eK (mc WH)):=by kernel_rfl
theorem wE {g:Nat} {F:Nat→DV} (h:tab g=some (.eK (mc F))) (c:UInt8) (st:St):(E tab).F g [.int .u8 (c.toNat:Int)] st=some (F c.toNat,st):=
 vp h (by show (if c.toNat<256 then some (F c.toNat) else _)=_;rw [if_pos (by exact c.toNat_lt)])
theorem Sc (c:UInt8) (st:St):(E tab).F 68 [.int .u8 (c.toNat:Int)] st=some (.int .i64 (kd c.toNat),st):=wE avd c st
theorem OT (c:UInt8) (st:St):(E tab).F 70 [.int .u8 (c.toNat:Int)] st=some (.bool (Af c.toNat),st):=wE atZ c st
def zq (c:UInt8):Bool:=!(kd c.toNat==0)
def db (s:List UInt8):Int:=if 4096<s.length then 3 else if s.all zq then 0 else 4
theorem alf (s:List UInt8) (hs:s.length≤4096) (st:St) (cur:Nat):∀ (r d:List UInt8),s=d++r →
 (E tab).C AK [(9,.list cur 1 .no true (s.map fun b=>.int .u8 b.toNat)),(10,.int .i64 s.length),(11,.int .i64 d.length)] st =
  some (if r.all zq then (.exit 0,[(9,.list cur 1 .no true (s.map fun b=>.int .u8 b.toNat)),(10,.int .i64 s.length),(11,.int .i64 s.length),(12,.bool false)],st) else (.ret,[(2,.int .i64 4)],st)):=by
 intro r
 induction r with
 | nil=>
   intro d hd
   rw [aj (L:=AK) rfl]
   simp [AT,hd]
 | cons c r ih=>
   intro d hd
   have h0:d.length<s.length:=by simp [hd]
   have hw:IntKind.i64.wrap ((d.length:Int)+1)=((d++[c]).length:Nat):=by rw [aD (by omega)];simp
   have hg:s[d.length]=c:=by simp [hd]
   rw [aj (L:=AK) rfl]
   have hJ:=ih (d++[c]) (by simp [hd])
   by_cases hk:kd c.toNat=0
   · simp [AT,h0,hg,Sc,hk,zq]
   · simp [AT,h0,hg,hw,Sc,hk,zq] at hJ ⊢
     exact hJ
theorem Bm (s:List UInt8) (st:St):(E tab).F 54 [.str s] st=some (.int .i64 (db s),st):=by
 rw [aT auf rfl]
 by_cases h1:4096<s.length
 · simp [f54,db,h1,show (4096:Int)<s.length by omega]
 · have h:=alf s (by omega) (pst st [] []) st.cur s [] rfl
   simp at h
   cases h2:s.all zq with
   | true=>
     rw [if_pos (by simpa using h2)] at h
     simp [f54,db,h1,show ¬ (4096:Int)<s.length by omega,h,h2]
   | false=>
     rw [if_neg (by simpa using h2)] at h
     simp [f54,db,h1,show ¬ (4096:Int)<s.length by omega,h,h2]
structure Clu where
 a:Nat
 b:Nat
 k:Int
 deriving DecidableEq
def Clu.cs (c:Clu):List DV:=[.int .i64 c.a,.int .i64 c.b,.int .i64 c.k]
def Clu.dv (c:Clu):DV:=.agg c.cs
@[simp] theorem Clu.leaves (c:Clu):c.dv.leaves=c.cs:=rfl
theorem W5 (c:Clu):cX 3 true c.dv:=⟨rfl,rfl,rfl⟩
def adv (s:List UInt8) (k:Int):Nat→Nat→Nat
 | 0,t=>t
 | n+1,t=>if k=1∧t<s.length∧Af (s.getD t 0).toNat=true then adv s k n (t+1) else t
def kG (s:List UInt8) (i:Nat):Int:=kd (s.getD i 0).toNat
def cTo (s:List UInt8) (i:Nat):Nat:=adv s (kG s i) 2 (i+1)
def eT (s:List UInt8):Nat→Nat→List Clu
 | 0,_=>[]
 | n+1,i=>if i<s.length then ⟨i,cTo s i,kG s i⟩::eT s n (cTo s i) else []
def lP (s:List UInt8):List Clu:=eT s s.length 0
theorem qy (s:List UInt8) (k:Int):∀ n t,t≤adv s k n t∧adv s k n t≤t+n∧(t≤s.length→adv s k n t≤s.length)
 | 0,t=>⟨Nat.le_refl _,Nat.le_refl _,id⟩
 | n+1,t=>by
   unfold adv
   split
   · rename_i h
     have:=qy s k n (t+1)
     exact ⟨by omega,by omega,fun _=>this.2.2 (by omega)⟩
   · exact ⟨Nat.le_refl _,by omega,id⟩
theorem z2 {s:List UInt8} {i:Nat} (h:i<s.length):s[i]? = some (s.getD i 0):=by
 simp [List.getElem?_eq_getElem h]
theorem fH {s:List UInt8} (h:db s=0):s.length≤4096∧s.all zq=true:=by
 unfold db at h
 split at h
 · simp at h
 · split at h
   · rename_i h1 h2;exact ⟨by omega,h2⟩
   · simp at h
def YN (s:List UInt8) (v:DV):Prop:=∃ t n' tk nn,v=.tuple [.list t n' tk nn ((if db s=0 then lP s else []).map Clu.dv),.int .i64 (db s)]∧(nn=true→n'=3)∧(nn=false→(if db s=0 then lP s else [])=[])
theorem alI (s:List UInt8) (hs:s.length≤4096) (y:DV) (st:St) (A:List HO) (hA:∀ o,rowAt (A++[o]) 1=some (.plain,[.str s])) (K:List Nat) (a:Nat) (ha:a<s.length) (k:Int):∀ (n t:Nat),t+n=a+3→1≤t →
 (E tab).C A2 [(0,y),(1,.ptr (st.heap.length+1) 0),(3,.int .i64 a),(4,.ptr (st.heap.length+A.length) 0)] (pst st (A++[.cells .plain [.int .i64 a,.int .i64 t,.int .i64 k]]) K) =
  some (.exit 2,[(0,y),(1,.ptr (st.heap.length+1) 0),(3,.int .i64 a),(4,.ptr (st.heap.length+A.length) 0),(40,.bool false)],pst st (A++[.cells .plain [.int .i64 a,.int .i64 (adv s k n t),.int .i64 k]]) K):=by
 intro n
 induction n with
 | zero=>
   intro t ht _
   have hw:IntKind.i64.wrap ((a:Int)+3)=(a:Int)+3:=aD (by omega)
   have h1:¬ (t:Int)<a+3:=by omega
   rw [aj (L:=A2) rfl]
   by_cases hk:k=1
   · by_cases hl:t<s.length
     · simp [oM,hk,hl,hw,h1,adv,hA]
     · simp [oM,hk,hl,adv,hA]
   · simp [oM,hk,adv]
 | succ n ih=>
   intro t ht h0
   have hw:IntKind.i64.wrap ((a:Int)+3)=(a:Int)+3:=aD (by omega)
   have h1:(t:Int)<a+3:=by omega
   rw [aj (L:=A2) rfl]
   by_cases hk:k=1
   · by_cases hl:t<s.length
     · have hw2:IntKind.i64.wrap ((t:Int)+1)=((t+1:Nat):Int):=by rw [aD (by omega)];simp
       cases hac:Af (s[t]).toNat with
       | true=>
         have hJ:=ih (t+1) (by omega) (by omega)
         simp [oM,hk,hl,hw,h1,OT,hac,hw2,adv,hA] at hJ ⊢
         exact hJ
       | false=>simp [oM,hk,hl,hw,h1,OT,hac,adv,hA]
     · simp [oM,hk,hl,adv,hA]
   · simp [oM,hk,adv]
def lK (st:St):l4:=⟨[(5,.ptr st.heap.length 0),(13,.fn 69 [] [.ptr (st.heap.length+1) 0])],[14],.region Es [5,6],.block 1 (.region CQ []),0,none⟩
theorem Nz (s:List UInt8) (c:Clu) (st:St) (J:List HO) (K:List Nat) (xs:List Clu) (v:DV) (hx:xs.length≤4096) (hA:Acc st K 3 (xs.map Clu.dv) v) :
 ∃ v' K',(E tab).V (.yield (st.heap.length+2)) [c.dv] (pst st (.cells .plain [v]::.cells .plain [.str s]::.loop (lK st)::J) K) =
   some (.bool true,pst st (.cells .plain [v']::.cells .plain [.str s]::.loop (lK st)::(J++[.cells .plain c.cs])) K')∧Acc st K' 3 ((xs++[c]).map Clu.dv) v':=by
 obtain ⟨v2,K2,e2,hA2⟩:=fy (H:=.cells .plain [v]::.cells .plain [.str s]::.loop { lK st with state:=1 }::(J++[.cells .plain c.cs])) (t:=st.cur) (by_:=24) (ag:=true) (tk:=.tight) (ys:=[c.dv]) hA (by omega) (by simp) (by simp [W5]) (by simp [aA];omega) (by simp [aA];omega)
 refine ⟨v2,K2,?_,by simpa using hA2⟩
 obtain ⟨t',n',tk',nn',rfl⟩:=dS hA2
 rw [Aq (lo:=lK st) rfl rfl]
 simp [lK,Clu.cs,Clu.dv] at e2 ⊢
 simp [a0,bk,dL,chunk,e2]
theorem arI (s:List UInt8) (hs:s.length≤4096) (st:St):∀ (n i:Nat) (J:List HO) (K:List Nat) (xs:List Clu) (v:DV),s.length≤i+n→i≤s.length→xs.length≤i→Acc st K 3 (xs.map Clu.dv) v →
 ∃ v' J' K',(E tab).C wu [(0,.yield (st.heap.length+2)),(1,.ptr (st.heap.length+1) 0),(3,.int .i64 i)] (pst st (.cells .plain [v]::.cells .plain [.str s]::.loop (lK st)::J) K) =
   some (.exit 0,[(0,.yield (st.heap.length+2)),(1,.ptr (st.heap.length+1) 0),(3,.int .i64 s.length),(8,.bool false)],pst st (.cells .plain [v']::.cells .plain [.str s]::.loop (lK st)::J') K')∧Acc st K' 3 ((xs++eT s n i).map Clu.dv) v':=by
 intro n
 induction n with
 | zero=>
   intro i J K xs v h1 h2 h3 hA
   obtain rfl:i=s.length:=by omega
   refine ⟨v,J,K,?_,by simpa [eT] using hA⟩
   rw [aj (L:=wu) rfl]
   simp [AN]
 | succ n ih=>
   intro i J K xs v h1 h2 h3 hA
   by_cases hi:i<s.length
   · have hw:IntKind.i64.wrap ((i:Int)+1)=((i+1:Nat):Int):=by rw [aD (by omega)];simp
     have ht:=qy s (kG s i) 2 (i+1)
     have hL:=alI s hs (.yield (st.heap.length+2)) st (.cells .plain [v]::.cells .plain [.str s]::.loop (lK st)::J) (fun o=>rfl) K i hi (kG s i) 2 (i+1) (by omega) (by omega)
     have hg:kG s i=kd (s[i]).toNat:=by simp [kG,hi]
     obtain ⟨v2,K2,e2,hA2⟩:=Nz s ⟨i,cTo s i,kG s i⟩ st (J++[.cells .plain (Clu.cs ⟨i,cTo s i,kG s i⟩)]) K xs v (by omega) hA
     obtain ⟨v3,J3,K3,e3,hA3⟩:=ih (cTo s i) (J++[.cells .plain (Clu.cs ⟨i,cTo s i,kG s i⟩)]++[.cells .plain (Clu.cs ⟨i,cTo s i,kG s i⟩)]) K2 (xs++[⟨i,cTo s i,kG s i⟩]) v2 (by unfold cTo;omega) (by unfold cTo;omega) (by unfold cTo;simp;omega) (by simpa using hA2)
     refine ⟨v3,J3,K3,?_,by simpa [eT,hi] using hA3⟩
     rw [aj (L:=wu) rfl]
     simp [Clu.cs,Clu.dv,cTo] at e2 e3 hL ⊢
     simp [AN,hi,hw,Sc,hL,← hg,e2,e3]
   · obtain rfl:i=s.length:=by omega
     refine ⟨v,J,K,?_,by simpa [eT] using hA⟩
     rw [aj (L:=wu) rfl]
     simp [AN]
theorem Bh (s:List UInt8) (st:St):∃ v,(E tab).F 27 [.str s] st=some (v,st)∧YN s v:=by
 rw [aT aul rfl]
 by_cases hw:db s=0
 · obtain ⟨hs,_⟩:=fH hw
   obtain ⟨v',J,K',h1,h2⟩:=arI s hs st s.length 0 [] [] [] jU (by omega) (by omega) (by simp) (dW _ _ _ _ _ _)
   obtain ⟨t,n',tk,nn,e1,e2,e3,e4⟩:=qC (st':=pst st (.cells .plain [v']::.cells .plain [.str s]::.loop { lK st with state:=3 }::J) K') h2
   obtain ⟨t',n'',tk',nn',rfl⟩:=dS h2
   refine ⟨.tuple [.list t n' tk nn ((lP s).map Clu.dv),.int .i64 0],?_,t,n',tk,nn,by simp [hw],e3,by simpa [hw,lP] using e2⟩
   have h55:∀ (H:List HO) (K:List Nat),(E tab).F 55 [.str s] (pst st H K)=some (.fn 69 [] [.ptr (st.heap.length+H.length) 0],pst st (H++[.cells .plain [.str s]]) K):=by
    intro H K
    rw [eC auH rfl]
    simp [f55]
   have h69:(E tab).F 69 [.yield (st.heap.length+2),.ptr (st.heap.length+1) 0] (pst st [.cells .plain [jU],.cells .plain [.str s],.loop (lK st)] [])=some (.tuple [],pst st (.cells .plain [.list t' n'' tk' nn' (([]++eT s s.length 0).map Clu.dv)]::.cells .plain [.str s]::.loop (lK st)::J) K'):=by
    rw [eC arU rfl]
    simp at h1
    simp [f69,h1]
   simp [lK] at h69 e1
   have hr:∀ (fr:Fr) (H:List HO),(E tab).C (.fg (.t 13) [14] (.region Es [5,6]) (.block 1 (.region CQ [])) [5,13]) [(5,.ptr st.heap.length 0),(13,.fn 69 [] [.ptr (st.heap.length+1) 0])] (pst st [.cells .plain [jU],.cells .plain [.str s]] [])=some (.normal,[(5,.ptr st.heap.length 0),(13,.fn 69 [] [.ptr (st.heap.length+1) 0])],pst st (.cells .plain [.list t' n'' tk' nn' ((eT s s.length 0).map Clu.dv)]::.cells .plain [.str s]::.loop { lK st with state:=3 }::J) K'):=by
    intro fr H
    rw [Bi (g:=69) (first:=[]) (captured:=[.ptr (st.heap.length+1) 0]) rfl arU]
    simp [h69,lK]
   simp [lK] at hr
   simp [f27,Bm,hw,h55,hr,lP,e1]
 · exact ⟨.tuple [.list 0 0 .no false [],.int .i64 (db s)],by simp [f27,Bm,hw],0,0,.no,false,by simp [hw],by simp,by simp [hw]⟩
theorem atN:tab 13=some (.code f13):=by kernel_rfl
theorem at4:tab 40=some (.code f40):=by kernel_rfl
theorem atX:tab 41=some (.code f41):=by kernel_rfl
theorem au1:tab 42=some (.code f42):=by kernel_rfl
theorem au4:tab 43=some (.code f43):=by kernel_rfl
theorem ao9:tab 44=some (.code f44):=by kernel_rfl
theorem apz:tab 61=some (.code f61):=by kernel_rfl
theorem avg:tab 62=some (.code f62):=by kernel_rfl
theorem alo:tab 64=some (.iZ ef):=by kernel_rfl
theorem asK:tab 72=some (.iZ eE):=by kernel_rfl
def fb (n a b:Int):Bool:=decide (a≤n∧n≤b)
structure bS where
 z:Int
 t:Int
 e:Int
 deriving DecidableEq
def bS.cs (c:bS):List DV:=[.int .i64 c.z,.int .i64 c.t,.int .i64 c.e]
def ez (c:bS):Bool:=fb c.z 0 64&&fb c.t 0 15&&fb c.e 0 1
theorem Xk (c:bS) (st:St):(E tab).F 62 [.agg c.cs] st=some (.bool (ez c),st):=by
 rw [aT avg rfl]
 by_cases h1:0≤c.z
 · by_cases h2:c.z≤64
   · by_cases h3:0≤c.t
     · by_cases h4:c.t≤15
       · by_cases h5:c.e=0
         · simp [f62,bS.cs,ez,fb,h1,h2,h3,h4,h5]
         · by_cases h6:c.e=1
           · simp [f62,bS.cs,ez,fb,h1,h2,h3,h4,h6]
           · simp [f62,bS.cs,ez,fb,h1,h2,h3,h4,h5,h6]
             rw [Bool.eq_iff_iff];simp;omega
       · simp [f62,bS.cs,ez,fb,h1,h2,h3,h4]
     · simp [f62,bS.cs,ez,fb,h1,h2,h3]
   · simp [f62,bS.cs,ez,fb,h1,h2]
 · simp [f62,bS.cs,ez,fb,h1]
structure dP where
 size:Int
 Av:Int
 align:Int
 first:Int
 inn:Int
 out:Int
 before:Int
 after:Int
 next:Int
 whole:Int
 uE:Int
 AQ:Int
 cb:Int
 least:Int
 drop:Int
 list:Int
 level:Int
 deriving DecidableEq
def dP.l (p:dP):List Int:=[p.size,p.Av,p.align,p.first,p.inn,p.out,p.before,p.after,p.next,p.whole,p.uE,p.AQ,p.cb,p.least,p.drop,p.list,p.level]
def dP.cs (p:dP):List DV:=[.int .i64 p.size,.int .i64 p.Av,.int .i64 p.align,.int .i64 p.first,.int .i64 p.inn,.int .i64 p.out,.int .i64 p.before,.int .i64 p.after,.int .i64 p.next,.int .i64 p.whole,.int .i64 p.uE,.int .i64 p.AQ,.int .i64 p.cb,.int .i64 p.least,.int .i64 p.drop,.int .i64 p.list,.int .i64 p.level]
def cH (p:dP):Bool:=fb p.size 1 64&&fb p.Av 1 255&&fb p.align 0 3&&fb p.first 0 255&&fb p.inn 0 255&&fb p.out 0 255&&fb p.before 0 255&&fb p.after 0 255&&fb p.next 0 1&&fb p.whole 0 1&&fb p.uE 1 4&&fb p.AQ 1 4&&fb p.cb 0 1&&fb p.least 0 1&&fb p.drop 0 4&&fb p.list 0 8&&fb p.level 0 3
def ku (ok:Nat→Bool):Nat→Nat→Bool
 | _,0=>true
 | i,k+1=>ok i&&ku ok (i+1) k
theorem atd (vs:List DV) (n lo hi:Nat→Int) (hv:∀ i,i<17→(vs.drop (i*3)).take 3=[.int .i64 (n i),.int .i64 (lo i),.int .i64 (hi i)]) (hl:vs.length=51) (st:St) (K:List Nat):∀ (k i:Nat) (H:List HO),i+k=17 →
 ∃ J,(E tab).C r7 [(56,.agg vs),(57,.int .i64 i)] (pst st H K) =
   some (if ku (fun j=>fb (n j) (lo j) (hi j)) i k then (.exit 0,[(56,.agg vs),(57,.int .i64 (17:Nat)),(58,.bool false)],pst st (H++J) K) else (.ret,[(2,.bool false)],pst st (H++J) K)):=by
 intro k
 induction k with
 | zero=>
   intro i H hi0
   obtain rfl:i=17:=by omega
   refine ⟨[],?_⟩
   rw [aj (L:=r7) rfl]
   simp [vI,ku]
 | succ k ih=>
   intro i H hi0
   have h0:(i:Int)<17:=by omega
   have hw:IntKind.i64.wrap ((i:Int)+1)=((i+1:Nat):Int):=by rw [aD (by omega)];simp
   have hx:=hv i (by omega)
   have hx2:i*3+3≤vs.length:=by omega
   by_cases h1:n i<lo i
   · refine ⟨[.cells .plain [.int .i64 (n i),.int .i64 (lo i),.int .i64 (hi i)]],?_⟩
     rw [aj (L:=r7) rfl]
     simp [vI,h0,hx,hx2,h1,ku,fb,show ¬ lo i≤n i by omega]
   by_cases h2:hi i<n i
   · refine ⟨[.cells .plain [.int .i64 (n i),.int .i64 (lo i),.int .i64 (hi i)]],?_⟩
     rw [aj (L:=r7) rfl]
     simp [vI,h0,hx,hx2,h1,h2,ku,fb,show ¬ n i≤hi i by omega]
   obtain ⟨J,hJ⟩:=ih (i+1) (H++[.cells .plain [.int .i64 (n i),.int .i64 (lo i),.int .i64 (hi i)]]) (by omega)
   refine ⟨.cells .plain [.int .i64 (n i),.int .i64 (lo i),.int .i64 (hi i)]::J,?_⟩
   have e1:fb (n i) (lo i) (hi i)=true:=by simp [fb];omega
   rw [aj (L:=r7) rfl]
   simp [e1,ku] at hJ ⊢
   simp [vI,h0,hx,hx2,h1,h2,hw,hJ]
theorem LH (p:dP) (st:St):(E tab).F 42 [.agg p.cs] st=some (.bool (cH p),st):=by
 rw [aT au1 rfl]
 obtain ⟨J,hJ⟩:=atd [.int .i64 p.size,.int .i64 1,.int .i64 64,.int .i64 p.Av,.int .i64 1,.int .i64 255,.int .i64 p.align,.int .i64 0,.int .i64 3,.int .i64 p.first,.int .i64 0,.int .i64 255,.int .i64 p.inn,.int .i64 0,.int .i64 255,.int .i64 p.out,.int .i64 0,.int .i64 255,.int .i64 p.before,.int .i64 0,.int .i64 255,.int .i64 p.after,.int .i64 0,.int .i64 255,.int .i64 p.next,.int .i64 0,.int .i64 1,.int .i64 p.whole,.int .i64 0,.int .i64 1,.int .i64 p.uE,.int .i64 1,.int .i64 4,.int .i64 p.AQ,.int .i64 1,.int .i64 4,.int .i64 p.cb,.int .i64 0,.int .i64 1,.int .i64 p.least,.int .i64 0,.int .i64 1,.int .i64 p.drop,.int .i64 0,.int .i64 4,.int .i64 p.list,.int .i64 0,.int .i64 8,.int .i64 p.level,.int .i64 0,.int .i64 3] (fun i=>p.l.getD i 0) (fun i=>([1,1,0,0,0,0,0,0,0,0,1,1,0,0,0,0,0]:List Int).getD i 0) (fun i=>([64,255,3,255,255,255,255,255,1,1,4,4,1,1,4,8,3]:List Int).getD i 0) (by
  intro i hi
  match i,hi with
  | 0,_=>rfl
  | 1,_=>rfl
  | 2,_=>rfl
  | 3,_=>rfl
  | 4,_=>rfl
  | 5,_=>rfl
  | 6,_=>rfl
  | 7,_=>rfl
  | 8,_=>rfl
  | 9,_=>rfl
  | 10,_=>rfl
  | 11,_=>rfl
  | 12,_=>rfl
  | 13,_=>rfl
  | 14,_=>rfl
  | 15,_=>rfl
  | 16,_=>rfl
  | k+17,h=>omega) rfl st [] 17 0 [.cells .plain p.cs] rfl
 have e:ku (fun j=>fb (p.l.getD j 0) (([1,1,0,0,0,0,0,0,0,0,1,1,0,0,0,0,0]:List Int).getD j 0) (([64,255,3,255,255,255,255,255,1,1,4,4,1,1,4,8,3]:List Int).getD j 0)) 0 17=cH p:=by
  simp [ku,cH,dP.l,Bool.and_assoc]
 rw [e] at hJ
 cases h:cH p<;>simp [h,dP.cs] at hJ<;>simp [f42,dP.cs,hJ]
def lH (c:UInt8):Bool:=decide (33≤c.toNat∧c.toNat≤126)
def dU (s:List UInt8) (n:Int):Bool:=s.all lH&&decide ((s.length:Int)≤n)
theorem aqg (s:List UInt8) (hs:s.length≤140737488355328) (x y:DV) (st:St) (cur:Nat):∀ (r d:List UInt8),s=d++r →
 (E tab).C A0 [(0,x),(1,y),(8,.list cur 1 .no true (s.map fun b=>.int .u8 b.toNat)),(9,.int .i64 s.length),(10,.int .i64 d.length)] st =
  some (if r.all lH then (.exit 0,[(0,x),(1,y),(8,.list cur 1 .no true (s.map fun b=>.int .u8 b.toNat)),(9,.int .i64 s.length),(10,.int .i64 s.length),(11,.bool false)],st) else (.ret,[(4,.bool false)],st)):=by
 intro r
 induction r with
 | nil=>
   intro d hd
   rw [aj (L:=A0) rfl]
   simp [vu,hd]
 | cons c r ih=>
   intro d hd
   have h0:d.length<s.length:=by simp [hd]
   have hw:IntKind.i64.wrap ((d.length:Int)+1)=((d++[c]).length:Nat):=by rw [aD (by omega)];simp
   have hg:s[d.length]=c:=by simp [hd]
   rw [aj (L:=A0) rfl]
   have hJ:=ih (d++[c]) (by simp [hd])
   by_cases h1:(c.toNat:Int)≤32
   · simp [vu,h0,hg,h1,lH,show ¬ 33≤c.toNat by omega]
   by_cases h2:(126:Int)<c.toNat
   · simp [vu,h0,hg,h1,h2,lH,show ¬ c.toNat≤126 by omega]
   have e1:lH c=true:=by simp [lH];omega
   simp [e1] at hJ ⊢
   simp [vu,h0,hg,h1,h2,hw,hJ]
theorem AO (s:List UInt8) (hs:s.length≤140737488355328) (n:Int) (st:St):(E tab).F 43 [.str s,.int .i64 n] st=some (.bool (dU s n),st):=by
 rw [aT au4 rfl]
 have h:=aqg s hs (.str s) (.int .i64 n) (pst st [] []) st.cur s [] rfl
 simp at h
 cases h2:s.all lH with
 | true=>
   rw [if_pos (by simpa using h2)] at h
   simp [f43,dU,h,h2]
 | false=>
   rw [if_neg (by simpa using h2)] at h
   simp [f43,dU,h,h2]
theorem pc {g:Nat} {p:List DV→St→Option (DV×St)} {args:List DV} {st:St} (h:tab g=some (.iZ p)):(E tab).F g args st=p args st:=by
 rw [EF]
 simp only [dH,h]
theorem A7 (s:List UInt8) (c:UInt8) (st:St):(E tab).F 40 [.str s,.int .u8 (c.toNat:Int)] st=some (.int .i64 (Lib.indexByte s c),st):=by
 have h72:∀ st,(E tab).F 72 [.str s,.int .u8 (c.toNat:Int)] st=some (.int .i64 (Lib.indexByte s c),st):=fun st=>by
  rw [pc asK];simp [eE]
 have h61:∀ st,(E tab).F 61 [.str s,.int .u8 (c.toNat:Int)] st=some (.int .i64 (Lib.indexByte s c),st):=fun st=>by
  rw [aT apz rfl];simp [f61,h72]
 rw [aT at4 rfl];simp [f40,h61]
theorem qP (c:UInt8):∀ s:List UInt8,0≤Lib.indexByte s c↔c∈s
 | []=>by simp [Lib.indexByte]
 | b::r=>by
   have:=qP c r
   have h1:=Lib.indexByte_ge r c
   unfold Lib.indexByte
   by_cases h:b=c
   · simp [h]
   · by_cases h2:c∈r
     · have:=this.2 h2
       simp [h,h2]
       split<;>omega
     · have h3:¬ 0≤Lib.indexByte r c:=fun h=>h2 (this.1 h)
       have h4:Lib.indexByte r c = -1:=by omega
       have h5:¬ c=b:=fun e=>h e.symm
       simp [h,h2,h4,h5]
theorem M9 (s:List UInt8) (st:St):(E tab).F 44 [.str s,.str [2]] st=some (.int .i64 (s.count 2),st):=by
 have h64:∀ st,(E tab).F 64 [.str s,.int .u8 2] st=some (.int .i64 (s.count 2),st):=fun st=>by
  rw [pc alo];simp [ef,Lib.countByte]
 rw [aT ao9 rfl]
 simp [f44,h64]
structure Span where
 n:Int
 c:bS
 deriving DecidableEq
def Span.cs (s:Span):List DV:=[.int .i64 s.n,.int .i64 s.c.z,.int .i64 s.c.t,.int .i64 s.c.e]
def Span.dv (s:Span):DV:=.agg s.cs
@[simp] theorem Span.leaves (s:Span):s.dv.leaves=s.cs:=rfl
def eW:Int→List Span→Option Int
 | n,[]=>some n
 | n,s::r=>if 1≤s.n∧s.n≤n∧ez s.c=true then eW (n-s.n) r else none
theorem aol (l:List Span) (t n':Nat) (tk:Tk) (nn:Bool) (hn:l≠[]→n'=4) (st:St) (K:List Nat):∀ (r d:List Span) (n:Int) (H:List HO),l=d++r→0≤n→(d.length:Int)+n≤4096 →
 ∃ J fr,(E tab).C p6 [(1,.int .i64 n),(7,.list t n' tk nn (l.map Span.dv)),(8,.int .i64 l.length),(9,.int .i64 d.length)] (pst st H K) =
   some (match eW n r with | some m=>(.exit 0,(1,.int .i64 m)::fr,pst st (H++J) K) | none=>(.ret,[(4,.bool false)],pst st (H++J) K)):=by
 intro r
 induction r with
 | nil=>
   intro d n H hd _ _
   refine ⟨[],[(7,.list t n' tk nn (l.map Span.dv)),(8,.int .i64 l.length),(9,.int .i64 l.length),(10,.bool false)],?_⟩
   rw [aj (L:=p6) rfl]
   simp [sT,hd,eW]
 | cons c r ih=>
   intro d n H hd h0 h1
   obtain rfl:n'=4:=hn (by simp [hd])
   have hl:d.length<l.length:=by simp [hd]
   have hg:l[d.length]=c:=by simp [hd]
   have hw:IntKind.i64.wrap ((d.length:Int)+1)=((d++[c]).length:Nat):=by rw [aD (by omega)];simp
   have h62:=fun st=>Xk c.c st
   simp only [bS.cs] at h62
   by_cases a1:c.n<1
   · refine ⟨[.cells .plain c.cs],[],?_⟩
     rw [aj (L:=p6) rfl]
     simp [sT,hl,hg,Span.cs,a1,eW,show ¬ 1≤c.n by omega]
   by_cases a2:n<c.n
   · refine ⟨[.cells .plain c.cs],[],?_⟩
     rw [aj (L:=p6) rfl]
     simp [sT,hl,hg,Span.cs,a1,a2,eW,show ¬ c.n≤n by omega]
   cases a3:ez c.c with
   | false=>
     refine ⟨[.cells .plain c.cs],[],?_⟩
     rw [aj (L:=p6) rfl]
     simp [sT,hl,hg,Span.cs,a1,a2,a3,h62,eW]
   | true=>
     obtain ⟨J,fr,hJ⟩:=ih (d++[c]) (n-c.n) (H++[.cells .plain c.cs]) (by simp [hd]) (by omega) (by simp;omega)
     refine ⟨.cells .plain c.cs::J,fr,?_⟩
     have hw2:IntKind.i64.wrap (n-c.n)=n-c.n:=aD (by omega)
     rw [aj (L:=p6) rfl]
     simp [eW,a3,show 1≤c.n∧c.n≤n by omega,Span.cs] at hJ ⊢
     simp [sT,hl,hg,Span.cs,a1,a2,a3,h62,hw,hw2,hJ]
def dX (n:Int) (l:List Span):Bool:=eW n l==some 0
theorem Ni (l:List Span) (t n':Nat) (tk:Tk) (nn:Bool) (hn:l≠[]→n'=4) (n:Int) (h0:0≤n) (h1:n≤4096) (st:St) :
 (E tab).F 41 [.list t n' tk nn (l.map Span.dv),.int .i64 n] st=some (.bool (dX n l),st):=by
 rw [aT atX rfl]
 obtain ⟨J,fr,h⟩:=aol l t n' tk nn hn st [] l [] n [] rfl h0 (by simpa using h1)
 simp at h
 cases hm:eW n l with
 | none=>
   rw [hm] at h
   simp [f41,h,dX,hm]
 | some m=>
   rw [hm] at h
   simp [f41,h,dX,hm]
structure LW where
 t:Nat
 n:Nat
 tk:Tk
 nn:Bool
def LW.dv (w:LW) (xs:List DV):DV:=.list w.t w.n w.tk w.nn xs
def LW.ok {α:Type} (w:LW) (n:Nat) (xs:List α):Prop:=(w.nn=true→w.n=n)∧(w.nn=false→xs=[])
theorem LW.ok.n {α:Type} {w:LW} {n:Nat} {xs:List α} (h:w.ok n xs) (hx:xs≠[]):w.n=n:=by
 cases e:w.nn with
 | true=>exact h.1 e
 | false=>exact absurd (h.2 e) hx
structure bq where
 text:List UInt8
 aV:List Span
 pr:dP
 label:List UInt8
 marks:List (List UInt8)
def av (p:bq) (w u:LW):List DV:=.str p.text::w.dv (p.aV.map Span.dv)::(p.pr.cs++[.str p.label,u.dv (p.marks.map .str)])
@[simp high] theorem pc0 (p:bq) (w u:LW):(av p w u)[0]? = some (.str p.text):=rfl
@[simp high] theorem pc1 (p:bq) (w u:LW):(av p w u)[1]? = some (.list w.t w.n w.tk w.nn (p.aV.map Span.dv)):=rfl
@[simp high] theorem pc2 (p:bq) (w u:LW):(av p w u)[2]? = some (.int .i64 p.pr.size):=rfl
@[simp high] theorem avv (p:bq) (w u:LW):(av p w u)[19]? = some (.str p.label):=rfl
@[simp high] theorem avs (p:bq) (w u:LW):(av p w u)[20]? = some (.list u.t u.n u.tk u.nn (p.marks.map .str)):=rfl
@[simp] theorem pcl (p:bq) (w u:LW):(av p w u).length=21:=rfl
@[simp] theorem pcP (p:bq) (w u:LW):((av p w u).drop 2).take 17=p.pr.cs:=rfl
@[simp] theorem pcA (p:bq) (w u:LW):(av p w u).take 21=av p w u:=rfl
@[simp high] theorem pcS (p:bq) (w u:LW):(av p w u).all DV.bg=true:=rfl
def iE (m:List UInt8):Bool:=!(m==[])&&dU m 8
def aI (p:bq):Int:=
 if db p.text=0 then
  if (3:UInt8)∈p.text then 4
  else if dX p.text.length p.aV&&cH p.pr&&dU p.label 16&&decide (p.marks.length=p.text.count 2) then (if p.marks.all iE then 0 else 2)
  else 2
 else db p.text
def bq.small (p:bq):Prop:=p.label.length≤140737488355328∧p.marks.length≤140737488355328∧∀ m∈p.marks,m.length≤140737488355328
theorem amb (l:List (List UInt8)) (hs:l.length≤140737488355328) (hm:∀ m∈l,m.length≤140737488355328) (u:LW) (hn:l≠[]→u.n=1) (st:St):∀ (r d:List (List UInt8)),l=d++r →
 (E tab).C Ah [(49,.list u.t u.n u.tk u.nn (l.map .str)),(50,.int .i64 l.length),(51,.int .i64 d.length)] st =
  some (if r.all iE then (.exit 0,[(49,.list u.t u.n u.tk u.nn (l.map .str)),(50,.int .i64 l.length),(51,.int .i64 l.length),(52,.bool false)],st) else (.ret,[(2,.int .i64 2)],st)):=by
 intro r
 induction r with
 | nil=>
   intro d hd
   rw [aj (L:=Ah) rfl]
   simp [xq,hd]
 | cons c r ih=>
   intro d hd
   have hu:=hn (by simp [hd])
   have h0:d.length<l.length:=by simp [hd]
   have hw:IntKind.i64.wrap ((d.length:Int)+1)=((d++[c]).length:Nat):=by rw [aD (by omega)];simp
   have hg:l[d.length]=c:=by simp [hd]
   have h43:=fun st=>AO c (hm c (by simp [hd])) 8 st
   rw [aj (L:=Ah) rfl]
   have hJ:=ih (d++[c]) (by simp [hd])
   by_cases h1:c=[]
   · simp [xq,h0,hg,hu,h1,iE]
   cases h2:dU c 8 with
   | false=>simp [xq,h0,hg,hu,h1,h2,h43,iE]
   | true=>
     simp [iE,h1,h2,hu] at hJ ⊢
     simp [xq,h0,hg,h1,h2,h43,hw,hJ]
theorem Am (p:bq) (hp:p.small) (w u:LW) (hw:w.ok 4 p.aV) (hu:u.ok 1 p.marks) (st:St):(E tab).F 13 [.agg (av p w u)] st=some (.int .i64 (aI p),st):=by
 rw [aT atN rfl]
 obtain ⟨v,hv,t,n',tk,nn,rfl,_⟩:=Bh p.text (pst st [.cells .plain (av p w u)] [])
 by_cases h1:db p.text=0
 · rw [h1] at hv
   obtain ⟨hlen,_⟩:=fH h1
   by_cases h2:(3:UInt8)∈p.text
   · have h2':=(qP 3 p.text).2 h2
     have h40:=fun st=>A7 p.text 3 st
     simp at h40
     simp [f13,aI,h1,hv,h2,h40,h2']
   have h2':¬ 0≤Lib.indexByte p.text 3:=fun h=>h2 ((qP 3 p.text).1 h)
   have h40:=fun st=>A7 p.text 3 st
   simp at h40
   have h41:=fun st=>Ni p.aV w.t w.n w.tk w.nn hw.n p.text.length (by omega) (by omega) st
   have h42:=fun st=>LH p.pr st
   have h43:=fun st=>AO p.label hp.1 16 st
   have h44:=fun st=>M9 p.text st
   cases a1:dX p.text.length p.aV
   · simp [f13,aI,h1,hv,h2,h40,h2',h41,a1]
   cases a2:cH p.pr
   · simp [f13,aI,h1,hv,h2,h40,h2',h41,h42,a1,a2]
   cases a3:dU p.label 16
   · simp [f13,aI,h1,hv,h2,h40,h2',h41,h42,h43,a1,a2,a3]
   by_cases a4:p.marks.length=p.text.count 2
   · have a4':(p.marks.length:Int)=p.text.count 2:=by omega
     have h13:=amb p.marks hp.2.1 hp.2.2 u hu.n (pst st [.cells .plain (av p w u)] []) p.marks [] rfl
     simp [a4] at h13
     by_cases a5:∀ x∈p.marks,iE x=true
     · rw [if_pos a5] at h13
       simp [f13,aI,h1,hv,h2,h40,h2',h41,h42,h43,h44,a1,a2,a3,a4,h13]
       exact a5
     · rw [if_neg a5] at h13
       simp [f13,aI,h1,hv,h2,h40,h2',h41,h42,h43,h44,a1,a2,a3,a4,h13]
       simpa using a5
   · have a4':¬ (p.marks.length:Int)=p.text.count 2:=by omega
     simp [f13,aI,h1,hv,h2,h40,h2',h41,h42,h43,h44,a1,a2,a3,a4,a4']
 · simp [f13,aI,h1,hv]
theorem auF:tab 10=some (.code f10):=by kernel_rfl
theorem aut:tab 29=some (.code f29):=by kernel_rfl
theorem auU:tab 56=some (.code f56):=by kernel_rfl
def cZ:Int→List Span→Int→Option bS
 | _,[],_=>none
 | e,s::r,i=>if i<e+s.n then some s.c else cZ (e+s.n) r i
def qg:bS:=⟨0,0,0⟩
def bK (l:List Span) (i:Int):bS:=(cZ 0 l i).getD qg
def gQ:List Span→Int
 | []=>0
 | s::r=>s.n+gQ r
def oZ (l:List Span):Prop:=∀ s∈l,1≤s.n∧ez s.c=true
theorem kW:∀ (r:List Span) (n m:Int),eW n r=some m→oZ r∧gQ r=n-m
 | [],n,m,e=>by
   simp [eW] at e
   exact ⟨fun s hs=>(by cases hs),by simp [gQ];omega⟩
 | s::r,n,m,e=>by
   simp only [eW] at e
   split at e
   · rename_i h
     obtain ⟨h1,h2⟩:=kW r _ m e
     refine ⟨fun x hx => ?_,by simp [gQ];omega⟩
     rcases List.mem_cons.1 hx with rfl | hx
     · exact ⟨h.1,h.2.2⟩
     · exact h1 x hx
   · cases e
theorem th:∀ {l:List Span},oZ l→(l.length:Int)≤gQ l
 | [],_=>by simp [gQ]
 | s::r,h=>by
   have:=th (l:=r) fun x hx=>h x (List.mem_cons_of_mem _ hx)
   have:=(h s (List.mem_cons_self ..)).1
   simp [gQ];omega
def sizeOf (p:bq) (i:Int):Int:=if (bK p.aV i).z=0 then p.pr.size else (bK p.aV i).z
def bw (k:Int):Bool:=k==1||k==2
theorem aqe (x0:HO) (i:Int) (w:LW) (st:St) (K:List Nat) (J:List HO):∀ (r:List Span) (s:Span) (e:Int) (tk:Tk),oZ (s::r)→0≤e→e+gQ (s::r)≤4096→e≤i→i<e+gQ (s::r) →
 ∃ e' s' r' tk' fr,(E tab).C xR [(0,.int .i64 i),(1,.ptr (st.heap.length+1) 0),(2,.ptr (st.heap.length+2) 0),(4,.ptr (st.heap.length+(J.length+3)) 0)] (pst st (x0::.cells .plain [.list w.t 4 tk true ((s::r).map Span.dv)]::.cells .plain [.int .i64 (e+s.n)]::(J++[.cells .plain qg.cs])) K) =
   some (.exit 0,(0,.int .i64 i)::(1,.ptr (st.heap.length+1) 0)::(2,.ptr (st.heap.length+2) 0)::(4,.ptr (st.heap.length+(J.length+3)) 0)::fr,pst st (x0::.cells .plain [.list w.t 4 tk' true ((s'::r').map Span.dv)]::.cells .plain [.int .i64 (e'+s'.n)]::(J++[.cells .plain qg.cs])) K) ∧
   oZ (s'::r')∧e≤e'∧e'+gQ (s'::r')=e+gQ (s::r)∧e'≤i∧i<e'+s'.n∧(∀ j,i≤j→cZ e (s::r) j=cZ e' (s'::r') j):=by
 intro r
 induction r with
 | nil=>
   intro s e tk h1 h2 h3 h4 h5
   refine ⟨e,s,[],tk,[(12,.bool false)],?_,h1,Int.le_refl _,rfl,h4,by simpa [gQ] using h5,fun _ _=>rfl⟩
   rw [aj (L:=xR) rfl]
   simp [z8]
 | cons c r ih=>
   intro s e tk h1 h2 h3 h4 h5
   by_cases a:e+s.n≤i
   · have hc:oZ (c::r):=fun x hx=>h1 x (List.mem_cons_of_mem _ hx)
     have hs:=(h1 s (List.mem_cons_self ..)).1
     have hg:=th hc
     simp only [gQ] at h3 h5 hg
     have hcn:=(hc c (List.mem_cons_self ..)).1
     simp only [List.length_cons] at hg
     have hw2:IntKind.i64.wrap (e+s.n+c.n)=e+s.n+c.n:=aD (by have:=th (l:=r) (fun x hx=>hc x (List.mem_cons_of_mem _ hx));omega)
     obtain ⟨e',s',r',tk',fr,k1,k2,k3,k4,k5,k6,k7⟩:=ih c (e+s.n) (rG tk (r.length+2) 1 (r.length+2)) hc (by omega) (by simp only [gQ];omega) a (by simp only [gQ];omega)
     refine ⟨e',s',r',tk',fr,?_,k2,by omega,?_,k5,k6,fun j hj => ?_⟩
     · rw [aj (L:=xR) rfl]
       have hsl:bY false 4 (.list w.t 4 tk true (s.dv::c.dv::r.map Span.dv)) (some (.int .i64 1)) none none=_:=o9 (fun _=>rfl) (by omega) (by simp;omega)
       simp [qg,bS.cs] at k1 hsl ⊢
       simp [z8,a,hsl,hw2,Span.cs,k1,show (1:Int)<r.length+1+1 by omega]
     · rw [k4];simp only [gQ];omega
     · rw [← k7 j hj]
       simp only [cZ]
       rw [if_neg (by omega)]
   · refine ⟨e,s,c::r,tk,[(12,.bool false)],?_,h1,Int.le_refl _,rfl,h4,by omega,fun _ _=>rfl⟩
     rw [aj (L:=xR) rfl]
     simp [z8,a,show (1:Int)<r.length+1+1 by omega]
structure I1 (l:List Span) (i:Int) (e:Int) (s:Span) (r:List Span):Prop where
 ok:oZ (s::r)
 e0:0≤e
 ei:e≤i
 sum:e+gQ (s::r)=gQ l
 same:∀ j,i≤j→cZ 0 l j=cZ e (s::r) j
theorem aju (l:List Span) (x0:HO) (i:Int) (w:LW) (st:St) (K:List Nat) (J:List HO) (r:List Span) (s:Span) (e i0:Int) (tk:Tk) (h:I1 l i0 e s r) (hi:i0≤i) (h3:gQ l≤4096) (h5:i<gQ l) :
 ∃ e' s' r' tk',(E tab).F 56 [.int .i64 i,.ptr (st.heap.length+1) 0,.ptr (st.heap.length+2) 0] (pst st (x0::.cells .plain [.list w.t 4 tk true ((s::r).map Span.dv)]::.cells .plain [.int .i64 (e+s.n)]::J) K) =
   some (.agg (bK l i).cs,pst st (x0::.cells .plain [.list w.t 4 tk' true ((s'::r').map Span.dv)]::.cells .plain [.int .i64 (e'+s'.n)]::(J++[.cells .plain (bK l i).cs])) K)∧I1 l i e' s' r':=by
 obtain ⟨e',s',r',tk',fr,k1,k2,k3,k4,k5,k6,k7⟩:=aqe x0 i w st K J r s e tk h.ok h.e0 (by have:=h.sum;omega) (by have:=h.ei;omega) (by have:=h.sum;omega)
 have hlk:bK l i=s'.c:=by
  unfold bK
  rw [h.same i hi,k7 i (Int.le_refl _)]
  simp [cZ,k6]
 refine ⟨e',s',r',tk',?_,k2,by have:=h.e0;omega,k5,by rw [k4];exact h.sum,fun j hj=>by rw [h.same j (by omega),k7 j hj]⟩
 rw [eC auU rfl,hlk]
 simp [qg,bS.cs] at k1 ⊢
 simp [f56,k1,Span.cs]
def pQ:List Span→Int
 | []=>0
 | s::_=>s.n
theorem MU (x0:HO) (w:LW) (l:List Span) (hw:w.ok 4 l) (st:St) (K:List Nat):(E tab).F 29 [.list w.t w.n w.tk w.nn (l.map Span.dv)] (pst st [x0] K) =
 some (.fn 56 [] [.ptr (st.heap.length+1) 0,.ptr (st.heap.length+2) 0],pst st [x0,.cells .plain [.list w.t w.n w.tk w.nn (l.map Span.dv)],.cells .plain [.int .i64 (pQ l)]] K):=by
 rw [eC aut rfl]
 cases l with
 | nil=>simp [f29,pQ]
 | cons s r=>
   have:=hw.n (by simp)
   simp [f29,this,pQ,Span.cs,show (0:Int)<r.length+1 by omega]
theorem ny (p:bq) (hp:cH p.pr=true) (h1:oZ p.aV) (i:Int):1≤sizeOf p i∧sizeOf p i≤64∧0≤(bK p.aV i).t∧(bK p.aV i).t≤15:=by
 have hs:1≤p.pr.size∧p.pr.size≤64:=by
  simp only [cH,Bool.and_eq_true,fb,decide_eq_true_eq] at hp
  omega
 have:∀ (l:List Span) (e:Int),oZ l→ez ((cZ e l i).getD qg)=true:=by
  intro l
  induction l with
  | nil=>intro e _;rfl
  | cons s r ih=>
    intro e h
    simp only [cZ]
    split
    · exact (h s (List.mem_cons_self ..)).2
    · exact ih _ fun x hx=>h x (List.mem_cons_of_mem _ hx)
 have:=this p.aV 0 h1
 change ez (bK p.aV i)=true at this
 simp only [ez,Bool.and_eq_true,fb,decide_eq_true_eq] at this
 unfold sizeOf
 split<;>omega
def bAt (s:List UInt8) (i:Nat):UInt8:=s.getD i 0
def mB (p:bq) (mk:List (List UInt8)) (c:Clu):Int:=
 if bw c.k||c.k==3 then IntKind.i64.wrap (wd (bAt p.text c.a) (sizeOf p c.a)+(bK p.aV c.a).t)
 else if c.k=7 then tw (sizeOf p c.a) 0 (mk.headD []) else 0
def bN (p:bq) (kr:Bool) (bf:UInt8) (ps:Int) (c:Clu):Int:=
 if bw c.k&&(bK p.aV c.a).e==1&&kr&&ps==sizeOf p c.a then j3 bf (bAt p.text c.a) (sizeOf p c.a) else 0
def aY (p:bq) (kr:Bool) (bf:UInt8) (ps:Int) (mk:List (List UInt8)) (c:Clu):ak:=⟨c.a,c.b,c.k,sizeOf p c.a,mB p mk c,bN p kr bf ps c⟩
def gS (p:bq) (c:Clu):Bool:=bw c.k&&(bK p.aV c.a).e==1
def oW (mk:List (List UInt8)) (c:Clu):List (List UInt8):=if c.k=7 then mk.tail else mk
def dq (p:bq):Bool→UInt8→Int→List (List UInt8)→List Clu→List ak
 | _,_,_,_,[]=>[]
 | kr,bf,ps,mk,c::r=>aY p kr bf ps mk c::dq p (gS p c) (bAt p.text c.a) (sizeOf p c.a) (oW mk c) r
def qT (p:bq):List ak:=dq p false 0 0 p.marks (lP p.text)
theorem ase (x0 x1 x2 x3:HO) (J:List HO) (K:List Nat) (st:St) (p:bq) (c:Clu) (mk:List (List UInt8)) (u:LW) (tk:Tk) (hu:c.k=7→mk≠[]) (hn:mk≠[]→u.n=1∧u.nn=true) (hm:∀ m∈mk,m.length≤4096) (y1 y7 y9 y10 y11 y34 y35 y36:DV) :
 ∃ tk' fr,(E tab).C s5 [(1,y1),(7,y7),(8,.list u.t u.n tk u.nn (mk.map .str)),(9,y9),(10,y10),(11,y11),(13,.ptr (st.heap.length+(J.length+3)) 0),(14,.ptr (st.heap.length+(J.length+5)) 0),(15,.ptr (st.heap.length+(J.length+6)) 0),(16,.int .u8 (bAt p.text c.a).toNat),(17,.bool (bw c.k)),(34,y34),(35,y35),(36,y36)]
   (pst st (x0::x1::x2::(J++[.cells .plain c.cs,x3,.cells .plain (bK p.aV c.a).cs,.cells .plain [.int .i64 c.a,.int .i64 c.b,.int .i64 c.k,.int .i64 (sizeOf p c.a),.int .i64 0,.int .i64 0]])) K) =
   some (.normal,[(1,y1),(7,y7),(8,.list u.t u.n tk' u.nn ((oW mk c).map .str)),(9,y9),(10,y10),(11,y11),(14,.ptr (st.heap.length+(J.length+5)) 0),(15,.ptr (st.heap.length+(J.length+6)) 0),(16,.int .u8 (bAt p.text c.a).toNat),(17,.bool (bw c.k)),(34,y34),(35,y35),(36,y36)]++fr,
    pst st (x0::x1::x2::(J++[.cells .plain c.cs,x3,.cells .plain (bK p.aV c.a).cs,.cells .plain [.int .i64 c.a,.int .i64 c.b,.int .i64 c.k,.int .i64 (sizeOf p c.a),.int .i64 (mB p mk c),.int .i64 0]])) K):=by
 have h30:=fun st=>wj (bAt p.text c.a) (sizeOf p c.a) st
 by_cases h1:bw c.k=true
 · refine ⟨tk,[],?_⟩
   have h7:¬ c.k=7:=by intro h;rw [h] at h1;cases h1
   simp [s5,Clu.cs,bS.cs,h1,h30,mB,oW,h7]
 · have h1':bw c.k=false:=by simpa using h1
   by_cases h3:c.k=3
   · refine ⟨tk,[],?_⟩
     simp [s5,Clu.cs,bS.cs,show bw 3=false from rfl,h3,h30,mB,oW]
   · by_cases h7:c.k=7
     · have hne:=hu h7
       obtain ⟨hn1,hn2⟩:=hn hne
       match mk,hne with
       | m::ms,_=>
         have h31:=fun st=>vB m (hm m (List.mem_cons_self ..)) (sizeOf p c.a) st
         have hsl:bY false 1 (.list u.t 1 tk true (.str m::ms.map .str)) (some (.int .i64 1)) none none=_:=o9 (fun _=>rfl) (by omega) (by simp;omega)
         refine ⟨rG tk (ms.length+1) 1 (ms.length+1),[],?_⟩
         simp at hsl
         simp [s5,Clu.cs,bS.cs,show bw 7=false from rfl,h7,h31,mB,oW,hn1,hn2,hsl]
     · refine ⟨tk,[(88,.bool false)],?_⟩
       simp [s5,Clu.cs,bS.cs,h1',h3,h7,mB,oW]
def AE (s:List UInt8):Nat→List Clu→Prop
 | _,[]=>True
 | i,c::r=>i≤c.a∧c.a<s.length∧AE s c.a r
def u9 (l:List Clu):Nat:=(l.filter fun c=>c.k==7).length
theorem vL {mk:List (List UInt8)} {c:Clu} {r:List Clu} (h:mk.length=u9 (c::r)):(oW mk c).length=u9 r∧(c.k=7→mk≠[]):=by
 unfold u9 at h ⊢
 unfold oW
 by_cases h7:c.k=7
 · simp [h7] at h ⊢
   refine ⟨by omega,fun e=>by simp [e] at h⟩
 · simp [h7] at h ⊢
   exact h
theorem vY {mk:List (List UInt8)} {c:Clu} {m:List UInt8} (h:m∈oW mk c):m∈mk:=by
 unfold oW at h
 split at h
 · exact List.mem_of_mem_tail h
 · exact h
def H10 (p:bq) (w u:LW) (tk:Tk) (s:Span) (sp:List Span) (e:Int) (J:List HO):List HO:=
 .cells .plain (av p w u)::.cells .plain [.list w.t 4 tk true ((s::sp).map Span.dv)]::.cells .plain [.int .i64 (e+s.n)]::J
set_option maxHeartbeats 8000000 in
theorem alT (p:bq) (w u:LW) (hpr:cH p.pr=true) (hSp:oZ p.aV) (hsum:gQ p.aV=p.text.length) (hlen:p.text.length≤4096) (cs:List Clu) (hcs:cs.length≤4096) (ct cn:Nat) (ctk:Tk) (cnn:Bool) (hcn:cs≠[]→cn=3) (st:St) :
 ∀ (r d:List Clu) (J:List HO) (K:List Nat) (xs:List ak) (kr:Bool) (bf:UInt8) (ps:Int) (mk:List (List UInt8)) (tk tk2:Tk) (s:Span) (sp:List Span) (e:Int) (i0:Nat) (v:DV),
 cs=d++r→AE p.text i0 r→I1 p.aV i0 e s sp→Acc st K 6 (xs.map ak.dv) v→xs.length=d.length→(kr=true→∃ ys m,xs=ys++[m]∧m.s=ps)→mk.length=u9 r→(∀ m∈mk,m.length≤4096)→(mk≠[]→u.n=1∧u.nn=true) →
 ∃ v' H' K' y8 fr,(E tab).C wA [(1,.ptr st.heap.length 0),(7,.fn 56 [] [.ptr (st.heap.length+1) 0,.ptr (st.heap.length+2) 0]),(8,.list u.t u.n tk u.nn (mk.map .str)),(9,v),(10,.bool kr),(11,.int .u8 bf.toNat),(34,.list ct cn ctk cnn (cs.map Clu.dv)),(35,.int .i64 cs.length),(36,.int .i64 d.length)]
  (pst st (H10 p w u tk2 s sp e J) K) =
  some (.exit 0,(1,.ptr st.heap.length 0)::(7,.fn 56 [] [.ptr (st.heap.length+1) 0,.ptr (st.heap.length+2) 0])::(8,y8)::(9,v')::fr,pst st H' K')∧Acc st K' 6 ((xs++dq p kr bf ps mk r).map ak.dv) v':=by
 intro r
 induction r with
 | nil=>
   intro d J K xs kr bf ps mk tk tk2 s sp e i0 v hd _ _ hA _ _ _ _ _
   refine ⟨v,H10 p w u tk2 s sp e J,K,.list u.t u.n tk u.nn (mk.map .str),[(10,.bool kr),(11,.int .u8 bf.toNat),(34,.list ct cn ctk cnn (cs.map Clu.dv)),(35,.int .i64 cs.length),(36,.int .i64 cs.length),(37,.bool false)],?_,by simpa [dq] using hA⟩
   rw [aj (L:=wA) rfl]
   simp [dN,hd]
 | cons c r ih=>
   intro d J K xs kr bf ps mk tk tk2 s sp e i0 v hd hC hL hA hxl hkr hmk hml hmn
   obtain ⟨c1,c2,c3⟩:=hC
   obtain rfl:cn=3:=hcn (by simp [hd])
   have h0:d.length<cs.length:=by simp [hd]
   have hw:IntKind.i64.wrap ((d.length:Int)+1)=((d++[c]).length:Nat):=by rw [aD (by omega)];simp
   have hg:cs[d.length]=c:=by simp [hd]
   obtain ⟨e',s',sp',tk2',h56,hL'⟩:=aju p.aV (.cells .plain (av p w u)) c.a w st K (J++[.cells .plain c.cs]) sp s e i0 tk2 hL (by omega) (by omega) (by omega)
   have hsz:=ny p hpr hSp c.a
   have hb:p.text[c.a]? = some (bAt p.text c.a):=z2 c2
   obtain ⟨tk',fr',hK⟩:=ase (.cells .plain (av p w u)) (.cells .plain [.list w.t 4 tk2' true ((s'::sp').map Span.dv)]) (.cells .plain [.int .i64 (e'+s'.n)]) (.cells .plain (bK p.aV c.a).cs) J K st p c mk u tk (vL hmk).2 hmn hml
    (.ptr st.heap.length 0) (.fn 56 [] [.ptr (st.heap.length+1) 0,.ptr (st.heap.length+2) 0]) v (.bool kr) (.int .u8 bf.toNat) (.list ct 3 ctk cnn (cs.map Clu.dv)) (.int .i64 cs.length) (.int .i64 d.length)
   have h32:=fun st=>zR bf (bAt p.text c.a) (sizeOf p c.a) ⟨hsz.1,hsz.2.1⟩ st
   obtain ⟨v2,K2,e2,hA2⟩:=fy (H:=.cells .plain (av p w u)::.cells .plain [.list w.t 4 tk2' true ((s'::sp').map Span.dv)]::.cells .plain [.int .i64 (e'+s'.n)]::(J++[.cells .plain c.cs,.cells .plain (bK p.aV c.a).cs,.cells .plain (bK p.aV c.a).cs,.cells .plain (aY p kr bf ps mk c).cs]))
    (t:=st.cur) (by_:=48) (ag:=true) (tk:=.tight) (ys:=[(aY p kr bf ps mk c).dv]) hA (by omega) (by simp) (by simp [Hw]) (by simp [aA];omega) (by simp [aA];omega)
   obtain ⟨v3,H3,K3,y8,fr,e3,hA3⟩:=ih (d++[c]) (J++[.cells .plain c.cs,.cells .plain (bK p.aV c.a).cs,.cells .plain (bK p.aV c.a).cs,.cells .plain (aY p kr bf ps mk c).cs]) K2 (xs++[aY p kr bf ps mk c]) (gS p c) (bAt p.text c.a) (sizeOf p c.a) (oW mk c) tk' tk2' s' sp' e' c.a v2
    (by simp [hd]) c3 hL' (by simpa using hA2) (by simp [hxl]) (fun _=>⟨xs,_,rfl,rfl⟩) (vL hmk).1 (fun m hm=>hml m (vY hm)) (fun hne=>hmn fun h=>hne (by rw [h];unfold oW;split<;>rfl))
   refine ⟨v3,H3,K3,y8,fr,?_,by simpa [dq] using hA3⟩
   obtain ⟨vt,vn,vtk,vnn,rfl⟩:=dS hA
   rw [aj (L:=wA) rfl]
   unfold H10 at e3 ⊢
   by_cases hz:(bK p.aV c.a).z=0
   · have hq:p.pr.size=sizeOf p c.a:=by simp [sizeOf,hz]
     by_cases q1:c.k=1
     · have k1:bw c.k=true:=by rw [q1];rfl
       by_cases k2:(bK p.aV c.a).e=1
       · have hk:gS p c=true:=by simp [gS,k1,k2]
         cases kr with
         | false=>
           have hE:bN p false bf ps c=0:=by simp [bN]
           simp [ak.dv,ak.cs,aY,Clu.cs,Clu.dv,bS.cs,hz,hq,show bw 1=true from rfl,q1,k1,k2,hk,hE] at e2 e3 hK h56 ⊢
           simp [dN,dF,ak.dv,ak.cs,aY,Clu.cs,Clu.dv,bS.cs,h0,hg,hw,hb,h56,hK,h32,a0,bk,chunk,e2,e3,hz,hq,show bw 1=true from rfl,q1,k1,k2,hk,hE]
         | true=>
           obtain ⟨ys,m0,rfl,rfl⟩:=hkr rfl
           obtain ⟨rfl,rfl⟩:vn=6∧vnn=true:=by
            rcases hA with ⟨h,_⟩ | ⟨k,q,h,_⟩
            · simp at h
            · injection h with _ h2 _ h4;exact ⟨h2,h4⟩
           simp only [List.map_append,List.map_cons,List.map_nil] at e2 hK h56
           have hyl:IntKind.i64.wrap (ys.length:Int)=ys.length:=aD (by simp at hxl;omega)
           by_cases k3:m0.s=sizeOf p c.a
           · have hE:bN p true bf (sizeOf p c.a) c=j3 bf (bAt p.text c.a) (sizeOf p c.a):=by simp [bN,k1,k2]
             simp [ak.dv,ak.cs,aY,Clu.cs,Clu.dv,bS.cs,hz,hq,show bw 1=true from rfl,q1,k1,k2,hk,hE,k3,hyl] at e2 e3 hK h56 ⊢
             simp [dN,dF,ak.dv,ak.cs,aY,Clu.cs,Clu.dv,bS.cs,h0,hg,hw,hb,h56,hK,h32,a0,bk,chunk,e2,e3,hz,hq,show bw 1=true from rfl,q1,k1,k2,hk,hE,k3,hyl]
           · have hE:bN p true bf m0.s c=0:=by simp [bN,k3]
             simp [ak.dv,ak.cs,aY,Clu.cs,Clu.dv,bS.cs,hz,hq,show bw 1=true from rfl,q1,k1,k2,hk,hE,k3,hyl] at e2 e3 hK h56 ⊢
             simp [dN,dF,ak.dv,ak.cs,aY,Clu.cs,Clu.dv,bS.cs,h0,hg,hw,hb,h56,hK,h32,a0,bk,chunk,e2,e3,hz,hq,show bw 1=true from rfl,q1,k1,k2,hk,hE,k3,hyl]
       · have k2':((bK p.aV c.a).e==1)=false:=by simp [k2]
         have hE:bN p kr bf ps c=0:=by simp [bN,k2]
         have hk:gS p c=false:=by simp [gS,k2]
         simp [ak.dv,ak.cs,aY,Clu.cs,Clu.dv,bS.cs,hz,hq,show bw 1=true from rfl,q1,k1,k2,k2',hk,hE] at e2 e3 hK h56 ⊢
         simp [dN,dF,ak.dv,ak.cs,aY,Clu.cs,Clu.dv,bS.cs,h0,hg,hw,hb,h56,hK,h32,a0,bk,chunk,e2,e3,hz,hq,show bw 1=true from rfl,q1,k1,k2,k2',hk,hE]
     by_cases q2:c.k=2
     · have k1:bw c.k=true:=by rw [q2];rfl
       by_cases k2:(bK p.aV c.a).e=1
       · have hk:gS p c=true:=by simp [gS,k1,k2]
         cases kr with
         | false=>
           have hE:bN p false bf ps c=0:=by simp [bN]
           simp [ak.dv,ak.cs,aY,Clu.cs,Clu.dv,bS.cs,hz,hq,show bw 2=true from rfl,q2,k1,k2,hk,hE] at e2 e3 hK h56 ⊢
           simp [dN,dF,ak.dv,ak.cs,aY,Clu.cs,Clu.dv,bS.cs,h0,hg,hw,hb,h56,hK,h32,a0,bk,chunk,e2,e3,hz,hq,show bw 2=true from rfl,q2,k1,k2,hk,hE]
         | true=>
           obtain ⟨ys,m0,rfl,rfl⟩:=hkr rfl
           obtain ⟨rfl,rfl⟩:vn=6∧vnn=true:=by
            rcases hA with ⟨h,_⟩ | ⟨k,q,h,_⟩
            · simp at h
            · injection h with _ h2 _ h4;exact ⟨h2,h4⟩
           simp only [List.map_append,List.map_cons,List.map_nil] at e2 hK h56
           have hyl:IntKind.i64.wrap (ys.length:Int)=ys.length:=aD (by simp at hxl;omega)
           by_cases k3:m0.s=sizeOf p c.a
           · have hE:bN p true bf (sizeOf p c.a) c=j3 bf (bAt p.text c.a) (sizeOf p c.a):=by simp [bN,k1,k2]
             simp [ak.dv,ak.cs,aY,Clu.cs,Clu.dv,bS.cs,hz,hq,show bw 2=true from rfl,q2,k1,k2,hk,hE,k3,hyl] at e2 e3 hK h56 ⊢
             simp [dN,dF,ak.dv,ak.cs,aY,Clu.cs,Clu.dv,bS.cs,h0,hg,hw,hb,h56,hK,h32,a0,bk,chunk,e2,e3,hz,hq,show bw 2=true from rfl,q2,k1,k2,hk,hE,k3,hyl]
           · have hE:bN p true bf m0.s c=0:=by simp [bN,k3]
             simp [ak.dv,ak.cs,aY,Clu.cs,Clu.dv,bS.cs,hz,hq,show bw 2=true from rfl,q2,k1,k2,hk,hE,k3,hyl] at e2 e3 hK h56 ⊢
             simp [dN,dF,ak.dv,ak.cs,aY,Clu.cs,Clu.dv,bS.cs,h0,hg,hw,hb,h56,hK,h32,a0,bk,chunk,e2,e3,hz,hq,show bw 2=true from rfl,q2,k1,k2,hk,hE,k3,hyl]
       · have k2':((bK p.aV c.a).e==1)=false:=by simp [k2]
         have hE:bN p kr bf ps c=0:=by simp [bN,k2]
         have hk:gS p c=false:=by simp [gS,k2]
         simp [ak.dv,ak.cs,aY,Clu.cs,Clu.dv,bS.cs,hz,hq,show bw 2=true from rfl,q2,k1,k2,k2',hk,hE] at e2 e3 hK h56 ⊢
         simp [dN,dF,ak.dv,ak.cs,aY,Clu.cs,Clu.dv,bS.cs,h0,hg,hw,hb,h56,hK,h32,a0,bk,chunk,e2,e3,hz,hq,show bw 2=true from rfl,q2,k1,k2,k2',hk,hE]
     have k1':bw c.k=false:=by simp [bw,q1,q2]
     have hE:bN p kr bf ps c=0:=by simp [bN,k1']
     have hk:gS p c=false:=by simp [gS,k1']
     simp [ak.dv,ak.cs,aY,Clu.cs,Clu.dv,bS.cs,hz,hq,q1,q2,k1',hk,hE,show (c.k==2)=false by simp [q2]] at e2 e3 hK h56 ⊢
     simp [dN,dF,ak.dv,ak.cs,aY,Clu.cs,Clu.dv,bS.cs,h0,hg,hw,hb,h56,hK,h32,a0,bk,chunk,e2,e3,hz,hq,q1,q2,k1',hk,hE,show (c.k==2)=false by simp [q2]]
   · have hq:(bK p.aV c.a).z=sizeOf p c.a:=by simp [sizeOf,hz]
     have hz':¬ sizeOf p c.a=0:=by omega
     by_cases q1:c.k=1
     · have k1:bw c.k=true:=by rw [q1];rfl
       by_cases k2:(bK p.aV c.a).e=1
       · have hk:gS p c=true:=by simp [gS,k1,k2]
         cases kr with
         | false=>
           have hE:bN p false bf ps c=0:=by simp [bN]
           simp [ak.dv,ak.cs,aY,Clu.cs,Clu.dv,bS.cs,hz',hq,show bw 1=true from rfl,q1,k1,k2,hk,hE] at e2 e3 hK h56 ⊢
           simp [dN,dF,ak.dv,ak.cs,aY,Clu.cs,Clu.dv,bS.cs,h0,hg,hw,hb,h56,hK,h32,a0,bk,chunk,e2,e3,hz',hq,show bw 1=true from rfl,q1,k1,k2,hk,hE]
         | true=>
           obtain ⟨ys,m0,rfl,rfl⟩:=hkr rfl
           obtain ⟨rfl,rfl⟩:vn=6∧vnn=true:=by
            rcases hA with ⟨h,_⟩ | ⟨k,q,h,_⟩
            · simp at h
            · injection h with _ h2 _ h4;exact ⟨h2,h4⟩
           simp only [List.map_append,List.map_cons,List.map_nil] at e2 hK h56
           have hyl:IntKind.i64.wrap (ys.length:Int)=ys.length:=aD (by simp at hxl;omega)
           by_cases k3:m0.s=sizeOf p c.a
           · have hE:bN p true bf (sizeOf p c.a) c=j3 bf (bAt p.text c.a) (sizeOf p c.a):=by simp [bN,k1,k2]
             simp [ak.dv,ak.cs,aY,Clu.cs,Clu.dv,bS.cs,hz',hq,show bw 1=true from rfl,q1,k1,k2,hk,hE,k3,hyl] at e2 e3 hK h56 ⊢
             simp [dN,dF,ak.dv,ak.cs,aY,Clu.cs,Clu.dv,bS.cs,h0,hg,hw,hb,h56,hK,h32,a0,bk,chunk,e2,e3,hz',hq,show bw 1=true from rfl,q1,k1,k2,hk,hE,k3,hyl]
           · have hE:bN p true bf m0.s c=0:=by simp [bN,k3]
             simp [ak.dv,ak.cs,aY,Clu.cs,Clu.dv,bS.cs,hz',hq,show bw 1=true from rfl,q1,k1,k2,hk,hE,k3,hyl] at e2 e3 hK h56 ⊢
             simp [dN,dF,ak.dv,ak.cs,aY,Clu.cs,Clu.dv,bS.cs,h0,hg,hw,hb,h56,hK,h32,a0,bk,chunk,e2,e3,hz',hq,show bw 1=true from rfl,q1,k1,k2,hk,hE,k3,hyl]
       · have k2':((bK p.aV c.a).e==1)=false:=by simp [k2]
         have hE:bN p kr bf ps c=0:=by simp [bN,k2]
         have hk:gS p c=false:=by simp [gS,k2]
         simp [ak.dv,ak.cs,aY,Clu.cs,Clu.dv,bS.cs,hz',hq,show bw 1=true from rfl,q1,k1,k2,k2',hk,hE] at e2 e3 hK h56 ⊢
         simp [dN,dF,ak.dv,ak.cs,aY,Clu.cs,Clu.dv,bS.cs,h0,hg,hw,hb,h56,hK,h32,a0,bk,chunk,e2,e3,hz',hq,show bw 1=true from rfl,q1,k1,k2,k2',hk,hE]
     by_cases q2:c.k=2
     · have k1:bw c.k=true:=by rw [q2];rfl
       by_cases k2:(bK p.aV c.a).e=1
       · have hk:gS p c=true:=by simp [gS,k1,k2]
         cases kr with
         | false=>
           have hE:bN p false bf ps c=0:=by simp [bN]
           simp [ak.dv,ak.cs,aY,Clu.cs,Clu.dv,bS.cs,hz',hq,show bw 2=true from rfl,q2,k1,k2,hk,hE] at e2 e3 hK h56 ⊢
           simp [dN,dF,ak.dv,ak.cs,aY,Clu.cs,Clu.dv,bS.cs,h0,hg,hw,hb,h56,hK,h32,a0,bk,chunk,e2,e3,hz',hq,show bw 2=true from rfl,q2,k1,k2,hk,hE]
         | true=>
           obtain ⟨ys,m0,rfl,rfl⟩:=hkr rfl
           obtain ⟨rfl,rfl⟩:vn=6∧vnn=true:=by
            rcases hA with ⟨h,_⟩ | ⟨k,q,h,_⟩
            · simp at h
            · injection h with _ h2 _ h4;exact ⟨h2,h4⟩
           simp only [List.map_append,List.map_cons,List.map_nil] at e2 hK h56
           have hyl:IntKind.i64.wrap (ys.length:Int)=ys.length:=aD (by simp at hxl;omega)
           by_cases k3:m0.s=sizeOf p c.a
           · have hE:bN p true bf (sizeOf p c.a) c=j3 bf (bAt p.text c.a) (sizeOf p c.a):=by simp [bN,k1,k2]
             simp [ak.dv,ak.cs,aY,Clu.cs,Clu.dv,bS.cs,hz',hq,show bw 2=true from rfl,q2,k1,k2,hk,hE,k3,hyl] at e2 e3 hK h56 ⊢
             simp [dN,dF,ak.dv,ak.cs,aY,Clu.cs,Clu.dv,bS.cs,h0,hg,hw,hb,h56,hK,h32,a0,bk,chunk,e2,e3,hz',hq,show bw 2=true from rfl,q2,k1,k2,hk,hE,k3,hyl]
           · have hE:bN p true bf m0.s c=0:=by simp [bN,k3]
             simp [ak.dv,ak.cs,aY,Clu.cs,Clu.dv,bS.cs,hz',hq,show bw 2=true from rfl,q2,k1,k2,hk,hE,k3,hyl] at e2 e3 hK h56 ⊢
             simp [dN,dF,ak.dv,ak.cs,aY,Clu.cs,Clu.dv,bS.cs,h0,hg,hw,hb,h56,hK,h32,a0,bk,chunk,e2,e3,hz',hq,show bw 2=true from rfl,q2,k1,k2,hk,hE,k3,hyl]
       · have k2':((bK p.aV c.a).e==1)=false:=by simp [k2]
         have hE:bN p kr bf ps c=0:=by simp [bN,k2]
         have hk:gS p c=false:=by simp [gS,k2]
         simp [ak.dv,ak.cs,aY,Clu.cs,Clu.dv,bS.cs,hz',hq,show bw 2=true from rfl,q2,k1,k2,k2',hk,hE] at e2 e3 hK h56 ⊢
         simp [dN,dF,ak.dv,ak.cs,aY,Clu.cs,Clu.dv,bS.cs,h0,hg,hw,hb,h56,hK,h32,a0,bk,chunk,e2,e3,hz',hq,show bw 2=true from rfl,q2,k1,k2,k2',hk,hE]
     have k1':bw c.k=false:=by simp [bw,q1,q2]
     have hE:bN p kr bf ps c=0:=by simp [bN,k1']
     have hk:gS p c=false:=by simp [gS,k1']
     simp [ak.dv,ak.cs,aY,Clu.cs,Clu.dv,bS.cs,hz',hq,q1,q2,k1',hk,hE,show (c.k==2)=false by simp [q2]] at e2 e3 hK h56 ⊢
     simp [dN,dF,ak.dv,ak.cs,aY,Clu.cs,Clu.dv,bS.cs,h0,hg,hw,hb,h56,hK,h32,a0,bk,chunk,e2,e3,hz',hq,q1,q2,k1',hk,hE,show (c.k==2)=false by simp [q2]]
theorem di {p:bq} (h:aI p=0):db p.text=0∧¬ (3:UInt8)∈p.text∧dX p.text.length p.aV=true∧cH p.pr=true∧dU p.label 16=true∧p.marks.length=p.text.count 2∧∀ m∈p.marks,iE m=true:=by
 unfold aI at h
 by_cases h1:db p.text=0
 · rw [if_pos h1] at h
   by_cases h2:(3:UInt8)∈p.text
   · rw [if_pos h2] at h;simp at h
   rw [if_neg h2] at h
   by_cases h3:(dX p.text.length p.aV&&cH p.pr&&dU p.label 16&&decide (p.marks.length=p.text.count 2))=true
   · rw [if_pos h3] at h
     simp only [Bool.and_eq_true,decide_eq_true_eq] at h3
     by_cases h4:p.marks.all iE=true
     · exact ⟨h1,h2,h3.1.1.1,h3.1.1.2,h3.1.2,h3.2,List.all_eq_true.1 h4⟩
     · rw [if_neg h4] at h;simp at h
   · rw [if_neg h3] at h;simp at h
 · rw [if_neg h1] at h;exact absurd h h1
theorem l6 (s:List UInt8):∀ (n i:Nat),AE s i (eT s n i)∧(eT s n i).length≤n
 | 0,i=>⟨trivial,Nat.le_refl _⟩
 | n+1,i=>by
   unfold eT
   split
   · rename_i h
     have ih:=l6 s n (cTo s i)
     have h1:i≤cTo s i:=by have:=(qy s (kG s i) 2 (i+1)).1;unfold cTo;omega
     refine ⟨⟨Nat.le_refl _,h,?_⟩,by simp;exact ih.2⟩
     revert ih
     cases eT s n (cTo s i) with
     | nil=>intro _;trivial
     | cons c r=>intro ih;exact ⟨Nat.le_trans h1 ih.1.1,ih.1.2⟩
   · exact ⟨trivial,by simp⟩
theorem kd7:((List.range 256).all fun c=>(kd c==7)==(c==2))=true:=by decide +kernel
theorem C9 (c:UInt8):kd c.toNat=7↔c=2:=by
 have:=List.all_eq_true.1 kd7 c.toNat (List.mem_range.2 c.toNat_lt)
 rw [beq_iff_eq,Bool.eq_iff_iff,beq_iff_eq,beq_iff_eq] at this
 rw [this]
 exact ⟨fun h=>UInt8.toNat_inj.1 h,fun h=>by rw [h];rfl⟩
theorem sh (s:List UInt8) (k:Int):∀ n t,(s.drop (adv s k n t)).count 2=(s.drop t).count 2
 | 0,t=>rfl
 | n+1,t=>by
   unfold adv
   split
   · rename_i h
     rw [sh s k n (t+1)]
     have h1:=List.drop_eq_getElem_cons h.2.1
     have h2:s[t]≠2:=by
      intro e
      have h3:=h.2.2
      simp [h.2.1,e] at h3
      exact absurd h3 (by decide)
     rw [h1,List.count_cons]
     simp [h2]
   · rfl
theorem p3 (s:List UInt8):∀ (n i:Nat),s.length≤i+n→u9 (eT s n i)=(s.drop i).count 2
 | 0,i,h=>by
   have:s.drop i=[]:=List.drop_eq_nil_of_le (by omega)
   simp [eT,u9,this]
 | n+1,i,h=>by
   unfold eT
   split
   · rename_i hi
     have h1:i+1≤cTo s i:=(qy s (kG s i) 2 (i+1)).1
     have ih:=p3 s n (cTo s i) (by omega)
     have h2:=List.drop_eq_getElem_cons hi
     unfold u9 at ih ⊢
     rw [h2,List.count_cons]
     have h3:(s.drop (cTo s i)).count 2=(s.drop (i+1)).count 2:=sh s _ 2 (i+1)
     rw [← h3,← ih]
     have h4:kG s i=7↔s[i]=2:=by
      have:=C9 s[i]
      simp only [kG]
      rw [show s.getD i 0=s[i] by simp [hi]]
      exact this
     by_cases h5:s[i]=2
     · simp [h4.2 h5,h5]
     · have h6:¬ kG s i=7:=fun h=>h5 (h4.1 h)
       simp [h6,h5]
   · rename_i hi
     have:s.drop i=[]:=List.drop_eq_nil_of_le (by omega)
     simp [u9,this]
def aH (p:bq):List ak:=if aI p=0 then qT p else []
def OJ (p:bq) (v:DV):Prop:=∃ w:LW,v=.tuple [.list w.t w.n w.tk w.nn ((aH p).map ak.dv),.int .i64 (aI p)]∧w.ok 6 (aH p)
theorem C3 {p:bq} {v:DV} (t n':Nat) (tk:Tk) (nn:Bool) (h:v=.tuple [.list t n' tk nn ((aH p).map ak.dv),.int .i64 (aI p)]) (h2:nn=true→n'=6) (h3:nn=false→(aH p).map ak.dv=[]):OJ p v:=
 ⟨⟨t,n',tk,nn⟩,h,h2,fun e=>by simpa using h3 e⟩
theorem vz (p:bq) (hp:p.small) (w u:LW) (hw:w.ok 4 p.aV) (hu:u.ok 1 p.marks) (st:St) :
 ∃ v fr H K,(E tab).C f10.body (bz [.agg (av p w u)] 0) (pst st [] [])=some (.ret,(2,v)::(3,.int .i64 (aI p))::fr,pst st H K)∧Acc st K 6 ((aH p).map ak.dv) v:=by
 have h13:=fun st=>Am p hp w u hw hu st
 by_cases hc:aI p=0
 · obtain ⟨h1,h2,h3,h4,h5,h6,h7⟩:=di hc
   obtain ⟨hlen,_⟩:=fH h1
   obtain ⟨hS,hsum⟩:=kW p.aV p.text.length 0 (by simpa [dX] using h3)
   obtain ⟨v27,e27,t,n',tk,nn,rfl,hn1,hn2⟩:=Bh p.text (pst st [.cells .plain (av p w u)] [])
   simp only [h1,if_true] at e27 hn2
   have h29:=MU (.cells .plain (av p w u)) w p.aV hw st []
   by_cases he:p.text=[]
   · have hcl:lP p.text=[]:=by rw [he];rfl
     have hml:aH p=[]:=by simp [aH,qT,hcl,dq]
     rw [hcl] at e27
     refine ⟨jU,[],[.cells .plain (av p w u),.cells .plain [.list w.t w.n w.tk w.nn (p.aV.map Span.dv)],.cells .plain [.int .i64 (pQ p.aV)]],[],?_,by rw [hml];exact dW _ _ _ _ _ _⟩
     simp at e27
     simp [f10,h13,hc,e27,h29,aj (L:=wA) rfl,dN]
   · have hne:p.aV≠[]:=by
      intro h
      rw [h] at hsum
      have:0<p.text.length:=List.length_pos_iff.2 he
      simp [gQ] at hsum
      omega
     match hps:p.aV,hne with
     | s::sp,_=>
       obtain ⟨hw4,hwt⟩:w.n=4∧w.nn=true:=by
        have:=hw.n (by rw [hps];simp)
        refine ⟨this,?_⟩
        cases e:w.nn with
        | true=>rfl
        | false=>have:=hw.2 e;rw [hps] at this;cases this
       have hcs:=l6 p.text p.text.length 0
       have hL:I1 p.aV (0:Nat) 0 s sp:=⟨by rw [← hps];exact hS,by simp,by simp,by rw [hps];omega,fun j _=>by rw [hps]⟩
       obtain ⟨v',H',K',y8,fr,e10,hA⟩:=alT p w u h4 hS (by omega) hlen (lP p.text) (by have:=hcs.2;unfold lP;omega) t n' tk nn (fun h=>hn1 (by cases nn with | true=>rfl | false=>exact absurd (hn2 rfl) h)) st
        (lP p.text) [] [] [] [] false 0 0 p.marks u.tk w.tk s sp 0 0 jU rfl hcs.1 hL (dW _ _ _ _ _ _) rfl (by simp) (by rw [h6,show u9 (lP p.text)=_ from p3 p.text p.text.length 0 (by omega)];simp)
        (fun m hm=>by have:=h7 m hm;simp [iE,dU] at this;omega) (fun h=>⟨hu.n h,by cases e:u.nn with | true=>rfl | false=>exact absurd (hu.2 e) h⟩)
       have hml:aH p=dq p false 0 0 p.marks (lP p.text):=by simp [aH,hc,qT]
       refine ⟨v',[],H',K',?_,by rw [hml];simpa using hA⟩
       simp [H10,hw4,hwt] at e10
       simp [hps,hw4,hwt,pQ] at h29
       simp [f10,h13,hc,e27,hps,hw4,hwt,h29,e10]
 · have hml:aH p=[]:=by simp [aH,hc]
   refine ⟨jU,[],[.cells .plain (av p w u)],[],?_,by rw [hml];exact dW _ _ _ _ _ _⟩
   simp [f10,h13,hc]
theorem wP (p:bq) (hp:p.small) (w u:LW) (hw:w.ok 4 p.aV) (hu:u.ok 1 p.marks) (st:St):∃ v,(E tab).F 10 [.agg (av p w u)] st=some (v,st)∧OJ p v:=by
 obtain ⟨v,fr,H,K,h1,h2⟩:=vz p hp w u hw hu st
 obtain ⟨t9,n9,tk9,nn9,e9,g2,g3,g4⟩:=qC (st':=pst st H K) h2
 obtain ⟨t8,n8,tk8,nn8,rfl⟩:=dS h2
 refine ⟨.tuple [.list t9 n9 tk9 nn9 ((aH p).map ak.dv),.int .i64 (aI p)],?_,C3 t9 n9 tk9 nn9 rfl g3 g2⟩
 rw [aT auF rfl,h1]
 simp at e9
 simp [f10,e9]
def apV (s:List UInt8) (l:List Clu):Prop:=∀ c∈l,c.a<s.length
theorem wS {s:List UInt8}:∀ {l:List Clu} {i:Nat},AE s i l→apV s l
 | [],_,_=>fun c h=>by cases h
 | c::r,i,h=>fun x hx=>by
   rcases List.mem_cons.1 hx with rfl | hx
   · exact h.2.1
   · exact wS h.2.2 x hx
theorem Bd {α:Type} {f:α→DV}:∀ {xs:List DV},(∀ x∈xs,∃ a,x=f a)→∃ l:List α,xs=l.map f
 | [],_=>⟨[],rfl⟩
 | x::r,h=>by
   obtain ⟨a,rfl⟩:=h x (List.mem_cons_self ..)
   obtain ⟨l,rfl⟩:=Bd fun y hy=>h y (List.mem_cons_of_mem _ hy)
   exact ⟨a::l,rfl⟩
theorem em8:(emL.all fun e=>decide (e≤8))=true:=by decide +kernel
theorem asY (c:Nat):0≤em c∧em c≤8:=by
 unfold em
 have:emL.getD c 0≤8:=by
  rw [List.getD_eq_getElem?_getD]
  cases h:emL[c]? with
  | none=>simp
  | some e=>
    have:=List.all_eq_true.1 em8 e (List.mem_of_getElem? h)
    simpa using this
 constructor
 · exact Int.natCast_nonneg _
 · show ((emL.getD c 0:Nat):Int)≤8
   omega
theorem qh (c:UInt8) {n:Int} (h1:1≤n) (h2:n≤64):0≤wd c n∧wd c n≤64∧wd c n=em c.toNat*n/8:=by
 have he:=asY c.toNat
 have h3:em c.toNat*n≤8*64:=Int.mul_le_mul he.2 h2 (by omega) (by omega)
 have h4:0≤em c.toNat*n:=Int.mul_nonneg he.1 (by omega)
 unfold wd
 rw [aD (n:=em c.toNat*n) (by omega),IntWalk.i64_quo _ _ (by omega)]
 omega
theorem Ok {n:Int} (h1:1≤n) (h2:n≤64):∀ (s:List UInt8) (a:Int),0≤a→a+64*s.length≤1000000→a≤tw n a s∧tw n a s≤a+64*s.length
 | [],a,_,_=>by simp [tw]
 | c::r,a,h3,h4=>by
   have hw:=qh c h1 h2
   simp only [List.length_cons] at h4
   have e:IntKind.i64.wrap (a+wd c n)=a+wd c n:=aD (by omega)
   have:=Ok h1 h2 r (a+wd c n) (by omega) (by omega)
   rw [tw,e]
   simp only [List.length_cons]
   omega
theorem JP (a b:UInt8) {n:Int} (h1:1≤n) (h2:n≤64):-8≤j3 a b n∧j3 a b n≤0:=by
 unfold j3
 split
 · omega
 · split<;>omega
theorem B0 (p:bq) (hpr:cH p.pr=true) (hSp:oZ p.aV) (kr:Bool) (bf:UInt8) (ps:Int) (mk:List (List UInt8)) (hm:∀ m∈mk,m.length≤8) (c:Clu):okM (aY p kr bf ps mk c)=true:=by
 have hs:=ny p hpr hSp c.a
 have h1:0≤mB p mk c∧mB p mk c≤4095:=by
  unfold mB
  split
  · have:=qh (bAt p.text c.a) hs.1 hs.2.1
    rw [aD (by omega)]
    omega
  · split
    · have h8:(mk.headD []).length≤8:=by
       cases mk with
       | nil=>simp
       | cons m r=>exact hm m (List.mem_cons_self ..)
      have:=Ok hs.1 hs.2.1 (mk.headD []) 0 (by omega) (by omega)
      omega
    · omega
 have h2:-64≤bN p kr bf ps c∧bN p kr bf ps c≤0:=by
  unfold bN
  split
  · have:=JP bf (bAt p.text c.a) hs.1 hs.2.1
    omega
  · omega
 simp [okM,aY,h1,h2]
theorem sO (p:bq) (hpr:cH p.pr=true) (hSp:oZ p.aV):∀ (l:List Clu) (kr:Bool) (bf:UInt8) (ps:Int) (mk:List (List UInt8)),(∀ m∈mk,m.length≤8)→(dq p kr bf ps mk l).all okM=true
 | [],_,_,_,_,_=>rfl
 | c::r,kr,bf,ps,mk,hm=>by
   simp only [dq,List.all_cons,Bool.and_eq_true]
   exact ⟨B0 p hpr hSp kr bf ps mk hm c,sO p hpr hSp r _ _ _ _ fun m h=>hm m (vY h)⟩
theorem EG (p:bq):(aH p).all okM=true:=by
 unfold aH
 split
 · rename_i hc
   obtain ⟨h1,h2,h3,h4,h5,h6,h7⟩:=di hc
   obtain ⟨hS,hsum⟩:=kW p.aV p.text.length 0 (by simpa [dX] using h3)
   refine sO p h4 hS _ _ _ _ _ fun m hm => ?_
   have:=h7 m hm
   simp [iE,dU] at this
   omega
 · rfl
theorem rh (p:bq):∀ (l:List Clu) (kr:Bool) (bf:UInt8) (ps:Int) (mk:List (List UInt8)),(dq p kr bf ps mk l).map (fun m=>(m.a,m.b,m.k))=l.map fun c=>((c.a:Int),(c.b:Int),c.k)
 | [],_,_,_,_=>rfl
 | c::r,kr,bf,ps,mk=>by
   simp only [dq,List.map_cons,rh p r]
   rfl
theorem Bu (p:bq):(aH p).length≤4096:=by
 unfold aH
 split
 · rename_i hc
   have h1:=congrArg List.length (rh p (lP p.text) false 0 0 p.marks)
   simp at h1
   have h2:=(l6 p.text p.text.length 0).2
   obtain ⟨h3,_⟩:=di hc
   have:=(fH h3).1
   unfold qT
   rw [h1]
   unfold lP
   omega
 · simp
theorem IX {L:List ak} (hL:L.length≤4096) (hok:L.all okM=true) (x y:Nat) (hx:x≤y) (hy:y≤L.length):u0 L x y=.tuple [.int .i64 (jX true 0 ((L.drop x).take (y-x))),.int .i64 0]:=by
 unfold u0
 rw [if_neg (by omega),if_neg (by rw [hok];simp),if_pos (by omega)]
 simp
def Ac (st:St) (K:List Nat) (n:Nat) (xs:List DV) (v:DV):Option Nat→Prop
 | none=>xs=[]∧∃ t n' tk,v=.list t n' tk false []
 | some k=>∃ s,v=.list st.cur n (.own (st.aW.length+k) s) true xs∧K[k]? = some s
theorem Ac.acc {st:St} {K:List Nat} {n:Nat} {xs:List DV} {v:DV}:∀ {o:Option Nat},Ac st K n xs v o→Acc st K n xs v
 | none,h=>.inl h
 | some k,⟨s,h1,h2⟩=>.inr ⟨k,s,h1,h2⟩
theorem uH {st:St} {H:List HO} {K:List Nat} {n by_:Nat} {ag:Bool} {xs ys:List DV} {v w:DV} {o:Option Nat} (h:Ac st K n xs v o) (hw:Vw (pst st H K) n ag ys w) (hn:0<n) (hy:ys≠[]) (he:∀ y∈ys,cX n ag y)
 (hr:(xs.length+ys.length)*by_≤aA) (hr2:xs.length+ys.length≤aA) :
 ∃ v' K' k,bd (pst st H K) n ag by_ v w=some (v',pst st H K')∧Ac st K' n (xs++ys) v' (some k)∧(o=some k∨o=none∧k=K.length)∧∀ j,j≠k→j<K.length→K'[j]? = K[j]?:=by
 have hcong:bd (pst st H K) n ag by_ v w=bd (pst st H K) n ag by_ v (.list 0 n .no true ys):=by
  have e1:=hw.news
  have e2:bP (pst st H K) n (.list 0 n .no true ys)=some (ys.length,flat ys):=by simp [bP]
  unfold bd
  rw [e1,e2]
 rw [hcong]
 cases o with
 | none=>
   obtain ⟨rfl,t,n',tk,rfl⟩:=h
   exact ⟨_,_,K.length,o8 (.inl rfl) hn hy he hr hr2,⟨0,rfl,by simp⟩,.inr ⟨rfl,rfl⟩,fun j _ hj=>List.getElem?_append_left hj⟩
 | some k=>
   obtain ⟨s,rfl,hk⟩:=h
   have hlt:=(List.getElem?_eq_some_iff.1 hk).1
   exact ⟨_,_,k,uZ hk hn hy he hr hr2,⟨s+1,rfl,by simp [hlt]⟩,.inl rfl,fun j hj _=>List.getElem?_set_ne (fun e=>hj e.symm)⟩
theorem Ac.stay {st:St} {K K':List Nat} {n:Nat} {xs:List DV} {v:DV} {o:Option Nat} {k:Nat} (h:Ac st K n xs v o) (ho:o≠some k) (hk:∀ j,j≠k→j<K.length→K'[j]? = K[j]?):Ac st K' n xs v o:=by
 cases o with
 | none=>exact h
 | some j=>
   obtain ⟨s,h1,h2⟩:=h
   exact ⟨s,h1,by rw [hk j (fun e=>ho (by rw [e])) (List.getElem?_eq_some_iff.1 h2).1];exact h2⟩
end Go.D.Tab
end
section
set_option linter.unusedSimpArgs false
set_option linter.unusedVariables false
set_option linter.unnecessarySimpa false
namespace Go.D.Tab
theorem EH {st:St} {H:List HO} {K:List Nat} {n by_:Nat} {ag:Bool} {xs ys:List DV} {v w:DV} (h:Acc st K n xs v) (hw:Vw (pst st H K) n ag ys w) (hn:0<n) (hy:ys≠[]) (he:∀ y∈ys,cX n ag y)
 (hr:(xs.length+ys.length)*by_≤aA) (hr2:xs.length+ys.length≤aA) :
 ∃ v' K',bd (pst st H K) n ag by_ v w=some (v',pst st H K')∧Acc st K' n (xs++ys) v':=by
 obtain ⟨v',K',h1,h2⟩:=fy (H:=H) (t:=0) (tk:=.no) h hn hy he hr hr2
 refine ⟨v',K',?_,h2⟩
 rw [← h1]
 have e1:=hw.news
 have e2:bP (pst st H K) n (.list 0 n .no true ys)=some (ys.length,flat ys):=by simp [bP]
 unfold bd
 rw [e1,e2]
def isS (c:UInt8):Bool:=decide (97≤c.toNat)&&decide (c.toNat≤122)
def isD (c:UInt8):Bool:=decide (48≤c.toNat)&&decide (c.toNat≤57)
def u8 (c:UInt8):DV:=.int .u8 c.toNat
def d8 (d:Nat):DV:=.int .u8 d
theorem amc:tab 161=some (.code f161):=by kernel_rfl
theorem amC:tab 163=some (.code f163):=by kernel_rfl
theorem Bf:tab 156=some (.code f156):=by kernel_rfl
theorem rl (c:UInt8) (st:St):(E tab).F 161 [.int .u8 c.toNat] st=some (.bool (isS c),st):=by
 rw [aT amc rfl]
 by_cases h:97≤c.toNat
 · have h':(97:Int)≤c.toNat:=by omega
   simp [f161,isS,h,h'];omega
 · have h':¬ (97:Int)≤c.toNat:=by omega
   simp [f161,isS,h,h']
theorem FI (c:UInt8) (st:St):(E tab).F 163 [.int .u8 c.toNat] st=some (.bool (isD c),st):=by
 rw [aT amC rfl]
 by_cases h:48≤c.toNat
 · have h':(48:Int)≤c.toNat:=by omega
   simp [f163,isD,h,h'];omega
 · have h':¬ (48:Int)≤c.toNat:=by omega
   simp [f163,isD,h,h']
def cF (s:List UInt8):List UInt8:=s.filter fun c => !isD c
def dh:Nat→List UInt8→List Nat
 | d,[]=>[d]
 | d,c::r=>if isD c then dh (c.toNat-48) r else d::dh 0 r
theorem j9:∀ (s:List UInt8) (d:Nat),(dh d s).length=(cF s).length+1
 | [],_=>rfl
 | c::r,d=>by
   have ih:=j9 r
   by_cases h:isD c=true
   · simp [dh,cF,h] at ih ⊢;exact ih _
   · simp [dh,cF,h] at ih ⊢;exact ih _
theorem vC:∀ (s:List UInt8) (d:Nat) (c:UInt8),isD c=true→dh d (s++[c])=(dh d s).set (cF s).length (c.toNat-48)
 | [],d,c,h=>by simp [dh,cF,h]
 | x::r,d,c,h=>by
   have ih:=vC r
   by_cases hx:isD x=true
   · simp [dh,cF,hx] at ih ⊢;exact ih _ _ h
   · simp [dh,cF,hx] at ih ⊢;exact ih _ _ h
theorem vR:∀ (s:List UInt8) (d:Nat) (c:UInt8),isD c=false→dh d (s++[c])=dh d s++[0]
 | [],d,c,h=>by simp [dh,h]
 | x::r,d,c,h=>by
   have ih:=vR r
   by_cases hx:isD x=true
   · simp [dh,hx] at ih ⊢;exact ih _ _ h
   · simp [dh,hx] at ih ⊢;exact ih _ _ h
theorem N9 (s:List UInt8) (c:UInt8) (h:isD c=true):cF (s++[c])=cF s:=by simp [cF,h]
theorem Gb (s:List UInt8) (c:UInt8) (h:isD c=false):cF (s++[c])=cF s++[c]:=by simp [cF,h]
def scan (n:Nat):Nat→Bool→Bool→List UInt8→Option Bool
 | _,sm,_,[]=>some sm
 | i,sm,rd,c::r=>
   if c.toNat=46 then if i≠0∧i+1≠n then none else scan n (i+1) sm true r
   else if isS c then scan n (i+1) true true r
   else if isD c&&rd then scan n (i+1) sm false r
   else none
inductive DgR (st:St) (H:List HO) (D:List Nat):DV→Prop
 | one (k:Nat) (h1:k≠1) (hr:rowAt H k=some (.plain,D.map d8)) (hl:D.length=1):DgR st H D (.hsl 1 false (st.heap.length+k) 0 D.length (some D.length))
 | more (k:Nat) (h1:k≠1) (hr:rowAt H k=some (.grown,D.map d8)):DgR st H D (.hsl 1 false (st.heap.length+k) 0 D.length none)
theorem DgR.len {st:St} {H:List HO} {D:List Nat} {v:DV} (h:DgR st H D v) (st':St):oY st' .slice v=some (.int .i64 D.length,st'):=by cases h<;>rfl
theorem DgR.app {st:St} {H:List HO} {D:List Nat} {v:DV} (h:DgR st H D v) (X:List HO):DgR st (H++X) D v:=by
 cases h with
 | one k h1 hr hl=>exact .one k h1 (by rw [fk (aZ hr)];exact hr) hl
 | more k h1 hr=>exact .more k h1 (by rw [fk (aZ hr)];exact hr)
theorem DgR.auN {st:St} {H:List HO} {K:List Nat} {D:List Nat} {v w:DV} {g:CK} {vs:List DV} (h:DgR st H D v) (hD:D.length≤1000) (h2:rowAt H 1=some (g,vs)) (hw:bP (pst st H K) 1 w=some (1,[d8 0])) :
 ∃ v' H',bd (pst st H K) 1 false 1 v w=some (v',pst st H' K)∧DgR st H' (D++[0]) v'∧rowAt H' 1=some (g,vs):=by
 have hlen:=aZ h2
 cases h with
 | one k h1 hr hl=>
   refine ⟨.hsl 1 false (st.heap.length+H.length) 0 (D++[0]).length none,H++[.cells .grown ((D++[0]).map d8)],?_,.more _ (by omega) ?_,?_⟩
   · have hc:=gu st H K k
     rw [hr] at hc
     have e:(D.map d8).take 1=D.map d8:=List.take_of_length_le (by simp [hl])
     have e2:¬ (1+1≤1):=by omega
     simp only [bd,hw,hl]
     simp [hc,aA,e,hl]
     simp [pst]
   · have:=dn (H:=H) (X:=[.cells .grown ((D++[0]).map d8)]) 0
     simpa using this
   · rw [fk hlen];exact h2
 | more k h1 hr=>
   refine ⟨.hsl 1 false (st.heap.length+H.length) 0 (D++[0]).length none,H.set k .gone++[.cells .grown ((D++[0]).map d8)],?_,.more _ (by omega) ?_,?_⟩
   · have hc:=gu st H K k
     rw [hr] at hc
     have h3:D.length+1≤140737488355328:=by omega
     simp only [bd,hw]
     simp [hc,aA,h3]
     simp [pst,List.set_append_right]
   · have:=dn (H:=H.set k .gone) (X:=[.cells .grown ((D++[0]).map d8)]) 0
     simpa using this
   · rw [fk (by simpa using hlen)]
     unfold rowAt at h2 ⊢
     rw [List.getElem?_set_ne h1];exact h2
theorem DgR.store {st:St} {H:List HO} {K:List Nat} {D:List Nat} {v:DV} {g:CK} {vs:List DV} (h:DgR st H D v) {j:Nat} (hj:j<D.length) (h2:rowAt H 1=some (g,vs)) (x:Nat) :
 ∃ p H',(∀ st',iF st' 1 v (.int .i64 j)=some (p,st'))∧kH (pst st H K) 1 p (d8 x)=some (pst st H' K)∧DgR st H' (D.set j x) v∧rowAt H' 1=some (g,vs):=by
 have hlen:=aZ h2
 have hs:∀ k g',k≠1→rowAt (H.set k (.cells g' ((D.set j x).map d8))) 1=some (g,vs):=by
  intro k g' h1
  unfold rowAt at h2 ⊢
  rw [List.getElem?_set_ne h1];exact h2
 have hsp:=eu (x:=d8 x) (vs:=D.map d8) (i:=j) (by simpa using hj)
 cases h with
 | one k h1 hr hl=>
   refine ⟨.ptr (st.heap.length+k) (0+j*1),H.set k (.cells .plain ((D.set j x).map d8)),fun st'=>by simp [hj],?_,?_,hs _ _ h1⟩
   · rw [nq,hr]
     simp only [Nat.zero_add,Nat.mul_one]
     rw [show (d8 x).leaves=[d8 x] from rfl,hsp,if_pos ⟨rfl,rfl,by simp;omega,rfl⟩,List.map_set]
   · have:=DgR.one (st:=st) (D:=D.set j x) k h1 (cP (aZ hr) .plain ((D.set j x).map d8)) (by simpa using hl)
     simpa using this
 | more k h1 hr=>
   refine ⟨.ptr (st.heap.length+k) (0+j*1),H.set k (.cells .grown ((D.set j x).map d8)),fun st'=>by simp [hj],?_,?_,hs _ _ h1⟩
   · rw [nq,hr]
     simp only [Nat.zero_add,Nat.mul_one]
     rw [show (d8 x).leaves=[d8 x] from rfl,hsp,if_pos ⟨rfl,rfl,by simp;omega,rfl⟩,List.map_set]
   · have:=DgR.more (st:=st) (D:=D.set j x) k h1 (cP (aZ hr) .grown ((D.set j x).map d8))
     simpa using this
section
variable {st:St} {s:List UInt8}
theorem aeT {C:List DV} (hC:C=s.map u8) (hs:s.length≤16):∀ (r d:List UInt8) (sm rd:Bool) (H:List HO) (K:List Nat) (v vd:DV),s=d++r→Acc st K 1 ((cF d).map u8) v→DgR st H (dh 0 d) vd→rowAt H 1=some (.grown,C) →
 (∀ b,scan s.length d.length sm rd r=some b→∃ H' K' v' vd' rd',(E tab).C ey [(0,.str s),(5,v),(6,vd),(7,.bool sm),(8,.bool rd),(21,.hsl 1 false (st.heap.length+1) 0 s.length none),(22,.int .i64 s.length),(23,.int .i64 d.length)] (pst st H K) =
  some (.exit 0,[(0,.str s),(5,v'),(6,vd'),(7,.bool b),(8,.bool rd'),(21,.hsl 1 false (st.heap.length+1) 0 s.length none),(22,.int .i64 s.length),(23,.int .i64 s.length),(24,.bool false)],pst st H' K')∧Acc st K' 1 ((cF s).map u8) v'∧DgR st H' (dh 0 s) vd') ∧
 (scan s.length d.length sm rd r=none→∃ H' K',(E tab).C ey [(0,.str s),(5,v),(6,vd),(7,.bool sm),(8,.bool rd),(21,.hsl 1 false (st.heap.length+1) 0 s.length none),(22,.int .i64 s.length),(23,.int .i64 d.length)] (pst st H K) =
  some (.ret,[(2,.str []),(3,.list 0 0 .no false []),(4,.bool false)],pst st H' K')):=by
 intro r
 induction r with
 | nil=>
   intro d sm rd H K v vd hd hv hvd h1
   obtain rfl:s=d:=by simpa using hd
   refine ⟨fun b hb => ?_,fun hb=>by simp [scan] at hb⟩
   simp only [scan,Option.some.injEq] at hb
   subst hb
   refine ⟨H,K,v,vd,rd,?_,hv,hvd⟩
   rw [aj (L:=ey) rfl]
   simp [jQ]
 | cons c r ih=>
   intro d sm rd H K v vd hd hv hvd h1
   have h0:d.length<s.length:=by simp [hd]
   have hx:C[d.length]? = some (.int .u8 c.toNat):=by simp [hC,hd,u8]
   have hw1:IntKind.i64.wrap ((d.length:Int)+1)=((d++[c]).length:Nat):=by rw [aD (by omega)];simp
   have hwm:IntKind.i64.wrap ((s.length:Int)-1)=(s.length:Int)-1:=aD (by omega)
   have hd':s=(d++[c])++r:=by simp [hd]
   have hll:(cF d).length≤d.length:=List.length_filter_le _ _
   have hdl:=j9 d 0
   have sm1:=rl c
   have dg1:=FI c
   have hlet:isD c=false→∃ v' K' vd' H',bd (pst st (H++[.cells .plain [.int .u8 c.toNat]]) K) 1 false 1 v (.hsl 1 false (st.heap.length+H.length) 0 1 (some 1))=some (v',pst st (H++[.cells .plain [.int .u8 c.toNat]]) K') ∧
    bd (pst st (H++[.cells .plain [.int .u8 c.toNat],.cells .plain [.int .u8 0]]) K') 1 false 1 vd (.hsl 1 false (st.heap.length+(H.length+1)) 0 1 (some 1))=some (vd',pst st H' K') ∧
    Acc st K' 1 ((cF (d++[c])).map u8) v'∧DgR st H' (dh 0 (d++[c])) vd'∧rowAt H' 1=some (.grown,C):=by
    intro hc
    have hvw:Vw (pst st (H++[.cells .plain [.int .u8 c.toNat]]) K) 1 false [u8 c] (.hsl 1 false (st.heap.length+H.length) 0 1 (some 1)):=by
     have hcell:(pst st (H++[.cells .plain [.int .u8 c.toNat]]) K).cells (st.heap.length+H.length)=some (.plain,[.int .u8 c.toNat]):=by rw [gu];simp
     exact Vw.hsl (xs:=[u8 c]) _ 0 1 _ _ hcell (by simp) (by simp [flat,u8,DV.leaves]) (by simp)
    obtain ⟨v',K',e1,e2⟩:=EH (by_:=1) hv hvw (by omega) (by simp) (fun y hy=>by simp at hy;subst hy;exact ⟨rfl,rfl,rfl⟩) (by simp [aA];omega) (by simp [aA];omega)
    have hr2:rowAt (H++[.cells .plain [.int .u8 c.toNat],.cells .plain [.int .u8 0]]) 1=some (.grown,C):=by rw [fk (aZ h1)];exact h1
    have hnw:bP (pst st (H++[.cells .plain [.int .u8 c.toNat],.cells .plain [.int .u8 0]]) K') 1 (.hsl 1 false (st.heap.length+(H.length+1)) 0 1 (some 1))=some (1,[d8 0]):=by
     have hcell:(pst st (H++[.cells .plain [.int .u8 c.toNat],.cells .plain [.int .u8 0]]) K').cells (st.heap.length+(H.length+1))=some (.plain,[.int .u8 0]):=by
      rw [gu];have:=dn (H:=H) (X:=[.cells .plain [.int .u8 c.toNat],.cells .plain [.int .u8 0]]) 1;simpa using this
     simp [bP,hcell,d8]
    obtain ⟨vd',H',e3,e4,e5⟩:=(hvd.app [.cells .plain [.int .u8 c.toNat],.cells .plain [.int .u8 0]]).auN (by omega) hr2 hnw
    refine ⟨v',K',vd',H',e1,e3,?_,?_,e5⟩
    · rw [Gb _ _ hc];simpa using e2
    · rw [vR _ _ _ hc];exact e4
   simp only [List.length_append,List.length_singleton] at hw1
   by_cases hdot:c.toNat=46
   · have hdi:((c.toNat:Int)=46)=True:=eq_true (by omega)
     have hcD:isD c=false:=by simp [isD,hdot]
     by_cases hbad:d.length≠0∧d.length+1≠s.length
     · have hsc:scan s.length d.length sm rd (c::r)=none:=by simp only [scan,if_pos hdot,if_pos hbad]
       refine ⟨fun b hb=>(by rw [hsc] at hb;cases hb),fun _=>⟨H,K,?_⟩⟩
       have b1:¬ ((d.length:Int)=0):=by omega
       have b2:¬ ((d.length:Int)=(s.length:Int)-1):=by omega
       have b3:¬ d=[]:=fun e=>hbad.1 (by simp [e])
       rw [aj (L:=ey) rfl]
       simp [jQ,h0,h1,hx,hdi,hwm,b1,b2,b3]
     · have hsc:scan s.length d.length sm rd (c::r)=scan s.length (d++[c]).length sm true r:=by rw [List.length_append];simp only [scan,if_pos hdot,if_neg hbad,List.length_singleton]
       obtain ⟨v',K',vd',H',a1,a2,a3,a4,a5⟩:=hlet hcD
       obtain ⟨j1,j2⟩:=ih (d++[c]) sm true H' K' v' vd' hd' a3 a4 a5
       rw [hsc]
       simp only [List.length_append,List.length_singleton] at j1 j2 ⊢
       have fin:∀ X,(E tab).C ey [(0,.str s),(5,v'),(6,vd'),(7,.bool sm),(8,.bool true),(21,.hsl 1 false (st.heap.length+1) 0 s.length none),(22,.int .i64 s.length),(23,.int .i64 (d.length+1:Nat))] (pst st H' K')=X →
        (E tab).C ey [(0,.str s),(5,v),(6,vd),(7,.bool sm),(8,.bool rd),(21,.hsl 1 false (st.heap.length+1) 0 s.length none),(22,.int .i64 s.length),(23,.int .i64 d.length)] (pst st H K)=X:=by
        intro X hX
        simp at hX
        rw [aj (L:=ey) rfl]
        by_cases hz:d=[]
        · subst hz
          simp at a1 a2 hX hx h0
          have w1:IntKind.i64.wrap 1=1:=aD (by omega)
          simp [jQ,h0,h1,hx,hdi,w1,kL,bk,dL,bl,a1,a2,hw1,hX]
        · have hz':¬ d.length=0:=by simpa using hz
          have b2:((d.length:Int) != (s.length:Int)-1)=false:=by rw [bne_eq_false_iff_eq];omega
          simp at hw1
          simp [jQ,h0,h1,hx,hdi,hwm,hz,b2,kL,bk,dL,bl,a1,a2,hw1,hX]
       refine ⟨fun b hb => ?_,fun hb => ?_⟩
       · obtain ⟨H2,K2,v2,vd2,rd2,hJ,q⟩:=j1 b hb
         exact ⟨H2,K2,v2,vd2,rd2,fin _ hJ,q⟩
       · obtain ⟨H2,K2,hJ⟩:=j2 hb
         exact ⟨H2,K2,fin _ hJ⟩
   have hdi:((c.toNat:Int)=46)=False:=eq_false (by omega)
   by_cases hS:isS c=true
   · have hcD:isD c=false:=by simp [isS,isD] at hS ⊢;omega
     have hsc:scan s.length d.length sm rd (c::r)=scan s.length (d++[c]).length true true r:=by rw [List.length_append];simp only [scan,if_neg hdot,if_pos hS,List.length_singleton]
     obtain ⟨v',K',vd',H',a1,a2,a3,a4,a5⟩:=hlet hcD
     obtain ⟨j1,j2⟩:=ih (d++[c]) true true H' K' v' vd' hd' a3 a4 a5
     rw [hsc]
     simp only [List.length_append,List.length_singleton] at j1 j2 ⊢
     rw [hS] at sm1
     have fin:∀ X,(E tab).C ey [(0,.str s),(5,v'),(6,vd'),(7,.bool true),(8,.bool true),(21,.hsl 1 false (st.heap.length+1) 0 s.length none),(22,.int .i64 s.length),(23,.int .i64 (d.length+1:Nat))] (pst st H' K')=X →
      (E tab).C ey [(0,.str s),(5,v),(6,vd),(7,.bool sm),(8,.bool rd),(21,.hsl 1 false (st.heap.length+1) 0 s.length none),(22,.int .i64 s.length),(23,.int .i64 d.length)] (pst st H K)=X:=by
      intro X hX
      simp at hX hw1
      rw [aj (L:=ey) rfl]
      simp [jQ,h0,h1,hx,hdi,sm1,kL,bk,dL,bl,a1,a2,hw1,hX]
     refine ⟨fun b hb => ?_,fun hb => ?_⟩
     · obtain ⟨H2,K2,v2,vd2,rd2,hJ,q⟩:=j1 b hb
       exact ⟨H2,K2,v2,vd2,rd2,fin _ hJ,q⟩
     · obtain ⟨H2,K2,hJ⟩:=j2 hb
       exact ⟨H2,K2,fin _ hJ⟩
   have hS':isS c=false:=by simpa using hS
   rw [hS'] at sm1
   by_cases hD:isD c=true∧rd=true
   · obtain ⟨hcD,rfl⟩:=hD
     have hsc:scan s.length d.length sm true (c::r)=scan s.length (d++[c]).length sm false r:=by rw [List.length_append];simp only [scan,if_neg hdot,if_neg hS,hcD,Bool.and_self,if_true,List.length_singleton]
     obtain ⟨p,H',a1,a2,a3,a4⟩:=hvd.store (K:=K) (j:=(cF d).length) (by omega) h1 (c.toNat-48)
     have hlen:=hvd.len
     rw [← vC _ _ _ hcD] at a3
     obtain ⟨j1,j2⟩:=ih (d++[c]) sm false H' K v vd hd' (by rw [N9 _ _ hcD];exact hv) a3 a4
     rw [hsc]
     simp only [List.length_append,List.length_singleton] at j1 j2 ⊢
     rw [hcD] at dg1
     have hl2:IntKind.i64.wrap (((dh 0 d).length:Int)-1)=((cF d).length:Int):=by rw [aD (by omega)];omega
     have hu8:IntKind.u8.wrap ((c.toNat:Int)-48)=((c.toNat-48:Nat):Int):=by
      have h8:c.toNat<256:=c.toNat_lt
      have h48:48≤c.toNat:=by simp [isD] at hcD;omega
      rw [IntWalk.u8_in _ ⟨by omega,by omega⟩];omega
     simp only [d8] at a2
     have fin:∀ X,(E tab).C ey [(0,.str s),(5,v),(6,vd),(7,.bool sm),(8,.bool false),(21,.hsl 1 false (st.heap.length+1) 0 s.length none),(22,.int .i64 s.length),(23,.int .i64 (d.length+1:Nat))] (pst st H' K)=X →
      (E tab).C ey [(0,.str s),(5,v),(6,vd),(7,.bool sm),(8,.bool true),(21,.hsl 1 false (st.heap.length+1) 0 s.length none),(22,.int .i64 s.length),(23,.int .i64 d.length)] (pst st H K)=X:=by
      intro X hX
      simp at hX hw1
      rw [aj (L:=ey) rfl]
      simp [jQ,h0,h1,hx,hdi,sm1,dg1,hlen,hl2,hu8,a1,a2,hw1,hX]
     refine ⟨fun b hb => ?_,fun hb => ?_⟩
     · obtain ⟨H2,K2,v2,vd2,rd2,hJ,q⟩:=j1 b hb
       exact ⟨H2,K2,v2,vd2,rd2,fin _ hJ,q⟩
     · obtain ⟨H2,K2,hJ⟩:=j2 hb
       exact ⟨H2,K2,fin _ hJ⟩
   · have hsc:scan s.length d.length sm rd (c::r)=none:=by
      have:¬ (isD c&&rd)=true:=by simpa using hD
      simp only [scan,if_neg hdot,if_neg hS,if_neg this]
     refine ⟨fun b hb=>(by rw [hsc] at hb;cases hb),fun _=>⟨H,K,?_⟩⟩
     rw [aj (L:=ey) rfl]
     by_cases hcD:isD c=true
     · rw [hcD] at dg1
       have hrd:rd=false:=by cases rd<;>simp_all
       simp [jQ,h0,h1,hx,hdi,sm1,dg1,hrd]
     · have hcD':isD c=false:=by simpa using hcD
       rw [hcD'] at dg1
       simp [jQ,h0,h1,hx,hdi,sm1,dg1]
theorem kF:∀ l:List UInt8,gD (l.map u8)=some l
 | []=>rfl
 | c::r=>by
   have:=kF r
   show (gD (r.map u8)).map (fun l=>UInt8.ofNat ((c.toNat:Int)).toNat::l)=_
   rw [this];simp
theorem tf {st:St} {K:List Nat} {l:List UInt8} {v:DV} (h:Acc st K 1 (l.map u8) v) (st':St):bP st' 1 v=some (l.length,l.map u8)∧∀ s,v≠.str s:=by
 rcases h with ⟨hl,t,n',tk,rfl⟩ | ⟨k,s,rfl,hk⟩
 · have:l=[]:=by simpa using hl
   subst this;exact ⟨rfl,fun s e=>by cases e⟩
 · refine ⟨?_,fun s e=>by cases e⟩
   have:flat (l.map u8)=l.map u8:=gq _ (by intro y hy;obtain ⟨c,_,rfl⟩:=List.mem_map.1 hy;exact ⟨rfl,rfl,rfl⟩)
   simp [bP,this]
def okP (s:List UInt8):Bool:=decide (1≤s.length)&&decide (s.length≤16)&&(scan s.length 0 false true s==some true)
theorem x6 (s:List UInt8) (st:St):(okP s=true→∃ t tk,(E tab).F 156 [.str s] st=some (.tuple [.str (cF s),.list t 1 tk true ((dh 0 s).map d8),.bool true],st)) ∧
 (okP s=false→∃ l v,(E tab).F 156 [.str s] st=some (.tuple [.str l,v,.bool false],st)):=by
 by_cases h1:s.length<1
 · have h1':(s.length:Int)<1:=by omega
   have hz:s=[]:=by simpa using h1
   refine ⟨fun h=>by simp [okP,hz] at h,fun _=>⟨[],.list 0 0 .no false [],?_⟩⟩
   rw [aT Bf rfl]
   subst hz
   simp [f156]
 by_cases h2:16<s.length
 · have h2':(16:Int)<s.length:=by omega
   have h1':¬ (s.length:Int)<1:=by omega
   refine ⟨fun h=>by simp [okP] at h;omega,fun _=>⟨[],.list 0 0 .no false [],?_⟩⟩
   rw [aT Bf rfl]
   simp [f156,h1',h2']
 have h1':¬ (s.length:Int)<1:=by omega
 have h2':¬ (16:Int)<s.length:=by omega
 obtain ⟨j1,j2⟩:=aeT (st:=st) (s:=s) rfl (by omega) s [] false true [.cells .plain [d8 0],.cells .grown (s.map u8)] [] (.list 0 0 .no false []) (.hsl 1 false (st.heap.length+0) 0 1 (some 1)) rfl (dW ..) (DgR.one (D:=[0]) 0 (by omega) rfl rfl) rfl
 simp only [d8] at j1 j2
 have hu:(fun b:UInt8=>DV.int .u8 (b.toNat:Int))=u8:=rfl
 have hok:okP s=(scan s.length 0 false true s==some true):=by
  simp only [okP]
  rw [decide_eq_true (by omega:1≤s.length),decide_eq_true (by omega:s.length≤16)];simp
 cases hsc:scan s.length 0 false true s with
 | none=>
   obtain ⟨H',K',hL⟩:=j2 hsc
   refine ⟨fun h=>(by rw [hok,hsc] at h;cases h),fun _=>⟨[],.list 0 0 .no false [],?_⟩⟩
   simp at hL
   rw [aT Bf rfl]
   simp [f156,h1',h2',kL,bk,dL,bl,hu,hL]
 | some b=>
   obtain ⟨H',K',v',vd',rd',hL,a1,a2⟩:=j1 b hsc
   obtain ⟨b1,b2⟩:=tf a1 (pst st H' K')
   have b3:=kF (cF s)
   have hex:∃ t tk,bV st (pst st H' K') vd'=some (.list t 1 tk true ((dh 0 s).map d8)):=by
    have hel:∀ y∈(dh 0 s).map d8,cX 1 false y:=by intro y hy;obtain ⟨c,_,rfl⟩:=List.mem_map.1 hy;exact ⟨rfl,rfl,rfl⟩
    have hfl:=gq _ hel
    cases a2 with
    | one k q1 hr hl=>
      have:=tJ (st:=st) (K:=K') (cap:=some (dh 0 s).length) (n:=1) (ag:=false) (ys:=(dh 0 s).map d8) (by rw [hfl];exact hr) (by omega) (.inr rfl) hel
      simp only [List.length_map] at this
      exact ⟨_,_,this⟩
    | more k q1 hr=>
      have:=tJ (st:=st) (K:=K') (cap:=none) (n:=1) (ag:=false) (ys:=(dh 0 s).map d8) (by rw [hfl];exact hr) (by omega) (.inr rfl) hel
      simp only [List.length_map] at this
      exact ⟨_,_,this⟩
   obtain ⟨t,tk,hex⟩:=hex
   simp at hL
   have hrun:(E tab).F 156 [.str s] st=some (.tuple [.str (cF s),.list t 1 tk true ((dh 0 s).map d8),.bool b],st):=by
    rw [aT Bf rfl]
    simp [f156,h1',h2',kL,bk,dL,bl,hu,hL,pX,b1,b3,hex]
   refine ⟨fun h => ?_,fun h => ?_⟩
   · rw [hok,hsc] at h
     obtain rfl:b=true:=by simpa using h
     exact ⟨t,tk,hrun⟩
   · rw [hok,hsc] at h
     obtain rfl:b=false:=by cases b with | false=>rfl | true=>simp at h
     exact ⟨_,_,hrun⟩
end
section
variable {s:List UInt8} {st:St}
def aS (s:List UInt8):List UInt8:=s.filter fun c=>decide (c.toNat≠45)
def dJ (c:UInt8):UInt8:=if 65≤c.toNat∧c.toNat≤90 then UInt8.ofNat (c.toNat+32) else c
theorem JV {c:UInt8} (h:65≤c.toNat∧c.toNat≤90):(dJ c).toNat=c.toNat+32:=by
 unfold dJ;rw [if_pos h]
 show (c.toNat+32)%256=_
 omega
theorem JW {c:UInt8} (h:¬ (65≤c.toNat∧c.toNat≤90)):dJ c=c:=by unfold dJ;rw [if_neg h]
def we (s:List UInt8):Bool:=s.all fun c=>isS (dJ c)
end
theorem amK:tab 149=some (.code f149):=by kernel_rfl
section
variable {s:List UInt8} {st:St}
theorem S5 (hs:s.length≤64) (K:List Nat):∀ (r d:List UInt8) (X:List DV),s=d++r→X=(d.map dJ++r).map u8 →
 (we r=true→(E tab).C iG [(4,.hsl 1 false st.heap.length 0 s.length none),(17,.hsl 1 false st.heap.length 0 s.length none),(18,.int .i64 s.length),(19,.int .i64 d.length)] (pst st [.cells .grown X] K) =
  some (.exit 0,[(4,.hsl 1 false st.heap.length 0 s.length none),(17,.hsl 1 false st.heap.length 0 s.length none),(18,.int .i64 s.length),(19,.int .i64 s.length),(20,.bool false)],pst st [.cells .grown ((s.map dJ).map u8)] K)) ∧
 (we r=false→∃ X',(E tab).C iG [(4,.hsl 1 false st.heap.length 0 s.length none),(17,.hsl 1 false st.heap.length 0 s.length none),(18,.int .i64 s.length),(19,.int .i64 d.length)] (pst st [.cells .grown X] K) =
  some (.ret,[(2,.str []),(3,.bool false)],pst st [.cells .grown X'] K)):=by
 intro r
 induction r with
 | nil=>
   intro d X hd hX
   obtain rfl:s=d:=by simpa using hd
   refine ⟨fun _ => ?_,fun h=>by cases h⟩
   rw [aj (L:=iG) rfl]
   simp [jR,hX]
 | cons c r ih=>
   intro d X hd hX
   have h0:d.length<s.length:=by simp [hd]
   have hx:X[d.length]? = some (.int .u8 c.toNat):=by simp [hX,u8]
   have hlX:X.length=s.length:=by simp [hX,hd]
   have hlt:d.length<X.length:=by omega
   have hge:X[d.length]'hlt=.int .u8 c.toNat:=by have:=hx;rw [List.getElem?_eq_getElem hlt] at this;exact Option.some.inj this
   have hw1:IntKind.i64.wrap ((d.length:Int)+1)=(d.length:Int)+1:=by rw [aD (by omega)]
   have hsp:=eu (x:=.int .u8 (dJ c).toNat) (vs:=X) hlt
   have hset:X.set d.length (.int .u8 (dJ c).toNat)=((d++[c]).map dJ++r).map u8:=by
    rw [hX]
    simp [u8,List.set_append_right]
   have sm:=rl (dJ c)
   have hall:we (c::r)=(isS (dJ c)&&we r):=rfl
   by_cases hA:65≤c.toNat∧c.toNat≤90
   · have a1:(65:Int)≤c.toNat:=by omega
     have a2:(c.toNat:Int)≤90:=by omega
     have a4:IntKind.u8.wrap ((c.toNat:Int)+97)=(c.toNat:Int)+97:=IntWalk.u8_in _ ⟨by omega,by omega⟩
     have a3:IntKind.u8.wrap ((c.toNat:Int)+97-65)=((dJ c).toNat:Int):=by rw [IntWalk.u8_in _ ⟨by omega,by omega⟩,JV hA];omega
     have hlt2:d.length<(X.set d.length (.int .u8 (dJ c).toNat)).length:=by simpa using hlt
     have hx2:(X.set d.length (.int .u8 (dJ c).toNat))[d.length]? = some (.int .u8 (dJ c).toNat):=List.getElem?_set_self hlt
     obtain ⟨j1,j2⟩:=ih (d++[c]) (X.set d.length (.int .u8 (dJ c).toNat)) (by simp [hd]) hset
     generalize X.set d.length (.int .u8 (dJ c).toNat)=Y at *
     have hge2:Y[d.length]'hlt2=.int .u8 (dJ c).toNat:=by have:=hx2;rw [List.getElem?_eq_getElem hlt2] at this;exact Option.some.inj this
     simp only [List.length_append,List.length_singleton] at j1 j2
     simp at j1 j2
     simp only [bl,List.length_singleton] at hsp
     simp at hsp
     have hle:d.length+1≤X.length:=by omega
     by_cases hS:isS (dJ c)=true
     · rw [hS] at sm
       rw [hall,hS,Bool.true_and]
       refine ⟨fun h => ?_,fun h => ?_⟩
       · rw [aj (L:=iG) rfl]
         simp [jR,h0,hx,hge,hlt,hle,a1,a2,a3,a4,hsp,hx2,hge2,hlt2,sm,hw1,j1 h]
       · obtain ⟨X',hL⟩:=j2 h
         refine ⟨X',?_⟩
         rw [aj (L:=iG) rfl]
         simp [jR,h0,hx,hge,hlt,hle,a1,a2,a3,a4,hsp,hx2,hge2,hlt2,sm,hw1,hL]
     · have hS':isS (dJ c)=false:=by simpa using hS
       rw [hS'] at sm
       rw [hall,hS',Bool.false_and]
       refine ⟨fun h=>(by cases h),fun _=>⟨Y,?_⟩⟩
       rw [aj (L:=iG) rfl]
       simp [jR,h0,hx,hge,hlt,hle,a1,a2,a3,a4,hsp,hx2,hge2,hlt2,sm]
   · have hl:=JW hA
     rw [hl] at sm hall
     obtain ⟨j1,j2⟩:=ih (d++[c]) X (by simp [hd]) (by rw [hX];simp [hl])
     simp only [List.length_append,List.length_singleton] at j1 j2
     simp at j1 j2
     by_cases hS:isS c=true
     · rw [hS] at sm
       rw [hall,hS,Bool.true_and]
       have a1:(65:Int)≤c.toNat:=by simp [isS] at hS;omega
       have a2:¬ (c.toNat:Int)≤90:=by omega
       refine ⟨fun h => ?_,fun h => ?_⟩
       · rw [aj (L:=iG) rfl]
         simp [jR,h0,hx,hge,hlt,a1,a2,sm,hw1,j1 h]
       · obtain ⟨X',hL⟩:=j2 h
         refine ⟨X',?_⟩
         rw [aj (L:=iG) rfl]
         simp [jR,h0,hx,hge,hlt,a1,a2,sm,hw1,hL]
     · have hS':isS c=false:=by simpa using hS
       rw [hS'] at sm
       rw [hall,hS',Bool.false_and]
       refine ⟨fun h=>(by cases h),fun _=>⟨X,?_⟩⟩
       rw [aj (L:=iG) rfl]
       by_cases a1:(65:Int)≤c.toNat
       · have a2:¬ (c.toNat:Int)≤90:=by omega
         simp [jR,h0,hx,hge,hlt,a1,a2,sm]
       · simp [jR,h0,hx,hge,hlt,a1,sm]
def lE (s:List UInt8):Bool:=we s&&(decide (1≤s.length)&&decide (s.length≤64))
theorem NR:(E tab).F 149 [.str s] st=some (if lE s then .tuple [.str (s.map dJ),.bool true] else .tuple [.str [],.bool false],st):=by
 rw [aT amK rfl]
 by_cases h1:s.length<1
 · have h1':(s.length:Int)<1:=by omega
   have hz:s=[]:=by simpa using h1
   subst hz
   simp [f149,lE]
 have h1':¬ (s.length:Int)<1:=by omega
 by_cases h2:64<s.length
 · have h2':(64:Int)<s.length:=by omega
   have:lE s=false:=by simp [lE];omega
   simp [f149,h1',h2',this]
 have h2':¬ (64:Int)<s.length:=by omega
 have hok:lE s=we s:=by simp [lE];omega
 have hu:(fun b:UInt8=>DV.int .u8 (b.toNat:Int))=u8:=rfl
 obtain ⟨j1,j2⟩:=S5 (st:=st) (s:=s) (by omega) [] s [] (s.map u8) rfl (by simp)
 simp at j1 j2
 rw [hok]
 by_cases h:we s=true
 · have hL:=j1 h
   have hb:=kF (s.map dJ)
   simp at hb
   have ht:List.take s.length (List.map (u8∘dJ) s)=List.map (u8∘dJ) s:=List.take_of_length_le (by simp)
   simp [f149,h1',h2',hu,hL,h,pX,bP,ht,hb]
 · have h':we s=false:=by simpa using h
   obtain ⟨X',hL⟩:=j2 h'
   simp [f149,h1',h2',hu,hL,h']
end
section
variable {s:List UInt8} {st:St}
end
section
variable {s:List UInt8} {st:St}
def rk (f:Nat→UInt8→Bool):Nat→List UInt8→Bool
 | _,[]=>true
 | i,c::r=>f i c&&rk f (i+1) r
end
theorem OB:tab 158=some (.code f158):=by kernel_rfl
def i6 (k:Nat):DV:=.int .i64 k
def plc:Nat→List UInt8→List Nat
 | _,[]=>[]
 | k,c::r=>if c.toNat=45 then k::plc k r else plc (k+1) r
theorem mI:∀ (d:List UInt8) (k:Nat) (c:UInt8),c.toNat=45→plc k (d++[c])=plc k d++[k+(aS d).length]
 | [],k,c,h=>by simp [plc,aS,h]
 | x::r,k,c,h=>by
   by_cases hx:x.toNat=45
   · have:=mI r k c h;simp [plc,aS,hx] at this ⊢;exact this
   · have:=mI r (k+1) c h;simp [plc,aS,hx] at this ⊢;rw [this];simp;omega
theorem pb:∀ (d:List UInt8) (k:Nat) (c:UInt8),c.toNat≠45→plc k (d++[c])=plc k d
 | [],k,c,h=>by simp [plc,h]
 | x::r,k,c,h=>by
   by_cases hx:x.toNat=45
   · have:=pb r k c h;simp [plc,hx] at this ⊢;exact this
   · have:=pb r (k+1) c h;simp [plc,hx] at this ⊢;exact this
theorem mJ:∀ (d:List UInt8) (k:Nat),(plc k d).length≤d.length
 | [],k=>by simp [plc]
 | x::r,k=>by
   by_cases hx:x.toNat=45
   · have:=mJ r k;simp [plc,hx];omega
   · have:=mJ r (k+1);simp [plc,hx];omega
theorem EM (d:List UInt8):(aS d).length≤d.length:=List.length_filter_le _ _
theorem sG (d:List UInt8) (c:UInt8) (h:c.toNat=45):aS (d++[c])=aS d:=by simp [aS,h]
theorem vG (d:List UInt8) (c:UInt8) (h:c.toNat≠45):aS (d++[c])=aS d++[c]:=by simp [aS,h]
def kj (s:List UInt8) (i:Nat) (c:UInt8):Bool:=isS c||(decide (c.toNat=45)&&decide (0<i)&&decide (i+1<s.length)&&decide ((s.getD (i-1) 0).toNat≠45))
section
variable {s:List UInt8} {st:St}
set_option maxHeartbeats 2000000 in
theorem ac7 {C:List DV} (hC:C=s.map u8) (hs:s.length≤1000) (H:List HO):∀ (r d:List UInt8) (K:List Nat) (v1 v2:DV) (o1 o2:Option Nat),s=d++r→Ac st K 1 ((aS d).map u8) v1 o1→Ac st K 1 ((plc 0 d).map i6) v2 o2→(∀ k,o1=some k→o2≠some k) →
 (rk (kj s) d.length r=true→∃ K' w1 w2,(E tab).C fK [(0,.str s),(5,v1),(6,v2),(10,.list st.cur 1 .no true C),(11,.int .i64 s.length),(12,.int .i64 d.length)] (pst st H K) =
  some (.exit 0,[(0,.str s),(5,w1),(6,w2),(10,.list st.cur 1 .no true C),(11,.int .i64 s.length),(12,.int .i64 s.length),(13,.bool false)],pst st H K')∧(∃ p1,Ac st K' 1 ((aS s).map u8) w1 p1)∧∃ p2,Ac st K' 1 ((plc 0 s).map i6) w2 p2) ∧
 (rk (kj s) d.length r=false→∃ K',(E tab).C fK [(0,.str s),(5,v1),(6,v2),(10,.list st.cur 1 .no true C),(11,.int .i64 s.length),(12,.int .i64 d.length)] (pst st H K) =
  some (.ret,[(2,.str []),(3,.list 0 0 .no false []),(4,.bool false)],pst st H K')):=by
 intro r
 induction r with
 | nil=>
   intro d K v1 v2 o1 o2 hd h1 h2 hdis
   obtain rfl:s=d:=by simpa using hd
   refine ⟨fun _=>⟨K,v1,v2,?_,⟨o1,h1⟩,⟨o2,h2⟩⟩,fun h=>by cases h⟩
   rw [aj (L:=fK) rfl]
   simp [iy]
 | cons c r ih=>
   intro d K v1 v2 o1 o2 hd h1 h2 hdis
   have h0:d.length<s.length:=by simp [hd]
   have hx:C[d.length]? = some (.int .u8 c.toNat):=by simp [hC,hd,u8]
   have hlC:C.length=s.length:=by simp [hC]
   have hltC:d.length<C.length:=by omega
   have hgeC:C[d.length]'hltC=.int .u8 c.toNat:=by have:=hx;rw [List.getElem?_eq_getElem hltC] at this;exact Option.some.inj this
   have hw1:IntKind.i64.wrap ((d.length:Int)+1)=(d.length:Int)+1:=by rw [aD (by omega)]
   have hwm:IntKind.i64.wrap ((s.length:Int)-1)=(s.length:Int)-1:=aD (by omega)
   have hbl:=EM d
   have hpl:=mJ d 0
   have sm:=rl c
   have hof:rk (kj s) d.length (c::r)=(kj s d.length c&&rk (kj s) (d.length+1) r):=rfl
   obtain ⟨t1,n1,k1,m1,hv1⟩:=dS h1.acc
   rw [hof]
   by_cases hS:isS c=true
   · have hc45:c.toNat≠45:=by simp [isS] at hS;omega
     have hB:kj s d.length c=true:=by simp [kj,hS]
     rw [hS] at sm
     obtain ⟨w1,K',k,a1,a2,a3,a4⟩:=uH (H:=H) (by_:=1) (ag:=false) (ys:=[u8 c]) (w:=.list st.cur 1 .tight true [u8 c]) h1 (.list _ _ _ _ (fun _=>rfl) (fun e=>by cases e)) (by omega) (by simp) (fun y hy=>by simp at hy;subst hy;exact ⟨rfl,rfl,rfl⟩) (by simp [aA];omega) (by simp [aA];omega)
     have hne:o2≠some k:=by
      rcases a3 with h | ⟨_,rfl⟩
      · exact hdis k h
      · intro e
        rw [e] at h2
        obtain ⟨_,_,q⟩:=h2
        have:=(List.getElem?_eq_some_iff.1 q).1
        omega
     obtain ⟨j1,j2⟩:=ih (d++[c]) K' w1 v2 (some k) o2 (by simp [hd]) (by rw [vG _ _ hc45];simpa using a2) (by rw [pb _ _ _ hc45];exact h2.stay hne a4) (fun k' e=>by cases e;exact hne)
     rw [hB,Bool.true_and]
     simp only [List.length_append,List.length_singleton] at j1 j2
     simp [u8] at j1 j2 a1
     refine ⟨fun h => ?_,fun h => ?_⟩
     · obtain ⟨K2,x1,x2,hJ,q⟩:=j1 h
       refine ⟨K2,x1,x2,?_,q⟩
       rw [aj (L:=fK) rfl]
       simp [iy,h0,hx,hgeC,hltC,sm,a0,bk,dL,bl,chunk,a1,hw1,hJ]
     · obtain ⟨K2,hJ⟩:=j2 h
       refine ⟨K2,?_⟩
       rw [aj (L:=fK) rfl]
       simp [iy,h0,hx,hgeC,hltC,sm,a0,bk,dL,bl,chunk,a1,hw1,hJ]
   have hS':isS c=false:=by simpa using hS
   rw [hS'] at sm
   by_cases hc:c.toNat=45
   · have hci:((c.toNat:Int)==45)=true:=by rw [beq_iff_eq];omega
     by_cases hz:d.length=0
     · have hB:kj s d.length c=false:=by simp [kj,hS',hz]
       have hnp:¬ 0<d.length:=by omega
       rw [hB,Bool.false_and]
       refine ⟨fun h=>(by cases h),fun h=>⟨K,?_⟩⟩
       rw [aj (L:=fK) rfl]
       simp [iy,h0,hx,hgeC,hltC,sm,hci,hnp]
     have hp:0<d.length:=by omega
     by_cases hl:d.length+1<s.length
     · have hl':(d.length:Int)<(s.length:Int)-1:=by omega
       have hlt:d.length-1<s.length:=by omega
       have hwp:IntKind.i64.wrap ((d.length:Int)-1)=((d.length-1:Nat):Int):=by rw [aD (by omega)];omega
       obtain ⟨q,hq⟩:∃ q,s[d.length-1]? = some q:=⟨s[d.length-1],List.getElem?_eq_getElem hlt⟩
       have hqe:s[d.length-1]'hlt=q:=by have:=hq;rw [List.getElem?_eq_getElem hlt] at this;exact Option.some.inj this
       have hqd:s.getD (d.length-1) 0=q:=by simp [hq]
       have hB:kj s d.length c=decide (q.toNat≠45):=by simp [kj,hS',hc,hp,hl,hq]
       by_cases hq45:q.toNat=45
       · have hqi:((q.toNat:Int)==45)=true:=by rw [beq_iff_eq];omega
         have hqb:((q.toNat:Int) != 45)=false:=by rw [bne_eq_false_iff_eq];omega
         rw [hB,decide_eq_false (by simpa using hq45),Bool.false_and]
         refine ⟨fun h=>(by cases h),fun h=>⟨K,?_⟩⟩
         rw [aj (L:=fK) rfl]
         simp [iy,h0,hx,hgeC,hltC,sm,hci,hp,hl',hwm,hwp,hlt,hq,hqe,hqi,hqb]
       · have hqi:((q.toNat:Int)==45)=false:=by rw [beq_eq_false_iff_ne];omega
         have hqb:((q.toNat:Int) != 45)=true:=by rw [bne_iff_ne];omega
         obtain ⟨w2,K',k,a1,a2,a3,a4⟩:=uH (H:=H) (by_:=8) (ag:=false) (ys:=[i6 (aS d).length]) (w:=.list st.cur 1 .tight true [i6 (aS d).length]) h2 (.list _ _ _ _ (fun _=>rfl) (fun e=>by cases e)) (by omega) (by simp) (fun y hy=>by simp at hy;subst hy;exact ⟨rfl,rfl,rfl⟩) (by simp [aA];omega) (by simp [aA];omega)
         have hne:o1≠some k:=by
          intro e
          rcases a3 with h | ⟨_,rfl⟩
          · exact hdis k e h
          · rw [e] at h1
            obtain ⟨_,_,q⟩:=h1
            have:=(List.getElem?_eq_some_iff.1 q).1
            omega
         obtain ⟨j1,j2⟩:=ih (d++[c]) K' v1 w2 o1 (some k) (by simp [hd]) (by rw [sG _ _ hc];exact h1.stay hne a4) (by rw [mI _ _ _ hc];simpa using a2) (fun k' e e2=>by cases e2;exact hne e)
         have hlen:∀ st',oY st' .slice v1=some (.int .i64 (aS d).length,st'):=by
          intro st';rw [hv1];simp
         rw [hB,decide_eq_true (by simpa using hq45),Bool.true_and]
         simp only [List.length_append,List.length_singleton] at j1 j2
         simp [i6] at j1 j2 a1
         refine ⟨fun h => ?_,fun h => ?_⟩
         · obtain ⟨K2,x1,x2,hJ,q⟩:=j1 h
           refine ⟨K2,x1,x2,?_,q⟩
           rw [aj (L:=fK) rfl]
           simp [iy,h0,hx,hgeC,hltC,sm,hci,hp,hl',hwm,hwp,hlt,hq,hqe,hqi,hqb,hlen,a0,bk,dL,bl,chunk,a1,hw1,hJ]
         · obtain ⟨K2,hJ⟩:=j2 h
           refine ⟨K2,?_⟩
           rw [aj (L:=fK) rfl]
           simp [iy,h0,hx,hgeC,hltC,sm,hci,hp,hl',hwm,hwp,hlt,hq,hqe,hqi,hqb,hlen,a0,bk,dL,bl,chunk,a1,hw1,hJ]
     · have hl':¬ (d.length:Int)<(s.length:Int)-1:=by omega
       have hB:kj s d.length c=false:=by simp [kj,hS'];intro _ _ h;omega
       rw [hB,Bool.false_and]
       refine ⟨fun h=>(by cases h),fun h=>⟨K,?_⟩⟩
       rw [aj (L:=fK) rfl]
       simp [iy,h0,hx,hgeC,hltC,sm,hci,hp,hl',hwm]
   · have hci:((c.toNat:Int)==45)=false:=by rw [beq_eq_false_iff_ne];omega
     have hB:kj s d.length c=false:=by simp [kj,hS',hc]
     rw [hB,Bool.false_and]
     refine ⟨fun h=>(by cases h),fun h=>⟨K,?_⟩⟩
     rw [aj (L:=fK) rfl]
     simp [iy,h0,hx,hgeC,hltC,sm,hci]
theorem ak4 {st st':St} {K:List Nat} {n:Nat} {xs:List DV} {v:DV} {o:Option Nat} (h:Ac st K n xs v o):∃ w,bV st st' v=some w∧Lw n xs w:=by
 cases o with
 | none=>
   obtain ⟨rfl,t,n',tk,rfl⟩:=h
   exact ⟨_,rfl,.list _ _ _ _ (fun e=>by cases e) (fun _=>rfl)⟩
 | some k=>
   obtain ⟨s,rfl,_⟩:=h
   exact ⟨_,rfl,.list _ _ _ _ (fun _=>rfl) (fun e=>by cases e)⟩
def okE (s:List UInt8):Bool:=rk (kj s) 0 s&&(decide (2≤(aS s).length)&&decide ((aS s).length≤64))
theorem uY (hs:s.length≤1000):∃ l v,(E tab).F 158 [.str s] st=some (.tuple [.str l,v,.bool (okE s)],st)∧(okE s=true→l=aS s∧Lw 1 ((plc 0 s).map i6) v):=by
 have hu:(fun b:UInt8=>DV.int .u8 (b.toNat:Int))=u8:=rfl
 obtain ⟨j1,j2⟩:=ac7 (st:=st) (s:=s) rfl hs [] s [] [] (.list 0 0 .no false []) (.list 0 0 .no false []) none none rfl ⟨rfl,0,0,.no,rfl⟩ ⟨rfl,0,0,.no,rfl⟩ (fun k e=>by cases e)
 cases h:rk (kj s) 0 s with
 | false=>
   have ho:okE s=false:=by simp [okE,h]
   obtain ⟨K',hL⟩:=j2 h
   simp at hL
   refine ⟨[],.list 0 0 .no false [],?_,fun e=>by rw [ho] at e;cases e⟩
   rw [ho,aT OB rfl]
   simp [f158,hu,hL]
 | true=>
   have ho:okE s=(decide (2≤(aS s).length)&&decide ((aS s).length≤64)):=by simp [okE,h]
   obtain ⟨K',w1,w2,hL,⟨p1,g1⟩,⟨p2,g2⟩⟩:=j1 h
   simp at hL
   obtain ⟨b1,b2⟩:=tf g1.acc (pst st [] K')
   have b3:=kF (aS s)
   obtain ⟨w,e1,e2⟩:=ak4 (st':=pst st [] K') g2
   obtain ⟨t1,n1,k1,m1,hv1⟩:=dS g1.acc
   have hlen:∀ st',oY st' .slice w1=some (.int .i64 (aS s).length,st'):=by
    intro st';rw [hv1];simp
   refine ⟨aS s,w,?_,fun _=>⟨rfl,e2⟩⟩
   rw [ho,aT OB rfl]
   by_cases h2:2≤(aS s).length
   · have h2':(2:Int)≤(aS s).length:=by omega
     simp [f158,hu,hL,pX,b1,b3,hlen,e1,h2,h2']
     omega
   · have h2':¬ (2:Int)≤(aS s).length:=by omega
     simp [f158,hu,hL,pX,b1,b3,hlen,e1,h2,h2']
end
section
variable {s:List UInt8} {st:St}
end
theorem asu:tab 152=some (.code f152):=by kernel_rfl
theorem Oo (x y:Nat):dw lq [.int .u8 x,.int .u8 y]=some (.int .u8 (max x y:Nat)):=by
 rcases Nat.lt_or_ge x y with h | h
 · have e:max x y=y:=by omega
   simp [dw,lq,h,e]
 · have e:max x y=x:=by omega
   have h':¬ x<y:=by omega
   simp [dw,lq,h',e]
def fU:List Nat→Nat→List Nat→List Nat
 | V,_,[]=>V
 | V,a,d::r=>fU (V.set a (max (V.getD a 0) d)) (a+1) r
theorem iV:∀ (D V:List Nat) (a:Nat),(fU V a D).length=V.length
 | [],V,a=>rfl
 | d::r,V,a=>by simp [fU,iV r]
section
variable {st:St}
theorem TV {K:List Nat} {k kd n a:Nat} {D:List Nat} (hkd:kd≠k) (hn:n≤1000) (ha:a+D.length≤n):∀ (r d:List Nat) (V:List Nat) (H:List HO),D=d++r→V.length=n→rowAt H k=some (.plain,V.map d8)→rowAt H kd=some (.grown,D.map d8) →
 ∃ fr,(E tab).C uf [(0,.hsl 1 false (st.heap.length+k) 0 n (some n)),(1,.int .i64 a),(8,.hsl 1 false (st.heap.length+kd) 0 D.length none),(9,.int .i64 D.length),(10,.int .i64 d.length)] (pst st H K) =
   some (.exit 0,fr,pst st (H.set k (.cells .plain ((fU V (a+d.length) r).map d8))) K):=by
 intro r
 induction r with
 | nil=>
   intro d V H hd hV h1 h2
   obtain rfl:D=d:=by simpa using hd
   have hset:H.set k (.cells .plain ((fU V (a+D.length) []).map d8))=H:=by
    have hk:=aZ h1
    apply List.ext_getElem?
    intro j
    by_cases hj:j=k
    · subst hj
      rw [List.getElem?_set_self hk]
      unfold rowAt at h1
      split at h1
      · rename_i e;simp only [Option.some.injEq,Prod.mk.injEq] at h1;rw [e,h1.1,h1.2];rfl
      · cases h1
    · rw [List.getElem?_set_ne (fun e=>hj e.symm)]
   rw [hset]
   refine ⟨[(0,.hsl 1 false (st.heap.length+k) 0 n (some n)),(1,.int .i64 a),(8,.hsl 1 false (st.heap.length+kd) 0 D.length none),(9,.int .i64 D.length),(10,.int .i64 D.length),(11,.bool false)],?_⟩
   rw [aj (L:=uf) rfl]
   simp [xZ]
 | cons x r ih=>
   intro d V H hd hV h1 h2
   have hk:=aZ h1
   have hkd':=aZ h2
   have h0:d.length<D.length:=by simp [hd]
   have hw1:IntKind.i64.wrap ((d.length:Int)+1)=(d.length:Int)+1:=by rw [aD (by omega)]
   have hwa:IntKind.i64.wrap ((a:Int)+d.length)=((a+d.length:Nat):Int):=by rw [aD (by omega)];simp
   have had:a+d.length<n:=by omega
   generalize hp:a+d.length=p at *
   generalize hDm:D.map d8=DM at *
   have hx:DM[d.length]? = some (.int .u8 x):=by rw [← hDm];simp [hd,d8]
   have hlt:d.length<DM.length:=(List.getElem?_eq_some_iff.1 hx).1
   have hge:DM[d.length]'hlt=.int .u8 x:=by have:=hx;rw [List.getElem?_eq_getElem hlt] at this;exact Option.some.inj this
   obtain ⟨y,hy⟩:∃ y,V[p]? = some y:=⟨V[p],List.getElem?_eq_getElem (by omega)⟩
   have hyd:V.getD p 0=y:=by simp [hy]
   generalize hVm:V.map d8=VM at *
   have hvx:VM[p]? = some (.int .u8 y):=by rw [← hVm];simp [hy,d8]
   have hvl:VM.length=n:=by rw [← hVm];simpa using hV
   have hvlt:p<VM.length:=by omega
   have hvge:VM[p]'hvlt=.int .u8 y:=by have:=hvx;rw [List.getElem?_eq_getElem hvlt] at this;exact Option.some.inj this
   have hmx:=Oo y x
   have hsp:=eu (x:=.int .u8 (max y x:Nat)) (vs:=VM) hvlt
   have hset:VM.set p (.int .u8 (max y x:Nat))=(V.set p (max y x)).map d8:=by rw [← hVm,List.map_set];rfl
   rw [hset] at hsp
   obtain ⟨fr,hJ⟩:=ih (d++[x]) (V.set p (max y x)) (H.set k (.cells .plain ((V.set p (max y x)).map d8))) (by simp [hd]) (by simpa using hV) (cP hk _ _) (by
    unfold rowAt at h2 ⊢;rw [List.getElem?_set_ne (fun e=>hkd e.symm)];exact h2)
   refine ⟨fr,?_⟩
   have e1:a+(d++[x]).length=p+1:=by simp;omega
   rw [e1,List.set_set] at hJ
   simp only [List.length_append,List.length_singleton] at hJ
   have e2:fU V p (x::r)=fU (V.set p (max y x)) (p+1) r:=by simp only [fU,hyd]
   rw [e2]
   generalize (fU (V.set p (max y x)) (p+1) r).map d8=W at *
   generalize (V.set p (max y x)).map d8=VN at *
   simp only [bl,List.length_singleton] at hsp
   simp at hJ hsp
   have hle:p+1≤VM.length:=by omega
   rw [aj (L:=uf) rfl]
   simp [xZ,h0,h1,h2,hx,hge,hlt,hwa,had,hvx,hvge,hvlt,hmx,hle,hsp,hw1,hJ]
theorem Tu {K:List Nat} {k kd n a:Nat} {D V:List Nat} {H:List HO} (hkd:kd≠k) (hn:n≤1000) (ha:a+D.length≤n) (hV:V.length=n) (h1:rowAt H k=some (.plain,V.map d8)) (h2:rowAt H kd=some (.grown,D.map d8)) :
 (E tab).F 152 [.hsl 1 false (st.heap.length+k) 0 n (some n),.int .i64 a,.hsl 1 false (st.heap.length+kd) 0 D.length none] (pst st H K)=some (.tuple [],pst st (H.set k (.cells .plain ((fU V a D).map d8))) K):=by
 rw [eC asu rfl]
 obtain ⟨fr,hL⟩:=TV (st:=st) (K:=K) hkd hn ha D [] V H rfl hV h1 h2
 simp at hL
 simp [f152,hL]
end
abbrev Path:=List UInt8
def lf (st:St):Option (Nat×List (UInt8×Nat))→DV
 | none=>.aG
 | some (m,_)=>.map (st.heap.length+m)
def nG (st:St):Option (Nat×List Nat)→DV
 | none=>.list 0 0 .no false []
 | some (k,D)=>.hsl 1 false (st.heap.length+k) 0 D.length none
def oj (st:St) (x:UInt8×Nat):DV×DV:=(.int .u8 x.1.toNat,.ptr (st.heap.length+x.2) 0)
def ff:List (UInt8×Nat)→UInt8→Option Nat
 | [],_=>none
 | (a,k)::r,c=>if c=a then some k else ff r c
structure Trie (st:St) (H:List HO) (root:Nat) (N:Path→Option Nat) (es:Path→Option (Nat×List (UInt8×Nat))) (dg:Path→Option (Nat×List Nat)):Prop where
 top:N []=some root
 vi:∀ {p q k},N p=some k→N q=some k→p=q
 row:∀ {p k},N p=some k→rowAt H k=some (.plain,[lf st (es p),nG st (dg p)])
 nR:∀ {p m l},es p=some (m,l)→H[m]? = some (.map (l.map (oj st)))
 rv:∀ {p q m l l'},es p=some (m,l)→es q=some (m,l')→p=q
 kid:∀ {p k} (c:UInt8),N p=some k→N (p++[c])=match es p with | some (_,l)=>ff l c | none=>none
 H6:∀ {p k D},dg p=some (k,D)→rowAt H k=some (.grown,D.map d8)
 rJ:∀ {p q k D D'},dg p=some (k,D)→dg q=some (k,D')→p=q
 rS:∀ {p k D},dg p=some (k,D)→D.length=p.length+1
 off:∀ {p},N p=none→es p=none∧dg p=none∧∀ c,N (p++[c])=none
theorem ajC (a c:UInt8):((c.toNat:Int)=(a.toNat:Int))↔c=a:=by
 constructor
 · intro h;exact UInt8.toNat_inj.1 (by omega)
 · rintro rfl;rfl
theorem nX (st:St):∀ (l:List (UInt8×Nat)) (c:UInt8) (i:Nat),∃ j,findD [.int] (.int .u8 c.toNat) (l.map (oj st)) i=some ((ff l c).map fun k=>(j,.ptr (st.heap.length+k) 0))
 | [],c,i=>⟨0,rfl⟩
 | (a,k)::r,c,i=>by
   obtain ⟨j,hj⟩:=nX st r c (i+1)
   have h8:=ajC a c
   by_cases h:c=a
   · refine ⟨i,?_⟩
     subst h
     simp [findD,oj,jd,cR,ff]
   · refine ⟨j,?_⟩
     have h':¬ ((c.toNat:Int)=(a.toNat:Int)):=fun e=>h (h8.1 e)
     have hn:¬ (c.toNat=a.toNat):=fun e=>h' (by omega)
     simp only [List.map_cons,oj,ff,if_neg h]
     have hb:((c.toNat:Int)==(a.toNat:Int))=false:=by rw [beq_eq_false_iff_ne];exact h'
     simp [findD,jd,cR,hb]
     exact hj
def oP (st:St):Option Nat→DV
 | some k=>.ptr (st.heap.length+k) 0
 | none=>.bu
section
variable {st:St} {H:List HO} {root:Nat} {N:Path→Option Nat} {es:Path→Option (Nat×List (UInt8×Nat))} {dg:Path→Option (Nat×List Nat)}
theorem Trie.look (h:Trie st H root N es dg) {p:Path} {k:Nat} (hp:N p=some k) (c:UInt8) (K:List Nat):cU (pst st H K) [.int] .bu (lf st (es p)) (.int .u8 c.toNat) false=some (oP st (N (p++[c]))):=by
 rw [h.kid c hp]
 cases he:es p with
 | none=>simp [lf,cU,findD,oP]
 | some x=>
   obtain ⟨m,l⟩:=x
   obtain ⟨j,hj⟩:=nX st l c 0
   have hm:=h.nR he
   simp only [lf,cU,cu,hm,hj]
   cases ff l c<;>simp [oP]
theorem Trie.ar0 (h:Trie st H root N es dg) {kv:Nat} {V W:List Nat} (hv:rowAt H kv=some (.plain,V.map d8)):Trie st (H.set kv (.cells .plain (W.map d8))) root N es dg:=by
 have hrow:∀ {k g vs},rowAt H k=some (g,vs)→k≠kv→rowAt (H.set kv (.cells .plain (W.map d8))) k=some (g,vs):=by
  intro k g vs h1 h2
  unfold rowAt at h1 ⊢
  rw [List.getElem?_set_ne (fun e=>h2 e.symm)];exact h1
 refine ⟨h.top,h.vi,?_,?_,h.rv,h.kid,?_,h.rJ,h.rS,h.off⟩
 · intro p k hp
   have h1:=h.row hp
   refine hrow h1 ?_
   rintro rfl
   rw [hv] at h1
   simp only [Option.some.injEq,Prod.mk.injEq,true_and] at h1
   cases V with
   | nil=>simp at h1
   | cons x r=>
     simp only [List.map_cons,List.cons.injEq] at h1
     have h2:d8 x=lf st (es p):=h1.1
     generalize es p=y at h2
     rcases y with _ | ⟨m,l⟩<;>simp [d8,lf] at h2
 · intro p m l he
   have h1:=h.nR he
   rw [List.getElem?_set_ne]
   · exact h1
   · rintro rfl
     unfold rowAt at hv
     rw [h1] at hv
     cases hv
 · intro p k D hd
   have h1:=h.H6 hd
   refine hrow h1 ?_
   rintro rfl
   rw [hv] at h1
   cases h1
theorem amG:tab 151=some (.code f151):=by kernel_rfl
def fO (N:Path→Option Nat) (dg:Path→Option (Nat×List Nat)) (a:Nat):Path→List UInt8→List Nat→List Nat
 | _,[],V=>V
 | p,c::r,V=>if N (p++[c])=none then V else fO N dg a (p++[c]) r (match dg (p++[c]) with | some (_,D)=>fU V a D | none=>V)
end
section
variable {st:St} {root:Nat} {N:Path→Option Nat} {es:Path→Option (Nat×List (UInt8×Nat))} {dg:Path→Option (Nat×List Nat)}
theorem afb {K:List Nat} {hp':DV} {text tx:List UInt8} {a kv nV:Nat} {C:List DV} (hC:C=tx.map u8) (htl:tx.length≤1000) (hnV:nV≤1000) (hfit:a+tx.length+1≤nV):∀ (r d:List UInt8) (V:List Nat) (k:Nat) (H:List HO),tx=d++r→Trie st H root N es dg→N d=some k→rowAt H kv=some (.plain,V.map d8)→V.length=nV →
 ∃ x7 x24 tl,(E tab).C nQ [(0,hp'),(1,.str text),(2,.fn 152 [.hsl 1 false (st.heap.length+kv) 0 nV (some nV)] []),(6,.int .i64 a),(7,.ptr (st.heap.length+k) 0),(11,.int .i64 text.length),(12,.int .i64 a),(22,.list st.cur 1 .no true C),(23,.int .i64 tx.length),(24,.int .i64 d.length)] (pst st H K) =
   some (.exit 2,[(0,hp'),(1,.str text),(2,.fn 152 [.hsl 1 false (st.heap.length+kv) 0 nV (some nV)] []),(6,.int .i64 a),(7,x7),(11,.int .i64 text.length),(12,.int .i64 a),(22,.list st.cur 1 .no true C),(23,.int .i64 tx.length),(24,x24),tl],pst st (H.set kv (.cells .plain ((fO N dg a d r V).map d8))) K):=by
 intro r
 induction r with
 | nil=>
   intro d V k H hd hT hN hv hV
   obtain rfl:tx=d:=by simpa using hd
   have hset:H.set kv (.cells .plain ((fO N dg a tx [] V).map d8))=H:=by
    have hk:=aZ hv
    apply List.ext_getElem?
    intro j
    by_cases hj:j=kv
    · subst hj
      rw [List.getElem?_set_self hk]
      unfold rowAt at hv
      split at hv
      · rename_i e;simp only [Option.some.injEq,Prod.mk.injEq] at hv;rw [e,hv.1,hv.2];rfl
      · cases hv
    · rw [List.getElem?_set_ne (fun e=>hj e.symm)]
   rw [hset]
   refine ⟨.ptr (st.heap.length+k) 0,.int .i64 tx.length,(25,.bool false),?_⟩
   rw [aj (L:=nQ) rfl]
   simp [py]
 | cons c r ih=>
   intro d V k H hd hT hN hv hV
   have h0:d.length<tx.length:=by simp [hd]
   have hx:C[d.length]? = some (.int .u8 c.toNat):=by simp [hC,hd,u8]
   have hlt:d.length<C.length:=(List.getElem?_eq_some_iff.1 hx).1
   have hge:C[d.length]'hlt=.int .u8 c.toNat:=by have:=hx;rw [List.getElem?_eq_getElem hlt] at this;exact Option.some.inj this
   have hw1:IntKind.i64.wrap ((d.length:Int)+1)=(d.length:Int)+1:=by rw [aD (by omega)]
   have hrow:=hT.row hN
   have hlk:=hT.look hN c K
   have hkf:iw [.int] (.int .u8 c.toNat)=true:=rfl
   cases hn:N (d++[c]) with
   | none=>
     rw [hn] at hlk
     have e:fO N dg a d (c::r) V=V:=by simp only [fO,hn,if_true]
     have hset:H.set kv (.cells .plain (V.map d8))=H:=by
      have hk:=aZ hv
      apply List.ext_getElem?
      intro j
      by_cases hj:j=kv
      · subst hj
        rw [List.getElem?_set_self hk]
        unfold rowAt at hv
        split at hv
        · rename_i e;simp only [Option.some.injEq,Prod.mk.injEq] at hv;rw [e,hv.1,hv.2]
        · cases hv
      · rw [List.getElem?_set_ne (fun e=>hj e.symm)]
     rw [e,hset]
     simp only [oP] at hlk
     refine ⟨.bu,.int .i64 d.length,(35,.bool true),?_⟩
     rw [aj (L:=nQ) rfl]
     simp [py,h0,hx,hge,hlt,hrow,hlk,hkf,eqD]
   | some k2=>
     rw [hn] at hlk
     simp only [oP] at hlk
     have hrow2:=hT.row hn
     cases hdg:dg (d++[c]) with
     | none=>
       have e:fO N dg a d (c::r) V=fO N dg a (d++[c]) r V:=by simp [fO,hn,hdg]
       rw [e]
       rw [hdg] at hrow2
       simp only [nG] at hrow2
       obtain ⟨x7,x24,tl,hJ⟩:=ih (d++[c]) V k2 H (by simp [hd]) hT hn hv hV
       refine ⟨x7,x24,tl,?_⟩
       simp at hJ
       rw [aj (L:=nQ) rfl]
       simp [py,h0,hx,hge,hlt,hrow,hrow2,hlk,hkf,eqD,hw1,hJ]
     | some y=>
       obtain ⟨kd,D⟩:=y
       have hD:=hT.rS hdg
       have hdr:=hT.H6 hdg
       have hne:kd≠kv:=by rintro rfl;rw [hv] at hdr;cases hdr
       have e:fO N dg a d (c::r) V=fO N dg a (d++[c]) r (fU V a D):=by simp [fO,hn,hdg]
       rw [e]
       rw [hdg] at hrow2
       simp only [nG] at hrow2
       simp at hD
       have hly:=Tu (st:=st) (K:=K) (a:=a) (n:=nV) hne hnV (by omega) hV hv hdr
       obtain ⟨x7,x24,tl,hJ⟩:=ih (d++[c]) (fU V a D) k2 (H.set kv (.cells .plain ((fU V a D).map d8))) (by simp [hd]) (hT.ar0 hv) hn (cP (aZ hv) _ _) (by rw [iV];exact hV)
       refine ⟨x7,x24,tl,?_⟩
       rw [List.set_set] at hJ
       simp at hJ
       rw [aj (L:=nQ) rfl]
       simp [py,h0,hx,hge,hlt,hrow,hrow2,hlk,hkf,eqD,dF,hly,hw1,hJ]
def cW (N:Path→Option Nat) (dg:Path→Option (Nat×List Nat)):Nat→List UInt8→List Nat→List Nat
 | _,[],V=>V
 | a,c::r,V=>cW N dg (a+1) r (fO N dg a [] (c::r) V)
theorem mi (N:Path→Option Nat) (dg:Path→Option (Nat×List Nat)) (a:Nat):∀ (r p:List UInt8) (V:List Nat),(fO N dg a p r V).length=V.length
 | [],p,V=>rfl
 | c::r,p,V=>by
   simp only [fO]
   split
   · rfl
   · rw [mi N dg a r]
     split
     · rw [iV]
     · rfl
theorem aiz {K:List Nat} {text:List UInt8} {kh kv nV:Nat} {hx:DV} (htl:text.length≤900) (hnV:nV≤1000) (hfit:text.length+1≤nV) (hne:kh≠kv):∀ (r d:List UInt8) (V:List Nat) (H:List HO),text=d++r→Trie st H root N es dg→rowAt H kh=some (.plain,[.ptr (st.heap.length+root) 0,hx])→rowAt H kv=some (.plain,V.map d8)→V.length=nV →
 ∃ fr,(E tab).C u3 [(0,.ptr (st.heap.length+kh) 0),(1,.str text),(2,.fn 152 [.hsl 1 false (st.heap.length+kv) 0 nV (some nV)] []),(11,.int .i64 text.length),(12,.int .i64 d.length)] (pst st H K) =
   some (.exit 0,fr,pst st (H.set kv (.cells .plain ((cW N dg d.length r V).map d8))) K):=by
 intro r
 induction r with
 | nil=>
   intro d V H hd hT hh hv hV
   obtain rfl:text=d:=by simpa using hd
   have hset:H.set kv (.cells .plain ((cW N dg text.length [] V).map d8))=H:=by
    have hk:=aZ hv
    apply List.ext_getElem?
    intro j
    by_cases hj:j=kv
    · subst hj
      rw [List.getElem?_set_self hk]
      unfold rowAt at hv
      split at hv
      · rename_i e;simp only [Option.some.injEq,Prod.mk.injEq] at hv;rw [e,hv.1,hv.2];rfl
      · cases hv
    · rw [List.getElem?_set_ne (fun e=>hj e.symm)]
   rw [hset]
   refine ⟨[(0,.ptr (st.heap.length+kh) 0),(1,.str text),(2,.fn 152 [.hsl 1 false (st.heap.length+kv) 0 nV (some nV)] []),(11,.int .i64 text.length),(12,.int .i64 text.length),(13,.bool false)],?_⟩
   rw [aj (L:=u3) rfl]
   simp [zM]
 | cons c r ih=>
   intro d V H hd hT hh hv hV
   have h0:d.length<text.length:=by simp [hd]
   have hw1:IntKind.i64.wrap ((d.length:Int)+1)=(d.length:Int)+1:=by rw [aD (by omega)]
   have hlen:text.length=d.length+(c::r).length:=by simp [hd]
   have hsl:bY true 1 (.str text) (some (.int .i64 d.length)) none none=some (.str (c::r)):=by
    rw [AY (by omega) (by omega)];simp [hd]
   have hu:(fun b:UInt8=>DV.int .u8 (b.toNat:Int))=u8:=rfl
   obtain ⟨x7,x24,tl,hI⟩:=afb (K:=K) (hp':=.ptr (st.heap.length+kh) 0) (text:=text) (a:=d.length) (kv:=kv) (nV:=nV) (tx:=c::r) rfl (by omega) hnV (by omega) (c::r) [] V root H rfl hT hT.top hv hV
   have hT2:=hT.ar0 (W:=fO N dg d.length [] (c::r) V) hv
   have hh2:rowAt (H.set kv (.cells .plain ((fO N dg d.length [] (c::r) V).map d8))) kh=some (.plain,[.ptr (st.heap.length+root) 0,hx]):=by
    unfold rowAt at hh ⊢;rw [List.getElem?_set_ne (fun e=>hne e.symm)];exact hh
   obtain ⟨fr,hJ⟩:=ih (d++[c]) (fO N dg d.length [] (c::r) V) (H.set kv (.cells .plain ((fO N dg d.length [] (c::r) V).map d8))) (by simp [hd]) hT2 hh2 (cP (aZ hv) _ _) (by rw [mi];exact hV)
   refine ⟨fr,?_⟩
   have e:cW N dg d.length (c::r) V=cW N dg (d++[c]).length r (fO N dg d.length [] (c::r) V):=by simp [cW]
   rw [e]
   rw [List.set_set] at hJ
   generalize (cW N dg (d++[c]).length r (fO N dg d.length [] (c::r) V)).map d8=W at *
   generalize (fO N dg d.length [] (c::r) V).map d8=W1 at *
   simp at hJ hI
   rw [aj (L:=u3) rfl]
   simp [zM,h0,hh,hsl,hu,hI,hw1,hJ]
theorem Eo {K:List Nat} {text:List UInt8} {kh kv nV:Nat} {hx:DV} {V:List Nat} {H:List HO} (htl:text.length≤900) (hnV:nV≤1000) (hfit:text.length+1≤nV) (hne:kh≠kv) (hT:Trie st H root N es dg) (hh:rowAt H kh=some (.plain,[.ptr (st.heap.length+root) 0,hx])) (hv:rowAt H kv=some (.plain,V.map d8)) (hV:V.length=nV) :
 (E tab).F 151 [.ptr (st.heap.length+kh) 0,.str text,.fn 152 [.hsl 1 false (st.heap.length+kv) 0 nV (some nV)] []] (pst st H K)=some (.tuple [],pst st (H.set kv (.cells .plain ((cW N dg 0 text V).map d8))) K):=by
 rw [eC amG rfl]
 obtain ⟨fr,hL⟩:=aiz (K:=K) htl hnV hfit hne text [] V H rfl hT hh hv hV
 simp at hL
 simp [f151,hL]
end
theorem aqj:tab 164=some (.code f164):=by kernel_rfl
theorem ano:tab 157=some (.code f157):=by kernel_rfl
section
variable {st:St} {H:List HO} {K:List Nat}
theorem En {t:Nat} {tk:Tk} {D:List Nat} (hD:D≠[]) (hl:D.length≤1000):(E tab).F 164 [.list t 1 tk true (D.map d8)] (pst st H K)=some (.hsl 1 false (st.heap.length+H.length) 0 D.length none,pst st (H++[.cells .grown (D.map d8)]) K):=by
 rw [eC aqj rfl]
 have hel:∀ y∈D.map d8,cX 1 false y:=by intro y hy;obtain ⟨c,_,rfl⟩:=List.mem_map.1 hy;exact ⟨rfl,rfl,rfl⟩
 have hfl:=gq _ hel
 have hlen:D.length≠0:=fun e=>hD (List.length_eq_zero_iff.1 e)
 have hr:D.length≤140737488355328:=by omega
 have hn:bP (pst st H K) 1 (.list t 1 tk true (D.map d8))=some (D.length,D.map d8):=by simp [bP,hfl]
 have ha:∀ c,kC (pst st H K) 1 false 1 (.list c 1 .tight true []) (.list t 1 tk true (D.map d8))=some (.hsl 1 false (st.heap.length+H.length) 0 D.length none,pst st (H++[.cells .grown (D.map d8)]) K):=by
  intro c
  simp only [kC,hn,if_neg hlen]
  rw [if_pos ⟨⟨by omega,trivial⟩,by simp [aA];omega,by simp [aA];omega⟩]
  simp [pst]
 simp [f164,eqD,a0,bk,chunk,ha]
end
structure TS where
 N:Path→Option Nat
 es:Path→Option (Nat×List (UInt8×Nat))
 dg:Path→Option (Nat×List Nat)
abbrev TS.ok (st:St) (H:List HO) (root:Nat) (t:TS):Prop:=Trie st H root t.N t.es t.dg
def TS.own (t:TS) (j:Nat):Prop:=(∃ p,t.N p=some j)∨(∃ p l,t.es p=some (j,l))∨(∃ p D,t.dg p=some (j,D))
structure gM (H:List HO) (t:TS) (H':List HO) (t':TS):Prop where
 len:H.length≤H'.length
 fr:∀ j,j<H.length→¬ t.own j→H'[j]? = H[j]?
 own:∀ j,t'.own j→t.own j∨H.length≤j
theorem gM.refl (H:List HO) (t:TS):gM H t H t:=⟨Nat.le_refl _,fun _ _ _=>rfl,fun _ h=>.inl h⟩
theorem gM.trans {H H' H'':List HO} {t t' t'':TS} (a:gM H t H' t') (b:gM H' t' H'' t''):gM H t H'' t'':=by
 refine ⟨Nat.le_trans a.len b.len,?_,?_⟩
 · intro j hj ho
   rw [b.fr j (Nat.lt_of_lt_of_le hj a.len) (fun h=>(a.own j h).elim ho (fun h=>by omega)),a.fr j hj ho]
 · intro j h
   rcases b.own j h with h | h
   · exact a.own j h
   · exact .inr (Nat.le_trans a.len h)
def upd {α β:Type} [DecidableEq α] (f:α→β) (a:α) (b:β):α→β:=fun x=>if x=a then b else f x
@[simp] theorem aN {α β:Type} [DecidableEq α] (f:α→β) (a:α) (b:β):upd f a b a=b:=by simp [upd]
theorem aK {α β:Type} [DecidableEq α] (f:α→β) {a x:α} (b:β) (h:x≠a):upd f a b x=f x:=by simp [upd,h]
theorem aJ {H:List HO} {k:Nat} {g:CK} {vs:List DV}:rowAt H k=some (g,vs)↔H[k]? = some (.cells g vs):=by
 unfold rowAt
 constructor
 · intro h
   split at h
   · rename_i e;simp only [Option.some.injEq,Prod.mk.injEq] at h;rw [e,h.1,h.2]
   · cases h
 · intro h;rw [h]
theorem eO {H X:List HO} {j:Nat} {o:HO} (h:H[j]? = some o):(H++X)[j]? = some o:=by
 rw [List.getElem?_append_left (List.getElem?_eq_some_iff.1 h).1];exact h
theorem bZ {H:List HO} {j k:Nat} {o x:HO} (h:H[j]? = some o) (hk:j≠k):(H.set k x)[j]? = some o:=by
 rw [List.getElem?_set_ne (fun e=>hk e.symm)];exact h
section
variable {st:St} {H:List HO} {root:Nat} {t:TS}
theorem Trie.tv (h:t.ok st H root) {p:Path} {k:Nat} (hp:t.N p=some k):H[k]? = some (.cells .plain [lf st (t.es p),nG st (t.dg p)]):=aJ.1 (h.row hp)
theorem Trie.mK (h:t.ok st H root) {p:Path} {k:Nat} {D:List Nat} (hp:t.dg p=some (k,D)):H[k]? = some (.cells .grown (D.map d8)):=aJ.1 (h.H6 hp)
theorem Trie.Dr (h:t.ok st H root) {p:Path} {k:Nat} (hp:t.N p=some k):k<H.length:=(List.getElem?_eq_some_iff.1 (h.tv hp)).1
theorem Trie.N0 (h:t.ok st H root) {p:Path} {m:Nat} {l:List (UInt8×Nat)} (hp:t.es p=some (m,l)):m<H.length:=(List.getElem?_eq_some_iff.1 (h.nR hp)).1
theorem Trie.LV (h:t.ok st H root) {p:Path} {k:Nat} {D:List Nat} (hp:t.dg p=some (k,D)):k<H.length:=(List.getElem?_eq_some_iff.1 (h.mK hp)).1
theorem Trie.nm (h:t.ok st H root) {p q:Path} {k m:Nat} {l:List (UInt8×Nat)} (hp:t.N p=some k) (hq:t.es q=some (m,l)):k≠m:=by
 rintro rfl;have h1:=h.tv hp;rw [h.nR hq] at h1;cases h1
theorem Trie.nd (h:t.ok st H root) {p q:Path} {k m:Nat} {D:List Nat} (hp:t.N p=some k) (hq:t.dg q=some (m,D)):k≠m:=by
 rintro rfl;have h1:=h.tv hp;rw [h.mK hq] at h1;cases h1
theorem Trie.md (h:t.ok st H root) {p q:Path} {k m:Nat} {l:List (UInt8×Nat)} {D:List Nat} (hp:t.es p=some (k,l)) (hq:t.dg q=some (m,D)):k≠m:=by
 rintro rfl;have h1:=h.nR hp;rw [h.mK hq] at h1;cases h1
theorem Trie.grow (h:t.ok st H root) (X:List HO):t.ok st (H++X) root:=
 ⟨h.top,h.vi,fun hp=>aJ.2 (eO (h.tv hp)),fun hp=>eO (h.nR hp),h.rv,h.kid,fun hp=>aJ.2 (eO (h.mK hp)),h.rJ,h.rS,h.off⟩
theorem Trie.mkm (h:t.ok st H root) {p:Path} {k:Nat} (hp:t.N p=some k) (he:t.es p=none) :
 TS.ok st ((H++[HO.map []]).set k (HO.cells .plain [.map (st.heap.length+H.length),nG st (t.dg p)])) root ⟨t.N,upd t.es p (some (H.length,[])),t.dg⟩ ∧
 gM H t ((H++[HO.map []]).set k (HO.cells .plain [.map (st.heap.length+H.length),nG st (t.dg p)])) ⟨t.N,upd t.es p (some (H.length,[])),t.dg⟩:=by
 have hk:=h.Dr hp
 have hnew:(H++[HO.map []])[H.length]? = some (.map []):=by simp
 refine ⟨⟨h.top,h.vi,?_,?_,?_,?_,?_,h.rJ,h.rS,?_⟩,⟨by simp,?_,?_⟩⟩
 · intro q j hq
   rw [aJ]
   by_cases hqp:q=p
   · subst hqp
     have:j=k:=by rw [hp] at hq;exact (Option.some.inj hq).symm
     subst this
     rw [List.getElem?_set_self (by simp;omega)]
     simp [lf]
   · have hne:j≠k:=by rintro rfl;exact hqp (h.vi hq hp)
     rw [bZ (eO (h.tv hq)) hne]
     simp only [aK _ _ hqp]
 · intro q m l hq
   by_cases hqp:q=p
   · subst hqp
     simp only [aN,Option.some.injEq,Prod.mk.injEq] at hq
     obtain ⟨rfl,rfl⟩:=hq
     rw [bZ hnew (Nat.ne_of_gt (by assumption))];rfl
   · simp only [aK _ _ hqp] at hq
     exact bZ (eO (h.nR hq)) (fun e=>h.nm hp hq e.symm)
 · intro q q' m l l' hq hq'
   by_cases hqp:q=p<;>by_cases hqp':q'=p
   · rw [hqp,hqp']
   · exfalso;subst hqp;simp only [aN,aK _ _ hqp',Option.some.injEq,Prod.mk.injEq] at hq hq'
     have:=h.N0 hq';omega
   · exfalso;subst hqp';simp only [aN,aK _ _ hqp,Option.some.injEq,Prod.mk.injEq] at hq hq'
     have:=h.N0 hq;omega
   · simp only [aK _ _ hqp,aK _ _ hqp'] at hq hq';exact h.rv hq hq'
 · intro q j c hq
   by_cases hqp:q=p
   · subst hqp
     simp only [aN,ff]
     have:=h.kid c hq
     rw [he] at this;exact this
   · simp only [aK _ _ hqp];exact h.kid c hq
 · intro q j D hq
   rw [aJ]
   exact bZ (eO (h.mK hq)) (fun e=>h.nd hp hq e.symm)
 · intro q hq
   have hqp:q≠p:=by rintro rfl;simp only at hq;rw [hp] at hq;cases hq
   obtain ⟨a,b,c⟩:=h.off hq
   exact ⟨by simp only [aK _ _ hqp];exact a,b,c⟩
 · intro j hj ho
   have:j≠k:=by rintro rfl;exact ho (.inl ⟨p,hp⟩)
   rw [List.getElem?_set_ne (fun e=>this e.symm),List.getElem?_append_left hj]
 · intro j hj
   rcases hj with ⟨q,hq⟩ | ⟨q,l,hq⟩ | ⟨q,D,hq⟩
   · exact .inl (.inl ⟨q,hq⟩)
   · by_cases hqp:q=p
     · subst hqp;simp only [aN,Option.some.injEq,Prod.mk.injEq] at hq;right;omega
     · simp only [aK _ _ hqp] at hq;exact .inl (.inr (.inl ⟨q,l,hq⟩))
   · exact .inl (.inr (.inr ⟨q,D,hq⟩))
theorem sd:∀ (l:List (UInt8×Nat)) (c d:UInt8) (x:Nat),ff l c=none→ff (l++[(c,x)]) d=if d=c then some x else ff l d
 | [],c,d,x,_=>rfl
 | (a,k)::r,c,d,x,h=>by
   have hca:c≠a:=by rintro rfl;simp [ff] at h
   simp only [ff,if_neg hca] at h
   have ih:=sd r c d x h
   simp only [List.cons_append,ff,ih]
   by_cases hda:d=a
   · subst hda
     rw [if_pos rfl,if_neg (fun e=>hca e.symm),if_pos rfl]
   · rw [if_neg hda]
     by_cases hdc:d=c
     · rw [if_pos hdc,if_pos hdc]
     · rw [if_neg hdc,if_neg hdc,if_neg hda]
theorem Trie.aoQ (h:t.ok st H root) {p:Path} {k m:Nat} {l:List (UInt8×Nat)} {c:UInt8} (hp:t.N p=some k) (he:t.es p=some (m,l)) (hc:ff l c=none) :
 TS.ok st ((H++[HO.cells .plain [.aG,.list 0 0 .no false []]]).set m (HO.map ((l++[(c,H.length)]).map (oj st)))) root ⟨upd t.N (p++[c]) (some H.length),upd t.es p (some (m,l++[(c,H.length)])),t.dg⟩ ∧
 gM H t ((H++[HO.cells .plain [.aG,.list 0 0 .no false []]]).set m (HO.map ((l++[(c,H.length)]).map (oj st)))) ⟨upd t.N (p++[c]) (some H.length),upd t.es p (some (m,l++[(c,H.length)])),t.dg⟩:=by
 have hm:=h.N0 he
 have hN0:t.N (p++[c])=none:=by rw [h.kid c hp,he];exact hc
 obtain ⟨o1,o2,o3⟩:=h.off hN0
 have hpp:p++[c]≠p:=by intro e;have:=congrArg List.length e;simp at this
 have hnp:[]≠p++[c]:=by simp
 have hnew:(H++[HO.cells .plain [.aG,.list 0 0 .no false []]])[H.length]? = some (.cells .plain [.aG,.list 0 0 .no false []]):=by simp
 refine ⟨⟨?_,?_,?_,?_,?_,?_,?_,h.rJ,h.rS,?_⟩,⟨by simp,?_,?_⟩⟩
 · simp only [aK _ _ hnp];exact h.top
 · intro q q' j hq hq'
   by_cases a:q=p++[c]<;>by_cases b:q'=p++[c]
   · rw [a,b]
   · exfalso;subst a;simp only [aN,aK _ _ b,Option.some.injEq] at hq hq'
     have:=h.Dr hq';omega
   · exfalso;subst b;simp only [aN,aK _ _ a,Option.some.injEq] at hq hq'
     have:=h.Dr hq;omega
   · simp only [aK _ _ a,aK _ _ b] at hq hq';exact h.vi hq hq'
 · intro q j hq
   rw [aJ]
   by_cases a:q=p++[c]
   · subst a
     simp only [aN,Option.some.injEq] at hq
     subst hq
     rw [bZ hnew (Nat.ne_of_gt (by assumption))]
     simp only [aK _ _ hpp,o1,o2,lf,nG]
   · simp only [aK _ _ a] at hq
     rw [bZ (eO (h.tv hq)) (h.nm hq he)]
     by_cases b:q=p
     · subst b;simp only [aN,he,lf]
     · simp only [aK _ _ b]
 · intro q m' l' hq
   by_cases b:q=p
   · subst b
     simp only [aN,Option.some.injEq,Prod.mk.injEq] at hq
     obtain ⟨rfl,rfl⟩:=hq
     rw [List.getElem?_set_self (by simp;omega)]
   · simp only [aK _ _ b] at hq
     exact bZ (eO (h.nR hq)) (by rintro rfl;exact b (h.rv hq he))
 · intro q q' m' l' l'' hq hq'
   by_cases a:q=p<;>by_cases b:q'=p
   · rw [a,b]
   · subst a;simp only [aN,aK _ _ b,Option.some.injEq,Prod.mk.injEq] at hq hq'
     obtain ⟨rfl,_⟩:=hq
     exact h.rv he hq'
   · subst b;simp only [aN,aK _ _ a,Option.some.injEq,Prod.mk.injEq] at hq hq'
     obtain ⟨rfl,_⟩:=hq'
     exact h.rv hq he
   · simp only [aK _ _ a,aK _ _ b] at hq hq';exact h.rv hq hq'
 · intro q j d hq
   by_cases a:q=p++[c]
   · subst a
     have:(p++[c])++[d]≠p++[c]:=by intro e;have:=congrArg List.length e;simp at this
     simp only [aK _ _ this,aK _ _ hpp,o1,o3 d]
   · simp only [aK _ _ a] at hq
     have hk:=h.kid d hq
     by_cases b:q=p
     · subst b
       rw [he] at hk
       simp only at hk
       simp only [aN,sd l c d _ hc]
       by_cases hd:d=c
       · subst hd;simp
       · have:q++[d]≠q++[c]:=by simpa using hd
         rw [if_neg hd,← hk];simp only [aK _ _ this]
     · have:q++[d]≠p++[c]:=by intro e;exact b (List.append_inj_left' e rfl)
       simp only [aK _ _ this,aK _ _ b];exact hk
 · intro q j D hq
   rw [aJ]
   exact bZ (eO (h.mK hq)) (fun e=>h.md he hq e.symm)
 · intro q hq
   by_cases a:q=p++[c]
   · subst a;simp only [aN] at hq;cases hq
   · simp only [aK _ _ a] at hq
     obtain ⟨x,y,z⟩:=h.off hq
     have b:q≠p:=by rintro rfl;rw [hp] at hq;cases hq
     refine ⟨by simp only [aK _ _ b];exact x,y,fun d => ?_⟩
     have:q++[d]≠p++[c]:=by intro e;exact b (List.append_inj_left' e rfl)
     simp only [aK _ _ this];exact z d
 · intro j hj ho
   have:j≠m:=by rintro rfl;exact ho (.inr (.inl ⟨p,l,he⟩))
   rw [List.getElem?_set_ne (fun e=>this e.symm),List.getElem?_append_left hj]
 · intro j hj
   rcases hj with ⟨q,hq⟩ | ⟨q,l',hq⟩ | ⟨q,D,hq⟩
   · by_cases a:q=p++[c]
     · subst a;simp only [aN,Option.some.injEq] at hq;right;omega
     · simp only [aK _ _ a] at hq;exact .inl (.inl ⟨q,hq⟩)
   · by_cases b:q=p
     · subst b;simp only [aN,Option.some.injEq,Prod.mk.injEq] at hq
       obtain ⟨rfl,_⟩:=hq
       exact .inl (.inr (.inl ⟨q,l,he⟩))
     · simp only [aK _ _ b] at hq;exact .inl (.inr (.inl ⟨q,l',hq⟩))
   · exact .inl (.inr (.inr ⟨q,D,hq⟩))
theorem Trie.auQ (h:t.ok st H root) {p:Path} {k:Nat} {D:List Nat} (hp:t.N p=some k) (he:t.dg p=none) (hD:D.length=p.length+1) :
 TS.ok st ((H++[HO.cells .grown (D.map d8)]).set k (HO.cells .plain [lf st (t.es p),.hsl 1 false (st.heap.length+H.length) 0 D.length none])) root ⟨t.N,t.es,upd t.dg p (some (H.length,D))⟩ ∧
 gM H t ((H++[HO.cells .grown (D.map d8)]).set k (HO.cells .plain [lf st (t.es p),.hsl 1 false (st.heap.length+H.length) 0 D.length none])) ⟨t.N,t.es,upd t.dg p (some (H.length,D))⟩:=by
 have hk:=h.Dr hp
 have hnew:(H++[HO.cells .grown (D.map d8)])[H.length]? = some (.cells .grown (D.map d8)):=by simp
 refine ⟨⟨h.top,h.vi,?_,?_,h.rv,h.kid,?_,?_,?_,?_⟩,⟨by simp,?_,?_⟩⟩
 · intro q j hq
   rw [aJ]
   by_cases hqp:q=p
   · subst hqp
     have:j=k:=by rw [hp] at hq;exact (Option.some.inj hq).symm
     subst this
     rw [List.getElem?_set_self (by simp;omega)]
     simp [nG]
   · have hne:j≠k:=by rintro rfl;exact hqp (h.vi hq hp)
     rw [bZ (eO (h.tv hq)) hne]
     simp only [aK _ _ hqp]
 · intro q m l hq
   exact bZ (eO (h.nR hq)) (fun e=>h.nm hp hq e.symm)
 · intro q j D' hq
   rw [aJ]
   by_cases hqp:q=p
   · subst hqp
     simp only [aN,Option.some.injEq,Prod.mk.injEq] at hq
     obtain ⟨rfl,rfl⟩:=hq
     exact bZ hnew (Nat.ne_of_gt (by assumption))
   · simp only [aK _ _ hqp] at hq
     exact bZ (eO (h.mK hq)) (fun e=>h.nd hp hq e.symm)
 · intro q q' m D1 D2 hq hq'
   by_cases hqp:q=p<;>by_cases hqp':q'=p
   · rw [hqp,hqp']
   · exfalso;subst hqp;simp only [aN,aK _ _ hqp',Option.some.injEq,Prod.mk.injEq] at hq hq'
     have:=h.LV hq';omega
   · exfalso;subst hqp';simp only [aN,aK _ _ hqp,Option.some.injEq,Prod.mk.injEq] at hq hq'
     have:=h.LV hq;omega
   · simp only [aK _ _ hqp,aK _ _ hqp'] at hq hq';exact h.rJ hq hq'
 · intro q j D' hq
   by_cases hqp:q=p
   · subst hqp
     simp only [aN,Option.some.injEq,Prod.mk.injEq] at hq
     rw [← hq.2];exact hD
   · simp only [aK _ _ hqp] at hq;exact h.rS hq
 · intro q hq
   have hqp:q≠p:=by rintro rfl;simp only at hq;rw [hp] at hq;cases hq
   obtain ⟨a,b,c⟩:=h.off hq
   exact ⟨a,by simp only [aK _ _ hqp];exact b,c⟩
 · intro j hj ho
   have:j≠k:=by rintro rfl;exact ho (.inl ⟨p,hp⟩)
   rw [List.getElem?_set_ne (fun e=>this e.symm),List.getElem?_append_left hj]
 · intro j hj
   rcases hj with ⟨q,hq⟩ | ⟨q,l,hq⟩ | ⟨q,D',hq⟩
   · exact .inl (.inl ⟨q,hq⟩)
   · exact .inl (.inr (.inl ⟨q,l,hq⟩))
   · by_cases hqp:q=p
     · subst hqp;simp only [aN,Option.some.injEq,Prod.mk.injEq] at hq;right;omega
     · simp only [aK _ _ hqp] at hq;exact .inl (.inr (.inr ⟨q,D',hq⟩))
theorem Trie.auq (h:t.ok st H root) {p:Path} {kd:Nat} {D D':List Nat} (hd:t.dg p=some (kd,D)) (hl:D'.length=D.length) :
 TS.ok st (H.set kd (HO.cells .grown (D'.map d8))) root ⟨t.N,t.es,upd t.dg p (some (kd,D'))⟩∧gM H t (H.set kd (HO.cells .grown (D'.map d8))) ⟨t.N,t.es,upd t.dg p (some (kd,D'))⟩:=by
 have hk:=h.LV hd
 refine ⟨⟨h.top,h.vi,?_,?_,h.rv,h.kid,?_,?_,?_,?_⟩,⟨by simp,?_,?_⟩⟩
 · intro q j hq
   rw [aJ,bZ (h.tv hq) (h.nd hq hd)]
   by_cases hqp:q=p
   · subst hqp;simp only [aN,hd,nG,hl]
   · simp only [aK _ _ hqp]
 · intro q m l hq
   exact bZ (h.nR hq) (h.md hq hd)
 · intro q j D1 hq
   rw [aJ]
   by_cases hqp:q=p
   · subst hqp
     simp only [aN,Option.some.injEq,Prod.mk.injEq] at hq
     obtain ⟨rfl,rfl⟩:=hq
     rw [List.getElem?_set_self hk]
   · simp only [aK _ _ hqp] at hq
     exact bZ (h.mK hq) (by rintro rfl;exact hqp (h.rJ hq hd))
 · intro q q' m D1 D2 hq hq'
   by_cases hqp:q=p<;>by_cases hqp':q'=p
   · rw [hqp,hqp']
   · subst hqp;simp only [aN,aK _ _ hqp',Option.some.injEq,Prod.mk.injEq] at hq hq'
     obtain ⟨rfl,_⟩:=hq;exact h.rJ hd hq'
   · subst hqp';simp only [aN,aK _ _ hqp,Option.some.injEq,Prod.mk.injEq] at hq hq'
     obtain ⟨rfl,_⟩:=hq';exact h.rJ hq hd
   · simp only [aK _ _ hqp,aK _ _ hqp'] at hq hq';exact h.rJ hq hq'
 · intro q j D1 hq
   by_cases hqp:q=p
   · subst hqp
     simp only [aN,Option.some.injEq,Prod.mk.injEq] at hq
     rw [← hq.2,hl];exact h.rS hd
   · simp only [aK _ _ hqp] at hq;exact h.rS hq
 · intro q hq
   obtain ⟨a,b,c⟩:=h.off hq
   have hqp:q≠p:=by rintro rfl;rw [hd] at b;cases b
   exact ⟨a,by simp only [aK _ _ hqp];exact b,c⟩
 · intro j hj ho
   have:j≠kd:=by rintro rfl;exact ho (.inr (.inr ⟨p,D,hd⟩))
   rw [List.getElem?_set_ne (fun e=>this e.symm)]
 · intro j hj
   rcases hj with ⟨q,hq⟩ | ⟨q,l,hq⟩ | ⟨q,D1,hq⟩
   · exact .inl (.inl ⟨q,hq⟩)
   · exact .inl (.inr (.inl ⟨q,l,hq⟩))
   · by_cases hqp:q=p
     · subst hqp;simp only [aN,Option.some.injEq,Prod.mk.injEq] at hq
       obtain ⟨rfl,_⟩:=hq
       exact .inl (.inr (.inr ⟨q,D,hd⟩))
     · simp only [aK _ _ hqp] at hq;exact .inl (.inr (.inr ⟨q,D1,hq⟩))
end
theorem lF {st:St} {H:List HO} {K:List Nat} {ks:List LK} {m:Nat} {es:List (DV×DV)} {key v:DV} (h:H[m]? = some (.map es)) (hf:findD ks key es 0=some none) :
 gf (pst st H K) ks (.map (st.heap.length+m)) key v=some (pst st (H.set m (.map (es++[(key,v)]))) K):=by
 have hb:(pst st H K).base≤st.heap.length+m:=by simp
 simp only [gf,cu,h,hf,hb,if_true]
 simp [pst,List.set_append_right]
theorem Trie.letter {st:St} {H:List HO} {root:Nat} {t:TS} (h:t.ok st H root) {p:Path} {k:Nat} {c:UInt8} (hp:t.N p=some k) :
 (∃ m l k2,t.es p=some (m,l)∧ff l c=some k2∧t.N (p++[c])=some k2) ∨
 (∃ m l,t.es p=some (m,l)∧ff l c=none)∨t.es p=none:=by
 cases he:t.es p with
 | none=>exact .inr (.inr rfl)
 | some x=>
   obtain ⟨m,l⟩:=x
   cases hc:ff l c with
   | none=>exact .inr (.inl ⟨m,l,rfl,hc⟩)
   | some k2=>
     refine .inl ⟨m,l,k2,rfl,hc,?_⟩
     have:=h.kid c hp
     rw [he] at this;simp only at this;rw [this,hc]
theorem zy (st:St) {l:List (UInt8×Nat)} {c:UInt8} (h:ff l c=none):findD [.int] (.int .u8 c.toNat) (l.map (oj st)) 0=some none:=by
 obtain ⟨j,hj⟩:=nX st l c 0
 rw [hj,h];rfl
section
variable {st:St} {root:Nat}
theorem ahp {K:List Nat} {dv:DV} {L:List UInt8} {C:List DV} (hC:C=L.map u8) (hl:L.length≤1000):∀ (r d:List UInt8) (k:Nat) (H:List HO) (t:TS),L=d++r→t.ok st H root→t.N d=some k →
 ∃ tl k' H' t',(E tab).C og [(0,.ptr (st.heap.length+k) 0),(2,dv),(11,.list st.cur 1 .no true C),(12,.int .i64 L.length),(13,.int .i64 d.length)] (pst st H K) =
   some (.exit 0,(0,.ptr (st.heap.length+k') 0)::(2,dv)::tl,pst st H' K)∧t'.ok st H' root∧t'.N L=some k'∧gM H t H' t'∧t'.dg=t.dg:=by
 intro r
 induction r with
 | nil=>
   intro d k H t hd hT hN
   obtain rfl:L=d:=by simpa using hd
   refine ⟨[(11,.list st.cur 1 .no true C),(12,.int .i64 L.length),(13,.int .i64 L.length),(14,.bool false)],k,H,t,?_,hT,hN,gM.refl _ _,rfl⟩
   rw [aj (L:=og) rfl]
   simp [qB]
 | cons c r ih=>
   intro d k H t hd hT hN
   have h0:d.length<L.length:=by simp [hd]
   have hx:C[d.length]? = some (.int .u8 c.toNat):=by simp [hC,hd,u8]
   have hlt:d.length<C.length:=(List.getElem?_eq_some_iff.1 hx).1
   have hge:C[d.length]'hlt=.int .u8 c.toNat:=by have:=hx;rw [List.getElem?_eq_getElem hlt] at this;exact Option.some.inj this
   have hw1:IntKind.i64.wrap ((d.length:Int)+1)=(d.length:Int)+1:=by rw [aD (by omega)]
   have hrow:=hT.row hN
   have hlk:=hT.look hN c K
   have hkf:iw [.int] (.int .u8 c.toNat)=true:=rfl
   rcases hT.letter (c:=c) hN with ⟨m,l,k2,he,hk,hn⟩ | ⟨m,l,he,hk⟩ | he
   · rw [hn] at hlk
     rw [he] at hlk hrow
     obtain ⟨tl,k',H',t',hJ,a1,a2,a3,a4⟩:=ih (d++[c]) k2 H t (by simp [hd]) hT hn
     refine ⟨tl,k',H',t',?_,a1,a2,a3,a4⟩
     simp only [lf,oP] at hlk hrow
     simp at hJ
     rw [aj (L:=og) rfl]
     simp [qB,h0,hx,hge,hlt,hrow,hlk,hkf,eqD,hw1,hJ]
   · obtain ⟨hT1,hG1⟩:=hT.aoQ hN he hk
     have hm:=hT.nR he
     have hnone:t.N (d++[c])=none:=by rw [hT.kid c hN,he];exact hk
     rw [hnone,he] at hlk
     rw [he] at hrow
     have hN1:(upd t.N (d++[c]) (some H.length)) d=some k:=by
      rw [aK _ _ (by intro e;have:=congrArg List.length e;simp at this)];exact hN
     have hN2:(upd t.N (d++[c]) (some H.length)) (d++[c])=some H.length:=aN _ _ _
     have hrow1:=hT1.row hN1
     have hlk1:=hT1.look hN1 c K
     simp only [aN] at hrow1 hlk1
     have hms:gf (pst st (H++[HO.cells .plain [.aG,.list 0 0 .no false []]]) K) [.int] (.map (st.heap.length+m)) (.int .u8 c.toNat) (.ptr (st.heap.length+H.length) 0) =
      some (pst st ((H++[HO.cells .plain [.aG,.list 0 0 .no false []]]).set m (HO.map ((l++[(c,H.length)]).map (oj st)))) K):=by
      rw [lF (eO hm) (zy st hk)]
      simp [oj]
     obtain ⟨tl,k',H',t',hJ,a1,a2,a3,a4⟩:=ih (d++[c]) H.length _ ⟨upd t.N (d++[c]) (some H.length),upd t.es d (some (m,l++[(c,H.length)])),t.dg⟩ (by simp [hd]) hT1 hN2
     refine ⟨tl,k',H',t',?_,a1,a2,hG1.trans a3,a4⟩
     generalize hH1:(H++[HO.cells .plain [.aG,.list 0 0 .no false []]]).set m (HO.map ((l++[(c,H.length)]).map (oj st)))=H1 at *
     simp only [lf,oP] at hlk hrow hrow1 hlk1
     simp at hJ
     rw [aj (L:=og) rfl]
     simp [qB,h0,hx,hge,hlt,hrow,hlk,hkf,eqD,hw1,hms,hrow1,hlk1,hJ]
   · obtain ⟨hT1,hG1⟩:=hT.mkm hN he
     obtain ⟨hT2,hG2⟩:=hT1.aoQ (c:=c) hN (aN _ _ _) rfl
     have hnone:t.N (d++[c])=none:=by rw [hT.kid c hN,he]
     rw [hnone,he] at hlk
     rw [he] at hrow
     have hrow1:=hT1.row hN
     have hlk1:=hT1.look hN c K
     have hm1:=hT1.nR (aN t.es d (some (H.length,[])))
     simp only [aN] at hrow1 hlk1
     rw [hnone] at hlk1
     generalize hH1:(H++[HO.map []]).set k (HO.cells .plain [.map (st.heap.length+H.length),nG st (t.dg d)])=H1 at *
     have hN1:(upd t.N (d++[c]) (some H1.length)) d=some k:=by
      rw [aK _ _ (by intro e;have:=congrArg List.length e;simp at this)];exact hN
     have hN2:(upd t.N (d++[c]) (some H1.length)) (d++[c])=some H1.length:=aN _ _ _
     have hrow2:=hT2.row hN1
     have hlk2:=hT2.look hN1 c K
     simp only [aN] at hrow2 hlk2
     have hms:gf (pst st (H1++[HO.cells .plain [.aG,.list 0 0 .no false []]]) K) [.int] (.map (st.heap.length+H.length)) (.int .u8 c.toNat) (.ptr (st.heap.length+H1.length) 0) =
      some (pst st ((H1++[HO.cells .plain [.aG,.list 0 0 .no false []]]).set H.length (HO.map (([]++[(c,H1.length)]).map (oj st)))) K):=by
      rw [lF (eO hm1) rfl]
      simp [oj]
     obtain ⟨tl,k',H',t',hJ,a1,a2,a3,a4⟩:=ih (d++[c]) H1.length _ ⟨upd t.N (d++[c]) (some H1.length),upd (upd t.es d (some (H.length,[]))) d (some (H.length,[]++[(c,H1.length)])),t.dg⟩ (by simp [hd]) hT2 hN2
     refine ⟨tl,k',H',t',?_,a1,a2,(hG1.trans hG2).trans a3,a4⟩
     generalize hH2:(H1++[HO.cells .plain [.aG,.list 0 0 .no false []]]).set H.length (HO.map (([]++[(c,H1.length)]).map (oj st)))=H2 at *
     simp only [lf,oP] at hlk hrow hrow1 hlk1 hrow2 hlk2
     simp at hJ
     have hroww:rowAt (H++[HO.map []]) k=some (.plain,[.aG,nG st (t.dg d)]):=b5 hrow _
     rw [aj (L:=og) rfl]
     simp [qB,h0,hx,hge,hlt,hrow,hroww,hlk,hkf,eqD,hw1,hH1,hms,hrow1,hlk1,hrow2,hlk2,hJ]
end
section
variable {st:St} {root:Nat}
theorem Yj {K:List Nat} {k kd n t:Nat} {tk:Tk} {mv:DV} {D:List Nat} (hkd:kd≠k) (hn:n≤1000) (ha:D.length≤n):∀ (r d:List Nat) (V:List Nat) (H:List HO),D=d++r→V.length=n →
 rowAt H k=some (.plain,[mv,.hsl 1 false (st.heap.length+kd) 0 n none])→rowAt H kd=some (.grown,V.map d8) →
 ∃ fr,(E tab).C uO [(0,.ptr (st.heap.length+k) 0),(57,.list t 1 tk true (D.map d8)),(58,.int .i64 D.length),(59,.int .i64 d.length)] (pst st H K) =
   some (.exit 2,fr,pst st (H.set kd (.cells .grown ((fU V d.length r).map d8))) K):=by
 intro r
 induction r with
 | nil=>
   intro d V H hd hV h1 h2
   obtain rfl:D=d:=by simpa using hd
   have hset:H.set kd (.cells .grown ((fU V D.length []).map d8))=H:=by
    have hk:=aZ h2
    apply List.ext_getElem?
    intro j
    by_cases hj:j=kd
    · subst hj
      rw [List.getElem?_set_self hk,aJ.1 h2];rfl
    · rw [List.getElem?_set_ne (fun e=>hj e.symm)]
   rw [hset]
   refine ⟨[(0,.ptr (st.heap.length+k) 0),(57,.list t 1 tk true (D.map d8)),(58,.int .i64 D.length),(59,.int .i64 D.length),(60,.bool false)],?_⟩
   rw [aj (L:=uO) rfl]
   simp [zN]
 | cons x r ih=>
   intro d V H hd hV h1 h2
   have hk:=aZ h2
   have h0:d.length<D.length:=by simp [hd]
   have hw1:IntKind.i64.wrap ((d.length:Int)+1)=(d.length:Int)+1:=by rw [aD (by omega)]
   have had:d.length<n:=by omega
   generalize hDm:D.map d8=DM at *
   have hx:DM[d.length]? = some (.int .u8 x):=by rw [← hDm];simp [hd,d8]
   have hlt:d.length<DM.length:=(List.getElem?_eq_some_iff.1 hx).1
   have hge:DM[d.length]'hlt=.int .u8 x:=by have:=hx;rw [List.getElem?_eq_getElem hlt] at this;exact Option.some.inj this
   obtain ⟨y,hy⟩:∃ y,V[d.length]? = some y:=⟨V[d.length],List.getElem?_eq_getElem (by omega)⟩
   have hyd:V.getD d.length 0=y:=by simp [hy]
   generalize hVm:V.map d8=VM at *
   have hvx:VM[d.length]? = some (.int .u8 y):=by rw [← hVm];simp [hy,d8]
   have hvl:VM.length=n:=by rw [← hVm];simpa using hV
   have hvlt:d.length<VM.length:=by omega
   have hvge:VM[d.length]'hvlt=.int .u8 y:=by have:=hvx;rw [List.getElem?_eq_getElem hvlt] at this;exact Option.some.inj this
   have hmx:=Oo y x
   have hsp:=eu (x:=.int .u8 (max y x:Nat)) (vs:=VM) hvlt
   have hset:VM.set d.length (.int .u8 (max y x:Nat))=(V.set d.length (max y x)).map d8:=by rw [← hVm,List.map_set];rfl
   rw [hset] at hsp
   obtain ⟨fr,hJ⟩:=ih (d++[x]) (V.set d.length (max y x)) (H.set kd (.cells .grown ((V.set d.length (max y x)).map d8))) (by simp [hd]) (by simpa using hV) (by
    unfold rowAt at h1 ⊢;rw [List.getElem?_set_ne hkd];exact h1) (cP hk _ _)
   refine ⟨fr,?_⟩
   have e1:(d++[x]).length=d.length+1:=by simp
   rw [e1,List.set_set] at hJ
   have e2:fU V d.length (x::r)=fU (V.set d.length (max y x)) (d.length+1) r:=by simp only [fU,hyd]
   rw [e2]
   generalize (fU (V.set d.length (max y x)) (d.length+1) r).map d8=W at *
   generalize (V.set d.length (max y x)).map d8=VN at *
   simp only [bl,List.length_singleton] at hsp
   simp at hJ hsp
   have hle:d.length+1≤VM.length:=by omega
   rw [aj (L:=uO) rfl]
   simp [zN,h0,h1,h2,hx,hge,hlt,had,hvx,hvge,hvlt,hmx,hle,hsp,hw1,hJ]
def arq (t:TS) (L:List UInt8) (D:List Nat) (t':TS):Prop:=
 (∀ q,q≠L→t'.dg q=t.dg q)∧∃ kd,t'.dg L=some (kd,match t.dg L with | some (_,D0)=>fU D0 0 D | none=>D)
theorem ajK {K:List Nat} {H:List HO} {t:TS} {L:List UInt8} {D:List Nat} {tg:Nat} {tk:Tk} (hl:L.length≤900) (hD:D.length=L.length+1) (hT:t.ok st H root) :
 ∃ H' t',(E tab).F 157 [.ptr (st.heap.length+root) 0,.str L,.list tg 1 tk true (D.map d8)] (pst st H K)=some (.tuple [],pst st H' K)∧t'.ok st H' root∧gM H t H' t'∧arq t L D t':=by
 rw [eC ano rfl]
 obtain ⟨tl,k,H1,t1,hL,hT1,hN1,hG1,hd1⟩:=ahp (K:=K) (dv:=.list tg 1 tk true (D.map d8)) (L:=L) rfl (by omega) L [] root H t rfl hT hT.top
 simp at hL
 have hu:(fun b:UInt8=>DV.int .u8 (b.toNat:Int))=u8:=rfl
 have hrow:=hT1.row hN1
 cases hdg:t1.dg L with
 | none=>
   obtain ⟨hT2,hG2⟩:=hT1.auQ hN1 hdg hD
   refine ⟨_,_,?_,hT2,hG1.trans hG2,?_⟩
   · rw [hdg] at hrow
     simp only [nG] at hrow
     have hcl:=En (st:=st) (H:=H1) (K:=K) (t:=tg) (tk:=tk) (D:=D) (by intro e;simp [e] at hD) (by omega)
     have hrow2:rowAt (H1++[HO.cells .grown (D.map d8)]) k=_:=b5 hrow _
     simp [f157,hu,hL,hrow,eqD,hcl,hrow2]
   · refine ⟨fun q hq=>by simp only [aK _ _ hq,hd1],H1.length,?_⟩
     rw [← hd1,hdg];simp
 | some x=>
   obtain ⟨kd,D0⟩:=x
   have hlen:=hT1.rS hdg
   have hlay:(fU D0 0 D).length=D0.length:=iV _ _ _
   obtain ⟨hT2,hG2⟩:=hT1.auq hdg hlay
   refine ⟨_,_,?_,hT2,hG1.trans hG2,?_⟩
   · rw [hdg] at hrow
     simp only [nG] at hrow
     obtain ⟨fr,hL2⟩:=Yj (st:=st) (K:=K) (k:=k) (kd:=kd) (t:=tg) (tk:=tk) (mv:=lf st (t1.es L)) (D:=D) (n:=D0.length) (fun e=>hT1.nd hN1 hdg e.symm) (by omega) (by omega) D [] D0 H1 rfl rfl hrow (hT1.H6 hdg)
     simp at hL2
     simp [f157,hu,hL,hrow,eqD,hL2]
   · refine ⟨fun q hq=>by simp only [aK _ _ hq,hd1],kd,?_⟩
     rw [← hd1,hdg];simp
end
theorem um (x:Nat):∀ (D V:List Nat) (a m:Nat),m<V.length→((fU V a D).getD m 0≤x↔V.getD m 0≤x∧(a≤m→D.getD (m-a) 0≤x))
 | [],V,a,m,hm=>by simp [fU]
 | d::r,V,a,m,hm=>by
   rw [fU,um x r _ (a+1) m (by simpa using hm)]
   by_cases h:a=m
   · subst h
     have e:(V.set a (max (V.getD a 0) d)).getD a 0=max (V.getD a 0) d:=by simp [List.getD_eq_getElem?_getD,hm]
     rw [e]
     have h1:¬ (a+1≤a):=by omega
     simp only [h1,false_implies,and_true,Nat.le_refl,Nat.sub_self,true_implies]
     simp;omega
   · have e:(V.set a (max (V.getD a 0) d)).getD m 0=V.getD m 0:=by simp [List.getD_eq_getElem?_getD,List.getElem?_set_ne h]
     rw [e]
     by_cases h2:a≤m
     · have h3:a+1≤m:=by omega
       have e2:m-a=(m-(a+1))+1:=by omega
       simp only [h2,h3,true_implies,e2]
       simp
     · have h3:¬ (a+1≤m):=by omega
       simp only [h2,h3,false_implies]
def Sem (t:TS) (ps:List (List UInt8)):Prop:=
 ∀ q,match t.dg q with
   | none=>∀ s∈ps,cF s≠q
   | some (_,D)=>D.length=q.length+1∧∀ m,m<q.length+1→∀ x,(D.getD m 0≤x↔∀ s∈ps,cF s=q→(dh 0 s).getD m 0≤x)
theorem Sem.add {t t':TS} {ps:List (List UInt8)} {s:List UInt8} (h:Sem t ps) (ha:arq t (cF s) (dh 0 s) t'):Sem t' (ps++[s]):=by
 intro q
 obtain ⟨h1,kd,h2⟩:=ha
 have hl:=j9 s 0
 have hq:=h q
 by_cases e:q=cF s
 · subst e
   rw [h2]
   simp only
   cases hd:t.dg (cF s) with
   | none=>
     rw [hd] at hq
     refine ⟨hl,fun m hm x => ?_⟩
     simp only [List.mem_append,List.mem_singleton]
     constructor
     · rintro a s' (hs | rfl) e
       · exact absurd e (hq s' hs)
       · exact a
     · intro a;exact a s (.inr rfl) rfl
   | some y=>
     obtain ⟨k0,D0⟩:=y
     rw [hd] at hq
     obtain ⟨hq1,hq2⟩:=hq
     refine ⟨by simp only [iV];exact hq1,fun m hm x => ?_⟩
     simp only
     rw [um x _ _ 0 m (by omega),hq2 m hm x]
     simp only [List.mem_append,List.mem_singleton,Nat.zero_le,true_implies,Nat.sub_zero]
     constructor
     · rintro ⟨a,b⟩ s' (hs | rfl) e
       · exact a s' hs e
       · exact b
     · intro a;exact ⟨fun s' hs e=>a s' (.inl hs) e,a s (.inr rfl) rfl⟩
 · rw [h1 q e]
   cases hd:t.dg q with
   | none=>
     rw [hd] at hq
     intro s' hs
     rcases List.mem_append.1 hs with hs | hs
     · exact hq s' hs
     · simp only [List.mem_singleton] at hs;subst hs;exact fun e'=>e e'.symm
   | some y=>
     obtain ⟨k0,D0⟩:=y
     rw [hd] at hq
     obtain ⟨hq1,hq2⟩:=hq
     refine ⟨hq1,fun m hm x => ?_⟩
     rw [hq2 m hm x]
     simp only [List.mem_append,List.mem_singleton]
     constructor
     · rintro a s' (hs | rfl) e'
       · exact a s' hs e'
       · exact absurd e'.symm e
     · intro a s' hs e';exact a s' (.inl hs) e'
theorem gM.split {H X H':List HO} {t t':TS} (h:gM (H++X) t H' t') (ho:∀ j,t.own j→H.length≤j):∃ X',H'=H++X'∧(∀ j,t'.own j→H.length≤j)∧X.length≤X'.length:=by
 have hl:=h.len
 rw [List.length_append] at hl
 have e:H'.take H.length=H:=by
  apply List.ext_getElem?
  intro j
  by_cases hj:j<H.length
  · rw [List.getElem?_take_of_lt hj,h.fr j (by simp;omega) (fun hh=>by have:=ho j hh;omega),List.getElem?_append_left hj]
  · rw [List.getElem?_eq_none (by simp;omega),List.getElem?_eq_none (by omega)]
 refine ⟨H'.drop H.length,?_,?_,by simp;omega⟩
 · conv=>lhs;rw [← List.take_append_drop H.length H',e]
 · intro j hj
   rcases h.own j hj with h1 | h1
   · exact ho j h1
   · rw [List.length_append] at h1;omega
theorem Trie.same {st:St} {H H':List HO} {root:Nat} {t:TS} (h:t.ok st H root) (hs:∀ j,t.own j→H'[j]? = H[j]?):t.ok st H' root:=
 ⟨h.top,h.vi,fun hp=>aJ.2 (by rw [hs _ (.inl ⟨_,hp⟩)];exact h.tv hp),fun hp=>by rw [hs _ (.inr (.inl ⟨_,_,hp⟩))];exact h.nR hp,h.rv,h.kid,
  fun hp=>aJ.2 (by rw [hs _ (.inr (.inr ⟨_,_,hp⟩))];exact h.mK hp),h.rJ,h.rS,h.off⟩
def t0 (root:Nat):TS:=⟨fun p=>if p=[] then some root else none,fun _=>none,fun _=>none⟩
theorem ala {st:St} {H:List HO} {root:Nat} (h:H[root]? = some (.cells .plain [.aG,.list 0 0 .no false []])):(t0 root).ok st H root:=by
 refine ⟨by simp [t0],?_,?_,?_,?_,?_,?_,?_,?_,?_⟩
 · intro p q k hp hq
   simp only [t0] at hp hq
   split at hp
   · split at hq
     · rename_i a b;rw [a,b]
     · cases hq
   · cases hp
 · intro p k hp
   simp only [t0] at hp
   split at hp
   · cases hp;rw [aJ,h];rfl
   · cases hp
 · intro p m l hp;cases hp
 · intro p q m l l' hp;cases hp
 · intro p k c hp;simp [t0]
 · intro p k D hp;cases hp
 · intro p q k D D' hp;cases hp
 · intro p k D hp;cases hp
 · intro p hp
   exact ⟨rfl,rfl,fun c=>by simp [t0]⟩
theorem Zy (root:Nat):Sem (t0 root) []:=by intro q;simp [t0]
theorem zz {root j:Nat} (h:(t0 root).own j):j=root:=by
 rcases h with ⟨p,hp⟩ | ⟨p,l,hp⟩ | ⟨p,D,hp⟩
 · simp only [t0] at hp
   split at hp
   · exact (Option.some.inj hp).symm
   · cases hp
 · cases hp
 · cases hp
theorem ak8:tab 147=some (.code f147):=by kernel_rfl
theorem CV {ps:List (List UInt8)}:∀ y∈ps.map DV.str,cX 1 false y:=by
 intro y hy;obtain ⟨c,_,rfl⟩:=List.mem_map.1 hy;exact ⟨rfl,rfl,rfl⟩
section
variable {st:St} {K:List Nat}
theorem ajT {H:List HO} {v w:DV} {ps:List (List UInt8)} (hps:ps.length≤256) (hv:Vw (pst st H K) 1 false (ps.map DV.str) v) {kh me root:Nat} {hx:DV} (hkh:H.length≤kh) (hme:H.length≤me) (hroot:H.length≤root) :
 ∀ (r d:List (List UInt8)) (X:List HO) (t:TS),ps=d++r→t.ok st (H++X) root→Sem t d→(∀ j,t.own j→H.length≤j)→¬ t.own kh→¬ t.own me→kh<(H++X).length→me<(H++X).length →
   rowAt (H++X) kh=some (.plain,[.ptr (st.heap.length+root) 0,hx]) →
 ∃ e fr X' t',(E tab).C ql [(1,w),(6,.ptr (st.heap.length+kh) 0),(33,v),(34,.int .i64 ps.length),(35,.int .i64 d.length)] (pst st (H++X) K)=some (e,fr,pst st (H++X') K) ∧
   t'.ok st (H++X') root∧(∀ j,t'.own j→H.length≤j)∧¬ t'.own kh∧¬ t'.own me∧X.length≤X'.length∧(H++X')[me]? = (H++X)[me]? ∧ (H++X')[kh]? = (H++X)[kh]? ∧
   if r.all okP=true then e=.exit 0∧Sem t' ps∧∃ tl,fr=(1,w)::(6,.ptr (st.heap.length+kh) 0)::tl
   else e=.ret∧fr=[(4,.bu),(5,.int .i64 4)]:=by
 intro r
 induction r with
 | nil=>
   intro d X t hd hT hS ho hk hm hkl hml hrow
   obtain rfl:ps=d:=by simpa using hd
   refine ⟨.exit 0,[(1,w),(6,.ptr (st.heap.length+kh) 0),(33,v),(34,.int .i64 ps.length),(35,.int .i64 ps.length),(36,.bool false)],X,t,?_,hT,ho,hk,hm,Nat.le_refl _,rfl,rfl,?_⟩
   · rw [aj (L:=ql) rfl]
     simp [tu]
   · simp [hS]
 | cons s r ih=>
   intro d X t hd hT hS ho hk hm hkl hml hrow
   have h0:d.length<ps.length:=by simp [hd]
   have hw1:IntKind.i64.wrap ((d.length:Int)+1)=(d.length:Int)+1:=by rw [aD (by omega)]
   have hxs:(ps.map DV.str)[d.length]? = some (.str s):=by simp [hd]
   have hv':=hv.app X K
   have hia:=hv'.aE (i:=d.length) (by simpa using h0) .i64 (pst st (H++X) K)
   have hld:=hv'.Da CV hxs
   obtain ⟨hp1,hp2⟩:=x6 s (pst st (H++X) K)
   by_cases hok:okP s=true
   · obtain ⟨tg,tk,hpat⟩:=hp1 hok
     have hsl:s.length≤16:=by simp only [okP,Bool.and_eq_true,decide_eq_true_eq] at hok;exact hok.1.2
     have hll:(cF s).length≤s.length:=List.length_filter_le _ _
     obtain ⟨H2,t2,hadd,hT2,hG2,hA2⟩:=ajK (K:=K) (tg:=tg) (tk:=tk) (by omega) (j9 s 0) hT
     obtain ⟨X2,rfl,ho2,hx2⟩:=hG2.split ho
     have hS2:=hS.add hA2
     have hk2:¬ t2.own kh:=fun h=>(hG2.own kh h).elim hk (fun h=>by omega)
     have hm2:¬ t2.own me:=fun h=>(hG2.own me h).elim hm (fun h=>by omega)
     have ek:=hG2.fr kh hkl hk
     have em:=hG2.fr me hml hm
     have hrow2:rowAt (H++X2) kh=some (.plain,[.ptr (st.heap.length+root) 0,hx]):=by rw [aJ,ek];exact aJ.1 hrow
     obtain ⟨e,fr,X',t',hJ,a1,a2,a3,a4,a5,a6,a7,a8⟩:=ih (d++[s]) X2 t2 (by simp [hd]) hT2 hS2 ho2 hk2 hm2 (by have:=aZ hrow2;exact this) (by have:=hG2.len;omega) hrow2
     refine ⟨e,fr,X',t',?_,a1,a2,a3,a4,by omega,by rw [a6,em],by rw [a7,ek],?_⟩
     · simp at hJ
       rw [aj (L:=ql) rfl]
       simp [tu,h0,hia,hld,hpat,hrow,hadd,hw1,hJ]
     · simpa [hok] using a8
   · simp only [Bool.not_eq_true] at hok
     obtain ⟨l,w',hpat⟩:=hp2 hok
     refine ⟨.ret,[(4,.bu),(5,.int .i64 4)],X,t,?_,hT,ho,hk,hm,Nat.le_refl _,rfl,rfl,?_⟩
     · rw [aj (L:=ql) rfl]
       simp [tu,h0,hia,hld,hpat]
     · simp [hok]
end
def exV (x:List UInt8×DV):DV×DV:=(.str x.1,x.2)
theorem OC (w:List UInt8):∀ (EE:List (List UInt8×DV)) (i:Nat),((∀ x∈EE,x.1≠w)∧findD [.str] (.str w) (EE.map exV) i=some none) ∨
 ∃ j v,EE[j]? = some (w,v)∧(∀ k x,k<j→EE[k]? = some x→x.1≠w)∧findD [.str] (.str w) (EE.map exV) i=some (some (i+j,v))
 | [],i=>.inl ⟨by simp,rfl⟩
 | (a,v)::r,i=>by
   by_cases h:w=a
   · subst h
     exact .inr ⟨0,v,rfl,by intro k x hk;omega,by simp [findD,exV,jd,cR]⟩
   · have hb:(w==a)=false:=by rw [beq_eq_false_iff_ne];exact h
     have e:∀ r,findD [.str] (.str w) (exV (a,v)::r) i=findD [.str] (.str w) r (i+1):=by
      intro r;simp [findD,exV,jd,cR,hb]
     rcases OC w r (i+1) with ⟨h1,h2⟩ | ⟨j,v',h1,h2,h3⟩
     · refine .inl ⟨?_,by rw [List.map_cons,e];exact h2⟩
       intro x hx
       rcases List.mem_cons.1 hx with rfl | hx
       · exact fun e=>h e.symm
       · exact h1 x hx
     · refine .inr ⟨j+1,v',h1,?_,by rw [List.map_cons,e,h3];congr 3;omega⟩
       intro k x hk hx
       cases k with
       | zero=>simp only [List.getElem?_cons_zero,Option.some.injEq] at hx;rw [← hx];exact fun e=>h e.symm
       | succ k=>exact h2 k x (by omega) hx
theorem xF {st:St} {H:List HO} {K:List Nat} {ks:List LK} {m i:Nat} {es:List (DV×DV)} {key v v0:DV} (h:H[m]? = some (.map es)) (hf:findD ks key es 0=some (some (i,v0))) :
 gf (pst st H K) ks (.map (st.heap.length+m)) key v=some (pst st (H.set m (.map (es.modify i fun _=>(key,v)))) K):=by
 have hb:(pst st H K).base≤st.heap.length+m:=by simp
 simp only [gf,cu,h,hf,hb,if_true]
 simp [pst,List.set_append_right]
theorem Aw (w:List UInt8) (v:DV):∀ (EE:List (List UInt8×DV)) (i:Nat),(EE.map exV).modify i (fun _=>(.str w,v))=(EE.modify i fun _=>(w,v)).map exV
 | [],i=>by simp
 | x::r,0=>rfl
 | x::r,i+1=>by simp [List.modify_succ_cons,Aw w v r i]
inductive F2 {α β:Type} (R:α→β→Prop):List α→List β→Prop
 | nil:F2 R [] []
 | cons {a:α} {b:β} {l:List α} {m:List β} (h:R a b) (t:F2 R l m):F2 R (a::l) (b::m)
structure ExI (d:List (List UInt8)) (EE:List (List UInt8×DV)) (tw:Bool):Prop where
 mem:∀ w,(∃ x∈EE,x.1=w)↔∃ s∈d,aS s=w
 tws:tw=true↔¬ (d.map aS).Nodup
 all:tw=false→F2 (fun s x=>x.1=aS s∧Lw 1 ((plc 0 s).map i6) x.2) d EE
theorem ExI.nil:ExI [] [] false:=⟨by simp,by simp,fun _=>.nil⟩
theorem qe (l:List (List UInt8)) (a:List UInt8):(l++[a]).Nodup↔l.Nodup∧a∉l:=by
 rw [List.nodup_append]
 constructor
 · rintro ⟨h1,_,h2⟩;exact ⟨h1,fun h=>h2 a h a (by simp) rfl⟩
 · rintro ⟨h1,h2⟩;refine ⟨h1,by simp,?_⟩
   intro x hx y hy e
   simp only [List.mem_singleton] at hy;subst hy;subst e;exact h2 hx
theorem m7 {α β:Type} {R:α→β→Prop}:∀ {l:List α} {m:List β} {a:α} {b:β},F2 R l m→R a b→F2 R (l++[a]) (m++[b])
 | [],[],_,_,.nil,h=>.cons h .nil
 | _::_,_::_,_,_,.cons h1 h2,h=>.cons h1 (m7 h2 h)
theorem ExI.new {d:List (List UInt8)} {EE:List (List UInt8×DV)} {tw:Bool} (h:ExI d EE tw) {s:List UInt8} {v:DV} (hn:∀ x∈EE,x.1≠aS s) (hv:Lw 1 ((plc 0 s).map i6) v):ExI (d++[s]) (EE++[(aS s,v)]) tw:=by
 have hnd:aS s∉d.map aS:=by
  intro hm
  obtain ⟨s',h1,h2⟩:=List.mem_map.1 hm
  obtain ⟨x,hx,e⟩:=(h.mem (aS s)).2 ⟨s',h1,h2⟩
  exact hn x hx e
 refine ⟨?_,?_,fun e=>m7 (h.all e) ⟨rfl,hv⟩⟩
 · intro w
   have:=h.mem w
   constructor
   · rintro ⟨x,hx,e⟩
     rcases List.mem_append.1 hx with hx | hx
     · obtain ⟨s',h1,h2⟩:=this.1 ⟨x,hx,e⟩;exact ⟨s',List.mem_append_left _ h1,h2⟩
     · simp only [List.mem_singleton] at hx;subst hx;exact ⟨s,by simp,e⟩
   · rintro ⟨s',hs,e⟩
     rcases List.mem_append.1 hs with hs | hs
     · obtain ⟨x,hx,e⟩:=this.2 ⟨s',hs,e⟩;exact ⟨x,List.mem_append_left _ hx,e⟩
     · simp only [List.mem_singleton] at hs;subst hs;exact ⟨(aS s',v),List.mem_append_right _ (by simp),e⟩
 · rw [h.tws,List.map_append,List.map_singleton,qe]
   simp [hnd]
theorem ExI.old {d:List (List UInt8)} {EE:List (List UInt8×DV)} {tw:Bool} (h:ExI d EE tw) {s:List UInt8} {v v0:DV} {j:Nat} (hj:EE[j]? = some (aS s,v0)):ExI (d++[s]) (EE.modify j fun _=>(aS s,v)) true:=by
 have hnd:aS s∈d.map aS:=by
  obtain ⟨s',h1,h2⟩:=(h.mem (aS s)).1 ⟨_,List.mem_of_getElem? hj,rfl⟩
  exact List.mem_map.2 ⟨s',h1,h2⟩
 have hf:∀ w,(∃ x∈EE.modify j (fun _=>(aS s,v)),x.1=w)↔∃ x∈EE,x.1=w:=by
  intro w
  have e:(EE.modify j (fun _=>(aS s,v))).map Prod.fst=EE.map Prod.fst:=by
   apply List.ext_getElem?
   intro k
   rw [List.getElem?_map,List.getElem?_map,List.getElem?_modify]
   by_cases hk:j=k
   · subst hk;rw [hj];simp
   · simp [hk]
  have e2:∀ l:List (List UInt8×DV),(∃ x∈l,x.1=w)↔w∈l.map Prod.fst:=by intro l;simp
  rw [e2,e2,e]
 refine ⟨?_,?_,fun e=>by cases e⟩
 · intro w
   rw [hf w,h.mem w]
   constructor
   · rintro ⟨s',hs,e⟩;exact ⟨s',List.mem_append_left _ hs,e⟩
   · rintro ⟨s',hs,e⟩
     rcases List.mem_append.1 hs with hs | hs
     · exact ⟨s',hs,e⟩
     · simp only [List.mem_singleton] at hs;subst hs;subst e
       obtain ⟨s',h1,h2⟩:=List.mem_map.1 hnd;exact ⟨s',h1,h2⟩
 · rw [List.map_append,List.map_singleton,qe]
   simp only [true_iff]
   exact fun h=>h.2 hnd
section
variable {st:St} {K:List Nat}
theorem afv {H:List HO} {w:DV} {es:List (List UInt8)} (hes:es.length≤256) (hsl:∀ s∈es,s.length≤1000) (hv:Vw (pst st H K) 1 false (es.map DV.str) w) {a b:Nat} {np:DV} (hab:a≠b) :
 ∀ (r d:List (List UInt8)) (X:List HO) (EE:List (List UInt8×DV)) (tw:Bool),es=d++r→X[b]? = some (.map (EE.map exV))→rowAt X a=some (.plain,[np,.map (st.heap.length+(H.length+b))])→ExI d EE tw →
 ∃ e fr EE',(E tab).C nh [(6,.ptr (st.heap.length+(H.length+a)) 0),(12,.bool tw),(55,w),(56,.int .i64 es.length),(57,.int .i64 d.length)] (pst st (H++X) K)=some (e,fr,pst st (H++X.set b (.map (EE'.map exV))) K) ∧
   if r.all okE=true then e=.exit 2∧∃ tw' tl,fr=(6,.ptr (st.heap.length+(H.length+a)) 0)::(12,.bool tw')::tl∧ExI es EE' tw'
   else e=.ret∧fr=[(4,.bu),(5,.int .i64 4)]:=by
 intro r
 induction r with
 | nil=>
   intro d X EE tw hd hb ha hI
   obtain rfl:es=d:=by simpa using hd
   have hset:X.set b (.map (EE.map exV))=X:=by
    apply List.ext_getElem?
    intro j
    by_cases hj:j=b
    · subst hj;rw [List.getElem?_set_self (List.getElem?_eq_some_iff.1 hb).1,hb]
    · rw [List.getElem?_set_ne (fun e=>hj e.symm)]
   refine ⟨.exit 2,[(6,.ptr (st.heap.length+(H.length+a)) 0),(12,.bool tw),(55,w),(56,.int .i64 es.length),(57,.int .i64 es.length),(58,.bool false)],EE,?_,?_⟩
   · rw [hset,aj (L:=nh) rfl]
     simp [qE]
   · simp [hI]
 | cons s r ih=>
   intro d X EE tw hd hb ha hI
   have h0:d.length<es.length:=by simp [hd]
   have hw1:IntKind.i64.wrap ((d.length:Int)+1)=(d.length:Int)+1:=by rw [aD (by omega)]
   have hxs:(es.map DV.str)[d.length]? = some (.str s):=by simp [hd]
   have hv':=hv.app X K
   have hia:=hv'.aE (i:=d.length) (by simpa using h0) .i64 (pst st (H++X) K)
   have hld:=hv'.Da CV hxs
   obtain ⟨l,pv,hexc,hok1⟩:=uY (s:=s) (st:=pst st (H++X) K) (hsl s (by simp [hd]))
   have hbl:=(List.getElem?_eq_some_iff.1 hb).1
   have hra:rowAt (H++X) (H.length+a)=some (.plain,[np,.map (st.heap.length+(H.length+b))]):=by rw [dn];exact ha
   have hkf:∀ s,iw [.str] (.str s)=true:=fun _=>rfl
   by_cases hok:okE s=true
   · obtain ⟨rfl,hlw⟩:=hok1 hok
     have hHb:(H++X)[H.length+b]? = some (.map (EE.map exV)):=by rw [iL];exact hb
     have hset2:∀ o o',(X.set b o).set b o'=X.set b o':=fun o o'=>List.set_set ..
     rw [hok] at hexc
     rcases OC (aS s) EE 0 with ⟨h1,h2⟩ | ⟨j,v0,h1,_,h2⟩
     · have hlk:cU (pst st (H++X) K) [.str] (.list 0 0 .no false []) (.map (st.heap.length+(H.length+b))) (.str (aS s)) true=some (.tuple [.list 0 0 .no false [],.bool false]):=by
        simp only [cU,cu,hHb,h2];rfl
       have hms:=lF (st:=st) (K:=K) (v:=pv) hHb h2
       have e1:EE.map exV++[(.str (aS s),pv)]=(EE++[(aS s,pv)]).map exV:=by simp [exV]
       rw [e1,oi] at hms
       obtain ⟨e,fr,EE',hJ,hR⟩:=ih (d++[s]) (X.set b (.map ((EE++[(aS s,pv)]).map exV))) (EE++[(aS s,pv)]) tw (by simp [hd]) (by rw [List.getElem?_set_self hbl]) (by
        rw [aJ,List.getElem?_set_ne (fun e=>hab e.symm)];exact aJ.1 ha) (hI.new h1 hlw)
       refine ⟨e,fr,EE',?_,by simpa [hok] using hR⟩
       rw [List.set_set] at hJ
       generalize (EE++[(aS s,pv)]).map exV=Y at *
       generalize EE'.map exV=Y' at *
       simp at hJ
       rw [aj (L:=nh) rfl]
       cases tw<;>simp [qE,h0,hia,hld,hexc,hra,hlk,hkf,hms,hw1,hJ]
     · have hlk:cU (pst st (H++X) K) [.str] (.list 0 0 .no false []) (.map (st.heap.length+(H.length+b))) (.str (aS s)) true=some (.tuple [v0,.bool true]):=by
        simp only [cU,cu,hHb,h2];rfl
       have hms:=xF (st:=st) (K:=K) (v:=pv) hHb h2
       rw [Nat.zero_add,Aw,oi] at hms
       obtain ⟨e,fr,EE',hJ,hR⟩:=ih (d++[s]) (X.set b (.map ((EE.modify j fun _=>(aS s,pv)).map exV))) (EE.modify j fun _=>(aS s,pv)) true (by simp [hd]) (by rw [List.getElem?_set_self hbl]) (by
        rw [aJ,List.getElem?_set_ne (fun e=>hab e.symm)];exact aJ.1 ha) (hI.old h1)
       refine ⟨e,fr,EE',?_,by simpa [hok] using hR⟩
       rw [List.set_set] at hJ
       generalize (EE.modify j fun _=>(aS s,pv)).map exV=Y at *
       generalize EE'.map exV=Y' at *
       simp at hJ
       rw [aj (L:=nh) rfl]
       cases tw<;>simp [qE,h0,hia,hld,hexc,hra,hlk,hkf,hms,hw1,hJ]
   · simp only [Bool.not_eq_true] at hok
     rw [hok] at hexc
     have hset:X.set b (.map (EE.map exV))=X:=by
      apply List.ext_getElem?
      intro j
      by_cases hj:j=b
      · subst hj;rw [List.getElem?_set_self hbl,hb]
      · rw [List.getElem?_set_ne (fun e=>hj e.symm)]
     refine ⟨.ret,[(4,.bu),(5,.int .i64 4)],EE,?_,?_⟩
     · rw [hset,aj (L:=nh) rfl]
       simp [qE,h0,hia,hld,hexc]
     · simp [hok]
end
def ld (ps es:List (List UInt8)):Nat:=if 256<ps.length∨64<es.length then 3 else if ps.all okP=true∧es.all okE=true then (if (es.map aS).Nodup then 0 else 7) else 4
def rb (st:St) (G:List HO) (b:Nat) (ps es:List (List UInt8)):Prop:=
 ∃ t EE,t.ok st G b∧Sem t ps∧(∀ j,t.own j→b≤j)∧ExI es EE false∧G[b+1]? = some (.map (EE.map exV))∧rowAt G (b+2)=some (.plain,[.ptr (st.heap.length+b) 0,.map (st.heap.length+(b+1))])
theorem rb.same {st:St} {G G':List HO} {b:Nat} {ps es:List (List UInt8)} (h:rb st G b ps es) (hs:∀ j,b≤j→j<G.length→G'[j]? = G[j]?):rb st G' b ps es:=by
 obtain ⟨t,EE,h1,h2,h3,h4,h5,h6⟩:=h
 refine ⟨t,EE,h1.same fun j hj => ?_,h2,h3,h4,?_,?_⟩
 · refine hs j (h3 j hj) ?_
   rcases hj with ⟨p,hp⟩ | ⟨p,l,hp⟩ | ⟨p,D,hp⟩
   · exact h1.Dr hp
   · exact h1.N0 hp
   · exact h1.LV hp
 · rw [hs _ (by omega) (List.getElem?_eq_some_iff.1 h5).1];exact h5
 · rw [aJ,hs _ (by omega) (aZ h6)];exact aJ.1 h6
section
variable {st:St} {K:List Nat}
theorem Xs {H:List HO} {v w:DV} {ps es:List (List UInt8)} (hsl:∀ s∈es,s.length≤1000) (hv:Vw (pst st H K) 1 false (ps.map DV.str) v) (hw:Vw (pst st H K) 1 false (es.map DV.str) w) :
 ∃ X hp,(E tab).F 147 [v,w] (pst st H K)=some (.tuple [hp,.int .i64 (ld ps es:Nat)],pst st (H++X) K)∧(ld ps es=0→hp=.ptr (st.heap.length+(H.length+2)) 0∧rb st (H++X) H.length ps es)∧(ld ps es≠0→hp=.bu):=by
 rw [eC ak8 rfl]
 have hlv:=hv.len
 have hlw:=hw.len
 simp only [List.length_map] at hlv hlw
 by_cases h1:256<ps.length
 · have h1':(256:Int)<ps.length:=by omega
   have he:ld ps es=3:=by simp [ld,h1]
   refine ⟨[],.bu,?_,by simp [he],fun _=>rfl⟩
   rw [he]
   simp [f147,hlv,h1']
 by_cases h2:64<es.length
 · have h1':¬ (256:Int)<ps.length:=by omega
   have h2':(64:Int)<es.length:=by omega
   have he:ld ps es=3:=by simp [ld,h2]
   refine ⟨[],.bu,?_,by simp [he],fun _=>rfl⟩
   rw [he]
   simp [f147,hlv,hlw,h1',h2']
 have h1':¬ (256:Int)<ps.length:=by omega
 have h2':¬ (64:Int)<es.length:=by omega
 have hX0:H++[HO.cells .plain [.aG,.list 0 0 .no false []],.map [],.cells .plain [.ptr (st.heap.length+H.length) 0,.map (st.heap.length+(H.length+1))]] =
  H++[HO.cells .plain [.aG,.list 0 0 .no false []],.map [],.cells .plain [.ptr (st.heap.length+H.length) 0,.map (st.heap.length+(H.length+1))]]:=rfl
 have hg:∀ j,(H++[HO.cells .plain [.aG,.list 0 0 .no false []],.map [],.cells .plain [.ptr (st.heap.length+H.length) 0,.map (st.heap.length+(H.length+1))]])[H.length+j]? =
  [HO.cells .plain [.aG,.list 0 0 .no false []],.map [],.cells .plain [.ptr (st.heap.length+H.length) 0,.map (st.heap.length+(H.length+1))]][j]?:=fun j=>iL _ _ j
 have hT0:(t0 H.length).ok st (H++[HO.cells .plain [.aG,.list 0 0 .no false []],.map [],.cells .plain [.ptr (st.heap.length+H.length) 0,.map (st.heap.length+(H.length+1))]]) H.length:=ala (hg 0)
 obtain ⟨e,fr,X1,t1,hL,a1,a2,a3,a4,a5,a6,a7,a8⟩:=ajT (K:=K) (H:=H) (v:=v) (w:=w) (ps:=ps) (by omega) hv (kh:=H.length+2) (me:=H.length+1) (root:=H.length) (by omega) (by omega) (Nat.le_refl _) ps [] _ (t0 H.length) rfl hT0 (Zy _)
  (fun j hj=>by rw [zz hj];exact Nat.le_refl _) (fun h=>by have:=zz h;omega) (fun h=>by have:=zz h;omega) (by simp) (by simp) (by rw [aJ];exact hg 2)
 rw [hg 1] at a6
 rw [hg 2] at a7
 simp at hL
 by_cases hp:ps.all okP=true
 · rw [if_pos hp] at a8
   obtain ⟨rfl,hS,tl,rfl⟩:=a8
   have b1:X1[1]? = some (.map (([]:List (List UInt8×DV)).map exV)):=by rw [← iL H X1];exact a6
   have b2:rowAt X1 2=some (.plain,[.ptr (st.heap.length+H.length) 0,.map (st.heap.length+(H.length+1))]):=by rw [aJ,← iL H X1];exact a7
   obtain ⟨e,fr,EE,hL2,c⟩:=afv (K:=K) (H:=H) (w:=w) (es:=es) (by omega) hsl hw (a:=2) (b:=1) (by omega) es [] X1 [] false rfl b1 b2 ExI.nil
   simp at hL2
   by_cases hq:es.all okE=true
   · rw [if_pos hq] at c
     obtain ⟨rfl,tw,tl2,rfl,hI⟩:=c
     cases tw with
     | true=>
       have hn:=hI.tws.1 rfl
       have he:ld ps es=7:=by simp only [ld,if_neg (show ¬ (256<ps.length∨64<es.length) by omega),hp,hq,and_self,if_true,if_neg hn]
       refine ⟨X1.set 1 (.map (EE.map exV)),.bu,?_,by simp [he],fun _=>rfl⟩
       rw [he]
       simp [f147,hlv,hlw,h1',h2',hL,hL2]
     | false=>
       have hn:(es.map aS).Nodup:=by
        by_cases h:(es.map aS).Nodup
        · exact h
        · have:=hI.tws.2 h;cases this
       have he:ld ps es=0:=by simp only [ld,if_neg (show ¬ (256<ps.length∨64<es.length) by omega),hp,hq,and_self,if_true,if_pos hn]
       refine ⟨X1.set 1 (.map (EE.map exV)),.ptr (st.heap.length+(H.length+2)) 0,?_,fun _=>⟨rfl,t1,EE,?_,hS,a2,hI,?_,?_⟩,by simp [he]⟩
       · rw [he]
         simp [f147,hlv,hlw,h1',h2',hL,hL2]
       · refine a1.same fun j hj => ?_
         rw [← oi,List.getElem?_set_ne (by rintro rfl;exact a4 hj)]
       · rw [iL,List.getElem?_set_self (List.getElem?_eq_some_iff.1 b1).1]
       · rw [aJ,iL,List.getElem?_set_ne (by omega)];exact aJ.1 b2
   · rw [if_neg hq] at c
     obtain ⟨rfl,rfl⟩:=c
     have he:ld ps es=4:=by rw [ld,if_neg (show ¬ (256<ps.length∨64<es.length) by omega),if_neg (fun h=>hq h.2)]
     refine ⟨X1.set 1 (.map (EE.map exV)),.bu,?_,by simp [he],fun _=>rfl⟩
     rw [he]
     simp [f147,hlv,hlw,h1',h2',hL,hL2]
 · rw [if_neg hp] at a8
   obtain ⟨rfl,rfl⟩:=a8
   have he:ld ps es=4:=by rw [ld,if_neg (show ¬ (256<ps.length∨64<es.length) by omega),if_neg (fun h=>hp h.1)]
   refine ⟨X1,.bu,?_,by simp [he],fun _=>rfl⟩
   rw [he]
   simp [f147,hlv,hlw,h1',h2',hL]
end
def Con (ps:List (List UInt8)) (text:List UInt8) (m x:Nat):Prop:=∀ s∈ps,∀ i,cF s≠[]→cF s <+: text.drop i→i≤m→(dh 0 s).getD (m-i) 0≤x
def Kd (text:List UInt8) (m:Nat) (s:List UInt8) (i:Nat):Nat:=if cF s≠[]∧(cF s).isPrefixOf (text.drop i)=true∧i≤m then (dh 0 s).getD (m-i) 0 else 0
def BW (ps:List (List UInt8)) (text:List UInt8) (m:Nat):Nat:=(ps.flatMap fun s=>(List.range (text.length+1)).map (Kd text m s)).foldr max 0
theorem mh (x:Nat):∀ l:List Nat,l.foldr max 0≤x↔∀ y∈l,y≤x
 | []=>by simp
 | a::r=>by simp only [List.foldr_cons,List.mem_cons,forall_eq_or_imp,← mh x r];omega
theorem Mv (ps:List (List UInt8)) (text:List UInt8) (m x:Nat):BW ps text m≤x↔Con ps text m x:=by
 unfold BW
 rw [mh]
 constructor
 · intro h s hs i h1 h2 h3
   have hi:i<text.length+1:=by
    apply Nat.lt_succ_of_le
    apply Nat.le_of_not_lt
    intro hlt
    rw [List.drop_eq_nil_of_le (by omega)] at h2
    exact h1 (List.prefix_nil.1 h2)
   have:=h (Kd text m s i) (List.mem_flatMap.2 ⟨s,hs,List.mem_map.2 ⟨i,List.mem_range.2 hi,rfl⟩⟩)
   unfold Kd at this
   rw [if_pos ⟨h1,List.isPrefixOf_iff_prefix.2 h2,h3⟩] at this
   exact this
 · intro h y hy
   obtain ⟨s,hs,hy⟩:=List.mem_flatMap.1 hy
   obtain ⟨i,_,rfl⟩:=List.mem_map.1 hy
   unfold Kd
   split
   · rename_i h1;exact h s hs i h1.1 (List.isPrefixOf_iff_prefix.1 h1.2.1) h1.2.2
   · exact Nat.zero_le _
theorem FJ {a b:Nat} (h:∀ x,a≤x↔b≤x):a=b:=Nat.le_antisymm ((h b).2 (Nat.le_refl _)) ((h a).1 (Nat.le_refl _))
section
variable {st:St} {H:List HO} {root:Nat} {t:TS}
theorem Trie.aus (h:t.ok st H root) {p:Path} (hp:t.N p=none):∀ u,t.N (p++u)=none:=by
 intro u
 induction u generalizing p with
 | nil=>simpa using hp
 | cons c r ih=>have:=ih ((h.off hp).2.2 c);simpa using this
theorem Bg (h:t.ok st H root) {ps:List (List UInt8)} (hS:Sem t ps) (a m x:Nat):∀ (r p:List UInt8) (V:List Nat),m<V.length →
 ((fO t.N t.dg a p r V).getD m 0≤x↔V.getD m 0≤x∧∀ s∈ps,∀ u,u≠[]→u <+: r→cF s=p++u→a≤m→(dh 0 s).getD (m-a) 0≤x)
 | [],p,V,hm=>by
   simp only [fO]
   constructor
   · intro h1;exact ⟨h1,fun s _ u hu hp=>absurd (List.prefix_nil.1 hp) hu⟩
   · intro h1;exact h1.1
 | c::r,p,V,hm=>by
   simp only [fO]
   split
   · rename_i hn
     constructor
     · intro h1
       refine ⟨h1,fun s hs u hu hp e => ?_⟩
       exfalso
       cases u with
       | nil=>exact hu rfl
       | cons c' u=>
         obtain ⟨rfl,_⟩:=List.cons_prefix_cons.1 hp
         have h2:=h.aus hn u
         have h3:p++[c']++u=cF s:=by rw [e];simp
         rw [h3] at h2
         have h4:=hS (cF s)
         rw [(h.off h2).2.1] at h4
         exact h4 s hs rfl
     · intro h1;exact h1.1
   · have hq:=hS (p++[c])
     have key:∀ W:List Nat,m<W.length→(W.getD m 0≤x↔V.getD m 0≤x∧∀ s∈ps,cF s=p++[c]→a≤m→(dh 0 s).getD (m-a) 0≤x) →
      ((fO t.N t.dg a (p++[c]) r W).getD m 0≤x↔V.getD m 0≤x∧∀ s∈ps,∀ u,u≠[]→u <+: c::r→cF s=p++u→a≤m→(dh 0 s).getD (m-a) 0≤x):=by
      intro W hW hk
      rw [Bg h hS a m x r (p++[c]) W hW,hk]
      constructor
      · rintro ⟨⟨h1,h2⟩,h3⟩
        refine ⟨h1,fun s hs u hu hp e ham => ?_⟩
        cases u with
        | nil=>exact absurd rfl hu
        | cons c' u=>
          obtain ⟨rfl,hp'⟩:=List.cons_prefix_cons.1 hp
          cases u with
          | nil=>exact h2 s hs e ham
          | cons d u=>exact h3 s hs (d::u) (by simp) hp' (by rw [e];simp) ham
      · rintro ⟨h1,h2⟩
        refine ⟨⟨h1,fun s hs e ham=>h2 s hs [c] (by simp) (by simp) e ham⟩,fun s hs u hu hp e ham => ?_⟩
        exact h2 s hs (c::u) (by simp) (List.cons_prefix_cons.2 ⟨rfl,hp⟩) (by rw [e];simp) ham
     cases hd:t.dg (p++[c]) with
     | none=>
       rw [hd] at hq
       simp only
       refine key V hm ⟨fun h1=>⟨h1,fun s hs e=>absurd e (hq s hs)⟩,fun h1=>h1.1⟩
     | some y=>
       obtain ⟨kd,D⟩:=y
       rw [hd] at hq
       simp only
       obtain ⟨hq1,hq2⟩:=hq
       refine key _ (by rw [iV];exact hm) ?_
       rw [um x _ _ a m hm]
       have e:(a≤m→D.getD (m-a) 0≤x)↔∀ s∈ps,cF s=p++[c]→a≤m→(dh 0 s).getD (m-a) 0≤x:=by
        by_cases hma:m-a<(p++[c]).length+1
        · have:=hq2 (m-a) hma x
          constructor
          · intro h1 s hs e ham;exact this.1 (h1 ham) s hs e
          · intro h1 ham;exact this.2 fun s hs e=>h1 s hs e ham
        · constructor
          · intro _ s hs e ham
            have hl:=j9 s 0
            rw [e] at hl
            simp [List.getD_eq_getElem?_getD,List.getElem?_eq_none (show (dh 0 s).length≤m-a by omega)]
          · intro _ ham
            simp [List.getD_eq_getElem?_getD,List.getElem?_eq_none (show D.length≤m-a by omega)]
       rw [e]
theorem rY (h:t.ok st H root) {ps:List (List UInt8)} (hS:Sem t ps) (m x:Nat):∀ (r:List UInt8) (a:Nat) (V:List Nat),m<V.length →
 ((cW t.N t.dg a r V).getD m 0≤x↔V.getD m 0≤x∧∀ s∈ps,∀ i,cF s≠[]→cF s <+: r.drop i→a+i≤m→(dh 0 s).getD (m-(a+i)) 0≤x)
 | [],a,V,hm=>by
   simp only [cW]
   constructor
   · intro h1;exact ⟨h1,fun s _ i hn hp=>absurd (List.prefix_nil.1 (by simpa using hp)) hn⟩
   · intro h1;exact h1.1
 | c::r,a,V,hm=>by
   simp only [cW]
   rw [rY h hS m x r (a+1) _ (by rw [mi];exact hm),Bg h hS a m x (c::r) [] V hm]
   constructor
   · rintro ⟨⟨h1,h2⟩,h3⟩
     refine ⟨h1,fun s hs i hn hp ham => ?_⟩
     cases i with
     | zero=>exact h2 s hs (cF s) hn (by simpa using hp) (by simp) (by omega)
     | succ i=>
       have:=h3 s hs i hn (by simpa using hp) (by omega)
       have e:a+1+i=a+(i+1):=by omega
       rw [e] at this;exact this
   · rintro ⟨h1,h2⟩
     refine ⟨⟨h1,fun s hs u hu hp e ham => ?_⟩,fun s hs i hn hp ham => ?_⟩
     · have e':cF s=u:=by simpa using e
       subst e'
       exact h2 s hs 0 hu (by simpa using hp) (by omega)
     · have:=h2 s hs (i+1) hn (by simpa using hp) (by omega)
       have e:a+1+i=a+(i+1):=by omega
       rw [e];exact this
theorem BS (h:t.ok st H root) {ps:List (List UInt8)} (hS:Sem t ps) (text:List UInt8) (n m:Nat) (hm:m<n):(cW t.N t.dg 0 text (List.replicate n 0)).getD m 0=BW ps text m:=by
 apply FJ
 intro x
 rw [rY h hS m x text 0 _ (by simpa using hm),Mv]
 have e:(List.replicate n 0).getD m 0=0:=by simp [List.getD_eq_getElem?_getD,hm]
 rw [e]
 simp only [Nat.zero_le,true_and,Nat.zero_add]
 rfl
theorem pE (N:Path→Option Nat) (dg:Path→Option (Nat×List Nat)):∀ (r:List UInt8) (a:Nat) (V:List Nat),(cW N dg a r V).length=V.length
 | [],a,V=>rfl
 | c::r,a,V=>by rw [cW,pE N dg r,mi]
end
def BC (ps:List (List UInt8)) (w:List UInt8):List Nat:=(List.range' 2 (w.length-4)).filter fun k=>BW ps (46::(w++[46])) (k+1)%2==1
def points (ps es:List (List UInt8)) (w:List UInt8):List Nat:=match es.find? (fun s=>aS s==w) with | some s=>plc 0 s | none=>BC ps w
theorem amV:tab 150=some (.code f150):=by kernel_rfl
theorem aof:tab 144=some (.code f144):=by kernel_rfl
theorem Om {ys:List Nat}:∀ y∈ys.map i6,cX 1 false y:=by
 intro y hy;obtain ⟨c,_,rfl⟩:=List.mem_map.1 hy;exact ⟨rfl,rfl,rfl⟩
theorem DU {st:St} {ys:List Nat} {v:DV} (h:Lw 1 (ys.map i6) v) (hl:ys.length≤100000):∃ v',(E tab).F 150 [v] st=some (v',st)∧Lw 1 (ys.map i6) v':=by
 rw [aT amV rfl]
 cases h with
 | list t n' tk nn h1 h2=>
   cases nn with
   | false=>
     refine ⟨.list 0 0 .no false [],?_,by rw [h2 rfl];exact .list _ _ _ _ (fun h=>by cases h) (fun _=>rfl)⟩
     simp [f150,eqD]
   | true=>
     obtain rfl:=h1 rfl
     by_cases hy:ys.map i6=[]
     · refine ⟨.list st.cur 1 .tight true [],?_,by rw [hy];exact .list _ _ _ _ (by simp) (by simp)⟩
       have ha:∀ K,bd (pst st [] K) 1 false 8 (.list st.cur 1 .tight true []) (.list t 1 tk true (ys.map i6))=some (.list st.cur 1 .tight true [],pst st [] K):=by
        intro K;refine wR ?_;rw [hy];simp [bP,flat]
       simp [f150,eqD,a0,bk,chunk,ha]
     · have ha:=o8 (st:=st) (H:=[]) (K:=[]) (t:=st.cur) (n':=1) (tk:=.tight) (nn:=true) (xs:=[]) (t':=t) (tk':=tk) (by_:=8) (.inr ⟨rfl,rfl,rfl⟩) (by omega) hy Om (by simp [aA];omega) (by simp [aA];omega)
       refine ⟨.list st.cur 1 .no true (ys.map i6),?_,.list _ _ _ _ (by simp) (by simp)⟩
       simp at ha
       simp [f150,eqD,a0,bk,chunk,ha]
theorem yb {st:St} {K:List Nat} {n:Nat} {xs:List DV} {v:DV} (h:Acc st K n xs v):Lw n xs v:=by
 rcases h with ⟨rfl,t,n',tk,rfl⟩ | ⟨k,s,rfl,_⟩
 · exact .list _ _ _ _ (fun h=>by cases h) (fun _=>rfl)
 · exact .list _ _ _ _ (fun _=>rfl) (fun h=>by cases h)
theorem Xw {w:List UInt8}:∀ {es:List (List UInt8)} {EE:List (List UInt8×DV)},F2 (fun s x=>x.1=aS s∧Lw 1 ((plc 0 s).map i6) x.2) es EE→∀ i,
 (es.find? (fun s=>aS s==w)=none∧findD [.str] (.str w) (EE.map exV) i=some none) ∨
 ∃ s j v,es.find? (fun s=>aS s==w)=some s∧s∈es∧findD [.str] (.str w) (EE.map exV) i=some (some (j,v))∧Lw 1 ((plc 0 s).map i6) v:=by
 intro es EE h
 induction h with
 | nil=>intro i;exact .inl ⟨rfl,rfl⟩
 | @cons s x l m hx h ih=>
   intro i
   obtain ⟨a,v⟩:=x
   obtain ⟨rfl,hx2⟩:=hx
   by_cases e:aS s=w
   · refine .inr ⟨s,i,v,by simp [e],by simp,?_,hx2⟩
     simp [findD,exV,jd,cR,e]
   · have hb:(w==aS s)=false:=by rw [beq_eq_false_iff_ne];exact fun h=>e h.symm
     have hb2:(aS s==w)=false:=by rw [beq_eq_false_iff_ne];exact e
     have e2:∀ r,findD [.str] (.str w) (exV (aS s,v)::r) i=findD [.str] (.str w) r (i+1):=by
      intro r;simp [findD,exV,jd,cR,hb]
     rcases ih (i+1) with ⟨h1,h2⟩ | ⟨s',j,v',h1,h1',h2,h3⟩
     · exact .inl ⟨by rw [List.find?_cons,hb2];exact h1,by rw [List.map_cons,e2];exact h2⟩
     · exact .inr ⟨s',j,v',by rw [List.find?_cons,hb2];exact h1,List.mem_cons_of_mem _ h1',by rw [List.map_cons,e2];exact h2,h3⟩
section
variable {st:St}
theorem ahx {G:List HO} {kv n:Nat} {w:List UInt8} {V:List Nat} (hw:w.length=n) (hn:n≤64) (hV:V.length=n+3) (hr:rowAt G kv=some (.plain,V.map d8)):∀ (j k:Nat) (xs:List Nat) (v:DV) (K:List Nat),2≤k→k+j=n-4+2→xs.length+j≤100→Acc st K 1 (xs.map i6) v →
 ∃ v' K' tl,(E tab).C qI [(6,.str w),(10,.hsl 1 false (st.heap.length+kv) 0 (n+3) (some (n+3))),(11,v),(12,.int .i64 k)] (pst st G K) =
   some (.exit 0,(6,.str w)::(10,.hsl 1 false (st.heap.length+kv) 0 (n+3) (some (n+3)))::(11,v')::tl,pst st G K')∧Acc st K' 1 ((xs++(List.range' k j).filter fun k=>V.getD (k+1) 0%2==1).map i6) v':=by
 intro j
 induction j with
 | zero=>
   intro k xs v K hk hj hx ha
   have hc:¬ ((k:Int)≤IntKind.i64.wrap ((n:Int)-3)):=by rw [aD (by omega)];omega
   refine ⟨v,K,[(12,.int .i64 k),(56,.bool false)],?_,by simpa using ha⟩
   rw [aj (L:=qI) rfl]
   simp [ui,hw,hc]
 | succ j ih=>
   intro k xs v K hk hj hx ha
   have hc:(k:Int)≤IntKind.i64.wrap ((n:Int)-3):=by rw [aD (by omega)];omega
   have hw1:IntKind.i64.wrap ((k:Int)+1)=((k+1:Nat):Int):=by rw [aD (by omega)];simp
   obtain ⟨y,hy⟩:∃ y,V[k+1]? = some y:=⟨V[k+1],List.getElem?_eq_getElem (by omega)⟩
   have hyd:V.getD (k+1) 0=y:=by simp [hy]
   have hvx:(V.map d8)[k+1]? = some (.int .u8 y):=by simp [hy,d8]
   have h01:(0:Int)≤(k:Int)+1:=by omega
   have h02:(k:Int)+1<(n:Int)+3:=by omega
   have htm:(y:Int).tmod 2=((y%2:Nat):Int):=rfl
   generalize V.map d8=VM at *
   rw [List.range'_succ,List.filter_cons,hyd]
   by_cases hodd:y%2=1
   · have hdec:(y:Int)%2=1:=by omega
     obtain ⟨v',K',hap,ha'⟩:=fy (st:=st) (H:=G) (by_:=8) (ag:=false) (ys:=[i6 k]) (t:=st.cur) (tk:=.tight) ha (by omega) (by simp) (by intro z hz;simp only [List.mem_singleton] at hz;subst hz;exact ⟨rfl,rfl,rfl⟩) (by simp [aA];omega) (by simp [aA];omega)
     obtain ⟨v2,K2,tl,hJ,hA⟩:=ih (k+1) (xs++[k]) v' K' (by omega) (by omega) (by simp;omega) (by simpa using ha')
     refine ⟨v2,K2,tl,?_,by simpa [hodd] using hA⟩
     simp at hJ
     simp only [i6] at hap
     rw [aj (L:=qI) rfl]
     simp [ui,hw,hc,hw1,hr,h01,h02,hvx,htm,hdec,a0,bk,chunk,hap,hJ]
   · have hdec:¬ (y:Int)%2=1:=by omega
     obtain ⟨v2,K2,tl,hJ,hA⟩:=ih (k+1) xs v K (by omega) (by omega) (by omega) ha
     refine ⟨v2,K2,tl,?_,by simpa [hodd] using hA⟩
     simp at hJ
     rw [aj (L:=qI) rfl]
     simp [ui,hw,hc,hw1,hr,h01,h02,hvx,htm,hdec,hJ]
theorem B5 {G:List HO} {K:List Nat} {b:Nat} {ps es:List (List UInt8)} (h:rb st G b ps es) (hes:∀ s∈es,s.length≤1000) (w:List UInt8) :
 ∃ v X K',(E tab).F 144 [.ptr (st.heap.length+(b+2)) 0,.str w] (pst st G K)=some (.tuple [v,.int .i64 (if lE w then 0 else 4:Nat)],pst st (G++X) K')∧Lw 1 ((if lE w then points ps es (w.map dJ) else []).map i6) v:=by
 rw [eC aof rfl]
 obtain ⟨t,EE,hT,hS,hown,hI,hmap,hrow⟩:=h
 have hwd:=NR (s:=w) (st:=pst st G K)
 cases hok:lE w with
 | false=>
   rw [hok] at hwd
   refine ⟨.list 0 0 .no false [],[],K,?_,by simpa using Lw.list 0 0 .no false (fun h=>by cases h) (fun _=>rfl)⟩
   simp at hwd
   simp [f144,hrow,eqD,hwd]
 | true=>
   rw [hok] at hwd
   have hwl:w.length≤64:=by simp only [lE,Bool.and_eq_true,decide_eq_true_eq] at hok;exact hok.2.2
   simp only [if_true] at hwd ⊢
   generalize hu:w.map dJ=u at *
   have hul:u.length≤64:=by rw [← hu];simpa using hwl
   have hkf:∀ s,iw [.str] (.str s)=true:=fun _=>rfl
   rcases Xw (w:=u) (hI.all rfl) 0 with ⟨h1,h2⟩ | ⟨s,j,v,h1,hs,h2,h3⟩
   · have hlk:cU (pst st G K) [.str] (.list 0 0 .no false []) (.map (st.heap.length+(b+1))) (.str u) true=some (.tuple [.list 0 0 .no false [],.bool false]):=by
      simp only [cU,cu,hmap,h2];rfl
     have hv0:rowAt (G++[HO.cells .plain ((List.replicate (u.length+3) 0).map d8)]) G.length=some (.plain,(List.replicate (u.length+3) 0).map d8):=sR _ _ _ _
     have hfd:=Eo (K:=K) (text:=46::(u++[46])) (kh:=b+2) (kv:=G.length) (nV:=u.length+3) (hx:=.map (st.heap.length+(b+1))) (V:=List.replicate (u.length+3) 0) (H:=G++[HO.cells .plain ((List.replicate (u.length+3) 0).map d8)])
      (by simp;omega) (by omega) (by simp) (by have:=aZ hrow;omega) (hT.grow _) (b5 hrow _) hv0 (by simp)
     have hset:(G++[HO.cells .plain ((List.replicate (u.length+3) 0).map d8)]).set G.length (.cells .plain ((cW t.N t.dg 0 (46::(u++[46])) (List.replicate (u.length+3) 0)).map d8))=G++[.cells .plain ((cW t.N t.dg 0 (46::(u++[46])) (List.replicate (u.length+3) 0)).map d8)]:=by simp
     rw [hset] at hfd
     have hval:∀ m,m<u.length+3→(cW t.N t.dg 0 (46::(u++[46])) (List.replicate (u.length+3) 0)).getD m 0=BW ps (46::(u++[46])) m:=fun m hm=>BS hT hS _ _ _ hm
     have hfl:(cW t.N t.dg 0 (46::(u++[46])) (List.replicate (u.length+3) 0)).length=u.length+3:=by rw [pE];simp
     generalize cW t.N t.dg 0 (46::(u++[46])) (List.replicate (u.length+3) 0)=V at *
     have hr1:rowAt (G++[HO.cells .plain (V.map d8)]) G.length=some (.plain,V.map d8):=sR _ _ _ _
     obtain ⟨v',K',tl,hL,hA⟩:=ahx (st:=st) rfl hul hfl hr1 (u.length-4) 2 [] (.list 0 0 .no false []) K (by omega) (by omega) (by simp;omega) (.inl ⟨rfl,0,0,.no,rfl⟩)
     refine ⟨v',[HO.cells .plain (V.map d8)],K',?_,?_⟩
     · have hrep:bk [DV.int .u8 0] (u.length+3)=(List.replicate (u.length+3) 0).map d8:=by rw [mR,List.map_replicate];rfl
       have hwl3:IntKind.i64.wrap ((u.length:Int)+3)=((u.length+3:Nat):Int):=by rw [aD (by omega)];simp
       have hroom:((u.length:Int)+3)≤140737488355328:=by omega
       have hroom2:u.length+3≤140737488355328:=by omega
       have hpos:(0:Int)≤(u.length:Int)+3:=by omega
       have hstr:u.length≤4611686018427387903:=by omega
       have hstr1:1+u.length≤4611686018427387904:=by omega
       have hstr2:u.length+1+1≤4611686018427387904:=by omega
       have htn:((u.length:Int)+3).toNat=u.length+3:=by omega
       generalize (List.replicate (u.length+3) 0).map d8=Z at *
       generalize V.map d8=VM at *
       simp at hwd hfd hL
       simp [f144,hrow,eqD,hwd,hkf,hlk,hwl3,aA,hroom,hroom2,hpos,htn,hrep,hstr,hstr1,hstr2,hfd,hL]
     · have e:points ps es u=BC ps u:=by simp only [points,h1]
       rw [e]
       have e2:(List.range' 2 (u.length-4)).filter (fun k=>V.getD (k+1) 0%2==1)=BC ps u:=by
        unfold BC
        apply List.filter_congr
        intro k hk
        rw [List.mem_range'_1] at hk
        rw [hval (k+1) (by omega)]
       rw [List.nil_append,e2] at hA
       exact yb hA
   · have hlk:cU (pst st G K) [.str] (.list 0 0 .no false []) (.map (st.heap.length+(b+1))) (.str u) true=some (.tuple [v,.bool true]):=by
      simp only [cU,cu,hmap,h2];rfl
     have hpl:(plc 0 s).length≤100000:=by have:=mJ s 0;have:=hes s hs;omega
     obtain ⟨v',hcl,hv'⟩:=DU (st:=pst st G K) h3 hpl
     have e:points ps es u=plc 0 s:=by simp only [points,h1]
     refine ⟨v',[],K,?_,by rw [e];exact hv'⟩
     simp [f144,hrow,eqD,hwd,hkf,hlk,hcl]
end
theorem OR {l:List (List UInt8)}:∀ y∈l.map DV.str,cX 1 false y:=by
 intro y hy;obtain ⟨c,_,rfl⟩:=List.mem_map.1 hy;exact ⟨rfl,rfl,rfl⟩
theorem NB (l:List (List UInt8)):flat (l.map DV.str)=l.map DV.str:=gq _ OR
abbrev Txs (st:St) (l:List (List UInt8)) (v:DV):Prop:=Vw st 1 false (l.map DV.str) v
section
variable {st:St} {l:List (List UInt8)} {v:DV} {H:List HO} {K:List Nat}
end
def NC (s:List UInt8):Prop:=∀ a c c' b,s=a++c::c'::b→isD c=true→isD c'=true→False
theorem NC.pre {s:List UInt8} {c:UInt8} (h:NC (s++[c])):NC s:=fun a x y b hs=>h a x y (b++[c]) (by rw [hs];simp)
section
variable {st:St}
end
section
variable {st:St}
end
section
variable {st:St} {H:List HO} {K:List Nat} {v w:DV} {ps es:List (List UInt8)}
def Et (G:List HO) (b:Nat) (ps es:List (List UInt8)):Prop:=∃ t tk t' tk',rowAt G b=some (.plain,[.list t 1 tk true (ps.map DV.str),.list t' 1 tk' true (es.map DV.str)])
theorem Et.same {G G':List HO} {b:Nat} (h:Et G b ps es) (hs:∀ j,b≤j→j<G.length→G'[j]? = G[j]?):Et G' b ps es:=by
 obtain ⟨t,tk,t',tk',h⟩:=h
 exact ⟨t,tk,t',tk',by rw [aJ,hs _ (Nat.le_refl _) (aZ h)];exact aJ.1 h⟩
end
section
variable {st:St} {G:List HO}
end
theorem ap0:tab 143=some (.code f143):=by kernel_rfl
theorem sw:ld fi ir=0:=by decide +kernel
theorem kV:∀ s∈ir,s.length≤1000:=by decide +kernel
section
variable {st:St}
theorem CN (G:List HO) (K:List Nat):∃ X,(E tab).F 143 [] (pst st G K)=some (.ptr (st.heap.length+(G.length+2)) 0,pst st (G++X) K)∧rb st (G++X) G.length fi ir:=by
 rw [eC ap0 rfl]
 have hf:=zi (pst st G K)
 have hv:Txs (pst st G K) fi (.list 0 1 .tight true (fi.map DV.str)):=.list _ _ _ _ (fun _=>rfl) (fun h=>by cases h)
 have hw:Txs (pst st G K) ir (.list st.cur 1 .tight true (ir.map DV.str)):=.list _ _ _ _ (fun _=>rfl) (fun h=>by cases h)
 obtain ⟨X,hp,hn,h0,_⟩:=Xs (K:=K) kV hv hw
 obtain ⟨rfl,hok⟩:=h0 sw
 rw [sw] at hn
 refine ⟨X,?_,hok⟩
 generalize fi.map DV.str=PL at *
 simp [vj] at hf
 simp [ir] at hn
 simp [f143,hf,a0,bk,chunk,hn]
end
theorem A6 (ps es:List (List UInt8)) (w:List UInt8) (h:∀ s∈es,s.length≤1000):(points ps es w).length≤100000+w.length:=by
 unfold points
 split
 · rename_i s hs
   have:=List.mem_of_find?_eq_some hs
   have:=mJ s 0
   have:=h s (by assumption)
   omega
 · unfold BC
   have:=List.length_filter_le (fun k=>BW ps (46::(w++[46])) (k+1)%2==1) (List.range' 2 (w.length-4))
   simp at this
   omega
theorem Ce {ps es:List (List UInt8)} (h:∀ s∈es,s.length≤1000) (w:List UInt8):(if lE w=true then points ps es (w.map dJ) else []).length≤140737488355328:=by
 split
 · rename_i hok
   simp only [lE,Bool.and_eq_true,decide_eq_true_eq] at hok
   have h1:=hok.2.2
   have:=A6 ps es (w.map dJ) h
   simp only [List.length_map] at this
   omega
 · simp
end Go.D.Tab
end
