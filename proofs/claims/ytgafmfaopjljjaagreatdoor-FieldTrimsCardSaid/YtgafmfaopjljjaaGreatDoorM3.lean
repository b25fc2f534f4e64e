import Derived.KernelRfl
import Derived.Test.YtgafmfaopjljjaaGreatDoorM2
/-! Texts 3 of this claim, joined. -/
set_option linter.unnecessarySimpa false
set_option linter.unusedSimpArgs false
set_option linter.unusedVariables false
open _root_.Bool renaming and_eq_true → aac, eq_iff_iff → aaW, false_eq_true → aaq, true_eq_false → abd
open _root_.Classical renaming byContradiction → aaY
open _root_.Int renaming eq_ofNat_of_zero_le → aaK, ofNat → abs, tdiv_eq_ediv_of_nonneg → aau, toNat_natCast → abf
open _root_.List renaming all_cons → aa3, all_eq_true → aaf, any_cons → abq, append_assoc → aas, append_nil → aaE, cons_append → aaF, drop_eq_getElem_cons → abl, flatMap_cons → abx, getD_eq_getElem?_getD → aak, getElem?_append_left → aaj, getElem?_cons_zero → aaw, getElem?_eq_getElem → aaa, getElem?_eq_some_iff → aae, getElem?_map → abe, getElem?_set_ne → aaA, getElem?_set_self → abh, getElem_mem → aar, length_append → aah, length_cons → aax, length_eq_zero_iff → aaU, length_map → aaM, length_nil → aaP, length_pos_iff → aaZ, length_singleton → aam, map_cons → aaS, map_nil → abp, mem_append → aaL, mem_cons → aav, mem_cons_of_mem → aan, mem_cons_self → aap, mem_map → aaT, mem_of_getElem? → aaB, mem_of_mem_drop → aao, mem_of_mem_take → aaz, mem_range → abz, nil_append → aaX, not_mem_nil → aa7, range → aal, replicate → abb, take_of_length_le → aa8
open _root_.Nat renaming add_mul → aaN, le_refl → aai, le_trans → abu, mul_le_mul_right → aaC, zero_add → aay
open _root_.Option renaming getD_some → abr, map_some → abg, some → aab
open _root_.UInt8 renaming ofNat → aa2, toNat_inj → abn
section
namespace Go.D.Tab
def gN (F:Nat→DV):List DV→Option DV
 | [.int .u8 (.ofNat c)]=>if c<256 then some (F c) else none
 | _=>none
theorem gz {g:Nat} {F:Nat→DV} (hr:((aal 256).all fun c=>iR tree.get 1000 g [.int .u8 (.ofNat c)] st0 (F c))=true) (hf:∀ c,(F c).free=true):∀ as_ v,gN F as_=some v→Ran tree.get g as_ v:=by
 intro as_ v h;unfold gN at h;split at h
 · rename_i c;split at h
   · rename_i hc;injection h with h;subst h;exact xx rfl (hf c) (aaf.1 hr c (abz.2 hc))
   · cases h
 · cases h
def emL:List Nat:=[0,0,0,0,0,0,0,0,0,0,0,0,0,0,0,0,0,0,0,0,0,0,0,0,0,0,0,0,0,0,0,0,3,2,3,6,6,6,6,2,3,3,6,6,2,3,2,6,5,5,5,5,5,5,5,5,5,5,2,2,6,6,6,6,6,6,6,6,6,6,6,6,6,3,6,6,6,8,6,6,6,6,6,6,6,6,6,8,6,6,6,3,6,3,3,3,3,5,5,5,5,5,3,5,5,2,2,5,2,7,5,5,5,5,3,5,3,5,5,7,5,5,5,3,2,3,3,0,0,0,0,0,0,0,0,0,0,0,0,0,0,0,0,0,0,0,0,0,0,0,0,0,0,0,0,0,0,0,0,0,0,0,0,0,0,0,0,0,0,0,0,0,0,0,0,0,0,0,0,0,0,0,0,0,0,0,0,0,0,0,0,0,0,0,0,0,0,0,0,0,0,0,0,0,0,0,0,0,0,0,0,0,0,0,0,0,0,0,0,0,0,0,0,0,0,0,0,0,0,0,0,0,0,0,0,0,0,0,0,0,0,0,0,0,0,0,0,0,0,0,0,0,0,0,0,0]
def em (c:Nat):Int:=abs (emL.getD c 0)
def emV (c:Nat):DV:=.int .i64 (em c)
def kdL:List Nat:=[0,6,7,8,0,0,0,0,0,4,0,0,0,0,0,0,0,0,0,0,0,0,0,0,0,0,0,0,0,0,0,5,3,2,2,2,2,2,2,2,2,2,2,2,2,2,2,2,2,2,2,2,2,2,2,2,2,2,2,2,2,2,2,2,2,1,1,1,1,1,1,1,1,1,1,1,1,1,1,1,1,1,1,1,1,1,1,1,1,1,1,2,2,2,2,2,2,1,1,1,1,1,1,1,1,1,1,1,1,1,1,1,1,1,1,1,1,1,1,1,1,1,1,2,2,2,2,0,0,0,0,0,0,0,0,0,0,0,0,0,0,0,0,0,0,0,0,0,0,0,0,0,0,0,0,0,0,0,0,0,0,0,0,0,0,0,0,0,0,0,0,0,0,0,0,0,0,0,0,0,0,0,0,0,0,0,0,0,0,0,0,0,0,0,0,0,0,0,0,0,0,0,0,0,0,0,0,0,0,0,0,0,0,0,0,0,0,0,0,0,0,0,0,0,0,0,0,0,0,0,0,0,0,0,0,0,0,0,0,0,0,0,0,0,0,0,0,0,0,0,0,0,0,0,0,0]
def kd (c:Nat):Int:=abs (kdL.getD c 0)
def kdV (c:Nat):DV:=.int .i64 (kd c)
def rH (c:Nat):Bool:=c==94||c==96||c==126
def A0 (c:Nat):DV:=.bool (rH c)
theorem BK:((List.range 256).all fun c=>iR tree.get 1000 21 [.int .u8 (.ofNat c)] st0 (emV c))=true:=by kernel_rfl
theorem AA:((List.range 256).all fun c=>iR tree.get 1000 22 [.int .u8 (.ofNat c)] st0 (emV c))=true:=by kernel_rfl
theorem AY:((List.range 256).all fun c=>iR tree.get 1000 68 [.int .u8 (.ofNat c)] st0 (kdV c))=true:=by kernel_rfl
theorem Bj:((List.range 256).all fun c=>iR tree.get 1000 58 [.int .u8 (.ofNat c)] st0 (kdV c))=true:=by kernel_rfl
theorem xE:((List.range 256).all fun c=>iR tree.get 1000 70 [.int .u8 (.ofNat c)] st0 (A0 c))=true:=by kernel_rfl
theorem wZ:((List.range 256).all fun c=>iR tree.get 1000 59 [.int .u8 (.ofNat c)] st0 (A0 c))=true:=by kernel_rfl
def gG:List (Nat×(List DV→Option DV)):=[(21,gN emV),(22,gN emV),(68,gN kdV),(58,gN kdV),(70,gN A0),(59,gN A0)]
theorem pg:∀ x∈gG,∀ as_ v,x.2 as_=some v→Ran tree.get x.1 as_ v:=by
 intro x hx;simp only[gG,aav,aa7,or_false] at hx;rcases hx with rfl | rfl | rfl | rfl | rfl | rfl
 · exact gz BK fun _=>rfl
 · exact gz AA fun _=>rfl
 · exact gz AY fun _=>rfl
 · exact gz Bj fun _=>rfl
 · exact gz xE fun _=>rfl
 · exact gz wZ fun _=>rfl
theorem nO:∀ x∈gG,al tree.get x.1=true:=by
 intro x hx;simp only[gG,aav,aa7,or_false] at hx;rcases hx with rfl | rfl | rfl | rfl | rfl | rfl<;>kernel_rfl
def DJ:List DV→Option DV
 | []=>some (.bool true)
 | _=>none
theorem BM {g:Nat} (h:∃ n,iR tree.get n g [] st0 (.bool true)=true):∀ as_ v,DJ as_=some v→Ran tree.get g as_ v:=by
 intro as_ v e;obtain⟨n,h⟩:=h
 cases as_ with
 | nil=>cases e;exact xx rfl rfl h
 | cons a r=>cases e
def iT:Nat→Nat→List UInt8
 | 0,_=>[]
 | f+1,n=>if n<10 then [aa2 (48+n)] else iT f (n/10)++[aa2 (48+n%10)]
def bY (n:Nat):List UInt8:=iT 5 n
noncomputable def b6 (n:Nat):Bool:=iR tree.get 100000 374 [.int .i64 (.ofNat n)] st0 (.str (bY n))
theorem Hh:((List.range 128).all fun c=>b6 (0+c))=true:=by kernel_rfl
theorem H9:((List.range 128).all fun c=>b6 (128+c))=true:=by kernel_rfl
theorem HJ:((List.range 128).all fun c=>b6 (256+c))=true:=by kernel_rfl
theorem GZ:((List.range 128).all fun c=>b6 (384+c))=true:=by kernel_rfl
theorem FV:((List.range 128).all fun c=>b6 (512+c))=true:=by kernel_rfl
theorem FZ:((List.range 128).all fun c=>b6 (640+c))=true:=by kernel_rfl
theorem HD:((List.range 128).all fun c=>b6 (768+c))=true:=by kernel_rfl
theorem Hm:((List.range 128).all fun c=>b6 (896+c))=true:=by kernel_rfl
theorem F3:((List.range 128).all fun c=>b6 (1024+c))=true:=by kernel_rfl
theorem Hn:((List.range 128).all fun c=>b6 (1152+c))=true:=by kernel_rfl
theorem Ce:((List.range 128).all fun c=>b6 (1280+c))=true:=by kernel_rfl
theorem FI:((List.range 128).all fun c=>b6 (1408+c))=true:=by kernel_rfl
theorem C8:((List.range 128).all fun c=>b6 (1536+c))=true:=by kernel_rfl
theorem Dg:((List.range 128).all fun c=>b6 (1664+c))=true:=by kernel_rfl
theorem FH:((List.range 128).all fun c=>b6 (1792+c))=true:=by kernel_rfl
theorem Ct:((List.range 128).all fun c=>b6 (1920+c))=true:=by kernel_rfl
theorem De:((List.range 128).all fun c=>b6 (2048+c))=true:=by kernel_rfl
theorem D4:((List.range 128).all fun c=>b6 (2176+c))=true:=by kernel_rfl
theorem EB:((List.range 128).all fun c=>b6 (2304+c))=true:=by kernel_rfl
theorem EG:((List.range 128).all fun c=>b6 (2432+c))=true:=by kernel_rfl
theorem Eu:((List.range 128).all fun c=>b6 (2560+c))=true:=by kernel_rfl
theorem CU:((List.range 128).all fun c=>b6 (2688+c))=true:=by kernel_rfl
theorem FF:((List.range 128).all fun c=>b6 (2816+c))=true:=by kernel_rfl
theorem Fj:((List.range 128).all fun c=>b6 (2944+c))=true:=by kernel_rfl
theorem Di:((List.range 128).all fun c=>b6 (3072+c))=true:=by kernel_rfl
theorem EY:((List.range 128).all fun c=>b6 (3200+c))=true:=by kernel_rfl
theorem Fo:((List.range 128).all fun c=>b6 (3328+c))=true:=by kernel_rfl
theorem B7:((List.range 128).all fun c=>b6 (3456+c))=true:=by kernel_rfl
theorem Cz:((List.range 128).all fun c=>b6 (3584+c))=true:=by kernel_rfl
theorem Ei:((List.range 128).all fun c=>b6 (3712+c))=true:=by kernel_rfl
theorem CT:((List.range 128).all fun c=>b6 (3840+c))=true:=by kernel_rfl
theorem Er:((List.range 128).all fun c=>b6 (3968+c))=true:=by kernel_rfl
theorem Ck:((List.range 128).all fun c=>b6 (4096+c))=true:=by kernel_rfl
theorem Bc:∀ i,i<33→((aal 128).all fun c=>b6 (128*i+c))=true
 | 0,_=>Hh
 | 1,_=>H9
 | 2,_=>HJ
 | 3,_=>GZ
 | 4,_=>FV
 | 5,_=>FZ
 | 6,_=>HD
 | 7,_=>Hm
 | 8,_=>F3
 | 9,_=>Hn
 | 10,_=>Ce
 | 11,_=>FI
 | 12,_=>C8
 | 13,_=>Dg
 | 14,_=>FH
 | 15,_=>Ct
 | 16,_=>De
 | 17,_=>D4
 | 18,_=>EB
 | 19,_=>EG
 | 20,_=>Eu
 | 21,_=>CU
 | 22,_=>FF
 | 23,_=>Fj
 | 24,_=>Di
 | 25,_=>EY
 | 26,_=>Fo
 | 27,_=>B7
 | 28,_=>Cz
 | 29,_=>Ei
 | 30,_=>CT
 | 31,_=>Er
 | 32,_=>Ck
 | n+33,h=>by omega
theorem Em {n:Nat} (h:n<4224):b6 n=true:=by
 have h1:=aaf.1 (Bc (n/128) (by omega)) (n%128) (abz.2 (by omega))
 rwa [Nat.div_add_mod] at h1
def yI:List DV→Option DV
 | [.int .i64 (.ofNat n)]=>if n<4224 then some (.str (bY n)) else none
 | _=>none
theorem Bq:∀ as_ v,yI as_=some v→Ran tree.get 374 as_ v:=by
 intro as_ v h;unfold yI at h;split at h
 · rename_i n;split at h
   · rename_i hn;injection h with h;subst h;exact xx rfl rfl (Em hn)
   · cases h
 · cases h
theorem uo:iR tree.get 10000000 417 [] st0 (.bool true)=true:=by kernel_rfl
def known:List (Nat×(List DV→Option DV)):=[(417,DJ),(374,yI)]++gG
def tab:Tab:=over tree.get known
theorem Bn:∀ x∈known,∀ as_ v,x.2 as_=some v→Ran tree.get x.1 as_ v:=by
 intro x hx;rcases aaL.1 hx with hx | hx
 · simp only[aav,aa7,or_false] at hx;rcases hx with rfl | rfl
   · exact BM ⟨_,uo⟩
   · exact Bq
 · exact pg x hx
theorem wR:∀ x∈known,al tree.get x.1=true:=by
 intro x hx;rcases aaL.1 hx with hx | hx
 · simp only[aav,aa7,or_false] at hx;rcases hx with rfl | rfl<;>kernel_rfl
 · exact nO x hx
theorem Mc:tab 417=some (.dy DJ):=by kernel_rfl
theorem xl (st:St):(E tab).F 417 [] st=some (.bool true,st):=po Mc rfl
theorem Qr:tab 374=some (.dy yI):=by kernel_rfl
theorem Ca {n:Nat} (h:n<4224) (st:St):(E tab).F 374 [.int .i64 n] st=some (.str (bY n),st):=po Qr (by
 show (if n<4224 then some (DV.str (bY n)) else none)=_
 rw[if_pos h])
@[simp] theorem IC (n:Nat):¬ ((n:Int)<0):=by omega
theorem lJ {H:List HO} {k:Nat} {x:CK×List DV} (h:rowAt H k=some x):k<H.length:=by
 unfold rowAt at h;split at h
 · rename_i e;exact(aae.1 e).1
 · cases h
theorem pc {H X:List HO} {k:Nat} (h:k<H.length):rowAt (H++X) k=rowAt H k:=by
 unfold rowAt;rw[aaj h]
theorem gw {H:List HO} {k:Nat} (h:k<H.length) (g:CK) (vs:List DV):rowAt (H.set k (.cells g vs)) k=some (g,vs):=by
 unfold rowAt;rw[abh h]
theorem Cl {H X:List HO} {k:Nat} (h:k<H.length) (o:HO):(H++X).set k o=H.set k o++X:=List.set_append_left _ _ h
theorem jK {H:List HO} {k:Nat} {g:CK} {vs:List DV} (h:rowAt H k=some (g,vs)) (X:List HO):rowAt (H++X) k=some (g,vs):=by
 rw[pc (lJ h),h]
theorem jA {H:List HO} {k:Nat} (h:k<H.length) (g:CK) (vs:List DV) (X:List HO):rowAt (H.set k (.cells g vs)++X) k=some (g,vs):=by
 rw[pc (by simpa using h),gw h]
theorem lQ {H:List HO} {k:Nat} (h:k<H.length) (o o':HO) (X:List HO):(H.set k o++X).set k o'=H.set k o'++X:=by
 rw[Cl (by simpa using h),List.set_set]
theorem uM {H X:List HO} (j:Nat):rowAt (H++X) (H.length+j)=rowAt X j:=by
 unfold rowAt;rw[sK]
theorem Bf (st:St) (k:Nat):st.nt (st.heap.length+k)=false:=by
 unfold St.nt;rw[List.getElem?_eq_none (Nat.le_add_right _ _)]
theorem ue {st:St} {H:List HO} {K:List Nat} {k:Nat} {g:CK} {vs:List DV} (h:rowAt H k=some (g,vs)):(pst st H K).heap[st.heap.length+k]? = some (.cells g vs):=by
 rw[gE];unfold rowAt at h;split at h
 · rename_i e;simp only[aab.injEq,Prod.mk.injEq] at h;rw[e,h.1,h.2]
 · cases h
theorem vM {n:Nat} {ag:Bool}:∀ {ys:List DV},(∀ y∈ys,fR n ag y)→(flat ys).length=ys.length*n
 | [],_=>by simp[flat]
 | y::r,h=>by
   have h1:=(h y (aap ..)).1;have h2:=vM (ys:=r) fun z hz=>h z (aan _ hz);simp only[flat,abx,aah,h1,aax] at h2 ⊢;rw[h2,Nat.succ_mul];omega
theorem CC {st:St} {H:List HO} {K:List Nat} {k n:Nat} {ag:Bool} {g:CK} {ys:List DV} {cap:Option Nat} (hr:rowAt H k=some (g,flat ys)) (hn:0<n) (hag:ag=true∨n=1) (he:∀ y∈ys,fR n ag y) :
 aV st (pst st H K) (.hsl n ag (st.heap.length+k) 0 ys.length cap)=some (.list st.cur n (if cap=some ys.length then .tight else .no) true ys):=by
 have hl:=vM he;have hp:=iW he;have hd:=dH hp;simp only[aV,Bf,aaq,if_false,ue hr];have ht:(flat ys).take (ys.length*n)=flat ys:=aa8 (by omega);simp only[List.drop_zero,ht,hd,hp,fA he];rw[if_pos ⟨Nat.le_add_right _ _,by omega,hn,hag,trivial⟩];rfl
theorem ot (z:DV):∀ n,aK [z] n=abb n z
 | 0=>rfl
 | n+1=>by rw[aK,ot z n];rfl
theorem mX:∀ (ys:List DV),(∀ y∈ys,fR 1 false y)→flat ys=ys
 | [],_=>rfl
 | y::r,h=>by
   have h1:=(h y (aap ..)).2.2;have h2:=mX r fun z hz=>h z (aan _ hz);simp only[aaq,if_false] at h1;simp only[flat,abx,h1] at h2 ⊢;rw[h2];rfl
variable {T:Tab}
def jS (fr:Fr) (params:List Nat) (assign body:RC) (s:Nat) (q:Option Ex):lB:=⟨fr,params,assign,body,s,q⟩
def yT:Ex→Option Ex
 | .normal=>none
 | e=>some e
theorem B5 {st:St} {H H1 H2:List HO} {K K1 K2:List Nat} {k:Nat} {fr:Fr} {params:List Nat} {assign body:RC} {args:List DV} {fr1:Fr} {e:Ex}
 (h:H[k]? = some (.loop (jS fr params assign body 0 none))) (hl:args.length=params.length)
 (hA:(E T).C assign (c6 fr params args) (pst st H K)=some (.normal,fr1,pst st H1 K1)) (h1:H1[k]? = some (.loop (jS fr params assign body 0 none)))
 (hB:∃ fr2,(E T).C body fr1 (pst st (H1.set k (.loop (jS fr params assign body 1 none))) K1)=some (e,fr2,pst st H2 K2)) (h2:H2[k]? = some (.loop (jS fr params assign body 1 none))) :
 (E T).V (.yield (st.heap.length+k)) args (pst st H K)=some (.bool (yT e).isNone,pst st (H2.set k (.loop (jS fr params assign body (if (yT e).isNone then 0 else 2) (yT e)))) K2):=by
 obtain⟨fr2,hB⟩:=hB;rw[yO h hl];have e1:(jS fr params assign body 0 none).assign=assign:=rfl;have e2:(jS fr params assign body 0 none).params=params:=rfl;have e3:(jS fr params assign body 0 none).fr=fr:=rfl;have e4:(jS fr params assign body 0 none).state=0:=rfl;have hB1:(E T).C (jS fr params assign body 0 none).body fr1 (pst st (H1.set k (.loop (jS fr params assign body 1 none))) K1)=some (e,fr2,pst st H2 K2):=hB;rw[e1,e2,e3,hA];simp only[gE,h1,e4,if_true,lY]
 erw [hB1]
 cases e<;>simp only[gE,h2,lY]<;>rfl
theorem uS {st:St} {H H':List HO} {K K':List Nat} {f:X} {params live:List Nat} {assign body:RC} {fr:Fr} {g:Nat} {first captured:List DV} {F:aj} {v:DV} {s:Nat} {q:Option Ex} (hf:f.ev (fr.bG live)=.fn g first captured) (hg:T g=some (.code F))
 (hF:(E T).F g (first++[.yield (st.heap.length+H.length)]++captured) (pst st (H++[.loop (jS (fr.bG live) params assign body 0 none)]) K)=some (v,pst st H' K'))
 (h2:H'[H.length]? = some (.loop (jS (fr.bG live) params assign body s q))) (hs:s≠1) :
 (E T).C (.gK f params assign body live) fr (pst st H K)=some (q.getD .normal,fr.bG live,pst st (H'.set H.length (.loop (jS (fr.bG live) params assign body 3 q))) K'):=by
 rw[yU hf hg];have e1:(pst st H K).heap.length=st.heap.length+H.length:=by simp
 have e2:(pst st H K).push (.loop (jS (fr.bG live) params assign body 0 none))=pst st (H++[.loop (jS (fr.bG live) params assign body 0 none)]) K:=by simp
 rw[e1]
 erw [e2]
 rw[hF];have e3:(jS (fr.bG live) params assign body s q).state=s:=rfl
 cases q with
 | none=>simp only[gE,h2,e3,hs,if_false,lY];rfl
 | some e=>simp only[gE,h2,e3,hs,if_false,lY];rfl
theorem x9 {ops ops2:List ak} {hs:List Nat} {chk:List (Nat×List Nat)} {live:List Nat} {fr:Fr} {st st1:St} (h:gI fr hs st ops=some (st1,ops2)):(E T).C (.av ops hs chk live) fr st =
 match (E T).S ops2 fr st1 [st1] with
 | some (fr',sts)=>if (E T).A fr' ops2 sts.reverse chk=true then (match sts with | st'::_=>some (.normal,fr'.bG live,st') | []=>none) else none
 | none=>none:=by
 rw[EC];simp only[cT,h]
 cases (E T).S ops2 fr st1 [st1] with
 | none=>rfl
 | some p=>obtain⟨fr',sts⟩:=p;rfl
theorem mw {A B:RC} {f f':Fr} {S S':St} (h:(E T).C (.seq A B) f S=some (.normal,f',S')):∃ fu1 S1,(E T).C A f S=some (.normal,fu1,S1)∧(E T).C B fu1 S1=some (.normal,f',S'):=by
 rw[cB] at h;split at h
 · rename_i fu1 S1 e;exact⟨fu1,S1,e,h⟩
 · cases h
 · cases h
 · cases h
inductive Vw (st:St) (n:Nat) (ag:Bool) (xs:List DV):DV→Prop
 | list (t n':Nat) (tk:Tk) (nn:Bool) (h1:nn=true→n'=n) (h2:nn=false→xs=[]):Vw st n ag xs (.list t n' tk nn xs)
 | hsl (b off c:Nat) (g:CK) (vs:List DV) (hc:st.cells b=some (g,vs)) (hl:off+xs.length*n≤vs.length) (hx:(vs.drop off).take (xs.length*n)=flat xs) (hcap:xs.length≤c) :
  Vw st n ag xs (.hsl n ag b off xs.length (some c))
theorem Vw.pw {st st':St} {n:Nat} {ag:Bool} {xs:List DV} {v:DV} (h:Vw st n ag xs v) (hs:∀ b g vs,st.cells b=some (g,vs)→st'.cells b=some (g,vs)):Vw st' n ag xs v:=by
 cases h with
 | list t n' tk nn h1 h2=>exact .list t n' tk nn h1 h2
 | hsl b off c g vs hc hl hx hcap=>exact .hsl b off c g vs (hs _ _ _ hc) hl hx hcap
theorem rQ {st:St} {H:List HO} {K:List Nat} {b:Nat} {g:CK} {vs:List DV} (h:st.cells b=some (g,vs)):(pst st H K).cells b=some (g,vs):=by
 have h1:=iO h;have hb:=(aae.1 h1).1;unfold St.cells;show (match (st.heap++H)[b]? with | some (.cells g vs)=>some (g,vs) | _=>none)=_;rw[aaj hb,h1]
theorem Vw.inn {st:St} {n:Nat} {ag:Bool} {xs:List DV} {v:DV} (h:Vw st n ag xs v) (H:List HO) (K:List Nat):Vw (pst st H K) n ag xs v:=h.pw fun _ _ _=>rQ
theorem Vw.out {st:St} {n:Nat} {ag:Bool} {xs:List DV} {v:DV} (h:Vw (pst st [] []) n ag xs v):Vw st n ag xs v:=h.pw fun b g vs hc=>by
 have:(pst st [] []).cells b=st.cells b:=by unfold St.cells;simp only[pst,aaE]
 rw[← this];exact hc
theorem Vw.app {st:St} {H:List HO} {K:List Nat} {n:Nat} {ag:Bool} {xs:List DV} {v:DV} (h:Vw (pst st H K) n ag xs v) (X:List HO) (K':List Nat):Vw (pst st (H++X) K') n ag xs v:=by
 refine h.pw fun b g vs hc=>?_;have h1:=iO hc;have hb:=(aae.1 h1).1;unfold St.cells;change (st.heap++H)[b]? = _ at h1;show (match (st.heap++(H++X))[b]? with | some (.cells g vs)=>some (g,vs) | _=>none)=_;rw[← aas,aaj (show b<(st.heap++H).length from hb),h1]
def elP (n:Nat):DV→Nat→DV
 | .list _ _ _ _ xs,i=>.bW ((xs.getD i .undef).leaves)
 | .hsl _ _ b off _ _,i=>.ptr b (off+i*n)
 | _,_=>.undef
def faP (off:Nat):DV→DV
 | .ptr b o=>.ptr b (o+off)
 | .bW cs=>.bW (cs.drop off)
 | _=>.undef
section
variable {st:St} {H:List HO} {K:List Nat} {n:Nat} {ag:Bool} {xs:List DV} {v:DV}
theorem Vw.len (h:Vw st n ag xs v) (st':St):qD st' .slice v=some (.int .i64 xs.length,st'):=by
 cases h<;>rfl
theorem Vw.aY (h:Vw st n ag xs v) {i:Nat} (hi:i<xs.length) (k:IntKind) (st':St):ln st' n v (.int k i)=some (elP n v i,st'):=by
 cases h with
 | list t n' tk nn h1 h2=>
   cases nn with
   | false=>rw[h2 rfl] at hi;cases hi
   | true=>simp[h1 rfl,hi,elP,aak]
 | hsl b off c g vs hc hl hx hcap=>
   simp[hi,elP]
theorem Dw (he:∀ x∈xs,fR n ag x):∀ {i:Nat} {x:DV},xs[i]? = some x→((flat xs).drop (i*n)).take n=x.leaves:=by
 induction xs with
 | nil=>intro i x h;cases h
 | cons y r ih=>
   intro i x h;have hy:=(he y (aap ..)).1;have e:flat (y::r)=y.leaves++flat r:=by simp[flat]
   rw[e]
   cases i with
   | zero=>
     simp only[aaw,aab.injEq] at h;subst h;simp[← hy]
   | succ i=>
     rw[List.getElem?_cons_succ] at h;rw[Nat.succ_mul,Nat.add_comm,← List.drop_drop,← hy];simp only[List.drop_left];rw[hy];exact ih (fun z hz=>he z (aan _ hz)) h
theorem l4 {off:Nat} {vs:List DV} (he:∀ x∈xs,fR n ag x) (hl:off+xs.length*n≤vs.length) (hx:(vs.drop off).take (xs.length*n)=flat xs) {i:Nat} {x:DV} (h:xs[i]? = some x) :
 (vs.drop (off+i*n)).take n=x.leaves∧off+i*n+n≤vs.length:=by
 have hi:=(aae.1 h).1;have h1:=Dw he h;have hle:(i+1)*n≤xs.length*n:=aaC _ hi;rw[Nat.succ_mul] at hle;refine⟨?_,by omega⟩;rw[← h1,← hx,List.drop_take,List.drop_drop,List.take_take]
 congr 1
 omega
theorem Vw.load (h:Vw st n ag xs v) (he:∀ x∈xs,fR n ag x) (ha:ag=true) {i:Nat} {x:DV} (hx:xs[i]? = some x):c7 st n true (elP n v i)=some x:=by
 have hm:=he x (aaB hx);have hxl:x=.agg x.leaves:=by have:=hm.2.2;rw[ha] at this;exact this
 cases h with
 | list t n' tk nn h1 h2=>
   simp only[elP,c7,takeN,aak,hx,abr,if_true,aay];rw[if_pos (by rw[hm.1];exact aai _),List.drop_zero,aa8 (by rw[hm.1];exact aai _),← hxl]
 | hsl b off c g vs hc hl hxx hcap=>
   obtain⟨h1,h2⟩:=l4 he hl hxx hx;simp only[elP,c7,takeN,hc,if_true,h1];rw[if_pos h2,← hxl]
theorem Vw.gU (h:Vw st n ag xs v) (he:∀ x∈xs,fR n ag x) {i:Nat} (hi:i<xs.length) {off:Nat} (ho:off≤n) (st':St):mo st' off (elP n v i)=some (faP off (elP n v i),st'):=by
 have hx:xs[i]? = some xs[i]:=aaa hi;have hm:=he _ (aar hi)
 cases h with
 | list t n' tk nn h1 h2=>
   simp only[elP,mo,faP,aak,hx,abr];rw[if_pos (by rw[hm.1];exact ho)]
 | hsl b off c g vs hc hl hxx hcap=>simp[elP,faP]
theorem Vw.Qx (h:Vw st n ag xs v) (he:∀ x∈xs,fR n ag x) {i:Nat} {x:DV} (hx:xs[i]? = some x) {off:Nat} {y:DV} (ho:x.leaves[off]? = some y):c7 st 1 false (faP off (elP n v i))=some y:=by
 have hm:=he x (aaB hx);have hlt:off<n:=by have:=(aae.1 ho).1;rw[hm.1] at this;exact this
 cases h with
 | list t n' tk nn h1 h2=>
   simp only[elP,faP,c7,takeN,aak,hx,abr,aaq,if_false];rw[List.getElem?_drop];simpa using ho
 | hsl b off' c g vs hc hl hxx hcap=>
   obtain⟨h1,h2⟩:=l4 he hl hxx hx;simp only[elP,faP,c7,takeN,hc,aaq,if_false];rw[← h1,List.getElem?_take_of_lt hlt,List.getElem?_drop] at ho;exact ho
theorem Vw.news (h:Vw st n ag xs v):cd st n v=some (xs.length,flat xs):=by
 cases h with
 | list t n' tk nn h1 h2=>
   cases nn with
   | false=>simp[cd,h2 rfl,flat]
   | true=>simp[cd,h1 rfl]
 | hsl b off c g vs hc hl hx hcap=>simp[cd,hc,hl,hx]
theorem Vw.slice (h:Vw st n ag xs v) (hn:0<n) (he:∀ x∈xs,fR n ag x) {lo hi:Nat} (h1:lo≤hi) (h2:hi≤xs.length) (k k':IntKind) :
 ∃ v',bS false n v (some (.int k lo)) (some (.int k' hi)) none=some v'∧Vw st n ag ((xs.drop lo).take (hi-lo)) v':=by
 cases h with
 | list t n' tk nn g1 g2=>
   refine⟨_,ve g1 (by omega) (by omega) (by omega),?_⟩;simp only[abf];exact .list _ _ _ _ g1 fun e=>by rw[g2 e];simp
 | hsl b off c g vs hc hl hx hcap=>
   have hb1:bnd (.int k' (hi:Int)) c=some hi:=by rw[gm (by omega) (by omega)];simp
   have hb2:bnd (.int k (lo:Int)) hi=some lo:=by rw[gm (by omega) (by omega)];simp
   refine⟨_,by simp only[bS,if_true,Option.isSome_none,aaq,if_false,hb1,hb2];rfl,?_⟩;have hlen:((xs.drop lo).take (hi-lo)).length=hi-lo:=by simp;omega
   by_cases hcl:c=lo
   · have e0:hi-lo=0:=by omega
     rw[if_pos hcl];have h3:=Vw.hsl (st:=st) (n:=n) (ag:=ag) (xs:=(xs.drop lo).take (hi-lo)) b off (c-lo) g vs hc (by rw[hlen,e0];omega) (by rw[hlen,e0];simp[flat]) (by rw[hlen];omega);rw[hlen] at h3;exact h3
   · rw[if_neg hcl];have hmul:lo*n+(hi-lo)*n≤xs.length*n:=by rw[← aaN];exact aaC _ (by omega)
     have fl:∀ (ys:List DV),(∀ y∈ys,fR n ag y)→∀ k,(flat ys).take (k*n)=flat (ys.take k)∧(flat ys).drop (k*n)=flat (ys.drop k):=by
      intro ys
      induction ys with
      | nil=>intro _ k;simp[flat]
      | cons y r ih=>
        intro hy k;have e:flat (y::r)=y.leaves++flat r:=by simp[flat]
        have hly:=(hy y (aap ..)).1
        cases k with
        | zero=>simp[flat]
        | succ k=>
          have:=ih (fun z hz=>hy z (aan _ hz)) k;rw[e,Nat.succ_mul,Nat.add_comm (k*n)];constructor
          · rw[List.take_append,aa8 (by omega),hly,show n+k*n-n=k*n by omega,this.1];simp[flat]
          · rw[← List.drop_drop,← hly,List.drop_left,hly,this.2,List.drop_succ_cons]
     have h3:=Vw.hsl (st:=st) (n:=n) (ag:=ag) (xs:=(xs.drop lo).take (hi-lo)) b (off+lo*n) (c-lo) g vs hc (by rw[hlen];omega) (by
      rw[hlen,← (fl _ (fun y hy=>he y (aao hy)) _).1,← (fl xs he _).2,← hx,List.drop_take,List.drop_drop,List.take_take]
      congr 1
      rw[Nat.min_eq_left (by omega)]) (by rw[hlen];omega)
     rw[hlen] at h3;exact h3
end
inductive Lw (n:Nat) (xs:List DV):DV→Prop
 | list (t n':Nat) (tk:Tk) (nn:Bool) (h1:nn=true→n'=n) (h2:nn=false→xs=[]):Lw n xs (.list t n' tk nn xs)
theorem Lw.vw {st:St} {n:Nat} {ag:Bool} {xs:List DV} {w:DV} (h:Lw n xs w):Vw st n ag xs w:=by
 cases h with | list t n' tk nn h1 h2=>exact .list t n' tk nn h1 h2
theorem Lw.ex {st st':St} {n:Nat} {xs:List DV} {w:DV} (h:Lw n xs w):∃ w',aV st st' w=some w'∧bP st st' w=some w'∧bB st st' w=some w'∧Lw n xs w':=by
 cases h with | list t n' tk nn h1 h2=>exact⟨_,rfl,rfl,rfl,.list _ _ _ _ h1 h2⟩
theorem Fc {st:St} {H:List HO} {K:List Nat} {n t n' by_:Nat} {ag:Bool} {tk:Tk} {xs:List DV} {v:DV} (hv:Vw (pst st H K) n ag xs v) (he:∀ x∈xs,fR n ag x) (hx:xs≠[]) (hn:0<n) (hr:xs.length*by_≤aD) (hr2:xs.length≤aD) :
 bL (pst st H K) n ag by_ (.list t n' tk false []) v=some (.list st.cur n (.own (st.bc.length+K.length) 0) true xs,pst st H (K++[0])):=by
 have hl:xs.length≠0:=fun h=>hx (aaU.1 h);have hp:=iW he;have hc:=fA he;have h0:¬ n=0:=by omega
 have h2:¬ ((0+xs.length)*by_>aD):=by rw[aay];omega
 have h3:¬ (0+xs.length>aD):=by omega
 simp only[bL,Vw.news hv,dH hp,hc,hl,h0,aaP,h2,h3,hp,if_false,Bool.not_true,aaq,or_false,false_and];simp[pst]
theorem At {st:St} {n t n' by_:Nat} {ag:Bool} {tk:Tk} {nn:Bool} {ys:List DV} {v:DV} (hv:Vw st n ag [] v):bL st n ag by_ (.list t n' tk nn ys) v=some (.list t n' tk nn ys,st):=by
 refine CW ?_;have:=Vw.news hv;simpa[flat] using this
theorem Tt:tab 51=some (.code f51):=by kernel_rfl
theorem SL:tab 30=some (.code f30):=by kernel_rfl
theorem SO:tab 37=some (.code f37):=by kernel_rfl
theorem Tx:tab 31=some (.code f31):=by kernel_rfl
theorem Ub:tab 38=some (.code f38):=by kernel_rfl
theorem JT:tab 17=some (.code f17):=by kernel_rfl
theorem So:tab 21=some (.dy (gN emV)):=by kernel_rfl
theorem Ua:tab 22=some (.dy (gN emV)):=by kernel_rfl
theorem mf (n:Int) (st:St):(E tab).F 51 [.int .i64 n] st=some (.bool (decide (1≤n∧n≤64)),st):=by
 refine fY (e:=.ret) (fr:=[(2,.bool (decide (1≤n∧n≤64)))]) (st':=st.enter) (v:=.bool (decide (1≤n∧n≤64))) _ _ Tt rfl ?_ (.inl rfl) rfl rfl
 by_cases h1:1≤n<;>by_cases h2:n≤64 <;>
 simp[f51,h1,h2]
theorem Su (c:UInt8) (st:St):(E tab).F 21 [.int .u8 (c.toNat:Int)] st=some (.int .i64 (em c.toNat),st):=
 po So (by show (if c.toNat<256 then some (emV c.toNat) else _)=_;rw[if_pos (by exact c.toNat_lt)];rfl)
theorem SF (c:UInt8) (st:St):(E tab).F 22 [.int .u8 (c.toNat:Int)] st=some (.int .i64 (em c.toNat),st):=
 po Ua (by show (if c.toNat<256 then some (emV c.toNat) else _)=_;rw[if_pos (by exact c.toNat_lt)];rfl)
def wd (c:UInt8) (size:Int):Int:=IntKind.i64.wrap ((IntKind.i64.wrap (em c.toNat*size)).tdiv 8)
theorem wb (c:UInt8) (n:Int) (st:St):(E tab).F 30 [.int .u8 (c.toNat:Int),.int .i64 n] st=some (.int .i64 (wd c n),st):=by
 refine fY (e:=.ret) (fr:=[(4,.int .i64 (wd c n))]) (st':=st.enter) (v:=.int .i64 (wd c n)) _ _ SL rfl ?_ (.inl rfl) rfl rfl;simp[f30,Su,wd]
theorem iB (c:UInt8) (n:Int) (st:St):(E tab).F 37 [.int .u8 (c.toNat:Int),.int .i64 n] st=some (.int .i64 (wd c n),st):=by
 refine fY (e:=.ret) (fr:=[(4,.int .i64 (wd c n))]) (st':=st.enter) (v:=.int .i64 (wd c n)) _ _ SO rfl ?_ (.inl rfl) rfl rfl;simp[f37,SF,wd]
def tw (n:Int):Int→List UInt8→Int
 | a,[]=>a
 | a,c::r=>tw n (IntKind.i64.wrap (a+wd c n)) r
theorem HB (n:Int) (bs:List UInt8) (hb:bs.length≤4096) (st:St) (cur:Nat):∀ (r d:List UInt8) (a:Int),bs=d++r →
 (E tab).C yz [(1,.int .i64 n),(5,.int .i64 a),(9,.list cur 1 .no true (bs.map fun b=>.int .u8 b.toNat)),(10,.int .i64 bs.length),(11,.int .i64 d.length)] st =
  some (.exit 0,[(1,.int .i64 n),(5,.int .i64 (tw n a r)),(9,.list cur 1 .no true (bs.map fun b=>.int .u8 b.toNat)),(10,.int .i64 bs.length),(11,.int .i64 bs.length),(12,.bool false)],st):=by
 intro r
 induction r with
 | nil=>
   intro d a hd;rw[af (L:=yz) rfl];simp[EW,hd,tw]
 | cons c r ih=>
   intro d a hd;have hl:d.length<bs.length:=by rw[hd];simp
   have hg:bs[d.length]=c:=by simp[hd]
   have hw:IntKind.i64.wrap ((d.length:Int)+1)=((d++[c]).length:Nat):=by rw[IntWalk.i64_in _ (by omega)];simp
   rw[tw,← ih (d++[c]) (IntKind.i64.wrap (a+wd c n)) (by simp[hd])];rw[af (L:=yz) rfl];simp[EW,hl,hg,wb,hw]
theorem u2 (bs:List UInt8) (hb:bs.length≤4096) (n:Int) (st:St):(E tab).F 31 [.str bs,.int .i64 n] st=some (.int .i64 (tw n 0 bs),st):=by
 refine fY (e:=.ret) (fr:=[(4,.int .i64 (tw n 0 bs))]) (st':=st.enter) (v:=.int .i64 (tw n 0 bs)) _ _ Tx rfl ?_ (.inl rfl) rfl rfl;have h:=HB n bs hb st.enter st.enter.cur bs [] 0 rfl;simp at h;simp[f31,h]
theorem SS:tab 57=some (.code f57):=by kernel_rfl
theorem T8:tab 60=some (.code f60):=by kernel_rfl
theorem Si:tab 39=some (.code f39):=by kernel_rfl
theorem Tl:tab 32=some (.code f32):=by kernel_rfl
theorem HS (n:Int) (bs:List UInt8) (hb:bs.length≤4096) (st:St):∀ (r d:List UInt8) (a:Int),bs=d++r →
 (E tab).C zc [(0,.str bs),(1,.int .i64 n),(5,.int .i64 a),(6,.int .i64 d.length)] st =
  some (.exit 0,[(0,.str bs),(1,.int .i64 n),(5,.int .i64 (tw n a r)),(6,.int .i64 bs.length),(10,.bool false)],st):=by
 intro r
 induction r with
 | nil=>
   intro d a hd;rw[af (L:=zc) rfl];simp[Fa,hd,tw]
 | cons c r ih=>
   intro d a hd;have hl:d.length<bs.length:=by rw[hd];simp
   have hg:bs[d.length]=c:=by simp[hd]
   have hw:IntKind.i64.wrap ((d.length:Int)+1)=((d++[c]).length:Nat):=by rw[IntWalk.i64_in _ (by omega)];simp
   rw[tw,← ih (d++[c]) (IntKind.i64.wrap (a+wd c n)) (by simp[hd])];rw[af (L:=zc) rfl];simp[Fa,hl,hg,iB,hw]
theorem qh (bs:List UInt8) (hb:bs.length≤4096) (n:Int) (st:St):(E tab).F 38 [.str bs,.int .i64 n] st=some (.int .i64 (tw n 0 bs),st):=by
 refine fY (e:=.ret) (fr:=[(4,.int .i64 (tw n 0 bs))]) (st':=st.enter) (v:=.int .i64 (tw n 0 bs)) _ _ Ub rfl ?_ (.inl rfl) rfl rfl;have h:=HS n bs hb st.enter bs [] 0 rfl;simp at h;simp[f38,h]
def fj (bs:List UInt8) (n:Int):DV:=
 if 1≤n∧n≤64 then (if 4096<bs.length then .tuple [.int .i64 0,.int .i64 3] else .tuple [.int .i64 (tw n 0 bs),.int .i64 0]) else .tuple [.int .i64 0,.int .i64 5]
theorem r9 (bs:List UInt8) (n:Int) (st:St):(E tab).F 17 [.str bs,.int .i64 n] st=some (fj bs n,st):=by
 by_cases h1:1≤n∧n≤64
 · by_cases h2:4096<bs.length
   · refine fY (e:=.ret) (fr:=[(4,.int .i64 0),(5,.int .i64 3)]) (st':=st.enter) (v:=fj bs n) _ _ JT rfl ?_ (.inl rfl) (by simp[fj,h1,h2,f17,eO,eW,iH]) (by simp[fj,h1,h2]);have h3:(4096:Int)<bs.length:=by omega
     simp[f17,mf,h1,h3]
   · refine fY (e:=.ret) (fr:=[(4,.int .i64 (tw n 0 bs)),(5,.int .i64 0)]) (st':=st.enter) (v:=fj bs n) _ _ JT rfl ?_ (.inl rfl) (by simp[fj,h1,h2,f17,eO,eW,iH]) (by simp[fj,h1,h2]);have h3:¬ (4096:Int)<bs.length:=by omega
     simp[f17,mf,h1,h3,u2 bs (by omega)]
 · refine fY (e:=.ret) (fr:=[(4,.int .i64 0),(5,.int .i64 5)]) (st':=st.enter) (v:=fj bs n) _ _ JT rfl ?_ (.inl rfl) (by simp[fj,h1,f17,eO,eW,iH]) (by simp[fj,h1]);simp[f17,mf,h1]
def pr (a b:UInt8):List UInt8→Bool
 | x::y::_::r=>(x==a&&y==b)||pr a b r
 | _=>false
theorem z0 (x a:UInt8):((x.toNat:Int)==(a.toNat:Int))=(x==a):=by
 rw[aaW];simp only[beq_iff_eq];constructor
 · intro h;exact abn.1 (by omega)
 · rintro rfl;rfl
theorem Ig (s:List UInt8) (hs:s.length≤1000) (a b:UInt8) (st:St):∀ (k:Nat) (r d:List UInt8),r.length=3*k→s=d++r →
 (E tab).C z3 [(0,.str s),(1,.int .u8 a.toNat),(2,.int .u8 b.toNat),(7,.int .i64 d.length)] st =
  some (if pr a b r then (.ret,[(6,.bool true)],st) else (.exit 0,[(0,.str s),(1,.int .u8 a.toNat),(2,.int .u8 b.toNat),(7,.int .i64 s.length),(12,.bool false)],st)):=by
 intro k
 induction k with
 | zero=>
   intro r d hr hd;obtain rfl:r=[]:=aaU.1 (by omega);have hw:IntKind.i64.wrap ((d.length:Int)+1)=d.length+1:=by rw[IntWalk.i64_in _ (by simp at hd;subst hd;omega)]
   rw[af (L:=z3) rfl];simp at hd;subst hd;have hn:¬ (s.length:Int)+1<s.length:=by omega
   simp[u9,pr,hw,hn]
 | succ k ih=>
   intro r d hr hd
   match r,hr with
   | x::y::z::r,hr=>
     have e0:d.length+3+r.length=s.length:=by simp[hd];omega
     have hw:IntKind.i64.wrap ((d.length:Int)+1)=d.length+1:=by rw[IntWalk.i64_in _ (by omega)]
     have hw3:IntKind.i64.wrap ((d.length:Int)+3)=((d++[x,y,z]).length:Nat):=by rw[IntWalk.i64_in _ (by omega)];simp
     have hl:d.length<s.length:=by omega
     have hl1:d.length+1<s.length:=by omega
     have hl2:(d.length:Int)+1<s.length:=by omega
     have hg:s[d.length]=x:=by simp[hd]
     have hg1:s[d.length+1]=y:=by simp[hd]
     have ht:((d.length:Int)+1).toNat=d.length+1:=by omega
     have h0:(0:Int)≤(d.length:Int)+1:=by omega
     rw[af (L:=z3) rfl];by_cases hx:x=a
     · by_cases hy:y=b
       · simp[u9,hw,hl,hl1,hl2,hg,hg1,ht,h0,pr,hx,hy]
       · have:=ih r (d++[x,y,z]) (by simp at hr;omega) (by simp[hd]);simp[u9,hw,hl,hl1,hl2,hg,hg1,ht,h0,z0,pr,hx,hy,hw3] at this ⊢;exact this
     · have:=ih r (d++[x,y,z]) (by simp at hr;omega) (by simp[hd]);simp[u9,hw,hl,hl2,hg,z0,pr,hx,hw3] at this ⊢;exact this
theorem pO (s:List UInt8) (k:Nat) (hk:s.length=3*k) (hs:s.length≤1000) (a b:UInt8) (st:St):(E tab).F 57 [.str s,.int .u8 a.toNat,.int .u8 b.toNat] st=some (.bool (pr a b s),st):=by
 refine fY (e:=.ret) (fr:=[(6,.bool (pr a b s))]) (st':=st.enter) (v:=.bool (pr a b s)) _ _ SS rfl ?_ (.inl rfl) rfl rfl;have h:=Ig s hs a b st.enter k s [] hk rfl;simp at h;by_cases hp:pr a b s=true
 · simp only[hp,if_true] at h;simp[f57,h,hp]
 · simp only[hp] at h;simp[f57,h,hp]
def P19:List (UInt8×UInt8):=[(65,84),(65,86),(65,87),(65,89),(84,65),(86,65),(87,65),(89,65),(76,84),(76,86),(76,89),(80,65),(84,111),(84,97),(84,101),(86,111),(86,97),(89,111),(89,97)]
def P10:List (UInt8×UInt8):=[(114,46),(114,44),(102,46),(102,44),(118,46),(121,46),(65,118),(65,121),(111,118),(118,111)]
def isP (l:List (UInt8×UInt8)) (a b:UInt8):Bool:=l.any fun p=>p.1==a&&p.2==b
def txt (l:List (UInt8×UInt8)):List UInt8:=l.flatMap fun p=>[p.1,p.2,32]
def two (l:List (UInt8×UInt8)):List (List UInt8):=l.map fun p=>[p.1,p.2]
theorem Dl (a b:UInt8):∀ l,pr a b (txt l)=isP l a b
 | []=>rfl
 | p::r=>by
   have:=Dl a b r;unfold txt isP at *;simp only[abx,aaF,aaX,pr,abq,this]
theorem E3 (a b:UInt8):∀ l,(two l).any (fun s=>s==[a,b])=isP l a b
 | []=>rfl
 | p::r=>by
   have:=E3 a b r;unfold two isP at *;simp only[aaS,abq,this]
   congr 1
   simp[List.cons_beq_cons]
theorem DT (a b:UInt8) (h:isP P19 a b=true):isP P10 a b=false:=by
 unfold isP at *;rw[List.any_eq_true] at h;obtain⟨p,hp,h⟩:=h;rw[aac] at h;have h1:=eq_of_beq h.1;have h2:=eq_of_beq h.2;subst h1;subst h2
 revert p
 decide
theorem Gv (l:List (List UInt8)) (hl:l.length≤1000) (s:List UInt8) (cur:Nat) (tk:Tk) (st:St):∀ (r d:List (List UInt8)),l=d++r →
 (E tab).C z2 [(0,.list cur 1 tk true (l.map .str)),(1,.str s),(5,.int .i64 d.length)] st =
  some (if r.any (· == s) then (.ret,[(4,.bool true)],st) else (.exit 0,[(0,.list cur 1 tk true (l.map .str)),(1,.str s),(5,.int .i64 l.length),(9,.bool false)],st)):=by
 intro r
 induction r with
 | nil=>
   intro d hd;simp at hd;subst hd;rw[af (L:=z2) rfl];simp[Am]
 | cons x r ih=>
   intro d hd;have h0:d.length<l.length:=by simp[hd]
   have hw:IntKind.i64.wrap ((d.length:Int)+1)=((d++[x]).length:Nat):=by rw[IntWalk.i64_in _ (by omega)];simp
   have hg:l[d.length]=x:=by simp[hd]
   rw[af (L:=z2) rfl];by_cases hx:x=s
   · simp[Am,h0,hg,hx]
   · have:=ih (d++[x]) (by simp[hd]);simp[Am,h0,hg,hx,hw] at this ⊢;exact this
theorem wo (l:List (List UInt8)) (hl:l.length≤1000) (s:List UInt8) (cur:Nat) (tk:Tk) (st:St):(E tab).F 60 [.list cur 1 tk true (l.map .str),.str s] st=some (.bool (l.any (· == s)),st):=by
 refine fY (e:=.ret) (fr:=[(4,.bool (l.any (· == s)))]) (st':=st.enter) (v:=.bool (l.any (· == s))) _ _ T8 rfl ?_ (.inl rfl) rfl rfl;have h:=Gv l hl s cur tk st.enter l [] rfl;generalize (l.any (· == s))=v at h ⊢;simp at h;cases v<;>simp[f60,h]
def fT (a b:UInt8) (n:Int):Int:=if isP P10 a b then -(n/16) else if isP P19 a b then -(2*n/16) else 0
theorem wK (a b:UInt8) (n:Int) (hn:1≤n∧n≤64) (st:St):(E tab).F 32 [.int .u8 a.toNat,.int .u8 b.toNat,.int .i64 n] st=some (.int .i64 (fT a b n),st):=by
 refine fY (e:=.ret) (fr:=[(6,.int .i64 (fT a b n))]) (st':=st.enter) (v:=.int .i64 (fT a b n)) _ _ Tl rfl ?_ (.inl rfl) rfl rfl;have h19:=pO (txt P19) 19 (by rfl) (by decide) a b st.enter;have h10:=pO (txt P10) 10 (by rfl) (by decide) a b st.enter;rw[Dl] at h19 h10;simp only[show txt P19=[65,84,32,65,86,32,65,87,32,65,89,32,84,65,32,86,65,32,87,65,32,89,65,32,76,84,32,76,86,32,76,89,32,80,65,32,84,111,32,84,97,32,84,101,32,86,111,32,86,97,32,89,111,32,89,97,32] from rfl] at h19;simp only[show txt P10=[114,46,32,114,44,32,102,46,32,102,44,32,118,46,32,121,46,32,65,118,32,65,121,32,111,118,32,118,111,32] from rfl] at h10;have w1:IntKind.i64.wrap n=n:=IntWalk.i64_in _ (by omega);have w2:IntKind.i64.wrap (2*n)=2*n:=IntWalk.i64_in _ (by omega);have w3:IntKind.i64.wrap ((2*n).tdiv 16)=2*n/16:=IntWalk.i64_quo _ _ (by omega);have w4:IntKind.i64.wrap (n.tdiv 16)=n/16:=IntWalk.i64_quo _ _ (by omega);have w5:IntKind.i64.wrap (-(n/16)) = -(n/16):=IntWalk.i64_in _ (by omega);have w6:IntKind.i64.wrap (-(2*n/16)) = -(2*n/16):=IntWalk.i64_in _ (by omega);have w7:IntKind.i64.wrap 0=0:=by decide
 cases e1:isP P19 a b<;>cases e2:isP P10 a b<;>rw[e1] at h19<;>rw[e2] at h10 <;>
 simp[f32,h19,h10,fT,e1,e2,w1,w2,w3,w4,w5,w6,w7]
theorem Sw (a b:UInt8) (r:Fr) (st:St) (T:Tab):opE T (.lit 1 false [.int .u8 0] 2 [(0,.t 8),(1,.t 9)]) ((9,.int .u8 b.toNat)::(8,.int .u8 a.toNat)::r) st=some (.list st.cur 1 .tight true [.int .u8 a.toNat,.int .u8 b.toNat],st):=by
 rfl
theorem TB (a b:UInt8) (r:Fr) (st:St) (c:Nat) (T:Tab):opE T (.b2s (.t 10)) ((10,.list c 1 .tight true [.int .u8 a.toNat,.int .u8 b.toNat])::r) st=some (.str [a,b],st):=by
 simp[KT,cd,flat,jb]
theorem l19 (fr:Fr) (st:St) (T:Tab):opE T (.lit 1 false [(.str [])] 19 [(0,(.c (.str [65,84]))),(1,(.c (.str [65,86]))),(2,(.c (.str [65,87]))),(3,(.c (.str [65,89]))),(4,(.c (.str [84,65]))),(5,(.c (.str [86,65]))),(6,(.c (.str [87,65]))),(7,(.c (.str [89,65]))),(8,(.c (.str [76,84]))),(9,(.c (.str [76,86]))),(10,(.c (.str [76,89]))),(11,(.c (.str [80,65]))),(12,(.c (.str [84,111]))),(13,(.c (.str [84,97]))),(14,(.c (.str [84,101]))),(15,(.c (.str [86,111]))),(16,(.c (.str [86,97]))),(17,(.c (.str [89,111]))),(18,(.c (.str [89,97])))]) fr st=some (.list st.cur 1 .tight true ((two P19).map .str),st):=by kernel_rfl
theorem l10 (fr:Fr) (st:St) (T:Tab):opE T (.lit 1 false [(.str [])] 10 [(0,(.c (.str [114,46]))),(1,(.c (.str [114,44]))),(2,(.c (.str [102,46]))),(3,(.c (.str [102,44]))),(4,(.c (.str [118,46]))),(5,(.c (.str [121,46]))),(6,(.c (.str [65,118]))),(7,(.c (.str [65,121]))),(8,(.c (.str [111,118]))),(9,(.c (.str [118,111])))]) fr st=some (.list st.cur 1 .tight true ((two P10).map .str),st):=by kernel_rfl
theorem Fb (a b:UInt8) (n:Int) (hn:1≤n∧n≤64) (st:St):(E tab).F 39 [.int .u8 a.toNat,.int .u8 b.toNat,.int .i64 n] st=some (.int .i64 (fT a b n),st):=by
 refine fY (e:=.ret) (fr:=[(6,.int .i64 (fT a b n))]) (st':=st.enter) (v:=.int .i64 (fT a b n)) _ _ Si rfl ?_ (.inl rfl) rfl rfl;have h19:=wo (two P19) (by decide) [a,b] st.enter.cur .tight st.enter;have h10:=wo (two P10) (by decide) [a,b] st.enter.cur .tight st.enter;rw[E3] at h19 h10;have w2:IntKind.i64.wrap (2*n)=2*n:=IntWalk.i64_in _ (by omega);have w3:IntKind.i64.wrap ((2*n).tdiv 16)=2*n/16:=IntWalk.i64_quo _ _ (by omega);have w4:IntKind.i64.wrap (n.tdiv 16)=n/16:=IntWalk.i64_quo _ _ (by omega);have w5:IntKind.i64.wrap (-(n/16)) = -(n/16):=IntWalk.i64_in _ (by omega);have w6:IntKind.i64.wrap (-(2*n/16)) = -(2*n/16):=IntWalk.i64_in _ (by omega);have hd:=DT a b;cases e1:isP P19 a b<;>cases e2:isP P10 a b<;>rw[e1] at h19 hd<;>rw[e2] at h10 hd<;>simp at hd
 all_goals
  simp[f39,jw,unD,Sw,TB,l19,l10,h19,h10,fT,e1,e2,w2,w3,w4,w5,w6]
theorem SA:tab 23=some (.code f23):=by kernel_rfl
structure ab where
 a:Int
 b:Int
 k:Int
 s:Int
 w:Int
 e:Int
 deriving DecidableEq
def ab.cs (m:ab):List DV:=[.int .i64 m.a,.int .i64 m.b,.int .i64 m.k,.int .i64 m.s,.int .i64 m.w,.int .i64 m.e]
def ab.dv (m:ab):DV:=.agg m.cs
@[simp] theorem ab.leaves (m:ab):m.dv.leaves=m.cs:=rfl
def okM (m:ab):Bool:=decide (0≤m.w∧m.w≤4095 ∧ -64≤m.e∧m.e≤0)
def ff (o:Bool) (n:Int):List ab→Int
 | []=>n
 | m::r=>ff false (if o then n+m.w else n+m.w+m.e) r
theorem Om (l:List ab) (hl:l.length≤4096) (x y:DV) (t n6:Nat) (tk:Tk) (nn:Bool) (h6:l≠[]→n6=6) (st:St) (K:List Nat):∀ (r d:List ab) (H:List HO),l=d++r →
 ∃ J,(E tab).C vT [(0,.list t n6 tk nn (l.map ab.dv)),(1,x),(2,y),(16,.list t n6 tk nn (l.map ab.dv)),(17,.int .i64 l.length),(18,.int .i64 d.length)] (pst st H K) =
   some (if r.all okM then (.exit 0,[(0,.list t n6 tk nn (l.map ab.dv)),(1,x),(2,y),(16,.list t n6 tk nn (l.map ab.dv)),(17,.int .i64 l.length),(18,.int .i64 l.length),(19,.bool false)],pst st (H++J) K)
    else (.ret,[(6,.int .i64 0),(7,.int .i64 2)],pst st (H++J) K)):=by
 intro r
 induction r with
 | nil=>
   intro d H hd;refine⟨[],?_⟩;rw[af (L:=vT) rfl];simp[oH,hd]
 | cons m r ih=>
   intro d H hd;obtain rfl:n6=6:=h6 (by simp[hd]);have h0:d.length<l.length:=by simp[hd]
   have hw:IntKind.i64.wrap ((d.length:Int)+1)=((d++[m]).length:Nat):=by rw[ar (by omega)];simp
   have hg:l[d.length]=m:=by simp[hd]
   by_cases ho:okM m=true
   · obtain⟨J,hJ⟩:=ih (d++[m]) (H++[.cells .plain m.cs]) (by simp[hd]);refine⟨.cells .plain m.cs::J,?_⟩;rw[af (L:=vT) rfl];obtain⟨o1,o2,o3,o4⟩:0≤m.w∧m.w≤4095 ∧ -64≤m.e∧m.e≤0:=by simpa[okM] using ho
     have o1':¬ m.w<0:=by omega
     have o2':¬ 4095<m.w:=by omega
     have o3':¬ m.e < -64:=by omega
     have o4':¬ 0<m.e:=by omega
     simp[oH,h0,hg,hw,ab.cs,o1',o2',o3',o4',ho] at hJ ⊢;exact hJ
   · refine⟨[.cells .plain m.cs],?_⟩;rw[af (L:=vT) rfl];simp[okM] at ho;by_cases o1:m.w<0
     · simp[oH,h0,hg,ab.cs,o1,okM,show ¬ 0≤m.w by omega]
     by_cases o2:4095<m.w
     · simp[oH,h0,hg,ab.cs,o1,o2,okM,show ¬ m.w≤4095 by omega]
     by_cases o3:m.e < -64
     · simp[oH,h0,hg,ab.cs,o1,o2,o3,okM,show ¬ -64≤m.e by omega]
     have o4:0<m.e:=by omega
     simp[oH,h0,hg,ab.cs,o1,o2,o3,o4,okM,show ¬ m.e≤0 by omega]
theorem Nu (l:List ab) (hl:l.length≤4096) (hok:l.all okM=true) (t n6:Nat) (tk:Tk) (nn:Bool) (h6:l≠[]→n6=6) (st:St) (K:List Nat):∀ (r d:List ab) (H:List HO) (n:Int),l=d++r → -64*(d.length:Int)≤n→n≤4095*d.length →
 ∃ J,(E tab).C Ar [(10,.int .i64 n),(57,.list t n6 tk nn (l.map ab.dv)),(58,.int .i64 l.length),(59,.int .i64 d.length)] (pst st H K) =
   some (.exit 2,[(10,.int .i64 (ff d.isEmpty n r)),(57,.list t n6 tk nn (l.map ab.dv)),(58,.int .i64 l.length),(59,.int .i64 l.length),(60,.bool false)],pst st (H++J) K):=by
 intro r
 induction r with
 | nil=>
   intro d H n hd _ _;refine⟨[],?_⟩;rw[af (L:=Ar) rfl];simp[zB,hd,ff]
 | cons m r ih=>
   intro d H n hd h1 h2;obtain rfl:n6=6:=h6 (by simp[hd]);have h0:d.length<l.length:=by simp[hd]
   have hw:IntKind.i64.wrap ((d.length:Int)+1)=((d++[m]).length:Nat):=by rw[ar (by omega)];simp
   have hg:l[d.length]=m:=by simp[hd]
   have hm:okM m=true:=aaf.1 hok m (by simp[hd]);obtain⟨o1,o2,o3,o4⟩:0≤m.w∧m.w≤4095 ∧ -64≤m.e∧m.e≤0:=by simpa[okM] using hm
   have hd':d.length+r.length+1=l.length:=by simp[hd];omega
   have hw1:IntKind.i64.wrap (n+m.w)=n+m.w:=ar (by omega);have hw2:IntKind.i64.wrap (n+m.w+m.e)=n+m.w+m.e:=ar (by omega);obtain⟨J,hJ⟩:=ih (d++[m]) (H++[.cells .plain m.cs]) (if d.isEmpty then n+m.w else n+m.w+m.e) (by simp[hd]) (by split<;>simp<;>omega) (by split<;>simp<;>omega);refine⟨.cells .plain m.cs::J,?_⟩;have hE:(d++[m]).isEmpty=false:=by cases d<;>rfl
   rw[hE] at hJ;rw[af (L:=Ar) rfl];by_cases he:d=[]
   · subst he;simp at h0 hg hw;simp[zB,h0,hg,hw,ab.cs,hw1,ff] at hJ ⊢;exact hJ
   · have hp:0<d.length:=aaZ.2 he;simp[zB,h0,hg,hw,ab.cs,hw1,hw2,ff,he,hp] at hJ ⊢;exact hJ
def tM (l:List ab) (x y:Int):DV:=
 if 4096<l.length then .tuple [.int .i64 0,.int .i64 3] else
 if l.all okM=false then .tuple [.int .i64 0,.int .i64 2] else
 if 0≤x∧x≤y∧y≤l.length then .tuple [.int .i64 (ff true 0 ((l.drop x.toNat).take (y.toNat-x.toNat))),.int .i64 0] else .tuple [.int .i64 0,.int .i64 5]
theorem Bz (l:List ab) (x y:Int) (t n6:Nat) (tk:Tk) (nn:Bool) (h6:l≠[]→n6=6) (h7:nn=true→n6=6) (st:St) :
 (E tab).F 23 [.list t n6 tk nn (l.map ab.dv),.int .i64 x,.int .i64 y] st=some (tM l x y,st):=by
 rw[au SA rfl];by_cases h1:4096<l.length
 · have h1':(4096:Int)<l.length:=by omega
   simp[f23,h1',tM,h1]
 have h1':¬ (4096:Int)<l.length:=by omega
 obtain⟨J,hJ⟩:=Om l (by omega) (.int .i64 x) (.int .i64 y) t n6 tk nn h6 st [] l [] [] rfl;simp at hJ;by_cases h2:l.all okM=true
 · rw[aaf] at h2;rw[if_pos h2] at hJ;rw[← aaf] at h2;by_cases a1:x<0
   · simp[f23,h1',tM,h1,hJ,h2,a1,show ¬ 0≤x by omega]
   by_cases a2:y<x
   · simp[f23,h1',tM,h1,hJ,h2,a1,a2,show ¬ x≤y by omega]
   by_cases a3:l.length<y
   · simp[f23,h1',tM,h1,hJ,h2,a1,a2,a3,show ¬ y≤l.length by omega]
   have a4:bS false 6 (.list t n6 tk nn (l.map ab.dv)) (some (.int .i64 x)) (some (.int .i64 y)) none=_:=ve h7 (by omega) (by omega) (by simp;omega);rw[← List.map_drop,← List.map_take] at a4
   have hq:((l.drop x.toNat).take (y.toNat-x.toNat)).all okM=true:=by
    rw[aaf] at h2 ⊢;exact fun m hm=>h2 m (aao (aaz hm))
   have hl:((l.drop x.toNat).take (y.toNat-x.toNat)).length≤4096:=by simp;omega
   have hb:0≤x∧x≤y∧y≤l.length:=by omega
   obtain⟨J2,hJ2⟩:=Nu _ hl hq t n6 (pM tk l.length x.toNat y.toNat) nn (fun h=>h6 (fun e=>h (by rw[e];simp))) st [] _ [] J 0 rfl (by simp) (by simp);have e1:min (y.toNat-x.toNat) (l.length-x.toNat)=y.toNat-x.toNat:=by omega
   simp[e1] at hJ2 a4;simp[f23,h1',tM,h1,hJ,h2,a1,a2,a3,a4,hb,hJ2,e1]
 · have h3:l.all okM=false:=by simpa using h2
   rw[aaf] at h2;rw[if_neg h2] at hJ;simp[f23,h1',tM,h1,hJ,h3]
theorem Sp:tab 53=some (.code f53):=by kernel_rfl
theorem ND (l:List ab) (hl:l.length≤4096) (hok:l.all okM=true) (x y:Nat) (hy:y≤l.length) (t n6:Nat) (tk:Tk) (nn:Bool) (h6:l≠[]→n6=6) (st:St):∀ (k i:Nat) (n:Int),y=i+k→x≤i → -64*(i:Int)≤n→n≤4095*i →
 (E tab).C yS [(0,.list t n6 tk nn (l.map ab.dv)),(1,.int .i64 x),(2,.int .i64 y),(7,.int .i64 n),(8,.int .i64 i)] st =
  some (.exit 0,[(0,.list t n6 tk nn (l.map ab.dv)),(1,.int .i64 x),(2,.int .i64 y),(7,.int .i64 (ff (i==x) n ((l.drop i).take k))),(8,.int .i64 y),(12,.bool false)],st):=by
 intro k
 induction k with
 | zero=>
   intro i n hi _ _ _;subst hi;rw[af (L:=yS) rfl];simp[zM,ff]
 | succ k ih=>
   intro i n hi hx h1 h2;have h0:i<l.length:=by omega
   obtain rfl:n6=6:=h6 (fun e=>by rw[e] at h0;simp at h0);have h0':i<y:=by omega
   have hw:IntKind.i64.wrap ((i:Int)+1)=((i+1:Nat):Int):=by rw[ar (by omega)];simp
   have hg:(l.drop i).take (k+1)=l[i]::(l.drop (i+1)).take k:=by rw[abl h0,List.take_succ_cons]
   generalize hm:l[i]=m at *;have ho:okM m=true:=aaf.1 hok m (by rw[← hm];exact aar h0);obtain⟨o1,o2,o3,o4⟩:0≤m.w∧m.w≤4095 ∧ -64≤m.e∧m.e≤0:=by simpa[okM] using ho
   have hw1:IntKind.i64.wrap (n+m.w)=n+m.w:=ar (by omega);have hw2:IntKind.i64.wrap (n+m.w+m.e)=n+m.w+m.e:=ar (by omega);have e1:((i+1)==x)=false:=by simp;omega
   rw[af (L:=yS) rfl,hg];by_cases he:x=i
   · subst he;have hJ:=ih (x+1) (n+m.w) (by omega) (by omega) (by omega) (by omega);rw[e1] at hJ;simp[zM,h0,h0',hw,hm,ab.cs,hw1,ff] at hJ ⊢;exact hJ
   · have hp:x<i:=by omega
     have hJ:=ih (i+1) (n+m.w+m.e) (by omega) (by omega) (by omega) (by omega);rw[e1] at hJ;simp[zM,h0,h0',hw,hm,ab.cs,hw1,hw2,ff,hp,show ¬ i=x by omega] at hJ ⊢;exact hJ
theorem Rr (l:List ab) (hl:l.length≤4096) (hok:l.all okM=true) (x y:Nat) (hx:x≤y) (hy:y≤l.length) (t n6:Nat) (tk:Tk) (nn:Bool) (h6:l≠[]→n6=6) (st:St) :
 (E tab).F 53 [.list t n6 tk nn (l.map ab.dv),.int .i64 x,.int .i64 y] st=some (.int .i64 (ff true 0 ((l.drop x).take (y-x))),st):=by
 rw[au Sp rfl];have h:=ND l hl hok x y hy t n6 tk nn h6 (pst st [] []) (y-x) x 0 (by omega) (by omega) (by omega) (by omega);simp at h;simp[f53,h]
theorem yR (m:ab):fR 6 true m.dv:=⟨rfl,rfl,rfl⟩
theorem Tw:tab 54=some (.code f54):=by kernel_rfl
theorem TC:tab 45=some (.code f45):=by kernel_rfl
theorem Sr:tab 27=some (.code f27):=by kernel_rfl
theorem SN:tab 55=some (.code f55):=by kernel_rfl
theorem MI:tab 69=some (.code f69):=by kernel_rfl
theorem T6:tab 33=some (.code f33):=by kernel_rfl
theorem Uq:tab 68=some (.dy (gN kdV)):=by kernel_rfl
theorem TW:tab 58=some (.dy (gN kdV)):=by kernel_rfl
theorem TS:tab 70=some (.dy (gN A0)):=by kernel_rfl
theorem TF:tab 59=some (.dy (gN A0)):=by kernel_rfl
theorem l8 {g:Nat} {F:Nat→DV} (h:tab g=some (.dy (gN F))) (c:UInt8) (st:St):(E tab).F g [.int .u8 (c.toNat:Int)] st=some (F c.toNat,st):=
 po h (by show (if c.toNat<256 then some (F c.toNat) else _)=_;rw[if_pos (by exact c.toNat_lt)])
theorem KK (c:UInt8) (st:St):(E tab).F 68 [.int .u8 (c.toNat:Int)] st=some (.int .i64 (kd c.toNat),st):=l8 Uq c st
theorem Kg (c:UInt8) (st:St):(E tab).F 58 [.int .u8 (c.toNat:Int)] st=some (.int .i64 (kd c.toNat),st):=l8 TW c st
theorem I6 (c:UInt8) (st:St):(E tab).F 70 [.int .u8 (c.toNat:Int)] st=some (.bool (rH c.toNat),st):=l8 TS c st
theorem IH (c:UInt8) (st:St):(E tab).F 59 [.int .u8 (c.toNat:Int)] st=some (.bool (rH c.toNat),st):=l8 TF c st
def qj (c:UInt8):Bool:=!(kd c.toNat==0)
def cw (s:List UInt8):Int:=if 4096<s.length then 3 else if s.all qj then 0 else 4
theorem NO (s:List UInt8) (hs:s.length≤4096) (st:St) (cur:Nat):∀ (r d:List UInt8),s=d++r →
 (E tab).C zI [(9,.list cur 1 .no true (s.map fun b=>.int .u8 b.toNat)),(10,.int .i64 s.length),(11,.int .i64 d.length)] st =
  some (if r.all qj then (.exit 0,[(9,.list cur 1 .no true (s.map fun b=>.int .u8 b.toNat)),(10,.int .i64 s.length),(11,.int .i64 s.length),(12,.bool false)],st) else (.ret,[(2,.int .i64 4)],st)):=by
 intro r
 induction r with
 | nil=>
   intro d hd;rw[af (L:=zI) rfl];simp[zD,hd]
 | cons c r ih=>
   intro d hd;have h0:d.length<s.length:=by simp[hd]
   have hw:IntKind.i64.wrap ((d.length:Int)+1)=((d++[c]).length:Nat):=by rw[ar (by omega)];simp
   have hg:s[d.length]=c:=by simp[hd]
   rw[af (L:=zI) rfl];have hJ:=ih (d++[c]) (by simp[hd]);by_cases hk:kd c.toNat=0
   · simp[zD,h0,hg,KK,hk,qj]
   · simp[zD,h0,hg,hw,KK,hk,qj] at hJ ⊢;exact hJ
theorem zF (s:List UInt8) (st:St):(E tab).F 54 [.str s] st=some (.int .i64 (cw s),st):=by
 rw[au Tw rfl];by_cases h1:4096<s.length
 · simp[f54,cw,h1,show (4096:Int)<s.length by omega]
 · have h:=NO s (by omega) (pst st [] []) st.cur s [] rfl;simp at h
   cases h2:s.all qj with
   | true=>
     rw[if_pos (by simpa using h2)] at h;simp[f54,cw,h1,show ¬ (4096:Int)<s.length by omega,h,h2]
   | false=>
     rw[if_neg (by simpa using h2)] at h;simp[f54,cw,h1,show ¬ (4096:Int)<s.length by omega,h,h2]
theorem RF (s:List UInt8) (hs:s.length≤4096) (st:St):∀ (r d:List UInt8),s=d++r →
 (E tab).C yx [(0,.str s),(3,.int .i64 d.length)] st =
  some (if r.all qj then (.exit 0,[(0,.str s),(3,.int .i64 s.length),(10,.bool false)],st) else (.ret,[(2,.int .i64 4)],st)):=by
 intro r
 induction r with
 | nil=>
   intro d hd;rw[af (L:=yx) rfl];simp[zg,hd]
 | cons c r ih=>
   intro d hd;have h0:d.length<s.length:=by simp[hd]
   have hw:IntKind.i64.wrap ((d.length:Int)+1)=((d++[c]).length:Nat):=by rw[ar (by omega)];simp
   have hg:s[d.length]=c:=by simp[hd]
   rw[af (L:=yx) rfl];have hJ:=ih (d++[c]) (by simp[hd]);by_cases hk:kd c.toNat=0
   · simp[zg,h0,hg,Kg,hk,qj]
   · simp[zg,h0,hg,hw,Kg,hk,qj] at hJ ⊢;exact hJ
theorem tJ (s:List UInt8) (st:St):(E tab).F 45 [.str s] st=some (.int .i64 (cw s),st):=by
 rw[au TC rfl];by_cases h1:4096<s.length
 · simp[f45,cw,h1,show (4096:Int)<s.length by omega]
 · have h:=RF s (by omega) (pst st [] []) s [] rfl;simp at h
   cases h2:s.all qj with
   | true=>
     rw[if_pos (by simpa using h2)] at h;simp[f45,cw,h1,show ¬ (4096:Int)<s.length by omega,h,h2]
   | false=>
     rw[if_neg (by simpa using h2)] at h;simp[f45,cw,h1,show ¬ (4096:Int)<s.length by omega,h,h2]
structure Clu where
 a:Nat
 b:Nat
 k:Int
 deriving DecidableEq
def Clu.cs (c:Clu):List DV:=[.int .i64 c.a,.int .i64 c.b,.int .i64 c.k]
def Clu.dv (c:Clu):DV:=.agg c.cs
@[simp] theorem Clu.leaves (c:Clu):c.dv.leaves=c.cs:=rfl
theorem Fy (c:Clu):fR 3 true c.dv:=⟨rfl,rfl,rfl⟩
def adv (s:List UInt8) (k:Int):Nat→Nat→Nat
 | 0,t=>t
 | n+1,t=>if k=1∧t<s.length∧rH (s.getD t 0).toNat=true then adv s k n (t+1) else t
def fH (s:List UInt8) (i:Nat):Int:=kd (s.getD i 0).toNat
def cTo (s:List UInt8) (i:Nat):Nat:=adv s (fH s i) 2 (i+1)
def dz (s:List UInt8):Nat→Nat→List Clu
 | 0,_=>[]
 | n+1,i=>if i<s.length then ⟨i,cTo s i,fH s i⟩::dz s n (cTo s i) else []
def gC (s:List UInt8):List Clu:=dz s s.length 0
theorem m7 (s:List UInt8) (k:Int):∀ n t,t≤adv s k n t∧adv s k n t≤t+n∧(t≤s.length→adv s k n t≤s.length)
 | 0,t=>⟨aai _,aai _,id⟩
 | n+1,t=>by
   unfold adv;split
   · rename_i h;have:=m7 s k n (t+1);exact⟨by omega,by omega,fun _=>this.2.2 (by omega)⟩
   · exact⟨aai _,by omega,id⟩
theorem pR {s:List UInt8} {i:Nat} (h:i<s.length):s[i]? = some (s.getD i 0):=by
 simp[aaa h]
theorem QN (s:List UInt8) (hs:s.length≤4096) (v:DV) (st:St) (A:List HO) (K:List Nat) (a:Nat) (ha:a<s.length) (k:Int):∀ (n t:Nat),t+n=a+3→1≤t →
 (E tab).C zV [(0,.str s),(5,v),(6,.int .i64 a),(7,.ptr (st.heap.length+A.length) 0)] (pst st (A++[.cells .plain [.int .i64 a,.int .i64 t,.int .i64 k]]) K) =
  some (.exit 2,[(0,.str s),(5,v),(6,.int .i64 a),(7,.ptr (st.heap.length+A.length) 0),(48,.bool false)],pst st (A++[.cells .plain [.int .i64 a,.int .i64 (adv s k n t),.int .i64 k]]) K):=by
 intro n
 induction n with
 | zero=>
   intro t ht _;have hw:IntKind.i64.wrap ((a:Int)+3)=(a:Int)+3:=ar (by omega);have h1:¬ (t:Int)<a+3:=by omega
   rw[af (L:=zV) rfl];by_cases hk:k=1
   · by_cases hl:t<s.length
     · simp[nu,hk,hl,hw,h1,adv]
     · simp[nu,hk,hl,adv]
   · simp[nu,hk,adv]
 | succ n ih=>
   intro t ht h0;have hw:IntKind.i64.wrap ((a:Int)+3)=(a:Int)+3:=ar (by omega);have h1:(t:Int)<a+3:=by omega
   rw[af (L:=zV) rfl];by_cases hk:k=1
   · by_cases hl:t<s.length
     · have hw2:IntKind.i64.wrap ((t:Int)+1)=((t+1:Nat):Int):=by rw[ar (by omega)];simp
       cases hac:rH (s[t]).toNat with
       | true=>
         have hJ:=ih (t+1) (by omega) (by omega);simp[nu,hk,hl,hw,h1,IH,hac,hw2,adv] at hJ ⊢;exact hJ
       | false=>simp[nu,hk,hl,hw,h1,IH,hac,adv]
     · simp[nu,hk,hl,adv]
   · simp[nu,hk,adv]
theorem OU (s:List UInt8) (hs:s.length≤4096) (st:St):∀ (n i:Nat) (H:List HO) (K:List Nat) (xs:List Clu) (v:DV),s.length≤i+n→i≤s.length→xs.length≤i→Acc st K 3 (xs.map Clu.dv) v →
 ∃ v' J K',(E tab).C vL [(0,.str s),(5,v),(6,.int .i64 i)] (pst st H K) =
   some (.exit 0,[(0,.str s),(5,v'),(6,.int .i64 s.length),(16,.bool false)],pst st (H++J) K')∧Acc st K' 3 ((xs++dz s n i).map Clu.dv) v':=by
 intro n
 induction n with
 | zero=>
   intro i H K xs v h1 h2 h3 hA;obtain rfl:i=s.length:=by omega
   refine⟨v,[],K,?_,by simpa[dz] using hA⟩;rw[af (L:=vL) rfl];simp[zb]
 | succ n ih=>
   intro i H K xs v h1 h2 h3 hA;by_cases hi:i<s.length
   · have hw:IntKind.i64.wrap ((i:Int)+1)=((i+1:Nat):Int):=by rw[ar (by omega)];simp
     have ht:=m7 s (fH s i) 2 (i+1);have hL:=QN s hs v st H K i hi (fH s i) 2 (i+1) (by omega) (by omega);obtain⟨v2,K2,e2,hA2⟩:=dZ (H:=H++[.cells .plain (Clu.cs ⟨i,cTo s i,fH s i⟩)]) (t:=st.cur) (by_:=24) (ag:=true) (tk:=.tight) (ys:=[Clu.dv ⟨i,cTo s i,fH s i⟩]) hA (by omega) (by simp) (by simp[Fy]) (by simp[aD];omega) (by simp[aD];omega);obtain⟨v3,J,K3,e3,hA3⟩:=ih (cTo s i) (H++[.cells .plain (Clu.cs ⟨i,cTo s i,fH s i⟩)]) K2 (xs++[⟨i,cTo s i,fH s i⟩]) v2 (by unfold cTo;omega) (by unfold cTo;omega) (by unfold cTo;simp;omega) (by simpa using hA2);refine⟨v3,.cells .plain (Clu.cs ⟨i,cTo s i,fH s i⟩)::J,K3,?_,by simpa[dz,hi] using hA3⟩;rw[af (L:=vL) rfl];have hg:fH s i=kd (s[i]).toNat:=by simp[fH,hi]
     simp[Clu.cs,Clu.dv,cTo] at e2 e3 hL ⊢;simp[zb,hi,hw,Kg,hL,← hg,aw,aK,iL,chunk,e2,e3]
   · obtain rfl:i=s.length:=by omega
     refine⟨v,[],K,?_,by simpa[dz] using hA⟩;rw[af (L:=vL) rfl];simp[zb]
theorem cM {s:List UInt8} (h:cw s=0):s.length≤4096∧s.all qj=true:=by
 unfold cw at h;split at h
 · simp at h
 · split at h
   · rename_i h1 h2;exact⟨by omega,h2⟩
   · simp at h
def E4 (s:List UInt8) (v:DV):Prop:=∃ t n' tk nn,v=.tuple [.list t n' tk nn ((if cw s=0 then gC s else []).map Clu.dv),.int .i64 (cw s)]∧(nn=true→n'=3)∧(nn=false→(if cw s=0 then gC s else [])=[])
theorem GH (s:List UInt8) (st:St):∃ v,(E tab).F 33 [.str s] st=some (v,st)∧E4 s v:=by
 rw[au T6 rfl];by_cases hw:cw s=0
 · obtain⟨hs,_⟩:=cM hw;obtain⟨v',J,K',h1,h2⟩:=OU s hs st s.length 0 [] [] [] gu (by omega) (by omega) (by simp) (dt _ _ _ _ _ _);obtain⟨t,n',tk,nn,e1,e2,e3,e4⟩:=j6 (st':=pst st J K') h2;obtain⟨t',n'',tk',nn',rfl⟩:=dM h2;refine⟨.tuple [.list t n' tk nn ((gC s).map Clu.dv),.int .i64 0],?_,t,n',tk,nn,by simp[hw],e3,by simpa[hw,gC] using e2⟩;simp at h1 e1;simp[f33,tJ,hw,h1,e1,gC]
 · exact⟨.tuple [.list 0 0 .no false [],.int .i64 (cw s)],by simp[f33,tJ,hw],0,0,.no,false,by simp[hw],by simp,by simp[hw]⟩
theorem M5 (s:List UInt8) (hs:s.length≤4096) (y:DV) (st:St) (A:List HO) (hA:∀ o,rowAt (A++[o]) 1=some (.plain,[.str s])) (K:List Nat) (a:Nat) (ha:a<s.length) (k:Int):∀ (n t:Nat),t+n=a+3→1≤t →
 (E tab).C zY [(0,y),(1,.ptr (st.heap.length+1) 0),(3,.int .i64 a),(4,.ptr (st.heap.length+A.length) 0)] (pst st (A++[.cells .plain [.int .i64 a,.int .i64 t,.int .i64 k]]) K) =
  some (.exit 2,[(0,y),(1,.ptr (st.heap.length+1) 0),(3,.int .i64 a),(4,.ptr (st.heap.length+A.length) 0),(40,.bool false)],pst st (A++[.cells .plain [.int .i64 a,.int .i64 (adv s k n t),.int .i64 k]]) K):=by
 intro n
 induction n with
 | zero=>
   intro t ht _;have hw:IntKind.i64.wrap ((a:Int)+3)=(a:Int)+3:=ar (by omega);have h1:¬ (t:Int)<a+3:=by omega
   rw[af (L:=zY) rfl];by_cases hk:k=1
   · by_cases hl:t<s.length
     · simp[nh,hk,hl,hw,h1,adv,hA]
     · simp[nh,hk,hl,adv,hA]
   · simp[nh,hk,adv]
 | succ n ih=>
   intro t ht h0;have hw:IntKind.i64.wrap ((a:Int)+3)=(a:Int)+3:=ar (by omega);have h1:(t:Int)<a+3:=by omega
   rw[af (L:=zY) rfl];by_cases hk:k=1
   · by_cases hl:t<s.length
     · have hw2:IntKind.i64.wrap ((t:Int)+1)=((t+1:Nat):Int):=by rw[ar (by omega)];simp
       cases hac:rH (s[t]).toNat with
       | true=>
         have hJ:=ih (t+1) (by omega) (by omega);simp[nh,hk,hl,hw,h1,I6,hac,hw2,adv,hA] at hJ ⊢;exact hJ
       | false=>simp[nh,hk,hl,hw,h1,I6,hac,adv,hA]
     · simp[nh,hk,hl,adv,hA]
   · simp[nh,hk,adv]
def kL (st:St):lB:=⟨[(5,.ptr st.heap.length 0),(13,.fn 69 [] [.ptr (st.heap.length+1) 0])],[14],.region D8 [5,6],.block 1 (.region E0 []),0,none⟩
theorem GG (s:List UInt8) (c:Clu) (st:St) (J:List HO) (K:List Nat) (xs:List Clu) (v:DV) (hx:xs.length≤4096) (hA:Acc st K 3 (xs.map Clu.dv) v) :
 ∃ v' K',(E tab).V (.yield (st.heap.length+2)) [c.dv] (pst st (.cells .plain [v]::.cells .plain [.str s]::.loop (kL st)::J) K) =
   some (.bool true,pst st (.cells .plain [v']::.cells .plain [.str s]::.loop (kL st)::(J++[.cells .plain c.cs])) K')∧Acc st K' 3 ((xs++[c]).map Clu.dv) v':=by
 obtain⟨v2,K2,e2,hA2⟩:=dZ (H:=.cells .plain [v]::.cells .plain [.str s]::.loop { kL st with state:=1 }::(J++[.cells .plain c.cs])) (t:=st.cur) (by_:=24) (ag:=true) (tk:=.tight) (ys:=[c.dv]) hA (by omega) (by simp) (by simp[Fy]) (by simp[aD];omega) (by simp[aD];omega);refine⟨v2,K2,?_,by simpa using hA2⟩;obtain⟨t',n',tk',nn',rfl⟩:=dM hA2;rw[yO (lo:=kL st) rfl rfl];simp[kL,Clu.cs,Clu.dv] at e2 ⊢;simp[aw,aK,iL,chunk,e2]
theorem QT (s:List UInt8) (hs:s.length≤4096) (st:St):∀ (n i:Nat) (J:List HO) (K:List Nat) (xs:List Clu) (v:DV),s.length≤i+n→i≤s.length→xs.length≤i→Acc st K 3 (xs.map Clu.dv) v →
 ∃ v' J' K',(E tab).C vU [(0,.yield (st.heap.length+2)),(1,.ptr (st.heap.length+1) 0),(3,.int .i64 i)] (pst st (.cells .plain [v]::.cells .plain [.str s]::.loop (kL st)::J) K) =
   some (.exit 0,[(0,.yield (st.heap.length+2)),(1,.ptr (st.heap.length+1) 0),(3,.int .i64 s.length),(8,.bool false)],pst st (.cells .plain [v']::.cells .plain [.str s]::.loop (kL st)::J') K')∧Acc st K' 3 ((xs++dz s n i).map Clu.dv) v':=by
 intro n
 induction n with
 | zero=>
   intro i J K xs v h1 h2 h3 hA;obtain rfl:i=s.length:=by omega
   refine⟨v,J,K,?_,by simpa[dz] using hA⟩;rw[af (L:=vU) rfl];simp[Ai]
 | succ n ih=>
   intro i J K xs v h1 h2 h3 hA;by_cases hi:i<s.length
   · have hw:IntKind.i64.wrap ((i:Int)+1)=((i+1:Nat):Int):=by rw[ar (by omega)];simp
     have ht:=m7 s (fH s i) 2 (i+1);have hL:=M5 s hs (.yield (st.heap.length+2)) st (.cells .plain [v]::.cells .plain [.str s]::.loop (kL st)::J) (fun o=>rfl) K i hi (fH s i) 2 (i+1) (by omega) (by omega);have hg:fH s i=kd (s[i]).toNat:=by simp[fH,hi]
     obtain⟨v2,K2,e2,hA2⟩:=GG s ⟨i,cTo s i,fH s i⟩ st (J++[.cells .plain (Clu.cs ⟨i,cTo s i,fH s i⟩)]) K xs v (by omega) hA;obtain⟨v3,J3,K3,e3,hA3⟩:=ih (cTo s i) (J++[.cells .plain (Clu.cs ⟨i,cTo s i,fH s i⟩)]++[.cells .plain (Clu.cs ⟨i,cTo s i,fH s i⟩)]) K2 (xs++[⟨i,cTo s i,fH s i⟩]) v2 (by unfold cTo;omega) (by unfold cTo;omega) (by unfold cTo;simp;omega) (by simpa using hA2);refine⟨v3,J3,K3,?_,by simpa[dz,hi] using hA3⟩;rw[af (L:=vU) rfl];simp[Clu.cs,Clu.dv,cTo] at e2 e3 hL ⊢;simp[Ai,hi,hw,KK,hL,← hg,e2,e3]
   · obtain rfl:i=s.length:=by omega
     refine⟨v,J,K,?_,by simpa[dz] using hA⟩;rw[af (L:=vU) rfl];simp[Ai]
theorem zo (s:List UInt8) (st:St):∃ v,(E tab).F 27 [.str s] st=some (v,st)∧E4 s v:=by
 rw[au Sr rfl];by_cases hw:cw s=0
 · obtain⟨hs,_⟩:=cM hw;obtain⟨v',J,K',h1,h2⟩:=QT s hs st s.length 0 [] [] [] gu (by omega) (by omega) (by simp) (dt _ _ _ _ _ _);obtain⟨t,n',tk,nn,e1,e2,e3,e4⟩:=j6 (st':=pst st (.cells .plain [v']::.cells .plain [.str s]::.loop { kL st with state:=3 }::J) K') h2;obtain⟨t',n'',tk',nn',rfl⟩:=dM h2;refine⟨.tuple [.list t n' tk nn ((gC s).map Clu.dv),.int .i64 0],?_,t,n',tk,nn,by simp[hw],e3,by simpa[hw,gC] using e2⟩
   have h55:∀ (H:List HO) (K:List Nat),(E tab).F 55 [.str s] (pst st H K)=some (.fn 69 [] [.ptr (st.heap.length+H.length) 0],pst st (H++[.cells .plain [.str s]]) K):=by
    intro H K;rw[fq SN rfl];simp[f55]
   have h69:(E tab).F 69 [.yield (st.heap.length+2),.ptr (st.heap.length+1) 0] (pst st [.cells .plain [gu],.cells .plain [.str s],.loop (kL st)] [])=some (.tuple [],pst st (.cells .plain [.list t' n'' tk' nn' (([]++dz s s.length 0).map Clu.dv)]::.cells .plain [.str s]::.loop (kL st)::J) K'):=by
    rw[fq MI rfl];simp at h1;simp[f69,h1]
   simp[kL] at h69 e1
   have hr:∀ (fr:Fr) (H:List HO),(E tab).C (.gK (.t 13) [14] (.region D8 [5,6]) (.block 1 (.region E0 [])) [5,13]) [(5,.ptr st.heap.length 0),(13,.fn 69 [] [.ptr (st.heap.length+1) 0])] (pst st [.cells .plain [gu],.cells .plain [.str s]] [])=some (.normal,[(5,.ptr st.heap.length 0),(13,.fn 69 [] [.ptr (st.heap.length+1) 0])],pst st (.cells .plain [.list t' n'' tk' nn' ((dz s s.length 0).map Clu.dv)]::.cells .plain [.str s]::.loop { kL st with state:=3 }::J) K'):=by
    intro fr H;rw[yU (g:=69) (first:=[]) (captured:=[.ptr (st.heap.length+1) 0]) rfl MI];simp[h69,kL]
   simp[kL] at hr;simp[f27,zF,hw,h55,hr,gC,e1]
 · exact⟨.tuple [.list 0 0 .no false [],.int .i64 (cw s)],by simp[f27,zF,hw],0,0,.no,false,by simp[hw],by simp,by simp[hw]⟩
theorem SC:tab 13=some (.code f13):=by kernel_rfl
theorem Sd:tab 14=some (.code f14):=by kernel_rfl
theorem Ur:tab 40=some (.code f40):=by kernel_rfl
theorem SV:tab 41=some (.code f41):=by kernel_rfl
theorem Uh:tab 42=some (.code f42):=by kernel_rfl
theorem Tv:tab 43=some (.code f43):=by kernel_rfl
theorem Sf:tab 44=some (.code f44):=by kernel_rfl
theorem SZ:tab 46=some (.code f46):=by kernel_rfl
theorem S9:tab 47=some (.code f47):=by kernel_rfl
theorem Tu:tab 48=some (.code f48):=by kernel_rfl
theorem Tn:tab 61=some (.code f61):=by kernel_rfl
theorem TU:tab 62=some (.code f62):=by kernel_rfl
theorem TV:tab 64=some (.g9 fi):=by kernel_rfl
theorem Ul:tab 66=some (.code f66):=by kernel_rfl
theorem SJ:tab 67=some (.code f67):=by kernel_rfl
theorem SX:tab 72=some (.g9 fy):=by kernel_rfl
def fb (n a b:Int):Bool:=decide (a≤n∧n≤b)
theorem cr (n a b:Int) (st:St):(E tab).F 66 [.int .i64 n,.int .i64 a,.int .i64 b] st=some (.bool (fb n a b),st):=by
 rw[au Ul rfl];by_cases h1:a≤n<;>simp[f66,fb,h1]
theorem dw (n:Int) (st:St):(E tab).F 67 [.int .i64 n] st=some (.bool (fb n 0 1),st):=by
 rw[au SJ rfl];by_cases h1:n=0
 · simp[f67,fb,h1]
 · by_cases h2:n=1
   · simp[f67,fb,h1,h2]
   · simp[f67,fb,h1,h2];rw[aaW];simp;omega
structure aW where
 z:Int
 t:Int
 e:Int
 deriving DecidableEq
def aW.cs (c:aW):List DV:=[.int .i64 c.z,.int .i64 c.t,.int .i64 c.e]
def de (c:aW):Bool:=fb c.z 0 64&&fb c.t 0 15&&fb c.e 0 1
theorem J9 (c:aW) (st:St):(E tab).F 46 [.agg c.cs] st=some (.bool (de c),st):=by
 rw[au SZ rfl];cases h1:fb c.z 0 64
 · simp[f46,aW.cs,de,cr,dw,h1]
 cases h2:fb c.t 0 15
 · simp[f46,aW.cs,de,cr,dw,h1,h2]
 simp[f46,aW.cs,de,cr,dw,h1,h2]
theorem Lr (c:aW) (st:St):(E tab).F 62 [.agg c.cs] st=some (.bool (de c),st):=by
 rw[au TU rfl];by_cases h1:0≤c.z
 · by_cases h2:c.z≤64
   · by_cases h3:0≤c.t
     · by_cases h4:c.t≤15
       · by_cases h5:c.e=0
         · simp[f62,aW.cs,de,fb,h1,h2,h3,h4,h5]
         · by_cases h6:c.e=1
           · simp[f62,aW.cs,de,fb,h1,h2,h3,h4,h6]
           · simp[f62,aW.cs,de,fb,h1,h2,h3,h4,h5,h6];rw[aaW];simp;omega
       · simp[f62,aW.cs,de,fb,h1,h2,h3,h4]
     · simp[f62,aW.cs,de,fb,h1,h2,h3]
   · simp[f62,aW.cs,de,fb,h1,h2]
 · simp[f62,aW.cs,de,fb,h1]
structure bC where
 size:Int
 rC:Int
 align:Int
 first:Int
 inn:Int
 out:Int
 before:Int
 after:Int
 next:Int
 whole:Int
 mB:Int
 qY:Int
 a9:Int
 least:Int
 drop:Int
 list:Int
 level:Int
 deriving DecidableEq
def bC.l (p:bC):List Int:=[p.size,p.rC,p.align,p.first,p.inn,p.out,p.before,p.after,p.next,p.whole,p.mB,p.qY,p.a9,p.least,p.drop,p.list,p.level]
def bC.cs (p:bC):List DV:=[.int .i64 p.size,.int .i64 p.rC,.int .i64 p.align,.int .i64 p.first,.int .i64 p.inn,.int .i64 p.out,.int .i64 p.before,.int .i64 p.after,.int .i64 p.next,.int .i64 p.whole,.int .i64 p.mB,.int .i64 p.qY,.int .i64 p.a9,.int .i64 p.least,.int .i64 p.drop,.int .i64 p.list,.int .i64 p.level]
def b7 (p:bC):Bool:=fb p.size 1 64&&fb p.rC 1 255&&fb p.align 0 3&&fb p.first 0 255&&fb p.inn 0 255&&fb p.out 0 255&&fb p.before 0 255&&fb p.after 0 255&&fb p.next 0 1&&fb p.whole 0 1&&fb p.mB 1 4&&fb p.qY 1 4&&fb p.a9 0 1&&fb p.least 0 1&&fb p.drop 0 4&&fb p.list 0 8&&fb p.level 0 3
def km (ok:Nat→Bool):Nat→Nat→Bool
 | _,0=>true
 | i,k+1=>ok i&&km ok (i+1) k
theorem M4 (vs:List DV) (n lo hi:Nat→Int) (hv:∀ i,i<17→(vs.drop (i*3)).take 3=[.int .i64 (n i),.int .i64 (lo i),.int .i64 (hi i)]) (hl:vs.length=51) (st:St) (K:List Nat):∀ (k i:Nat) (H:List HO),i+k=17 →
 ∃ J,(E tab).C ri [(56,.agg vs),(57,.int .i64 i)] (pst st H K) =
   some (if km (fun j=>fb (n j) (lo j) (hi j)) i k then (.exit 0,[(56,.agg vs),(57,.int .i64 (17:Nat)),(58,.bool false)],pst st (H++J) K) else (.ret,[(2,.bool false)],pst st (H++J) K)):=by
 intro k
 induction k with
 | zero=>
   intro i H hi0;obtain rfl:i=17:=by omega
   refine⟨[],?_⟩;rw[af (L:=ri) rfl];simp[uu,km]
 | succ k ih=>
   intro i H hi0;have h0:(i:Int)<17:=by omega
   have hw:IntKind.i64.wrap ((i:Int)+1)=((i+1:Nat):Int):=by rw[ar (by omega)];simp
   have hx:=hv i (by omega);have hx2:i*3+3≤vs.length:=by omega
   by_cases h1:n i<lo i
   · refine⟨[.cells .plain [.int .i64 (n i),.int .i64 (lo i),.int .i64 (hi i)]],?_⟩;rw[af (L:=ri) rfl];simp[uu,h0,hx,hx2,h1,km,fb,show ¬ lo i≤n i by omega]
   by_cases h2:hi i<n i
   · refine⟨[.cells .plain [.int .i64 (n i),.int .i64 (lo i),.int .i64 (hi i)]],?_⟩;rw[af (L:=ri) rfl];simp[uu,h0,hx,hx2,h1,h2,km,fb,show ¬ n i≤hi i by omega]
   obtain⟨J,hJ⟩:=ih (i+1) (H++[.cells .plain [.int .i64 (n i),.int .i64 (lo i),.int .i64 (hi i)]]) (by omega);refine⟨.cells .plain [.int .i64 (n i),.int .i64 (lo i),.int .i64 (hi i)]::J,?_⟩;have e1:fb (n i) (lo i) (hi i)=true:=by simp[fb];omega
   rw[af (L:=ri) rfl];simp[e1,km] at hJ ⊢;simp[uu,h0,hx,hx2,h1,h2,hw,hJ]
theorem FU (p:bC) (st:St):(E tab).F 42 [.agg p.cs] st=some (.bool (b7 p),st):=by
 rw[au Uh rfl]
 obtain⟨J,hJ⟩:=M4 [.int .i64 p.size,.int .i64 1,.int .i64 64,.int .i64 p.rC,.int .i64 1,.int .i64 255,.int .i64 p.align,.int .i64 0,.int .i64 3,.int .i64 p.first,.int .i64 0,.int .i64 255,.int .i64 p.inn,.int .i64 0,.int .i64 255,.int .i64 p.out,.int .i64 0,.int .i64 255,.int .i64 p.before,.int .i64 0,.int .i64 255,.int .i64 p.after,.int .i64 0,.int .i64 255,.int .i64 p.next,.int .i64 0,.int .i64 1,.int .i64 p.whole,.int .i64 0,.int .i64 1,.int .i64 p.mB,.int .i64 1,.int .i64 4,.int .i64 p.qY,.int .i64 1,.int .i64 4,.int .i64 p.a9,.int .i64 0,.int .i64 1,.int .i64 p.least,.int .i64 0,.int .i64 1,.int .i64 p.drop,.int .i64 0,.int .i64 4,.int .i64 p.list,.int .i64 0,.int .i64 8,.int .i64 p.level,.int .i64 0,.int .i64 3] (fun i=>p.l.getD i 0) (fun i=>([1,1,0,0,0,0,0,0,0,0,1,1,0,0,0,0,0]:List Int).getD i 0) (fun i=>([64,255,3,255,255,255,255,255,1,1,4,4,1,1,4,8,3]:List Int).getD i 0) (by
  intro i hi
  match i,hi with
  | 0,_=>rfl
  | 1,_=>rfl
  | 2,_=>rfl
  | 3,_=>rfl
  | 4,_=>rfl
  | 5,_=>rfl
  | 6,_=>rfl
  | 7,_=>rfl
  | 8,_=>rfl
  | 9,_=>rfl
  | 10,_=>rfl
  | 11,_=>rfl
  | 12,_=>rfl
  | 13,_=>rfl
  | 14,_=>rfl
  | 15,_=>rfl
  | 16,_=>rfl
  | k+17,h=>omega) rfl st [] 17 0 [.cells .plain p.cs] rfl
 have e:km (fun j=>fb (p.l.getD j 0) (([1,1,0,0,0,0,0,0,0,0,1,1,0,0,0,0,0]:List Int).getD j 0) (([64,255,3,255,255,255,255,255,1,1,4,4,1,1,4,8,3]:List Int).getD j 0)) 0 17=b7 p:=by
  simp[km,b7,bC.l,Bool.and_assoc]
 rw[e] at hJ;cases h:b7 p<;>simp[h,bC.cs] at hJ<;>simp[f42,bC.cs,hJ]
theorem HP (p:bC) (st:St):(E tab).F 47 [.agg p.cs] st=some (.bool (b7 p),st):=by
 rw[au S9 rfl]
 have r1:∀ (_:Unit),(E tab).C (.region ET [1,3]) [(1,.ptr st.heap.length 0)] (pst st [.cells .plain p.cs] [])=some (.normal,[(1,.ptr st.heap.length 0),(3,.bool (fb p.size 1 64&&fb p.rC 1 255&&fb p.align 0 3))],pst st [.cells .plain p.cs] []):=by
  intro _;cases h0:fb p.size 1 64
  · simp[bC.cs,cr,dw,h0]
  cases h1:fb p.rC 1 255
  · simp[bC.cs,cr,dw,h0,h1]
  simp[bC.cs,cr,dw,h0,h1]
 have r2:∀ (x3:DV),(E tab).C (.region B1 [1,3,4]) [(1,.ptr st.heap.length 0),(3,x3)] (pst st [.cells .plain p.cs] [])=some (.normal,[(1,.ptr st.heap.length 0),(3,x3),(4,.bool (fb p.first 0 255&&fb p.inn 0 255&&fb p.out 0 255&&fb p.before 0 255&&fb p.after 0 255))],pst st [.cells .plain p.cs] []):=by
  intro x3;cases h0:fb p.first 0 255
  · simp[bC.cs,cr,dw,h0]
  cases h1:fb p.inn 0 255
  · simp[bC.cs,cr,dw,h0,h1]
  cases h2:fb p.out 0 255
  · simp[bC.cs,cr,dw,h0,h1,h2]
  cases h3:fb p.before 0 255
  · simp[bC.cs,cr,dw,h0,h1,h2,h3]
  simp[bC.cs,cr,dw,h0,h1,h2,h3]
 have r3:∀ (x3 x4:DV),(E tab).C (.region En [1,3,4,5]) [(1,.ptr st.heap.length 0),(3,x3),(4,x4)] (pst st [.cells .plain p.cs] [])=some (.normal,[(1,.ptr st.heap.length 0),(3,x3),(4,x4),(5,.bool (fb p.next 0 1&&fb p.whole 0 1&&fb p.a9 0 1&&fb p.least 0 1))],pst st [.cells .plain p.cs] []):=by
  intro x3 x4;cases h0:fb p.next 0 1
  · simp[bC.cs,cr,dw,h0]
  cases h1:fb p.whole 0 1
  · simp[bC.cs,cr,dw,h0,h1]
  cases h2:fb p.a9 0 1
  · simp[bC.cs,cr,dw,h0,h1,h2]
  simp[bC.cs,cr,dw,h0,h1,h2]
 have r4:∀ (b1 b2 b3:Bool),(E tab).C (.region Dx [2]) [(1,.ptr st.heap.length 0),(3,.bool b1),(4,.bool b2),(5,.bool b3)] (pst st [.cells .plain p.cs] [])=some (.normal,[(2,.bool (b1&&b2&&b3&&fb p.mB 1 4&&fb p.qY 1 4&&fb p.drop 0 4&&fb p.list 0 8&&fb p.level 0 3))],pst st [.cells .plain p.cs] []):=by
  intro b1 b2 b3;cases b1
  · simp[bC.cs,cr,dw]
  cases b2
  · simp[bC.cs,cr,dw]
  cases b3
  · simp[bC.cs,cr,dw]
  cases h0:fb p.mB 1 4
  · simp[bC.cs,cr,dw,h0]
  cases h1:fb p.qY 1 4
  · simp[bC.cs,cr,dw,h0,h1]
  cases h2:fb p.drop 0 4
  · simp[bC.cs,cr,dw,h0,h1,h2]
  cases h3:fb p.list 0 8
  · simp[bC.cs,cr,dw,h0,h1,h2,h3]
  simp[bC.cs,cr,dw,h0,h1,h2,h3]
 have r1':=r1 ();simp only[bC.cs] at r1' r2 r3 r4
 have hb:(E tab).C f47.body (bq [.agg p.cs] 0) (pst st [] [])=some (.ret,[(2,.bool (b7 p))],pst st [.cells .plain p.cs] []):=by
  have r0:(E tab).C (.region Ew [1]) (bq [.agg p.cs] 0) (pst st [] [])=some (.normal,[(1,.ptr st.heap.length 0)],pst st [.cells .plain p.cs] []):=by simp[bC.cs]
  show (E tab).C (.seq (.region Ew [1]) (.seq (.region ET [1,3]) (.seq (.region B1 [1,3,4]) (.seq (.region En [1,3,4,5]) (.seq (.region Dx [2]) .ret))))) _ _=_;rw[cB,r0];simp only[bC.cs];rw[cB,r1'];simp only;rw[cB,r2];simp only;rw[cB,r3];simp only;rw[cB,r4];simp only[Ql]
  congr 5
  simp[b7,Bool.and_assoc,Bool.and_comm,Bool.and_left_comm]
 rw[hb];simp[f47]
def fw (c:UInt8):Bool:=decide (33≤c.toNat∧c.toNat≤126)
def cC (s:List UInt8) (n:Int):Bool:=s.all fw&&decide ((s.length:Int)≤n)
theorem QK (s:List UInt8) (hs:s.length≤140737488355328) (x y:DV) (st:St) (cur:Nat):∀ (r d:List UInt8),s=d++r →
 (E tab).C zW [(0,x),(1,y),(8,.list cur 1 .no true (s.map fun b=>.int .u8 b.toNat)),(9,.int .i64 s.length),(10,.int .i64 d.length)] st =
  some (if r.all fw then (.exit 0,[(0,x),(1,y),(8,.list cur 1 .no true (s.map fun b=>.int .u8 b.toNat)),(9,.int .i64 s.length),(10,.int .i64 s.length),(11,.bool false)],st) else (.ret,[(4,.bool false)],st)):=by
 intro r
 induction r with
 | nil=>
   intro d hd;rw[af (L:=zW) rfl];simp[uD,hd]
 | cons c r ih=>
   intro d hd;have h0:d.length<s.length:=by simp[hd]
   have hw:IntKind.i64.wrap ((d.length:Int)+1)=((d++[c]).length:Nat):=by rw[ar (by omega)];simp
   have hg:s[d.length]=c:=by simp[hd]
   rw[af (L:=zW) rfl];have hJ:=ih (d++[c]) (by simp[hd]);by_cases h1:(c.toNat:Int)≤32
   · simp[uD,h0,hg,h1,fw,show ¬ 33≤c.toNat by omega]
   by_cases h2:(126:Int)<c.toNat
   · simp[uD,h0,hg,h1,h2,fw,show ¬ c.toNat≤126 by omega]
   have e1:fw c=true:=by simp[fw];omega
   simp[e1] at hJ ⊢;simp[uD,h0,hg,h1,h2,hw,hJ]
theorem zn (s:List UInt8) (hs:s.length≤140737488355328) (n:Int) (st:St):(E tab).F 43 [.str s,.int .i64 n] st=some (.bool (cC s n),st):=by
 rw[au Tv rfl];have h:=QK s hs (.str s) (.int .i64 n) (pst st [] []) st.cur s [] rfl;simp at h
 cases h2:s.all fw with
 | true=>
   rw[if_pos (by simpa using h2)] at h;simp[f43,cC,h,h2]
 | false=>
   rw[if_neg (by simpa using h2)] at h;simp[f43,cC,h,h2]
theorem PE (s:List UInt8) (hs:s.length≤140737488355328) (y:DV) (st:St):∀ (r d:List UInt8),s=d++r →
 (E tab).C yZ [(0,.str s),(1,y),(5,.int .i64 d.length)] st =
  some (if r.all fw then (.exit 0,[(0,.str s),(1,y),(5,.int .i64 s.length),(9,.bool false)],st) else (.ret,[(4,.bool false)],st)):=by
 intro r
 induction r with
 | nil=>
   intro d hd;rw[af (L:=yZ) rfl];simp[ui,hd]
 | cons c r ih=>
   intro d hd;have h0:d.length<s.length:=by simp[hd]
   have hw:IntKind.i64.wrap ((d.length:Int)+1)=((d++[c]).length:Nat):=by rw[ar (by omega)];simp
   have hg:s[d.length]=c:=by simp[hd]
   rw[af (L:=yZ) rfl];have hJ:=ih (d++[c]) (by simp[hd]);by_cases h1:(c.toNat:Int)<33
   · simp[ui,h0,hg,h1,fw,show ¬ 33≤c.toNat by omega]
   by_cases h2:(126:Int)<c.toNat
   · simp[ui,h0,hg,h1,h2,fw,show ¬ c.toNat≤126 by omega]
   have e1:fw c=true:=by simp[fw];omega
   simp[e1] at hJ ⊢;simp[ui,h0,hg,h1,h2,hw,hJ]
theorem yA (s:List UInt8) (hs:s.length≤140737488355328) (n:Int) (st:St):(E tab).F 48 [.str s,.int .i64 n] st=some (.bool (cC s n),st):=by
 rw[au Tu rfl];have h:=PE s hs (.int .i64 n) (pst st [] []) s [] rfl;simp at h
 cases h2:s.all fw with
 | true=>
   rw[if_pos (by simpa using h2)] at h;simp[f48,cC,h,h2]
 | false=>
   rw[if_neg (by simpa using h2)] at h;simp[f48,cC,h,h2]
theorem zp {g:Nat} {p:List DV→St→Option (DV×St)} {args:List DV} {st:St} (h:tab g=some (.g9 p)):(E tab).F g args st=p args st:=by
 rw[EF];simp only[dA,h]
theorem yE (s:List UInt8) (c:UInt8) (st:St):(E tab).F 40 [.str s,.int .u8 (c.toNat:Int)] st=some (.int .i64 (Lib.indexByte s c),st):=by
 have h72:∀ st,(E tab).F 72 [.str s,.int .u8 (c.toNat:Int)] st=some (.int .i64 (Lib.indexByte s c),st):=fun st=>by
  rw[zp SX];simp[fy]
 have h61:∀ st,(E tab).F 61 [.str s,.int .u8 (c.toNat:Int)] st=some (.int .i64 (Lib.indexByte s c),st):=fun st=>by
  rw[au Tn rfl];simp[f61,h72]
 rw[au Ur rfl];simp[f40,h61]
theorem oY (c:UInt8):∀ s:List UInt8,0≤Lib.indexByte s c↔c∈s
 | []=>by simp[Lib.indexByte]
 | b::r=>by
   have:=oY c r;have h1:=Lib.indexByte_ge r c;unfold Lib.indexByte;by_cases h:b=c
   · simp[h]
   · by_cases h2:c∈r
     · have:=this.2 h2;simp[h,h2];split<;>omega
     · have h3:¬ 0≤Lib.indexByte r c:=fun h=>h2 (this.1 h);have h4:Lib.indexByte r c = -1:=by omega
       have h5:¬ c=b:=fun e=>h e.symm;simp[h,h2,h4,h5]
theorem Ha (s:List UInt8) (st:St):(E tab).F 44 [.str s,.str [2]] st=some (.int .i64 (s.count 2),st):=by
 have h64:∀ st,(E tab).F 64 [.str s,.int .u8 2] st=some (.int .i64 (s.count 2),st):=fun st=>by
  rw[zp TV];simp[fi,Lib.countByte]
 rw[au Sf rfl];simp[f44,h64]
structure Span where
 n:Int
 c:aW
 deriving DecidableEq
def Span.cs (s:Span):List DV:=[.int .i64 s.n,.int .i64 s.c.z,.int .i64 s.c.t,.int .i64 s.c.e]
def Span.dv (s:Span):DV:=.agg s.cs
@[simp] theorem Span.leaves (s:Span):s.dv.leaves=s.cs:=rfl
def cq:Int→List Span→Option Int
 | n,[]=>some n
 | n,s::r=>if 1≤s.n∧s.n≤n∧de s.c=true then cq (n-s.n) r else none
theorem MH (l:List Span) (t n':Nat) (tk:Tk) (nn:Bool) (hn:l≠[]→n'=4) (st:St) (K:List Nat):∀ (r d:List Span) (n:Int) (H:List HO),l=d++r→0≤n→(d.length:Int)+n≤4096 →
 ∃ J fr,(E tab).C p7 [(1,.int .i64 n),(7,.list t n' tk nn (l.map Span.dv)),(8,.int .i64 l.length),(9,.int .i64 d.length)] (pst st H K) =
   some (match cq n r with | some m=>(.exit 0,(1,.int .i64 m)::fr,pst st (H++J) K) | none=>(.ret,[(4,.bool false)],pst st (H++J) K)):=by
 intro r
 induction r with
 | nil=>
   intro d n H hd _ _;refine⟨[],[(7,.list t n' tk nn (l.map Span.dv)),(8,.int .i64 l.length),(9,.int .i64 l.length),(10,.bool false)],?_⟩;rw[af (L:=p7) rfl];simp[ry,hd,cq]
 | cons c r ih=>
   intro d n H hd h0 h1;obtain rfl:n'=4:=hn (by simp[hd]);have hl:d.length<l.length:=by simp[hd]
   have hg:l[d.length]=c:=by simp[hd]
   have hw:IntKind.i64.wrap ((d.length:Int)+1)=((d++[c]).length:Nat):=by rw[ar (by omega)];simp
   have h62:=fun st=>Lr c.c st;simp only[aW.cs] at h62;by_cases a1:c.n<1
   · refine⟨[.cells .plain c.cs],[],?_⟩;rw[af (L:=p7) rfl];simp[ry,hl,hg,Span.cs,a1,cq,show ¬ 1≤c.n by omega]
   by_cases a2:n<c.n
   · refine⟨[.cells .plain c.cs],[],?_⟩;rw[af (L:=p7) rfl];simp[ry,hl,hg,Span.cs,a1,a2,cq,show ¬ c.n≤n by omega]
   cases a3:de c.c with
   | false=>
     refine⟨[.cells .plain c.cs],[],?_⟩;rw[af (L:=p7) rfl];simp[ry,hl,hg,Span.cs,a1,a2,a3,h62,cq]
   | true=>
     obtain⟨J,fr,hJ⟩:=ih (d++[c]) (n-c.n) (H++[.cells .plain c.cs]) (by simp[hd]) (by omega) (by simp;omega);refine⟨.cells .plain c.cs::J,fr,?_⟩;have hw2:IntKind.i64.wrap (n-c.n)=n-c.n:=ar (by omega);rw[af (L:=p7) rfl];simp[cq,a3,show 1≤c.n∧c.n≤n by omega,Span.cs] at hJ ⊢;simp[ry,hl,hg,Span.cs,a1,a2,a3,h62,hw,hw2,hJ]
theorem rF:∀ (r:List Span) (n m:Int),0≤n→cq n r=some m→0≤m∧m≤n
 | [],n,m,h,e=>by simp[cq] at e;omega
 | s::r,n,m,h,e=>by
   simp only[cq] at e;split at e
   · have:=rF r (n-s.n) m (by omega) e;omega
   · cases e
def cD (n:Int) (l:List Span):Bool:=cq n l==some 0
theorem GK (l:List Span) (t n':Nat) (tk:Tk) (nn:Bool) (hn:l≠[]→n'=4) (n:Int) (h0:0≤n) (h1:n≤4096) (st:St) :
 (E tab).F 41 [.list t n' tk nn (l.map Span.dv),.int .i64 n] st=some (.bool (cD n l),st):=by
 rw[au SV rfl];obtain⟨J,fr,h⟩:=MH l t n' tk nn hn st [] l [] n [] rfl h0 (by simpa using h1);simp at h
 cases hm:cq n l with
 | none=>
   rw[hm] at h;simp[f41,h,cD,hm]
 | some m=>
   rw[hm] at h;simp[f41,h,cD,hm]
structure LW where
 t:Nat
 n:Nat
 tk:Tk
 nn:Bool
def LW.dv (w:LW) (xs:List DV):DV:=.list w.t w.n w.tk w.nn xs
def LW.ok {α:Type} (w:LW) (n:Nat) (xs:List α):Prop:=(w.nn=true→w.n=n)∧(w.nn=false→xs=[])
theorem LW.ok.n {α:Type} {w:LW} {n:Nat} {xs:List α} (h:w.ok n xs) (hx:xs≠[]):w.n=n:=by
 cases e:w.nn with
 | true=>exact h.1 e
 | false=>exact absurd (h.2 e) hx
structure bh where
 text:List UInt8
 aC:List Span
 pr:bC
 label:List UInt8
 marks:List (List UInt8)
def ah (p:bh) (w u:LW):List DV:=.str p.text::w.dv (p.aC.map Span.dv)::(p.pr.cs++[.str p.label,u.dv (p.marks.map .str)])
@[simp high] theorem pc0 (p:bh) (w u:LW):(ah p w u)[0]? = some (.str p.text):=rfl
@[simp high] theorem pc1 (p:bh) (w u:LW):(ah p w u)[1]? = some (.list w.t w.n w.tk w.nn (p.aC.map Span.dv)):=rfl
@[simp high] theorem pc2 (p:bh) (w u:LW):(ah p w u)[2]? = some (.int .i64 p.pr.size):=rfl
@[simp high] theorem UB (p:bh) (w u:LW):(ah p w u)[19]? = some (.str p.label):=rfl
@[simp high] theorem UE (p:bh) (w u:LW):(ah p w u)[20]? = some (.list u.t u.n u.tk u.nn (p.marks.map .str)):=rfl
@[simp] theorem pcl (p:bh) (w u:LW):(ah p w u).length=21:=rfl
@[simp] theorem pcP (p:bh) (w u:LW):((ah p w u).drop 2).take 17=p.pr.cs:=rfl
@[simp] theorem pcA (p:bh) (w u:LW):(ah p w u).take 21=ah p w u:=rfl
@[simp high] theorem pcS (p:bh) (w u:LW):(ah p w u).all DV.bp=true:=rfl
def dx (m:List UInt8):Bool:=!(m==[])&&cC m 8
def ax (p:bh):Int:=
 if cw p.text=0 then
  if (3:UInt8)∈p.text then 4
  else if cD p.text.length p.aC&&b7 p.pr&&cC p.label 16&&decide (p.marks.length=p.text.count 2) then (if p.marks.all dx then 0 else 2)
  else 2
 else cw p.text
def bh.small (p:bh):Prop:=p.label.length≤140737488355328∧p.marks.length≤140737488355328∧∀ m∈p.marks,m.length≤140737488355328
theorem Qb (l:List (List UInt8)) (hs:l.length≤140737488355328) (hm:∀ m∈l,m.length≤140737488355328) (u:LW) (hn:l≠[]→u.n=1) (st:St):∀ (r d:List (List UInt8)),l=d++r →
 (E tab).C Aj [(49,.list u.t u.n u.tk u.nn (l.map .str)),(50,.int .i64 l.length),(51,.int .i64 d.length)] st =
  some (if r.all dx then (.exit 0,[(49,.list u.t u.n u.tk u.nn (l.map .str)),(50,.int .i64 l.length),(51,.int .i64 l.length),(52,.bool false)],st) else (.ret,[(2,.int .i64 2)],st)):=by
 intro r
 induction r with
 | nil=>
   intro d hd;rw[af (L:=Aj) rfl];simp[vC,hd]
 | cons c r ih=>
   intro d hd;have hu:=hn (by simp[hd]);have h0:d.length<l.length:=by simp[hd]
   have hw:IntKind.i64.wrap ((d.length:Int)+1)=((d++[c]).length:Nat):=by rw[ar (by omega)];simp
   have hg:l[d.length]=c:=by simp[hd]
   have h43:=fun st=>zn c (hm c (by simp[hd])) 8 st;rw[af (L:=Aj) rfl];have hJ:=ih (d++[c]) (by simp[hd]);by_cases h1:c=[]
   · simp[vC,h0,hg,hu,h1,dx]
   cases h2:cC c 8 with
   | false=>simp[vC,h0,hg,hu,h1,h2,h43,dx]
   | true=>
     simp[dx,h1,h2,hu] at hJ ⊢;simp[vC,h0,hg,h1,h2,h43,hw,hJ]
theorem yX (p:bh) (hp:p.small) (w u:LW) (hw:w.ok 4 p.aC) (hu:u.ok 1 p.marks) (st:St):(E tab).F 13 [.agg (ah p w u)] st=some (.int .i64 (ax p),st):=by
 rw[au SC rfl];obtain⟨v,hv,t,n',tk,nn,rfl,_⟩:=zo p.text (pst st [.cells .plain (ah p w u)] []);by_cases h1:cw p.text=0
 · rw[h1] at hv;obtain⟨hlen,_⟩:=cM h1;by_cases h2:(3:UInt8)∈p.text
   · have h2':=(oY 3 p.text).2 h2;have h40:=fun st=>yE p.text 3 st;simp at h40;simp[f13,ax,h1,hv,h2,h40,h2']
   have h2':¬ 0≤Lib.indexByte p.text 3:=fun h=>h2 ((oY 3 p.text).1 h);have h40:=fun st=>yE p.text 3 st;simp at h40;have h41:=fun st=>GK p.aC w.t w.n w.tk w.nn hw.n p.text.length (by omega) (by omega) st;have h42:=fun st=>FU p.pr st;have h43:=fun st=>zn p.label hp.1 16 st;have h44:=fun st=>Ha p.text st;cases a1:cD p.text.length p.aC
   · simp[f13,ax,h1,hv,h2,h40,h2',h41,a1]
   cases a2:b7 p.pr
   · simp[f13,ax,h1,hv,h2,h40,h2',h41,h42,a1,a2]
   cases a3:cC p.label 16
   · simp[f13,ax,h1,hv,h2,h40,h2',h41,h42,h43,a1,a2,a3]
   by_cases a4:p.marks.length=p.text.count 2
   · have a4':(p.marks.length:Int)=p.text.count 2:=by omega
     have h13:=Qb p.marks hp.2.1 hp.2.2 u hu.n (pst st [.cells .plain (ah p w u)] []) p.marks [] rfl;simp[a4] at h13;by_cases a5:∀ x∈p.marks,dx x=true
     · rw[if_pos a5] at h13;simp[f13,ax,h1,hv,h2,h40,h2',h41,h42,h43,h44,a1,a2,a3,a4,h13];exact a5
     · rw[if_neg a5] at h13;simp[f13,ax,h1,hv,h2,h40,h2',h41,h42,h43,h44,a1,a2,a3,a4,h13];simpa using a5
   · have a4':¬ (p.marks.length:Int)=p.text.count 2:=by omega
     simp[f13,ax,h1,hv,h2,h40,h2',h41,h42,h43,h44,a1,a2,a3,a4,a4']
 · simp[f13,ax,h1,hv]
theorem N0 (s:List UInt8) (hs:s.length≤4096) (PC:List DV) (hP:PC[0]? = some (.str s)) (st:St):∀ (r d:List UInt8) (n:Nat),s=d++r→n≤d.length →
 (E tab).C zh [(1,.ptr st.heap.length 0),(4,.int .i64 n),(5,.int .i64 d.length)] (pst st [.cells .plain PC] []) =
  some (if (3:UInt8)∈r then (.ret,[(2,.int .i64 4)],pst st [.cells .plain PC] []) else (.exit 0,[(1,.ptr st.heap.length 0),(4,.int .i64 ((n+r.count 2:Nat):Int)),(5,.int .i64 s.length),(20,.bool false)],pst st [.cells .plain PC] [])):=by
 intro r
 induction r with
 | nil=>
   intro d n hd _;rw[af (L:=zh) rfl];simp[vW,hd,hP]
 | cons c r ih=>
   intro d n hd hn;have h0:d.length<s.length:=by simp[hd]
   have hw:IntKind.i64.wrap ((d.length:Int)+1)=((d++[c]).length:Nat):=by rw[ar (by omega)];simp
   have hw2:IntKind.i64.wrap ((n:Int)+1)=((n+1:Nat):Int):=by rw[ar (by omega)];simp
   have hg:s[d.length]=c:=by simp[hd]
   rw[af (L:=zh) rfl];by_cases h3:c=3
   · simp[vW,h0,hg,hP,h3]
   have h3':¬ (c.toNat:Int)=3:=fun h=>h3 (abn.1 (by show c.toNat=3;omega));have h3'':¬ (3:UInt8)=c:=fun h=>h3 h.symm;by_cases h2:c=2
   · have hJ:=ih (d++[c]) (n+1) (by simp[hd]) (by simp;omega);subst h2;simp[List.count_cons] at hJ ⊢;have e:n+1+List.count 2 r=n+(List.count 2 r+1):=by omega
     simp[vW,h0,hg,hP,hw,hw2,hJ,show (n:Int)+((List.count 2 r:Nat)+1:Int)=n+1+(List.count 2 r:Nat) by omega]
   · have h2':¬ (c.toNat:Int)=2:=fun h=>h2 (abn.1 (by show c.toNat=2;omega));have hJ:=ih (d++[c]) n (by simp[hd]) (by simp;omega);have h2'':¬ (2:UInt8)=c:=fun h=>h2 h.symm;simp[List.count_cons,h3'',h2] at hJ ⊢;simp[vW,h0,hg,hP,hw,h3',h2',hJ]
theorem Ns (l:List Span) (w:LW) (hn:l≠[]→w.n=4) (q:DV) (PC:List DV) (hP:PC[1]? = some (.list w.t w.n w.tk w.nn (l.map Span.dv))) (st:St):∀ (r d:List Span) (n:Int) (H:List HO),l=d++r→0≤n→(d.length:Int)+n≤4096 →
 ∃ J fr,(E tab).C pj [(1,.ptr st.heap.length 0),(4,q),(6,.int .i64 n),(7,.int .i64 d.length)] (pst st (.cells .plain PC::H) []) =
   some (match cq n r with | some m=>(.exit 2,(1,.ptr st.heap.length 0)::(4,q)::(6,.int .i64 m)::fr,pst st (.cells .plain PC::(H++J)) []) | none=>(.ret,[(2,.int .i64 2)],pst st (.cells .plain PC::(H++J)) [])):=by
 intro r
 induction r with
 | nil=>
   intro d n H hd _ _;refine⟨[],[(7,.int .i64 l.length),(42,.bool false)],?_⟩;rw[af (L:=pj) rfl];simp[rL,hd,hP,cq]
 | cons c r ih=>
   intro d n H hd h0 h1;have hu:=hn (by simp[hd]);have hl:d.length<l.length:=by simp[hd]
   have hg:l[d.length]=c:=by simp[hd]
   have hw:IntKind.i64.wrap ((d.length:Int)+1)=((d++[c]).length:Nat):=by rw[ar (by omega)];simp
   have h46:=fun st=>J9 c.c st;simp only[aW.cs] at h46;by_cases a1:c.n<1
   · refine⟨[.cells .plain c.cs],[],?_⟩;rw[af (L:=pj) rfl];simp[rL,hl,hg,hP,hu,Span.cs,a1,cq,show ¬ 1≤c.n by omega]
   by_cases a2:n<c.n
   · refine⟨[.cells .plain c.cs],[],?_⟩;rw[af (L:=pj) rfl];simp[rL,hl,hg,hP,hu,Span.cs,a1,a2,cq,show ¬ c.n≤n by omega]
   cases a3:de c.c with
   | false=>
     refine⟨[.cells .plain c.cs],[],?_⟩;rw[af (L:=pj) rfl];simp[rL,hl,hg,hP,hu,Span.cs,a1,a2,a3,h46,cq]
   | true=>
     obtain⟨J,fr,hJ⟩:=ih (d++[c]) (n-c.n) (H++[.cells .plain c.cs]) (by simp[hd]) (by omega) (by simp;omega);refine⟨.cells .plain c.cs::J,fr,?_⟩;have hw2:IntKind.i64.wrap (n-c.n)=n-c.n:=ar (by omega);rw[af (L:=pj) rfl];simp[cq,a3,show 1≤c.n∧c.n≤n by omega,Span.cs] at hJ ⊢;simp[rL,hl,hg,hP,hu,Span.cs,a1,a2,a3,h46,hw,hw2,hJ]
theorem Rv (l:List (List UInt8)) (hs:l.length≤140737488355328) (hm:∀ m∈l,m.length≤140737488355328) (u:LW) (hn:l≠[]→u.n=1) (PC:List DV) (hP:PC[20]? = some (.list u.t u.n u.tk u.nn (l.map .str))) (st:St) (H:List HO):∀ (r d:List (List UInt8)),l=d++r →
 ∃ fr,(E tab).C Ae [(1,.ptr st.heap.length 0),(9,.int .i64 d.length)] (pst st (.cells .plain PC::H) []) =
   some (if ∀ x∈r,dx x=true then (.exit 4,fr,pst st (.cells .plain PC::H) []) else (.ret,[(2,.int .i64 2)],pst st (.cells .plain PC::H) [])):=by
 intro r
 induction r with
 | nil=>
   intro d hd;refine⟨[(1,.ptr st.heap.length 0),(9,.int .i64 l.length),(94,.bool false)],?_⟩;rw[af (L:=Ae) rfl];simp[uN,hd,hP]
 | cons c r ih=>
   intro d hd;have hu:=hn (by simp[hd]);have h0:d.length<l.length:=by simp[hd]
   have hw:IntKind.i64.wrap ((d.length:Int)+1)=((d++[c]).length:Nat):=by rw[ar (by omega)];simp
   have hg:l[d.length]=c:=by simp[hd]
   have h48:=fun st=>yA c (hm c (by simp[hd])) 8 st;obtain⟨fr,hJ⟩:=ih (d++[c]) (by simp[hd]);refine⟨fr,?_⟩;rw[af (L:=Ae) rfl];by_cases h1:c=[]
   · simp[uN,h0,hg,hP,hu,h1,dx]
   cases h2:cC c 8 with
   | false=>simp[uN,h0,hg,hP,hu,h1,h2,h48,dx]
   | true=>
     have e:dx c=true:=by simp[dx,h1,h2]
     simp[e,hu] at hJ ⊢;simp[uN,h0,hg,hP,hu,h1,h2,h48,hw,hJ]
theorem th (p:bh) (hp:p.small) (w u:LW) (hw:w.ok 4 p.aC) (hu:u.ok 1 p.marks) (st:St):(E tab).F 14 [.agg (ah p w u)] st=some (.int .i64 (ax p),st):=by
 rw[au Sd rfl];have h45:=fun st=>tJ p.text st;by_cases h1:cw p.text=0
 · obtain⟨hlen,_⟩:=cM h1;have hc:=N0 p.text hlen (ah p w u) rfl st p.text [] 0 rfl (by simp);simp at hc;by_cases h2:(3:UInt8)∈p.text
   · simp[f14,ax,h1,h45,h2,hc]
   rw[if_neg h2] at hc;obtain⟨J,fr,hJ⟩:=Ns p.aC w hw.n (.int .i64 (p.text.count 2)) (ah p w u) rfl st p.aC [] p.text.length [] rfl (by omega) (by simp;omega);simp at hJ
   cases a1:cq p.text.length p.aC with
   | none=>
     rw[a1] at hJ;simp[f14,ax,h1,h45,h2,hc,hJ,cD,a1]
   | some m=>
     rw[a1] at hJ;have hm:=rF _ _ _ (by omega) a1;by_cases a2:0<m
     · simp[f14,ax,h1,h45,h2,hc,hJ,cD,a1,a2,show ¬ m=0 by omega]
     obtain rfl:m=0:=by omega
     have h47:=fun st=>HP p.pr st;have h48:=fun st=>yA p.label hp.1 16 st;cases a3:b7 p.pr
     · simp[f14,ax,h1,h45,h2,hc,hJ,cD,a1,h47,a3]
     cases a4:cC p.label 16
     · simp[f14,ax,h1,h45,h2,hc,hJ,cD,a1,h47,h48,a3,a4]
     by_cases a5:p.marks.length=p.text.count 2
     · obtain⟨fr2,hK⟩:=Rv p.marks hp.2.1 hp.2.2 u hu.n (ah p w u) rfl st J p.marks [] rfl;simp at hK;by_cases a6:∀ x∈p.marks,dx x=true
       · rw[if_pos a6] at hK;simp[f14,ax,h1,h45,h2,hc,hJ,cD,a1,h47,h48,a3,a4,a5,hK];exact a6
       · rw[if_neg a6] at hK;simp[f14,ax,h1,h45,h2,hc,hJ,cD,a1,h47,h48,a3,a4,a5,hK];simpa using a6
     · have a5':¬ (p.marks.length:Int)=p.text.count 2:=by omega
       simp[f14,ax,h1,h45,h2,hc,hJ,cD,a1,h47,h48,a3,a4,a5,a5']
 · simp[f14,ax,h1,h45]
theorem T7:tab 10=some (.code f10):=by kernel_rfl
theorem TR:tab 11=some (.code f11):=by kernel_rfl
theorem Sg:tab 29=some (.code f29):=by kernel_rfl
theorem SG:tab 34=some (.code f34):=by kernel_rfl
theorem TD:tab 35=some (.code f35):=by kernel_rfl
theorem SI:tab 36=some (.code f36):=by kernel_rfl
theorem Ui:tab 56=some (.code f56):=by kernel_rfl
def bZ:Int→List Span→Int→Option aW
 | _,[],_=>none
 | e,s::r,i=>if i<e+s.n then some s.c else bZ (e+s.n) r i
def iP:aW:=⟨0,0,0⟩
def bg (l:List Span) (i:Int):aW:=(bZ 0 l i).getD iP
def fx:List Span→Int
 | []=>0
 | s::r=>s.n+fx r
def ke (l:List Span):Prop:=∀ s∈l,1≤s.n∧de s.c=true
theorem iS:∀ (r:List Span) (n m:Int),cq n r=some m→ke r∧fx r=n-m
 | [],n,m,e=>by
   simp[cq] at e;exact⟨fun s hs=>(by cases hs),by simp[fx];omega⟩
 | s::r,n,m,e=>by
   simp only[cq] at e;split at e
   · rename_i h;obtain⟨h1,h2⟩:=iS r _ m e;refine⟨fun x hx=>?_,by simp[fx];omega⟩;rcases aav.1 hx with rfl | hx
     · exact⟨h.1,h.2.2⟩
     · exact h1 x hx
   · cases e
theorem nU:∀ {l:List Span},ke l→(l.length:Int)≤fx l
 | [],_=>by simp[fx]
 | s::r,h=>by
   have:=nU (l:=r) fun x hx=>h x (aan _ hx);have:=(h s (aap ..)).1;simp[fx];omega
theorem Oj (l:List Span) (w:LW) (hn:l≠[]→w.n=4) (PC:List DV) (hP:PC[1]? = some (.list w.t w.n w.tk w.nn (l.map Span.dv))) (i:Int) (st:St):∀ (r d:List Span) (e:Int),l=d++r→ke r→(d.length:Int)≤e→e+fx r≤4096 →
 ∃ fr,(E tab).C z8 [(1,.int .i64 i),(2,.ptr st.heap.length 0),(4,.ptr (st.heap.length+1) 0),(5,.int .i64 e),(6,.int .i64 d.length)] (pst st [.cells .plain PC,.cells .plain iP.cs] []) =
   some (match bZ e r i with
    | some c=>(.ret,[(4,.ptr (st.heap.length+1) 0)],pst st [.cells .plain PC,.cells .plain c.cs] [])
    | none=>(.exit 0,(1,.int .i64 i)::(2,.ptr st.heap.length 0)::(4,.ptr (st.heap.length+1) 0)::fr,pst st [.cells .plain PC,.cells .plain iP.cs] [])):=by
 intro r
 induction r with
 | nil=>
   intro d e hd _ _ _;refine⟨[(5,.int .i64 e),(6,.int .i64 l.length),(11,.bool false)],?_⟩;rw[af (L:=z8) rfl];simp[zj,hd,hP,bZ]
 | cons c r ih=>
   intro d e hd hok h0 h1;have hu:=hn (by simp[hd]);have hl:d.length<l.length:=by simp[hd]
   have hg:l[d.length]=c:=by simp[hd]
   have hc:=(hok c (aap ..)).1;have hr:ke r:=fun x hx=>hok x (aan _ hx);have hs:=nU hr;simp only[fx] at h1;have hw:IntKind.i64.wrap ((d.length:Int)+1)=((d++[c]).length:Nat):=by rw[ar (by omega)];simp
   have hw2:IntKind.i64.wrap (e+c.n)=e+c.n:=ar (by omega);obtain⟨fr,hJ⟩:=ih (d++[c]) (e+c.n) (by simp[hd]) hr (by simp;omega) (by omega);refine⟨fr,?_⟩;rw[af (L:=z8) rfl];by_cases a:i<e+c.n
   · simp[zj,hl,hg,hP,hu,Span.cs,hw2,a,bZ,iP,aW.cs]
   · simp[iP,aW.cs] at hJ ⊢;simp[zj,hl,hg,hP,hu,Span.cs,hw,hw2,a,bZ,hJ]
theorem xY (p:bh) (w u:LW) (hw:w.ok 4 p.aC) (h1:ke p.aC) (h2:fx p.aC≤4096) (i:Int) (st:St):(E tab).F 35 [.agg (ah p w u),.int .i64 i] st=some (.agg (bg p.aC i).cs,st):=by
 rw[au TD rfl];obtain⟨fr,h⟩:=Oj p.aC w hw.n (ah p w u) rfl i st p.aC [] 0 rfl h1 (by simp) (by omega);simp[iP,aW.cs] at h
 cases hf:bZ 0 p.aC i with
 | some c=>
   rw[hf] at h;simp[f35,h,bg,hf,aW.cs]
 | none=>
   rw[hf] at h;simp[f35,h,bg,hf,aW.cs,iP]
def sizeOf (p:bh) (i:Int):Int:=if (bg p.aC i).z=0 then p.pr.size else (bg p.aC i).z
theorem Jj (p:bh) (w u:LW) (hw:w.ok 4 p.aC) (h1:ke p.aC) (h2:fx p.aC≤4096) (i:Int) (st:St):(E tab).F 34 [.agg (ah p w u),.int .i64 i] st=some (.int .i64 (sizeOf p i),st):=by
 rw[au SG rfl];have h35:=fun st=>xY p w u hw h1 h2 i st;by_cases hz:(bg p.aC i).z=0
 · simp[f34,h35,aW.cs,hz,sizeOf]
 · simp[f34,h35,aW.cs,hz,sizeOf]
def aU (k:Int):Bool:=k==1||k==2
theorem Ad (k:Int) (st:St):(E tab).F 36 [.int .i64 k] st=some (.bool (aU k),st):=by
 rw[au SI rfl];by_cases h:k=1<;>simp[f36,aU,h]
theorem Rg (x0:HO) (i:Int) (w:LW) (st:St) (K:List Nat) (J:List HO):∀ (r:List Span) (s:Span) (e:Int) (tk:Tk),ke (s::r)→0≤e→e+fx (s::r)≤4096→e≤i→i<e+fx (s::r) →
 ∃ e' s' r' tk' fr,(E tab).C vK [(0,.int .i64 i),(1,.ptr (st.heap.length+1) 0),(2,.ptr (st.heap.length+2) 0),(4,.ptr (st.heap.length+(J.length+3)) 0)] (pst st (x0::.cells .plain [.list w.t 4 tk true ((s::r).map Span.dv)]::.cells .plain [.int .i64 (e+s.n)]::(J++[.cells .plain iP.cs])) K) =
   some (.exit 0,(0,.int .i64 i)::(1,.ptr (st.heap.length+1) 0)::(2,.ptr (st.heap.length+2) 0)::(4,.ptr (st.heap.length+(J.length+3)) 0)::fr,pst st (x0::.cells .plain [.list w.t 4 tk' true ((s'::r').map Span.dv)]::.cells .plain [.int .i64 (e'+s'.n)]::(J++[.cells .plain iP.cs])) K) ∧
   ke (s'::r')∧e≤e'∧e'+fx (s'::r')=e+fx (s::r)∧e'≤i∧i<e'+s'.n∧(∀ j,i≤j→bZ e (s::r) j=bZ e' (s'::r') j):=by
 intro r
 induction r with
 | nil=>
   intro s e tk h1 h2 h3 h4 h5;refine⟨e,s,[],tk,[(12,.bool false)],?_,h1,Int.le_refl _,rfl,h4,by simpa[fx] using h5,fun _ _=>rfl⟩;rw[af (L:=vK) rfl];simp[Aq]
 | cons c r ih=>
   intro s e tk h1 h2 h3 h4 h5;by_cases a:e+s.n≤i
   · have hc:ke (c::r):=fun x hx=>h1 x (aan _ hx);have hs:=(h1 s (aap ..)).1;have hg:=nU hc;simp only[fx] at h3 h5 hg;have hcn:=(hc c (aap ..)).1;simp only[aax] at hg;have hw2:IntKind.i64.wrap (e+s.n+c.n)=e+s.n+c.n:=ar (by have:=nU (l:=r) (fun x hx=>hc x (aan _ hx));omega);obtain⟨e',s',r',tk',fr,k1,k2,k3,k4,k5,k6,k7⟩:=ih c (e+s.n) (pM tk (r.length+2) 1 (r.length+2)) hc (by omega) (by simp only[fx];omega) a (by simp only[fx];omega);refine⟨e',s',r',tk',fr,?_,k2,by omega,?_,k5,k6,fun j hj=>?_⟩
     · rw[af (L:=vK) rfl];have hsl:bS false 4 (.list w.t 4 tk true (s.dv::c.dv::r.map Span.dv)) (some (.int .i64 1)) none none=_:=nZ (fun _=>rfl) (by omega) (by simp;omega);simp[iP,aW.cs] at k1 hsl ⊢;simp[Aq,a,hsl,hw2,Span.cs,k1,show (1:Int)<r.length+1+1 by omega]
     · rw[k4];simp only[fx];omega
     · rw[← k7 j hj];simp only[bZ];rw[if_neg (by omega)]
   · refine⟨e,s,c::r,tk,[(12,.bool false)],?_,h1,Int.le_refl _,rfl,h4,by omega,fun _ _=>rfl⟩;rw[af (L:=vK) rfl];simp[Aq,a,show (1:Int)<r.length+1+1 by omega]
structure Hx (l:List Span) (i:Int) (e:Int) (s:Span) (r:List Span):Prop where
 ok:ke (s::r)
 e0:0≤e
 ei:e≤i
 sum:e+fx (s::r)=fx l
 same:∀ j,i≤j→bZ 0 l j=bZ e (s::r) j
theorem Lt (l:List Span) (x0:HO) (i:Int) (w:LW) (st:St) (K:List Nat) (J:List HO) (r:List Span) (s:Span) (e i0:Int) (tk:Tk) (h:Hx l i0 e s r) (hi:i0≤i) (h3:fx l≤4096) (h5:i<fx l) :
 ∃ e' s' r' tk',(E tab).F 56 [.int .i64 i,.ptr (st.heap.length+1) 0,.ptr (st.heap.length+2) 0] (pst st (x0::.cells .plain [.list w.t 4 tk true ((s::r).map Span.dv)]::.cells .plain [.int .i64 (e+s.n)]::J) K) =
   some (.agg (bg l i).cs,pst st (x0::.cells .plain [.list w.t 4 tk' true ((s'::r').map Span.dv)]::.cells .plain [.int .i64 (e'+s'.n)]::(J++[.cells .plain (bg l i).cs])) K)∧Hx l i e' s' r':=by
 obtain⟨e',s',r',tk',fr,k1,k2,k3,k4,k5,k6,k7⟩:=Rg x0 i w st K J r s e tk h.ok h.e0 (by have:=h.sum;omega) (by have:=h.ei;omega) (by have:=h.sum;omega)
 have hlk:bg l i=s'.c:=by
  unfold bg;rw[h.same i hi,k7 i (Int.le_refl _)];simp[bZ,k6]
 refine⟨e',s',r',tk',?_,k2,by have:=h.e0;omega,k5,by rw[k4];exact h.sum,fun j hj=>by rw[h.same j (by omega),k7 j hj]⟩;rw[fq Ui rfl,hlk];simp[iP,aW.cs] at k1 ⊢;simp[f56,k1,Span.cs]
def oi:List Span→Int
 | []=>0
 | s::_=>s.n
theorem Gb (x0:HO) (w:LW) (l:List Span) (hw:w.ok 4 l) (st:St) (K:List Nat):(E tab).F 29 [.list w.t w.n w.tk w.nn (l.map Span.dv)] (pst st [x0] K) =
 some (.fn 56 [] [.ptr (st.heap.length+1) 0,.ptr (st.heap.length+2) 0],pst st [x0,.cells .plain [.list w.t w.n w.tk w.nn (l.map Span.dv)],.cells .plain [.int .i64 (oi l)]] K):=by
 rw[fq Sg rfl]
 cases l with
 | nil=>simp[f29,oi]
 | cons s r=>
   have:=hw.n (by simp);simp[f29,this,oi,Span.cs,show (0:Int)<r.length+1 by omega]
theorem ky (p:bh) (hp:b7 p.pr=true) (h1:ke p.aC) (i:Int):1≤sizeOf p i∧sizeOf p i≤64∧0≤(bg p.aC i).t∧(bg p.aC i).t≤15:=by
 have hs:1≤p.pr.size∧p.pr.size≤64:=by
  simp only[b7,aac,fb,decide_eq_true_eq] at hp;omega
 have:∀ (l:List Span) (e:Int),ke l→de ((bZ e l i).getD iP)=true:=by
  intro l
  induction l with
  | nil=>intro e _;rfl
  | cons s r ih=>
    intro e h;simp only[bZ];split
    · exact(h s (aap ..)).2
    · exact ih _ fun x hx=>h x (aan _ hx)
 have:=this p.aC 0 h1;change de (bg p.aC i)=true at this;simp only[de,aac,fb,decide_eq_true_eq] at this;unfold sizeOf;split<;>omega
def bAt (s:List UInt8) (i:Nat):UInt8:=s.getD i 0
def fP (p:bh) (mk:List (List UInt8)) (c:Clu):Int:=
 if aU c.k||c.k==3 then IntKind.i64.wrap (wd (bAt p.text c.a) (sizeOf p c.a)+(bg p.aC c.a).t)
 else if c.k=7 then tw (sizeOf p c.a) 0 (mk.headD []) else 0
def aZ (p:bh) (kr:Bool) (bf:UInt8) (ps:Int) (c:Clu):Int:=
 if aU c.k&&(bg p.aC c.a).e==1&&kr&&ps==sizeOf p c.a then fT bf (bAt p.text c.a) (sizeOf p c.a) else 0
def ay (p:bh) (kr:Bool) (bf:UInt8) (ps:Int) (mk:List (List UInt8)) (c:Clu):ab:=⟨c.a,c.b,c.k,sizeOf p c.a,fP p mk c,aZ p kr bf ps c⟩
def da (p:bh) (c:Clu):Bool:=aU c.k&&(bg p.aC c.a).e==1
def lI (mk:List (List UInt8)) (c:Clu):List (List UInt8):=if c.k=7 then mk.tail else mk
def cR (p:bh):Bool→UInt8→Int→List (List UInt8)→List Clu→List ab
 | _,_,_,_,[]=>[]
 | kr,bf,ps,mk,c::r=>ay p kr bf ps mk c::cR p (da p c) (bAt p.text c.a) (sizeOf p c.a) (lI mk c) r
def mc (p:bh):List ab:=cR p false 0 0 p.marks (gC p.text)
theorem Me (x0 x1 x2 x3:HO) (J:List HO) (K:List Nat) (st:St) (p:bh) (c:Clu) (mk:List (List UInt8)) (u:LW) (tk:Tk) (hu:c.k=7→mk≠[]) (hn:mk≠[]→u.n=1∧u.nn=true) (hm:∀ m∈mk,m.length≤4096) (y1 y7 y9 y10 y11 y34 y35 y36:DV) :
 ∃ tk' fr,(E tab).C qP [(1,y1),(7,y7),(8,.list u.t u.n tk u.nn (mk.map .str)),(9,y9),(10,y10),(11,y11),(13,.ptr (st.heap.length+(J.length+3)) 0),(14,.ptr (st.heap.length+(J.length+5)) 0),(15,.ptr (st.heap.length+(J.length+6)) 0),(16,.int .u8 (bAt p.text c.a).toNat),(17,.bool (aU c.k)),(34,y34),(35,y35),(36,y36)]
   (pst st (x0::x1::x2::(J++[.cells .plain c.cs,x3,.cells .plain (bg p.aC c.a).cs,.cells .plain [.int .i64 c.a,.int .i64 c.b,.int .i64 c.k,.int .i64 (sizeOf p c.a),.int .i64 0,.int .i64 0]])) K) =
   some (.normal,[(1,y1),(7,y7),(8,.list u.t u.n tk' u.nn ((lI mk c).map .str)),(9,y9),(10,y10),(11,y11),(14,.ptr (st.heap.length+(J.length+5)) 0),(15,.ptr (st.heap.length+(J.length+6)) 0),(16,.int .u8 (bAt p.text c.a).toNat),(17,.bool (aU c.k)),(34,y34),(35,y35),(36,y36)]++fr,
    pst st (x0::x1::x2::(J++[.cells .plain c.cs,x3,.cells .plain (bg p.aC c.a).cs,.cells .plain [.int .i64 c.a,.int .i64 c.b,.int .i64 c.k,.int .i64 (sizeOf p c.a),.int .i64 (fP p mk c),.int .i64 0]])) K):=by
 have h30:=fun st=>wb (bAt p.text c.a) (sizeOf p c.a) st;by_cases h1:aU c.k=true
 · refine⟨tk,[],?_⟩;have h7:¬ c.k=7:=by intro h;rw[h] at h1;cases h1
   simp[qP,Clu.cs,aW.cs,h1,h30,fP,lI,h7]
 · have h1':aU c.k=false:=by simpa using h1
   by_cases h3:c.k=3
   · refine⟨tk,[],?_⟩;simp[qP,Clu.cs,aW.cs,show aU 3=false from rfl,h3,h30,fP,lI]
   · by_cases h7:c.k=7
     · have hne:=hu h7;obtain⟨hn1,hn2⟩:=hn hne
       match mk,hne with
       | m::ms,_=>
         have h31:=fun st=>u2 m (hm m (aap ..)) (sizeOf p c.a) st;have hsl:bS false 1 (.list u.t 1 tk true (.str m::ms.map .str)) (some (.int .i64 1)) none none=_:=nZ (fun _=>rfl) (by omega) (by simp;omega);refine⟨pM tk (ms.length+1) 1 (ms.length+1),[],?_⟩;simp at hsl;simp[qP,Clu.cs,aW.cs,show aU 7=false from rfl,h7,h31,fP,lI,hn1,hn2,hsl]
     · refine⟨tk,[(88,.bool false)],?_⟩;simp[qP,Clu.cs,aW.cs,h1',h3,h7,fP,lI]
def Ah (s:List UInt8):Nat→List Clu→Prop
 | _,[]=>True
 | i,c::r=>i≤c.a∧c.a<s.length∧Ah s c.a r
def p4 (l:List Clu):Nat:=(l.filter fun c=>c.k==7).length
theorem l9 {mk:List (List UInt8)} {c:Clu} {r:List Clu} (h:mk.length=p4 (c::r)):(lI mk c).length=p4 r∧(c.k=7→mk≠[]):=by
 unfold p4 at h ⊢;unfold lI;by_cases h7:c.k=7
 · simp[h7] at h ⊢;refine⟨by omega,fun e=>by simp[e] at h⟩
 · simp[h7] at h ⊢;exact h
theorem vk {mk:List (List UInt8)} {c:Clu} {m:List UInt8} (h:m∈lI mk c):m∈mk:=by
 unfold lI at h;split at h
 · exact List.mem_of_mem_tail h
 · exact h
def H10 (p:bh) (w u:LW) (tk:Tk) (s:Span) (sp:List Span) (e:Int) (J:List HO):List HO:=
 .cells .plain (ah p w u)::.cells .plain [.list w.t 4 tk true ((s::sp).map Span.dv)]::.cells .plain [.int .i64 (e+s.n)]::J
set_option maxHeartbeats 8000000 in
theorem Pq (p:bh) (w u:LW) (hpr:b7 p.pr=true) (hSp:ke p.aC) (hsum:fx p.aC=p.text.length) (hlen:p.text.length≤4096) (cs:List Clu) (hcs:cs.length≤4096) (ct cn:Nat) (ctk:Tk) (cnn:Bool) (hcn:cs≠[]→cn=3) (st:St) :
 ∀ (r d:List Clu) (J:List HO) (K:List Nat) (xs:List ab) (kr:Bool) (bf:UInt8) (ps:Int) (mk:List (List UInt8)) (tk tk2:Tk) (s:Span) (sp:List Span) (e:Int) (i0:Nat) (v:DV),
 cs=d++r→Ah p.text i0 r→Hx p.aC i0 e s sp→Acc st K 6 (xs.map ab.dv) v→xs.length=d.length→(kr=true→∃ ys m,xs=ys++[m]∧m.s=ps)→mk.length=p4 r→(∀ m∈mk,m.length≤4096)→(mk≠[]→u.n=1∧u.nn=true) →
 ∃ v' H' K' y8 fr,(E tab).C wh [(1,.ptr st.heap.length 0),(7,.fn 56 [] [.ptr (st.heap.length+1) 0,.ptr (st.heap.length+2) 0]),(8,.list u.t u.n tk u.nn (mk.map .str)),(9,v),(10,.bool kr),(11,.int .u8 bf.toNat),(34,.list ct cn ctk cnn (cs.map Clu.dv)),(35,.int .i64 cs.length),(36,.int .i64 d.length)]
  (pst st (H10 p w u tk2 s sp e J) K) =
  some (.exit 0,(1,.ptr st.heap.length 0)::(7,.fn 56 [] [.ptr (st.heap.length+1) 0,.ptr (st.heap.length+2) 0])::(8,y8)::(9,v')::fr,pst st H' K')∧Acc st K' 6 ((xs++cR p kr bf ps mk r).map ab.dv) v':=by
 intro r
 induction r with
 | nil=>
   intro d J K xs kr bf ps mk tk tk2 s sp e i0 v hd _ _ hA _ _ _ _ _;refine⟨v,H10 p w u tk2 s sp e J,K,.list u.t u.n tk u.nn (mk.map .str),[(10,.bool kr),(11,.int .u8 bf.toNat),(34,.list ct cn ctk cnn (cs.map Clu.dv)),(35,.int .i64 cs.length),(36,.int .i64 cs.length),(37,.bool false)],?_,by simpa[cR] using hA⟩;rw[af (L:=wh) rfl];simp[dU,hd]
 | cons c r ih=>
   intro d J K xs kr bf ps mk tk tk2 s sp e i0 v hd hC hL hA hxl hkr hmk hml hmn;obtain⟨c1,c2,c3⟩:=hC;obtain rfl:cn=3:=hcn (by simp[hd]);have h0:d.length<cs.length:=by simp[hd]
   have hw:IntKind.i64.wrap ((d.length:Int)+1)=((d++[c]).length:Nat):=by rw[ar (by omega)];simp
   have hg:cs[d.length]=c:=by simp[hd]
   obtain⟨e',s',sp',tk2',h56,hL'⟩:=Lt p.aC (.cells .plain (ah p w u)) c.a w st K (J++[.cells .plain c.cs]) sp s e i0 tk2 hL (by omega) (by omega) (by omega);have hsz:=ky p hpr hSp c.a;have hb:p.text[c.a]? = some (bAt p.text c.a):=pR c2
   obtain⟨tk',fr',hK⟩:=Me (.cells .plain (ah p w u)) (.cells .plain [.list w.t 4 tk2' true ((s'::sp').map Span.dv)]) (.cells .plain [.int .i64 (e'+s'.n)]) (.cells .plain (bg p.aC c.a).cs) J K st p c mk u tk (l9 hmk).2 hmn hml
    (.ptr st.heap.length 0) (.fn 56 [] [.ptr (st.heap.length+1) 0,.ptr (st.heap.length+2) 0]) v (.bool kr) (.int .u8 bf.toNat) (.list ct 3 ctk cnn (cs.map Clu.dv)) (.int .i64 cs.length) (.int .i64 d.length)
   have h32:=fun st=>wK bf (bAt p.text c.a) (sizeOf p c.a) ⟨hsz.1,hsz.2.1⟩ st
   obtain⟨v2,K2,e2,hA2⟩:=dZ (H:=.cells .plain (ah p w u)::.cells .plain [.list w.t 4 tk2' true ((s'::sp').map Span.dv)]::.cells .plain [.int .i64 (e'+s'.n)]::(J++[.cells .plain c.cs,.cells .plain (bg p.aC c.a).cs,.cells .plain (bg p.aC c.a).cs,.cells .plain (ay p kr bf ps mk c).cs]))
    (t:=st.cur) (by_:=48) (ag:=true) (tk:=.tight) (ys:=[(ay p kr bf ps mk c).dv]) hA (by omega) (by simp) (by simp[yR]) (by simp[aD];omega) (by simp[aD];omega)
   obtain⟨v3,H3,K3,y8,fr,e3,hA3⟩:=ih (d++[c]) (J++[.cells .plain c.cs,.cells .plain (bg p.aC c.a).cs,.cells .plain (bg p.aC c.a).cs,.cells .plain (ay p kr bf ps mk c).cs]) K2 (xs++[ay p kr bf ps mk c]) (da p c) (bAt p.text c.a) (sizeOf p c.a) (lI mk c) tk' tk2' s' sp' e' c.a v2
    (by simp[hd]) c3 hL' (by simpa using hA2) (by simp[hxl]) (fun _=>⟨xs,_,rfl,rfl⟩) (l9 hmk).1 (fun m hm=>hml m (vk hm)) (fun hne=>hmn fun h=>hne (by rw[h];unfold lI;split<;>rfl))
   refine⟨v3,H3,K3,y8,fr,?_,by simpa[cR] using hA3⟩;obtain⟨vt,vn,vtk,vnn,rfl⟩:=dM hA;rw[af (L:=wh) rfl];unfold H10 at e3 ⊢;by_cases hz:(bg p.aC c.a).z=0
   · have hq:p.pr.size=sizeOf p c.a:=by simp[sizeOf,hz]
     by_cases q1:c.k=1
     · have k1:aU c.k=true:=by rw[q1];rfl
       by_cases k2:(bg p.aC c.a).e=1
       · have hk:da p c=true:=by simp[da,k1,k2]
         cases kr with
         | false=>
           have hE:aZ p false bf ps c=0:=by simp[aZ]
           simp[ab.dv,ab.cs,ay,Clu.cs,Clu.dv,aW.cs,hz,hq,show aU 1=true from rfl,q1,k1,k2,hk,hE] at e2 e3 hK h56 ⊢;simp[dU,dE,ab.dv,ab.cs,ay,Clu.cs,Clu.dv,aW.cs,h0,hg,hw,hb,h56,hK,h32,aw,aK,chunk,e2,e3,hz,hq,show aU 1=true from rfl,q1,k1,k2,hk,hE]
         | true=>
           obtain⟨ys,m0,rfl,rfl⟩:=hkr rfl
           obtain⟨rfl,rfl⟩:vn=6∧vnn=true:=by
            rcases hA with ⟨h,_⟩ | ⟨k,q,h,_⟩
            · simp at h
            · injection h with _ h2 _ h4;exact⟨h2,h4⟩
           simp only[List.map_append,aaS,abp] at e2 hK h56;have hyl:IntKind.i64.wrap (ys.length:Int)=ys.length:=ar (by simp at hxl;omega);by_cases k3:m0.s=sizeOf p c.a
           · have hE:aZ p true bf (sizeOf p c.a) c=fT bf (bAt p.text c.a) (sizeOf p c.a):=by simp[aZ,k1,k2]
             simp[ab.dv,ab.cs,ay,Clu.cs,Clu.dv,aW.cs,hz,hq,show aU 1=true from rfl,q1,k1,k2,hk,hE,k3,hyl] at e2 e3 hK h56 ⊢;simp[dU,dE,ab.dv,ab.cs,ay,Clu.cs,Clu.dv,aW.cs,h0,hg,hw,hb,h56,hK,h32,aw,aK,chunk,e2,e3,hz,hq,show aU 1=true from rfl,q1,k1,k2,hk,hE,k3,hyl]
           · have hE:aZ p true bf m0.s c=0:=by simp[aZ,k3]
             simp[ab.dv,ab.cs,ay,Clu.cs,Clu.dv,aW.cs,hz,hq,show aU 1=true from rfl,q1,k1,k2,hk,hE,k3,hyl] at e2 e3 hK h56 ⊢;simp[dU,dE,ab.dv,ab.cs,ay,Clu.cs,Clu.dv,aW.cs,h0,hg,hw,hb,h56,hK,h32,aw,aK,chunk,e2,e3,hz,hq,show aU 1=true from rfl,q1,k1,k2,hk,hE,k3,hyl]
       · have k2':((bg p.aC c.a).e==1)=false:=by simp[k2]
         have hE:aZ p kr bf ps c=0:=by simp[aZ,k2]
         have hk:da p c=false:=by simp[da,k2]
         simp[ab.dv,ab.cs,ay,Clu.cs,Clu.dv,aW.cs,hz,hq,show aU 1=true from rfl,q1,k1,k2,k2',hk,hE] at e2 e3 hK h56 ⊢;simp[dU,dE,ab.dv,ab.cs,ay,Clu.cs,Clu.dv,aW.cs,h0,hg,hw,hb,h56,hK,h32,aw,aK,chunk,e2,e3,hz,hq,show aU 1=true from rfl,q1,k1,k2,k2',hk,hE]
     by_cases q2:c.k=2
     · have k1:aU c.k=true:=by rw[q2];rfl
       by_cases k2:(bg p.aC c.a).e=1
       · have hk:da p c=true:=by simp[da,k1,k2]
         cases kr with
         | false=>
           have hE:aZ p false bf ps c=0:=by simp[aZ]
           simp[ab.dv,ab.cs,ay,Clu.cs,Clu.dv,aW.cs,hz,hq,show aU 2=true from rfl,q2,k1,k2,hk,hE] at e2 e3 hK h56 ⊢;simp[dU,dE,ab.dv,ab.cs,ay,Clu.cs,Clu.dv,aW.cs,h0,hg,hw,hb,h56,hK,h32,aw,aK,chunk,e2,e3,hz,hq,show aU 2=true from rfl,q2,k1,k2,hk,hE]
         | true=>
           obtain⟨ys,m0,rfl,rfl⟩:=hkr rfl
           obtain⟨rfl,rfl⟩:vn=6∧vnn=true:=by
            rcases hA with ⟨h,_⟩ | ⟨k,q,h,_⟩
            · simp at h
            · injection h with _ h2 _ h4;exact⟨h2,h4⟩
           simp only[List.map_append,aaS,abp] at e2 hK h56;have hyl:IntKind.i64.wrap (ys.length:Int)=ys.length:=ar (by simp at hxl;omega);by_cases k3:m0.s=sizeOf p c.a
           · have hE:aZ p true bf (sizeOf p c.a) c=fT bf (bAt p.text c.a) (sizeOf p c.a):=by simp[aZ,k1,k2]
             simp[ab.dv,ab.cs,ay,Clu.cs,Clu.dv,aW.cs,hz,hq,show aU 2=true from rfl,q2,k1,k2,hk,hE,k3,hyl] at e2 e3 hK h56 ⊢;simp[dU,dE,ab.dv,ab.cs,ay,Clu.cs,Clu.dv,aW.cs,h0,hg,hw,hb,h56,hK,h32,aw,aK,chunk,e2,e3,hz,hq,show aU 2=true from rfl,q2,k1,k2,hk,hE,k3,hyl]
           · have hE:aZ p true bf m0.s c=0:=by simp[aZ,k3]
             simp[ab.dv,ab.cs,ay,Clu.cs,Clu.dv,aW.cs,hz,hq,show aU 2=true from rfl,q2,k1,k2,hk,hE,k3,hyl] at e2 e3 hK h56 ⊢;simp[dU,dE,ab.dv,ab.cs,ay,Clu.cs,Clu.dv,aW.cs,h0,hg,hw,hb,h56,hK,h32,aw,aK,chunk,e2,e3,hz,hq,show aU 2=true from rfl,q2,k1,k2,hk,hE,k3,hyl]
       · have k2':((bg p.aC c.a).e==1)=false:=by simp[k2]
         have hE:aZ p kr bf ps c=0:=by simp[aZ,k2]
         have hk:da p c=false:=by simp[da,k2]
         simp[ab.dv,ab.cs,ay,Clu.cs,Clu.dv,aW.cs,hz,hq,show aU 2=true from rfl,q2,k1,k2,k2',hk,hE] at e2 e3 hK h56 ⊢;simp[dU,dE,ab.dv,ab.cs,ay,Clu.cs,Clu.dv,aW.cs,h0,hg,hw,hb,h56,hK,h32,aw,aK,chunk,e2,e3,hz,hq,show aU 2=true from rfl,q2,k1,k2,k2',hk,hE]
     have k1':aU c.k=false:=by simp[aU,q1,q2]
     have hE:aZ p kr bf ps c=0:=by simp[aZ,k1']
     have hk:da p c=false:=by simp[da,k1']
     simp[ab.dv,ab.cs,ay,Clu.cs,Clu.dv,aW.cs,hz,hq,q1,q2,k1',hk,hE,show (c.k==2)=false by simp[q2]] at e2 e3 hK h56 ⊢;simp[dU,dE,ab.dv,ab.cs,ay,Clu.cs,Clu.dv,aW.cs,h0,hg,hw,hb,h56,hK,h32,aw,aK,chunk,e2,e3,hz,hq,q1,q2,k1',hk,hE,show (c.k==2)=false by simp[q2]]
   · have hq:(bg p.aC c.a).z=sizeOf p c.a:=by simp[sizeOf,hz]
     have hz':¬ sizeOf p c.a=0:=by omega
     by_cases q1:c.k=1
     · have k1:aU c.k=true:=by rw[q1];rfl
       by_cases k2:(bg p.aC c.a).e=1
       · have hk:da p c=true:=by simp[da,k1,k2]
         cases kr with
         | false=>
           have hE:aZ p false bf ps c=0:=by simp[aZ]
           simp[ab.dv,ab.cs,ay,Clu.cs,Clu.dv,aW.cs,hz',hq,show aU 1=true from rfl,q1,k1,k2,hk,hE] at e2 e3 hK h56 ⊢;simp[dU,dE,ab.dv,ab.cs,ay,Clu.cs,Clu.dv,aW.cs,h0,hg,hw,hb,h56,hK,h32,aw,aK,chunk,e2,e3,hz',hq,show aU 1=true from rfl,q1,k1,k2,hk,hE]
         | true=>
           obtain⟨ys,m0,rfl,rfl⟩:=hkr rfl
           obtain⟨rfl,rfl⟩:vn=6∧vnn=true:=by
            rcases hA with ⟨h,_⟩ | ⟨k,q,h,_⟩
            · simp at h
            · injection h with _ h2 _ h4;exact⟨h2,h4⟩
           simp only[List.map_append,aaS,abp] at e2 hK h56;have hyl:IntKind.i64.wrap (ys.length:Int)=ys.length:=ar (by simp at hxl;omega);by_cases k3:m0.s=sizeOf p c.a
           · have hE:aZ p true bf (sizeOf p c.a) c=fT bf (bAt p.text c.a) (sizeOf p c.a):=by simp[aZ,k1,k2]
             simp[ab.dv,ab.cs,ay,Clu.cs,Clu.dv,aW.cs,hz',hq,show aU 1=true from rfl,q1,k1,k2,hk,hE,k3,hyl] at e2 e3 hK h56 ⊢;simp[dU,dE,ab.dv,ab.cs,ay,Clu.cs,Clu.dv,aW.cs,h0,hg,hw,hb,h56,hK,h32,aw,aK,chunk,e2,e3,hz',hq,show aU 1=true from rfl,q1,k1,k2,hk,hE,k3,hyl]
           · have hE:aZ p true bf m0.s c=0:=by simp[aZ,k3]
             simp[ab.dv,ab.cs,ay,Clu.cs,Clu.dv,aW.cs,hz',hq,show aU 1=true from rfl,q1,k1,k2,hk,hE,k3,hyl] at e2 e3 hK h56 ⊢;simp[dU,dE,ab.dv,ab.cs,ay,Clu.cs,Clu.dv,aW.cs,h0,hg,hw,hb,h56,hK,h32,aw,aK,chunk,e2,e3,hz',hq,show aU 1=true from rfl,q1,k1,k2,hk,hE,k3,hyl]
       · have k2':((bg p.aC c.a).e==1)=false:=by simp[k2]
         have hE:aZ p kr bf ps c=0:=by simp[aZ,k2]
         have hk:da p c=false:=by simp[da,k2]
         simp[ab.dv,ab.cs,ay,Clu.cs,Clu.dv,aW.cs,hz',hq,show aU 1=true from rfl,q1,k1,k2,k2',hk,hE] at e2 e3 hK h56 ⊢;simp[dU,dE,ab.dv,ab.cs,ay,Clu.cs,Clu.dv,aW.cs,h0,hg,hw,hb,h56,hK,h32,aw,aK,chunk,e2,e3,hz',hq,show aU 1=true from rfl,q1,k1,k2,k2',hk,hE]
     by_cases q2:c.k=2
     · have k1:aU c.k=true:=by rw[q2];rfl
       by_cases k2:(bg p.aC c.a).e=1
       · have hk:da p c=true:=by simp[da,k1,k2]
         cases kr with
         | false=>
           have hE:aZ p false bf ps c=0:=by simp[aZ]
           simp[ab.dv,ab.cs,ay,Clu.cs,Clu.dv,aW.cs,hz',hq,show aU 2=true from rfl,q2,k1,k2,hk,hE] at e2 e3 hK h56 ⊢;simp[dU,dE,ab.dv,ab.cs,ay,Clu.cs,Clu.dv,aW.cs,h0,hg,hw,hb,h56,hK,h32,aw,aK,chunk,e2,e3,hz',hq,show aU 2=true from rfl,q2,k1,k2,hk,hE]
         | true=>
           obtain⟨ys,m0,rfl,rfl⟩:=hkr rfl
           obtain⟨rfl,rfl⟩:vn=6∧vnn=true:=by
            rcases hA with ⟨h,_⟩ | ⟨k,q,h,_⟩
            · simp at h
            · injection h with _ h2 _ h4;exact⟨h2,h4⟩
           simp only[List.map_append,aaS,abp] at e2 hK h56;have hyl:IntKind.i64.wrap (ys.length:Int)=ys.length:=ar (by simp at hxl;omega);by_cases k3:m0.s=sizeOf p c.a
           · have hE:aZ p true bf (sizeOf p c.a) c=fT bf (bAt p.text c.a) (sizeOf p c.a):=by simp[aZ,k1,k2]
             simp[ab.dv,ab.cs,ay,Clu.cs,Clu.dv,aW.cs,hz',hq,show aU 2=true from rfl,q2,k1,k2,hk,hE,k3,hyl] at e2 e3 hK h56 ⊢;simp[dU,dE,ab.dv,ab.cs,ay,Clu.cs,Clu.dv,aW.cs,h0,hg,hw,hb,h56,hK,h32,aw,aK,chunk,e2,e3,hz',hq,show aU 2=true from rfl,q2,k1,k2,hk,hE,k3,hyl]
           · have hE:aZ p true bf m0.s c=0:=by simp[aZ,k3]
             simp[ab.dv,ab.cs,ay,Clu.cs,Clu.dv,aW.cs,hz',hq,show aU 2=true from rfl,q2,k1,k2,hk,hE,k3,hyl] at e2 e3 hK h56 ⊢;simp[dU,dE,ab.dv,ab.cs,ay,Clu.cs,Clu.dv,aW.cs,h0,hg,hw,hb,h56,hK,h32,aw,aK,chunk,e2,e3,hz',hq,show aU 2=true from rfl,q2,k1,k2,hk,hE,k3,hyl]
       · have k2':((bg p.aC c.a).e==1)=false:=by simp[k2]
         have hE:aZ p kr bf ps c=0:=by simp[aZ,k2]
         have hk:da p c=false:=by simp[da,k2]
         simp[ab.dv,ab.cs,ay,Clu.cs,Clu.dv,aW.cs,hz',hq,show aU 2=true from rfl,q2,k1,k2,k2',hk,hE] at e2 e3 hK h56 ⊢;simp[dU,dE,ab.dv,ab.cs,ay,Clu.cs,Clu.dv,aW.cs,h0,hg,hw,hb,h56,hK,h32,aw,aK,chunk,e2,e3,hz',hq,show aU 2=true from rfl,q2,k1,k2,k2',hk,hE]
     have k1':aU c.k=false:=by simp[aU,q1,q2]
     have hE:aZ p kr bf ps c=0:=by simp[aZ,k1']
     have hk:da p c=false:=by simp[da,k1']
     simp[ab.dv,ab.cs,ay,Clu.cs,Clu.dv,aW.cs,hz',hq,q1,q2,k1',hk,hE,show (c.k==2)=false by simp[q2]] at e2 e3 hK h56 ⊢;simp[dU,dE,ab.dv,ab.cs,ay,Clu.cs,Clu.dv,aW.cs,h0,hg,hw,hb,h56,hK,h32,aw,aK,chunk,e2,e3,hz',hq,q1,q2,k1',hk,hE,show (c.k==2)=false by simp[q2]]
theorem cK {p:bh} (h:ax p=0):cw p.text=0∧¬ (3:UInt8)∈p.text∧cD p.text.length p.aC=true∧b7 p.pr=true∧cC p.label 16=true∧p.marks.length=p.text.count 2∧∀ m∈p.marks,dx m=true:=by
 unfold ax at h;by_cases h1:cw p.text=0
 · rw[if_pos h1] at h;by_cases h2:(3:UInt8)∈p.text
   · rw[if_pos h2] at h;simp at h
   rw[if_neg h2] at h;by_cases h3:(cD p.text.length p.aC&&b7 p.pr&&cC p.label 16&&decide (p.marks.length=p.text.count 2))=true
   · rw[if_pos h3] at h;simp only[aac,decide_eq_true_eq] at h3;by_cases h4:p.marks.all dx=true
     · exact⟨h1,h2,h3.1.1.1,h3.1.1.2,h3.1.2,h3.2,aaf.1 h4⟩
     · rw[if_neg h4] at h;simp at h
   · rw[if_neg h3] at h;simp at h
 · rw[if_neg h1] at h;exact absurd h h1
theorem j8 (s:List UInt8):∀ (n i:Nat),Ah s i (dz s n i)∧(dz s n i).length≤n
 | 0,i=>⟨trivial,aai _⟩
 | n+1,i=>by
   unfold dz;split
   · rename_i h;have ih:=j8 s n (cTo s i);have h1:i≤cTo s i:=by have:=(m7 s (fH s i) 2 (i+1)).1;unfold cTo;omega
     refine⟨⟨aai _,h,?_⟩,by simp;exact ih.2⟩
     revert ih
     cases dz s n (cTo s i) with
     | nil=>intro _;trivial
     | cons c r=>intro ih;exact⟨abu h1 ih.1.1,ih.1.2⟩
   · exact⟨trivial,by simp⟩
theorem kd7:((List.range 256).all fun c=>(kd c==7)==(c==2))=true:=by decide +kernel
theorem Co (c:UInt8):kd c.toNat=7↔c=2:=by
 have:=aaf.1 kd7 c.toNat (abz.2 c.toNat_lt);rw[beq_iff_eq,aaW,beq_iff_eq,beq_iff_eq] at this;rw[this];exact⟨fun h=>abn.1 h,fun h=>by rw[h];rfl⟩
theorem rp (s:List UInt8) (k:Int):∀ n t,(s.drop (adv s k n t)).count 2=(s.drop t).count 2
 | 0,t=>rfl
 | n+1,t=>by
   unfold adv;split
   · rename_i h;rw[rp s k n (t+1)];have h1:=abl h.2.1
     have h2:s[t]≠2:=by
      intro e;have h3:=h.2.2;simp[h.2.1,e] at h3;exact absurd h3 (by decide)
     rw[h1,List.count_cons];simp[h2]
   · rfl
theorem k8 (s:List UInt8):∀ (n i:Nat),s.length≤i+n→p4 (dz s n i)=(s.drop i).count 2
 | 0,i,h=>by
   have:s.drop i=[]:=List.drop_eq_nil_of_le (by omega);simp[dz,p4,this]
 | n+1,i,h=>by
   unfold dz;split
   · rename_i hi;have h1:i+1≤cTo s i:=(m7 s (fH s i) 2 (i+1)).1;have ih:=k8 s n (cTo s i) (by omega);have h2:=abl hi;unfold p4 at ih ⊢;rw[h2,List.count_cons];have h3:(s.drop (cTo s i)).count 2=(s.drop (i+1)).count 2:=rp s _ 2 (i+1);rw[← h3,← ih]
     have h4:fH s i=7↔s[i]=2:=by
      have:=Co s[i];simp only[fH];rw[show s.getD i 0=s[i] by simp[hi]];exact this
     by_cases h5:s[i]=2
     · simp[h4.2 h5,h5]
     · have h6:¬ fH s i=7:=fun h=>h5 (h4.1 h);simp[h6,h5]
   · rename_i hi;have:s.drop i=[]:=List.drop_eq_nil_of_le (by omega);simp[p4,this]
def az (p:bh):List ab:=if ax p=0 then mc p else []
def Eo (p:bh) (v:DV):Prop:=∃ w:LW,v=.tuple [.list w.t w.n w.tk w.nn ((az p).map ab.dv),.int .i64 (ax p)]∧w.ok 6 (az p)
theorem om {p:bh} {v:DV} (t n':Nat) (tk:Tk) (nn:Bool) (h:v=.tuple [.list t n' tk nn ((az p).map ab.dv),.int .i64 (ax p)]) (h2:nn=true→n'=6) (h3:nn=false→(az p).map ab.dv=[]):Eo p v:=
 ⟨⟨t,n',tk,nn⟩,h,h2,fun e=>by simpa using h3 e⟩
theorem uG (p:bh) (hp:p.small) (w u:LW) (hw:w.ok 4 p.aC) (hu:u.ok 1 p.marks) (st:St) :
 ∃ v fr H K,(E tab).C f10.body (bq [.agg (ah p w u)] 0) (pst st [] [])=some (.ret,(2,v)::(3,.int .i64 (ax p))::fr,pst st H K)∧Acc st K 6 ((az p).map ab.dv) v:=by
 have h13:=fun st=>yX p hp w u hw hu st;by_cases hc:ax p=0
 · obtain⟨h1,h2,h3,h4,h5,h6,h7⟩:=cK hc;obtain⟨hlen,_⟩:=cM h1;obtain⟨hS,hsum⟩:=iS p.aC p.text.length 0 (by simpa[cD] using h3);obtain⟨v27,e27,t,n',tk,nn,rfl,hn1,hn2⟩:=zo p.text (pst st [.cells .plain (ah p w u)] []);simp only[h1,if_true] at e27 hn2;have h29:=Gb (.cells .plain (ah p w u)) w p.aC hw st [];by_cases he:p.text=[]
   · have hcl:gC p.text=[]:=by rw[he];rfl
     have hml:az p=[]:=by simp[az,mc,hcl,cR]
     rw[hcl] at e27;refine⟨gu,[],[.cells .plain (ah p w u),.cells .plain [.list w.t w.n w.tk w.nn (p.aC.map Span.dv)],.cells .plain [.int .i64 (oi p.aC)]],[],?_,by rw[hml];exact dt _ _ _ _ _ _⟩;simp at e27;simp[f10,h13,hc,e27,h29,af (L:=wh) rfl,dU]
   · have hne:p.aC≠[]:=by
      intro h;rw[h] at hsum;have:0<p.text.length:=aaZ.2 he;simp[fx] at hsum;omega
     match hps:p.aC,hne with
     | s::sp,_=>
       obtain⟨hw4,hwt⟩:w.n=4∧w.nn=true:=by
        have:=hw.n (by rw[hps];simp);refine⟨this,?_⟩
        cases e:w.nn with
        | true=>rfl
        | false=>have:=hw.2 e;rw[hps] at this;cases this
       have hcs:=j8 p.text p.text.length 0;have hL:Hx p.aC (0:Nat) 0 s sp:=⟨by rw[← hps];exact hS,by simp,by simp,by rw[hps];omega,fun j _=>by rw[hps]⟩
       obtain⟨v',H',K',y8,fr,e10,hA⟩:=Pq p w u h4 hS (by omega) hlen (gC p.text) (by have:=hcs.2;unfold gC;omega) t n' tk nn (fun h=>hn1 (by cases nn with | true=>rfl | false=>exact absurd (hn2 rfl) h)) st
        (gC p.text) [] [] [] [] false 0 0 p.marks u.tk w.tk s sp 0 0 gu rfl hcs.1 hL (dt _ _ _ _ _ _) rfl (by simp) (by rw[h6,show p4 (gC p.text)=_ from k8 p.text p.text.length 0 (by omega)];simp)
        (fun m hm=>by have:=h7 m hm;simp[dx,cC] at this;omega) (fun h=>⟨hu.n h,by cases e:u.nn with | true=>rfl | false=>exact absurd (hu.2 e) h⟩)
       have hml:az p=cR p false 0 0 p.marks (gC p.text):=by simp[az,hc,mc]
       refine⟨v',[],H',K',?_,by rw[hml];simpa using hA⟩;simp[H10,hw4,hwt] at e10;simp[hps,hw4,hwt,oi] at h29;simp[f10,h13,hc,e27,hps,hw4,hwt,h29,e10]
 · have hml:az p=[]:=by simp[az,hc]
   refine⟨gu,[],[.cells .plain (ah p w u)],[],?_,by rw[hml];exact dt _ _ _ _ _ _⟩;simp[f10,h13,hc]
theorem vD (p:bh) (hp:p.small) (w u:LW) (hw:w.ok 4 p.aC) (hu:u.ok 1 p.marks) (st:St):∃ v,(E tab).F 10 [.agg (ah p w u)] st=some (v,st)∧Eo p v:=by
 obtain⟨v,fr,H,K,h1,h2⟩:=uG p hp w u hw hu st;obtain⟨t9,n9,tk9,nn9,e9,g2,g3,g4⟩:=j6 (st':=pst st H K) h2;obtain⟨t8,n8,tk8,nn8,rfl⟩:=dM h2;refine⟨.tuple [.list t9 n9 tk9 nn9 ((az p).map ab.dv),.int .i64 (ax p)],?_,om t9 n9 tk9 nn9 rfl g3 g2⟩;rw[au T7 rfl,h1];simp at e9;simp[f10,e9]
theorem fZ:al tab 34=true:=by kernel_rfl
def IG (s:List UInt8) (l:List Clu):Prop:=∀ c∈l,c.a<s.length
theorem oq {s:List UInt8}:∀ {l:List Clu} {i:Nat},Ah s i l→IG s l
 | [],_,_=>fun c h=>by cases h
 | c::r,i,h=>fun x hx=>by
   rcases aav.1 hx with rfl|hx
   · exact h.2.1
   · exact oq h.2.2 x hx
set_option maxHeartbeats 8000000 in
theorem Mi (p:bh) (w u:LW) (hw4:w.ok 4 p.aC) (hu1:u.ok 1 p.marks) (hpr:b7 p.pr=true) (hSp:ke p.aC) (hsum:fx p.aC≤4096) (hml:∀ m∈p.marks,m.length≤4096) (hmc:p.marks.length≤4096) (cs:List Clu) (hcs:cs.length≤4096) (hci:IG p.text cs) (ct cn:Nat) (ctk:Tk) (cnn:Bool) (hcn:cs≠[]→cn=3) (st:St) :
 ∀ (r d:List Clu) (J:List HO) (K:List Nat) (xs:List ab) (kr:Bool) (bf:UInt8) (ps:Int) (md mk:List (List UInt8)) (v:DV),
 cs=d++r→Acc st K 6 (xs.map ab.dv) v→xs.length=d.length→p.marks=md++mk→mk.length=p4 r→(d=[]→kr=false) →
 (∀ q,d.length=q+1→∃ c0 m,cs[q]? = some c0∧xs[q]? = some m∧m.s=ps∧kr=da p c0∧bf=bAt p.text c0.a) →
 ∃ v' H' K' fr,(E tab).C zR [(1,.ptr st.heap.length 0),(5,.list ct cn ctk cnn (cs.map Clu.dv)),(7,v),(8,.int .i64 md.length),(9,.int .i64 d.length)] (pst st (.cells .plain (ah p w u)::J) K) =
   some (.exit 0,(1,.ptr st.heap.length 0)::(5,.list ct cn ctk cnn (cs.map Clu.dv))::(7,v')::fr,pst st H' K')∧Acc st K' 6 ((xs++cR p kr bf ps mk r).map ab.dv) v':=by
 intro r
 induction r with
 | nil=>
   intro d J K xs kr bf ps md mk v hd hA _ _ _ _ _;refine⟨v,.cells .plain (ah p w u)::J,K,[(8,.int .i64 md.length),(9,.int .i64 cs.length),(27,.bool false)],?_,by simpa[cR] using hA⟩;rw[af (L:=zR) rfl];simp[ij,hd]
 | cons c r ih=>
   intro d J K xs kr bf ps md mk v hd hA hxl hmd hmk hk0 hpv;obtain rfl:cn=3:=hcn (by simp[hd]);have hc:c∈cs:=by simp[hd]
   have c2:=hci c hc;have h0:d.length<cs.length:=by simp[hd]
   have hw:IntKind.i64.wrap ((d.length:Int)+1)=((d++[c]).length:Nat):=by rw[ar (by omega)];simp
   have hg:cs[d.length]=c:=by simp[hd]
   have hsz:=ky p hpr hSp c.a;have hb:p.text[c.a]? = some (bAt p.text c.a):=pR c2;have h34:=fun st=>Jj p w u hw4 hSp hsum c.a st;have h35:=fun st=>xY p w u hw4 hSp hsum c.a st;have h36:=fun st=>Ad c.k st;have h37:=fun st=>iB (bAt p.text c.a) (sizeOf p c.a) st
   obtain⟨v2,K2,e2,hA2⟩:=dZ (H:=.cells .plain (ah p w u)::(J++[.cells .plain c.cs,.cells .plain (ay p kr bf ps mk c).cs,.cells .plain (bg p.aC c.a).cs]))
    (t:=st.cur) (by_:=48) (ag:=true) (tk:=.tight) (ys:=[(ay p kr bf ps mk c).dv]) hA (by omega) (by simp) (by simp[yR]) (by simp[aD];omega) (by simp[aD];omega)
   obtain⟨v3,H3,K3,fr,e3,hA3⟩:=ih (d++[c]) (J++[.cells .plain c.cs,.cells .plain (ay p kr bf ps mk c).cs,.cells .plain (bg p.aC c.a).cs]) K2 (xs++[ay p kr bf ps mk c]) (da p c) (bAt p.text c.a) (sizeOf p c.a) (if c.k=7 then md++mk.take 1 else md) (lI mk c) v2
    (by simp[hd]) (by simpa using hA2) (by simp[hxl]) (by rw[hmd];unfold lI;split<;>simp;cases mk<;>simp) (l9 hmk).1 (by simp) (fun q hq=>by
     simp at hq;subst hq
     refine⟨c,ay p kr bf ps mk c,by simp[hd],by simp[← hxl],rfl,rfl,rfl⟩)
   refine⟨v3,H3,K3,fr,?_,by simpa[cR] using hA3⟩;obtain⟨vt,vn,vtk,vnn,rfl⟩:=dM hA;rw[af (L:=zR) rfl];by_cases k1:aU c.k=true
   · have h7:¬ c.k=7:=by intro h;rw[h] at k1;cases k1
     have hW:fP p mk c=IntKind.i64.wrap (wd (bAt p.text c.a) (sizeOf p c.a)+(bg p.aC c.a).t):=by simp[fP,k1]
     by_cases hd0:d=[]
     · subst hd0;obtain rfl:=hk0 rfl;have hE:aZ p false bf ps c=0:=by simp[aZ]
       simp at h0 hg hw;simp[ab.dv,ab.cs,ay,Clu.cs,Clu.dv,aW.cs,k1,h7,hW,hE] at e2 e3 ⊢;simp[ij,aF,bE,bN,bM,aH,fZ,ab.dv,ab.cs,ay,Clu.cs,Clu.dv,aW.cs,h0,hg,hw,hb,h34,h35,h36,h37,aw,aK,chunk,e2,e3,k1,h7,hW,hE]
     · skip
       obtain⟨q,hq⟩:∃ q,d.length=q+1:=⟨d.length-1,by have:=aaZ.2 hd0;omega⟩;obtain⟨c0,m0,g1,g2,rfl,rfl,rfl⟩:=hpv q hq;have q1:q<cs.length:=by omega
       have q2:cs[q]=c0:=by rw[aaa q1] at g1;exact aab.inj g1
       have q3:q<xs.length:=by omega
       have q4:xs[q]=m0:=by rw[aaa q3] at g2;exact aab.inj g2
       have q5:IntKind.i64.wrap ((d.length:Int)-1)=(q:Int):=by rw[ar (by omega)];omega
       have q6:0<d.length:=by omega
       obtain⟨rfl,rfl⟩:vn=6∧vnn=true:=by
        rcases hA with ⟨h,_⟩ | ⟨k,z,h,_⟩
        · rw[List.map_eq_nil_iff] at h;rw[h] at q3;simp at q3
        · injection h with _ h2 _ h4;exact⟨h2,h4⟩
       have h36b:=fun st=>Ad c0.k st;have h35b:=fun st=>xY p w u hw4 hSp hsum c0.a st;have h39:=fun st=>Fb (bAt p.text c0.a) (bAt p.text c.a) (sizeOf p c.a) ⟨hsz.1,hsz.2.1⟩ st;have hb0:p.text[c0.a]? = some (bAt p.text c0.a):=pR (hci c0 (by rw[← q2];exact aar q1))
       cases k2:aU c0.k with
       | false=>
         have hE:aZ p (da p c0) (bAt p.text c0.a) m0.s c=0:=by simp[aZ,da,k2]
         simp[ab.dv,ab.cs,ay,Clu.cs,Clu.dv,aW.cs,k1,h7,hW,q1,q2,q3,q4,q5,q6,h36b,k2,hE] at e2 e3 ⊢;simp[ij,aF,bE,bN,bM,aH,fZ,ab.dv,ab.cs,ay,Clu.cs,Clu.dv,aW.cs,h0,hg,hw,hb,h34,h35,h36,h37,aw,aK,chunk,e2,e3,k1,h7,hW,q1,q2,q3,q4,q5,q6,h36b,k2,hE]
       | true=>
         by_cases k3:(bg p.aC c.a).e=1
         · by_cases k4:(bg p.aC c0.a).e=1
           · have hk0':da p c0=true:=by simp[da,k2,k4]
             by_cases k5:m0.s=sizeOf p c.a
             · have hE:aZ p (da p c0) (bAt p.text c0.a) m0.s c=fT (bAt p.text c0.a) (bAt p.text c.a) (sizeOf p c.a):=by simp[aZ,k1,k3,k5,hk0']
               simp only[ay,hE] at e2 e3;simp[ab.dv,ab.cs,ay,Clu.cs,Clu.dv,aW.cs,k1,h7,hW,q1,q2,q3,q4,q5,q6,h36b,k2,k3,k4,k5,h35b,h39,hb0] at e2 e3 ⊢;simp[ij,aF,bE,bN,bM,aH,fZ,ab.dv,ab.cs,ay,Clu.cs,Clu.dv,aW.cs,h0,hg,hw,hb,h34,h35,h36,h37,aw,aK,chunk,e2,e3,k1,h7,hW,q1,q2,q3,q4,q5,q6,h36b,k2,k3,k4,k5,h35b,h39,hb0]
             · have hE:aZ p (da p c0) (bAt p.text c0.a) m0.s c=0:=by simp[aZ,k5]
               simp[ab.dv,ab.cs,ay,Clu.cs,Clu.dv,aW.cs,k1,h7,hW,q1,q2,q3,q4,q5,q6,h36b,k2,k3,k4,k5,h35b,hE] at e2 e3 ⊢;simp[ij,aF,bE,bN,bM,aH,fZ,ab.dv,ab.cs,ay,Clu.cs,Clu.dv,aW.cs,h0,hg,hw,hb,h34,h35,h36,h37,aw,aK,chunk,e2,e3,k1,h7,hW,q1,q2,q3,q4,q5,q6,h36b,k2,k3,k4,k5,h35b,hE]
           · have hk0':da p c0=false:=by simp[da,k4]
             have hE:aZ p (da p c0) (bAt p.text c0.a) m0.s c=0:=by simp[aZ,hk0']
             simp[ab.dv,ab.cs,ay,Clu.cs,Clu.dv,aW.cs,k1,h7,hW,q1,q2,q3,q4,q5,q6,h36b,k2,k3,k4,h35b,hE] at e2 e3 ⊢;simp[ij,aF,bE,bN,bM,aH,fZ,ab.dv,ab.cs,ay,Clu.cs,Clu.dv,aW.cs,h0,hg,hw,hb,h34,h35,h36,h37,aw,aK,chunk,e2,e3,k1,h7,hW,q1,q2,q3,q4,q5,q6,h36b,k2,k3,k4,h35b,hE]
         · have hE:aZ p (da p c0) (bAt p.text c0.a) m0.s c=0:=by simp[aZ,k3]
           simp[ab.dv,ab.cs,ay,Clu.cs,Clu.dv,aW.cs,k1,h7,hW,q1,q2,q3,q4,q5,q6,h36b,k2,k3,hE] at e2 e3 ⊢;simp[ij,aF,bE,bN,bM,aH,fZ,ab.dv,ab.cs,ay,Clu.cs,Clu.dv,aW.cs,h0,hg,hw,hb,h34,h35,h36,h37,aw,aK,chunk,e2,e3,k1,h7,hW,q1,q2,q3,q4,q5,q6,h36b,k2,k3,hE]
   · have k1:aU c.k=false:=by simpa using k1
     by_cases k3:c.k=3
     · have hW:fP p mk c=IntKind.i64.wrap (wd (bAt p.text c.a) (sizeOf p c.a)+(bg p.aC c.a).t):=by simp[fP,k3]
       have h36:=fun st=>Ad 3 st;have hE:aZ p kr bf ps c=0:=by simp[aZ,k1]
       have hk:da p c=false:=by simp[da,k1]
       by_cases hd0:d=[]
       · subst hd0;simp at h0 hg hw;simp[ab.dv,ab.cs,ay,Clu.cs,Clu.dv,aW.cs,k3,hW,show aU 3=false from rfl,k1,hE,hk] at e2 e3 ⊢;simp[ij,aF,bE,bN,bM,aH,fZ,ab.dv,ab.cs,ay,Clu.cs,Clu.dv,aW.cs,h0,hg,hw,hb,h34,h35,h36,h37,aw,aK,chunk,e2,e3,k3,hW,show aU 3=false from rfl,k1,hE,hk]
       · have q6:0<d.length:=aaZ.2 hd0;simp[ab.dv,ab.cs,ay,Clu.cs,Clu.dv,aW.cs,k3,hW,show aU 3=false from rfl,k1,hE,hk,q6] at e2 e3 ⊢;simp[ij,aF,bE,bN,bM,aH,fZ,ab.dv,ab.cs,ay,Clu.cs,Clu.dv,aW.cs,h0,hg,hw,hb,h34,h35,h36,h37,aw,aK,chunk,e2,e3,k3,hW,show aU 3=false from rfl,k1,hE,hk,q6]
     by_cases k7:c.k=7
     · have hne:=(l9 hmk).2 k7
       match mk,hne with
       | m::ms,_=>
         have hW:fP p (m::ms) c=tw (sizeOf p c.a) 0 m:=by simp[fP,k1,k7,show aU 7=false from rfl]
         have hmm:m∈p.marks:=by rw[hmd];simp
         have h38:=fun st=>qh m (hml m hmm) (sizeOf p c.a) st;have p1:md.length<p.marks.length:=by rw[hmd];simp
         have p2:p.marks[md.length]=m:=by simp[hmd]
         have p3:IntKind.i64.wrap ((md.length:Int)+1)=(md.length:Int)+1:=ar (by omega);have hu1':=hu1.n (fun h=>by rw[h] at hmm;cases hmm);have h36:=fun st=>Ad 7 st;have hE:aZ p kr bf ps c=0:=by simp[aZ,k1]
         have hk:da p c=false:=by simp[da,k1]
         by_cases hd0:d=[]
         · subst hd0;simp at h0 hg hw;simp[ab.dv,ab.cs,ay,Clu.cs,Clu.dv,aW.cs,k7,hW,h38,p1,p2,p3,hu1',show aU 7=false from rfl,k1,hE,hk] at e2 e3 ⊢;simp[ij,aF,bE,bN,bM,aH,fZ,ab.dv,ab.cs,ay,Clu.cs,Clu.dv,aW.cs,h0,hg,hw,hb,h34,h35,h36,h37,aw,aK,chunk,e2,e3,k7,hW,h38,p1,p2,p3,hu1',show aU 7=false from rfl,k1,hE,hk]
         · have q6:0<d.length:=aaZ.2 hd0;simp[ab.dv,ab.cs,ay,Clu.cs,Clu.dv,aW.cs,k7,hW,h38,p1,p2,p3,hu1',show aU 7=false from rfl,k1,hE,hk,q6] at e2 e3 ⊢;simp[ij,aF,bE,bN,bM,aH,fZ,ab.dv,ab.cs,ay,Clu.cs,Clu.dv,aW.cs,h0,hg,hw,hb,h34,h35,h36,h37,aw,aK,chunk,e2,e3,k7,hW,h38,p1,p2,p3,hu1',show aU 7=false from rfl,k1,hE,hk,q6]
     · have hW:fP p mk c=0:=by simp[fP,k1,k3,k7]
       have hE:aZ p kr bf ps c=0:=by simp[aZ,k1]
       have hk:da p c=false:=by simp[da,k1]
       by_cases hd0:d=[]
       · subst hd0;simp at h0 hg hw;simp[ab.dv,ab.cs,ay,Clu.cs,Clu.dv,aW.cs,k3,k7,hW,k1,hE,hk] at e2 e3 ⊢;simp[ij,aF,bE,bN,bM,aH,fZ,ab.dv,ab.cs,ay,Clu.cs,Clu.dv,aW.cs,h0,hg,hw,hb,h34,h35,h36,h37,aw,aK,chunk,e2,e3,k3,k7,hW,k1,hE,hk]
       · have q6:0<d.length:=aaZ.2 hd0;simp[ab.dv,ab.cs,ay,Clu.cs,Clu.dv,aW.cs,k3,k7,hW,k1,hE,hk,q6] at e2 e3 ⊢;simp[ij,aF,bE,bN,bM,aH,fZ,ab.dv,ab.cs,ay,Clu.cs,Clu.dv,aW.cs,h0,hg,hw,hb,h34,h35,h36,h37,aw,aK,chunk,e2,e3,k3,k7,hW,k1,hE,hk,q6]
theorem Dr (p:bh) (hp:p.small) (w u:LW) (hw:w.ok 4 p.aC) (hu:u.ok 1 p.marks) (st:St):∃ v,(E tab).F 11 [.agg (ah p w u)] st=some (v,st)∧Eo p v:=by
 rw[au TR rfl];have h14:=fun st=>th p hp w u hw hu st;by_cases hc:ax p=0
 · obtain⟨h1,h2,h3,h4,h5,h6,h7⟩:=cK hc;obtain⟨hlen,_⟩:=cM h1;obtain⟨hS,hsum⟩:=iS p.aC p.text.length 0 (by simpa[cD] using h3);obtain⟨v33,e33,t,n',tk,nn,rfl,hn1,hn2⟩:=GH p.text (pst st [.cells .plain (ah p w u)] []);simp only[h1,if_true] at e33 hn2;have hcs:=j8 p.text p.text.length 0;have hcnt:p.text.count 2≤p.text.length:=List.count_le_length
   obtain⟨v',H',K',fr,e11,hA⟩:=Mi p w u hw hu h4 hS (by omega) (fun m hm=>by have:=h7 m hm;simp[dx,cC] at this;omega) (by omega) (gC p.text) (by have:=hcs.2;unfold gC;omega) (oq hcs.1) t n' tk nn (fun h=>hn1 (by cases nn with | true=>rfl | false=>exact absurd (hn2 rfl) h)) st
    (gC p.text) [] [] [] [] false 0 0 [] p.marks gu rfl (dt _ _ _ _ _ _) rfl rfl (by rw[h6,show p4 (gC p.text)=_ from k8 p.text p.text.length 0 (by omega)];simp) (fun _=>rfl) (fun q hq=>by simp at hq)
   obtain⟨t9,n9,tk9,nn9,e9,g2,g3,g4⟩:=j6 (st':=pst st H' K') hA;obtain⟨t8,n8,tk8,nn8,rfl⟩:=dM hA;have hml:az p=cR p false 0 0 p.marks (gC p.text):=by simp[az,hc,mc]
   refine⟨.tuple [.list t9 n9 tk9 nn9 ((az p).map ab.dv),.int .i64 0],?_,om t9 n9 tk9 nn9 (by rw[hc]) g3 (by rw[hml];simpa using g2)⟩;rw[hml];simp at e11 e9;simp[f11,h14,hc,e33,e11,e9]
 · have hml:az p=[]:=by simp[az,hc]
   refine⟨.tuple [.list 0 0 .no false [],.int .i64 (ax p)],?_,om 0 0 .no false (by simp[hml]) (by simp) (by simp[hml])⟩;simp[f11,h14,hc]
theorem em8:(emL.all fun e=>decide (e≤8))=true:=by decide +kernel
theorem PU (c:Nat):0≤em c∧em c≤8:=by
 unfold em
 have:emL.getD c 0≤8:=by
  rw[aak]
  cases h:emL[c]? with
  | none=>simp
  | some e=>
    have:=aaf.1 em8 e (aaB h);simpa using this
 constructor
 · exact Int.natCast_nonneg _
 · show ((emL.getD c 0:Nat):Int)≤8;omega
theorem pS (c:UInt8) {n:Int} (h1:1≤n) (h2:n≤64):0≤wd c n∧wd c n≤64∧wd c n=em c.toNat*n/8:=by
 have he:=PU c.toNat;have h3:em c.toNat*n≤8*64:=Int.mul_le_mul he.2 h2 (by omega) (by omega);have h4:0≤em c.toNat*n:=Int.mul_nonneg he.1 (by omega);unfold wd;rw[ar (n:=em c.toNat*n) (by omega),IntWalk.i64_quo _ _ (by omega)];omega
theorem IB {n:Int} (h1:1≤n) (h2:n≤64):∀ (s:List UInt8) (a:Int),0≤a→a+64*s.length≤1000000→a≤tw n a s∧tw n a s≤a+64*s.length
 | [],a,_,_=>by simp[tw]
 | c::r,a,h3,h4=>by
   have hw:=pS c h1 h2;simp only[aax] at h4;have e:IntKind.i64.wrap (a+wd c n)=a+wd c n:=ar (by omega);have:=IB h1 h2 r (a+wd c n) (by omega) (by omega);rw[tw,e];simp only[aax];omega
theorem Gk (a b:UInt8) {n:Int} (h1:1≤n) (h2:n≤64):-8≤fT a b n∧fT a b n≤0:=by
 unfold fT;split
 · omega
 · split<;>omega
theorem AF (p:bh) (hpr:b7 p.pr=true) (hSp:ke p.aC) (kr:Bool) (bf:UInt8) (ps:Int) (mk:List (List UInt8)) (hm:∀ m∈mk,m.length≤8) (c:Clu):okM (ay p kr bf ps mk c)=true:=by
 have hs:=ky p hpr hSp c.a
 have h1:0≤fP p mk c∧fP p mk c≤4095:=by
  unfold fP;split
  · have:=pS (bAt p.text c.a) hs.1 hs.2.1;rw[ar (by omega)];omega
  · split
    · have h8:(mk.headD []).length≤8:=by
       cases mk with
       | nil=>simp
       | cons m r=>exact hm m (aap ..)
      have:=IB hs.1 hs.2.1 (mk.headD []) 0 (by omega) (by omega);omega
    · omega
 have h2:-64≤aZ p kr bf ps c∧aZ p kr bf ps c≤0:=by
  unfold aZ;split
  · have:=Gk bf (bAt p.text c.a) hs.1 hs.2.1;omega
  · omega
 simp[okM,ay,h1,h2]
theorem qQ (p:bh) (hpr:b7 p.pr=true) (hSp:ke p.aC):∀ (l:List Clu) (kr:Bool) (bf:UInt8) (ps:Int) (mk:List (List UInt8)),(∀ m∈mk,m.length≤8)→(cR p kr bf ps mk l).all okM=true
 | [],_,_,_,_,_=>rfl
 | c::r,kr,bf,ps,mk,hm=>by
   simp only[cR,aa3,aac];exact⟨AF p hpr hSp kr bf ps mk hm c,qQ p hpr hSp r _ _ _ _ fun m h=>hm m (vk h)⟩
theorem DX (p:bh):(az p).all okM=true:=by
 unfold az;split
 · rename_i hc;obtain⟨h1,h2,h3,h4,h5,h6,h7⟩:=cK hc;obtain⟨hS,hsum⟩:=iS p.aC p.text.length 0 (by simpa[cD] using h3);refine qQ p h4 hS _ _ _ _ _ fun m hm=>?_;have:=h7 m hm;simp[dx,cC] at this;omega
 · rfl
theorem od (p:bh):∀ (l:List Clu) (kr:Bool) (bf:UInt8) (ps:Int) (mk:List (List UInt8)),(cR p kr bf ps mk l).map (fun m=>(m.a,m.b,m.k))=l.map fun c=>((c.a:Int),(c.b:Int),c.k)
 | [],_,_,_,_=>rfl
 | c::r,kr,bf,ps,mk=>by
   simp only[cR,aaS,od p r];rfl
theorem A3 (p:bh):(az p).length≤4096:=by
 unfold az;split
 · rename_i hc;have h1:=congrArg List.length (od p (gC p.text) false 0 0 p.marks);simp at h1;have h2:=(j8 p.text p.text.length 0).2;obtain⟨h3,_⟩:=cK hc;have:=(cM h3).1;unfold mc;rw[h1];unfold gC;omega
 · simp
theorem Ib {L:List ab} (hL:L.length≤4096) (hok:L.all okM=true) (x y:Nat) (hx:x≤y) (hy:y≤L.length):tM L x y=.tuple [.int .i64 (ff true 0 ((L.drop x).take (y-x))),.int .i64 0]:=by
 unfold tM;rw[if_neg (by omega),if_neg (by rw[hok];simp),if_pos (by omega)];simp
def Ac (st:St) (K:List Nat) (n:Nat) (xs:List DV) (v:DV):Option Nat→Prop
 | none=>xs=[]∧∃ t n' tk,v=.list t n' tk false []
 | some k=>∃ s,v=.list st.cur n (.own (st.bc.length+k) s) true xs∧K[k]? = some s
theorem Ac.acc {st:St} {K:List Nat} {n:Nat} {xs:List DV} {v:DV}:∀ {o:Option Nat},Ac st K n xs v o→Acc st K n xs v
 | none,h=>.inl h
 | some k,⟨s,h1,h2⟩=>.inr ⟨k,s,h1,h2⟩
end Go.D.Tab
end
section
namespace Go.D.Tab
structure It where
 k:Int
 f:Int
 t:Int
 w:Int
 s:Int
 h:Int
 c:Int
 y:Bool
def It.cs (x:It):List DV:=[.int .i64 x.k,.int .i64 x.f,.int .i64 x.t,.int .i64 x.w,.int .i64 x.s,.int .i64 x.h,.int .i64 x.c,.bool x.y]
def It.dv (x:It):DV:=.agg x.cs
theorem C1 (x:It):fR 8 true x.dv:=⟨rfl,rfl,rfl⟩
theorem p5 {l:List It}:∀ y∈l.map It.dv,fR 8 true y:=fun y hy=>by obtain⟨x,_,rfl⟩:=aaT.1 hy;exact C1 x
abbrev Its (st:St) (l:List It) (v:DV):Prop:=Vw st 8 true (l.map It.dv) v
section
variable {st:St} {l:List It} {v:DV}
theorem bH (h:Its st l v) (st':St):qD st' .slice v=some (.int .i64 l.length,st'):=by simpa using Vw.len h st'
theorem b4 (h:Its st l v) {i:Nat} (hi:i<l.length) (k:IntKind) (st':St):ln st' 8 v (.int k i)=some (elP 8 v i,st'):=Vw.aY h (by simpa using hi) k st'
theorem og (h:Its st l v) {i:Nat} {x:It} (hx:l[i]? = some x) (H:List HO) (K:List Nat):c7 (pst st H K) 8 true (elP 8 v i)=some x.dv:=Vw.load (Vw.inn h H K) p5 rfl (by simp[hx])
theorem cF (h:Its st l v) {i:Nat} {x:It} (hx:l[i]? = some x) {off:Nat} (ho:off≤8) (st':St):mo st' off (elP 8 v i)=some (faP off (elP 8 v i),st'):=Vw.gU h p5 (by simpa using(aae.1 hx).1) ho st'
theorem lf (h:Its st l v) {i:Nat} {x:It} (hx:l[i]? = some x) {off:Nat} {y:DV} (ho:x.cs[off]? = some y) (H:List HO) (K:List Nat):c7 (pst st H K) 1 false (faP off (elP 8 v i))=some y:=Vw.Qx (x:=x.dv) (Vw.inn h H K) p5 (by simp[hx]) ho
theorem eY (h:Its st l v) {i:Nat} {x:It} (hx:l[i]? = some x) (H:List HO) (K:List Nat):c7 (pst st H K) 1 false (faP 0 (elP 8 v i))=some (.int .i64 x.k):=lf h hx rfl H K
theorem vJ (h:Its st l v) {i:Nat} {x:It} (hx:l[i]? = some x) (H:List HO) (K:List Nat):c7 (pst st H K) 1 false (faP 3 (elP 8 v i))=some (.int .i64 x.w):=lf h hx rfl H K
theorem NQ (h:Its st l v) {i:Nat} {x:It} (hx:l[i]? = some x) (H:List HO) (K:List Nat):c7 (pst st H K) 1 false (faP 4 (elP 8 v i))=some (.int .i64 x.s):=lf h hx rfl H K
theorem Pd (h:Its st l v) {i:Nat} {x:It} (hx:l[i]? = some x) (H:List HO) (K:List Nat):c7 (pst st H K) 1 false (faP 5 (elP 8 v i))=some (.int .i64 x.h):=lf h hx rfl H K
theorem I5 (h:Its st l v) {i:Nat} {x:It} (hx:l[i]? = some x) (H:List HO) (K:List Nat):c7 (pst st H K) 1 false (faP 7 (elP 8 v i))=some (.bool x.y):=lf h hx rfl H K
end
theorem MF:tab 109=some (.code f109):=by kernel_rfl
theorem RD:tab 120=some (.code f120):=by kernel_rfl
theorem Oo:tab 122=some (.code f122):=by kernel_rfl
theorem Oq:tab 110=some (.code f110):=by kernel_rfl
theorem NL:tab 121=some (.code f121):=by kernel_rfl
theorem OW:tab 123=some (.code f123):=by kernel_rfl
def bm (n:Int):Bool:=decide (0≤n)&&decide (n≤4095)
theorem qO (n:Int) (st:St):(E tab).F 122 [.int .i64 n] st=some (.bool (bm n),st):=by
 rw[au Oo rfl];by_cases h:0≤n
 · simp[f122,bm,h]
 · simp[f122,bm,h]
def nJ (x:It):Bool:=decide (x.k<1)||decide (4<x.k)||decide (x.f<0)||decide (x.t<x.f)||decide (x.w<0)||decide (2097152<x.w) || !bm x.s || !bm x.h || !bm x.c
def jR (x:It):Bool:=(x.k != 3&&(x.y||x.c != 0))||(x.k != 2&&(x.s != 0||x.h != 0))||(x.k==4&&x.w != 0)
def fc (x:It):Bool:=nJ x||jR x
theorem KN (x:It) (st:St):(E tab).F 120 [x.dv] st=some (.bool (fc x),st):=by
 rw[au RD rfl];have hw:=qO
 cases hA:nJ x with
 | true=>
   have e:fc x=true:=by simp[fc,hA]
   rw[e];unfold nJ at hA;by_cases h1:x.k<1
   · simp[f120,It.dv,It.cs,h1]
   by_cases h2:4<x.k
   · simp[f120,It.dv,It.cs,h1,h2]
   by_cases h3:x.f<0
   · simp[f120,It.dv,It.cs,h1,h2,h3]
   by_cases h4:x.t<x.f
   · simp[f120,It.dv,It.cs,h1,h2,h3,h4]
   by_cases h5:x.w<0
   · simp[f120,It.dv,It.cs,h1,h2,h3,h4,h5]
   by_cases h6:2097152<x.w
   · simp[f120,It.dv,It.cs,h1,h2,h3,h4,h5,h6]
   by_cases h7:bm x.s=false
   · simp[f120,It.dv,It.cs,h1,h2,h3,h4,h5,h6,hw,h7]
   by_cases h8:bm x.h=false
   · simp at h7;simp[f120,It.dv,It.cs,h1,h2,h3,h4,h5,h6,hw,h7,h8]
   by_cases h9:bm x.c=false
   · simp at h7 h8;simp[f120,It.dv,It.cs,h1,h2,h3,h4,h5,h6,hw,h7,h8,h9]
   · simp at h7 h8 h9;simp[h1,h2,h3,h4,h5,h6,h7,h8,h9] at hA
 | false=>
   have e:fc x=jR x:=by simp[fc,hA]
   rw[e];unfold nJ at hA;simp only[Bool.or_eq_false_iff,decide_eq_false_iff_not,Bool.not_eq_false'] at hA;obtain⟨⟨⟨⟨⟨⟨⟨⟨h1,h2⟩,h3⟩,h4⟩,h5⟩,h6⟩,h7⟩,h8⟩,h9⟩:=hA;have w0:bm 0=true:=rfl;have c3:x.k=3∨x.k≠3:=Decidable.em _;have c2:x.k=2∨x.k≠2:=Decidable.em _;have c4:x.k=4∨x.k≠4:=Decidable.em _;have cc:x.c=0∨x.c≠0:=Decidable.em _;have cs:x.s=0∨x.s≠0:=Decidable.em _;rcases c3 with c3 | c3
   · rcases cs with cs|cs
     · by_cases ch:x.h=0<;>simp[f120,It.dv,It.cs,h1,h2,h3,h4,h5,h6,hw,h7,h8,h9,w0,jR,c3,cs,ch]
     · simp[f120,It.dv,It.cs,h1,h2,h3,h4,h5,h6,hw,h7,h8,h9,w0,jR,c3,cs]
   · cases hy:x.y with
     | true=>simp[f120,It.dv,It.cs,h1,h2,h3,h4,h5,h6,hw,h7,h8,h9,w0,jR,c3,hy]
     | false=>
       rcases cc with cc|cc
       · rcases c2 with c2|c2
         · simp[f120,It.dv,It.cs,h1,h2,h3,h4,h5,h6,hw,h7,h8,h9,w0,jR,c2,hy,cc]
         · rcases cs with cs|cs
           · by_cases ch:x.h=0
             · rcases c4 with c4|c4
               · simp[f120,It.dv,It.cs,h1,h2,h3,h4,h5,h6,hw,h7,h8,h9,w0,jR,c4,hy,cc,cs,ch]
               · simp[f120,It.dv,It.cs,h1,h2,h3,h4,h5,h6,hw,h7,h8,h9,w0,jR,c3,c2,c4,hy,cc,cs,ch]
             · simp[f120,It.dv,It.cs,h1,h2,h3,h4,h5,h6,hw,h7,h8,h9,w0,jR,c3,c2,hy,cc,cs,ch]
           · simp[f120,It.dv,It.cs,h1,h2,h3,h4,h5,h6,hw,h7,h8,h9,w0,jR,c3,c2,hy,cc,cs]
       · simp[f120,It.dv,It.cs,h1,h2,h3,h4,h5,h6,hw,h7,h8,h9,w0,jR,c3,hy,cc]
def bd (l:List It):Int:=if 8192<l.length then 3 else if l.any fc then 2 else 0
section
variable {st:St} {l:List It} {v:DV}
theorem Jz (hv:Its st l v) (hl:l.length≤8192) (K:List Nat):∀ (r d:List It) (H:List HO),l=d++r →
 ∃ J fr,(E tab).C oz [(8,v),(9,.int .i64 l.length),(10,.int .i64 d.length)] (pst st H K) =
   some (if r.any fc then (.ret,[(2,.int .i64 2)],pst st (H++J) K) else (.exit 0,fr,pst st (H++J) K)):=by
 intro r
 induction r with
 | nil=>
   intro d H hd;refine⟨[],[(8,v),(9,.int .i64 l.length),(10,.int .i64 l.length),(11,.bool false)],?_⟩;rw[af (L:=oz) rfl];simp[tm,hd]
 | cons x r ih=>
   intro d H hd;have h0:d.length<l.length:=by simp[hd]
   have hx:l[d.length]? = some x:=by simp[hd]
   have hw1:IntKind.i64.wrap ((d.length:Int)+1)=((d++[x]).length:Nat):=by rw[ar (by omega)];simp
   have e1:=fun st'=>b4 hv h0 .i64 st';have e2:=fun H K=>og hv hx H K;have e3:=fun st=>KN x st;simp only[It.dv,It.cs] at e2 e3;rw[abq]
   cases ho:fc x with
   | true=>
     refine⟨[.cells .plain x.cs],[],?_⟩;rw[af (L:=oz) rfl];simp[tm,h0,e1,e2,e3,ho,It.cs]
   | false=>
     obtain⟨J,fr,hJ⟩:=ih (d++[x]) (H++[.cells .plain x.cs]) (by simp[hd]);refine⟨.cells .plain x.cs::J,fr,?_⟩;rw[Bool.false_or];generalize r.any fc=b at hJ ⊢;simp only[aah,aam] at hJ hw1;simp[It.cs] at hJ;rw[af (L:=oz) rfl];simp[tm,h0,e1,e2,e3,ho,It.cs,hw1,hJ]
theorem vG (hv:Its st l v):(E tab).F 109 [v] st=some (.int .i64 (bd l),st):=by
 rw[au MF rfl];have e0:=fun st'=>bH hv st';by_cases h:8192<l.length
 · have h':(8192:Int)<l.length:=by omega
   simp[f109,e0,h,h',bd]
 · have h':¬ (8192:Int)<l.length:=by omega
   obtain⟨J,fr,hL⟩:=Jz hv (by omega) [] l [] [] rfl;have e:bd l=if l.any fc then 2 else 0:=by simp only[bd,if_neg h]
   rw[e];generalize l.any fc=b at hL ⊢;simp at hL;cases b<;>simp at hL<;>simp[f109,e0,h',hL]
def dY (l:List It) (a b:Int):Int:=if bd l=0∧(a<0∨b<a∨l.length<b) then 5 else bd l
theorem rE (hv:Its st l v) (a b:Int):(E tab).F 121 [v,.int .i64 a,.int .i64 b] st=some (.int .i64 (dY l a b),st):=by
 rw[au NL rfl];have e0:=fun st'=>bH hv st';have e1:=vG (hv.inn [] []);unfold dY;by_cases h:bd l=0
 · by_cases h1:a<0
   · simp[f121,e0,e1,h,h1]
   · by_cases h2:b<a
     · simp[f121,e0,e1,h,h1,h2]
     · by_cases h3:(l.length:Int)<b
       · simp[f121,e0,e1,h,h1,h2,h3]
       · simp[f121,e0,e1,h,h1,h2,h3]
 · simp[f121,e1,h]
def aI (l:List It) (a:Nat):Nat→Nat
 | 0=>0
 | b+1=>if a≤b∧(l[b]?.map (·.k))=some 2 then aI l a b else b+1
theorem gJ (l:List It) (a:Nat):∀ b,aI l a b≤b
 | 0=>aai _
 | b+1=>by
   unfold aI;split
   · exact Nat.le_succ_of_le (gJ l a b)
   · exact aai _
theorem lE (l:List It) (a:Nat):∀ b,a≤b→a≤aI l a b
 | 0,h=>by simp[aI];omega
 | b+1,h=>by
   unfold aI;split
   · rename_i hc;exact lE l a b hc.1
   · exact h
theorem Jh (hv:Its st l v) (a:Nat) (hl:l.length≤140737488355328) (H:List HO) (K:List Nat):∀ b,b≤l.length→a≤b →
 ∃ fr,(E tab).C mU [(0,v),(1,.int .i64 a),(2,.int .i64 b)] (pst st H K)=some (.exit 0,[(0,v),(1,.int .i64 a),(2,.int .i64 (aI l a b:Nat))]++fr,pst st H K):=by
 intro b
 induction b with
 | zero=>
   intro hb ha;obtain rfl:a=0:=by omega
   refine⟨[(18,.bool false)],?_⟩;rw[af (L:=mU) rfl];simp[oW,aI]
 | succ b ih=>
   intro hb ha;by_cases hab:a≤b
   · have hw:IntKind.i64.wrap (((b+1:Nat):Int)-1)=b:=by rw[ar (by omega)];omega
     have hlt:(a:Int)<b+1:=by omega
     have hbl:b<l.length:=by omega
     have hx:l[b]? = some l[b]:=aaa hbl;have e1:=fun st'=>b4 hv hbl .i64 st';have e2:=fun st'=>cF hv hx (off:=0) (by omega) st';have e3:=fun H K=>eY hv hx H K;simp at hw;by_cases hk:l[b].k=2
     · obtain⟨fr,hJ⟩:=ih (by omega) hab;refine⟨fr,?_⟩;rw[af (L:=mU) rfl];have et:aI l a (b+1)=aI l a b:=by rw[aI,if_pos ⟨hab,by simp[hx,hk]⟩]
       rw[et];simp at hJ;simp[oW,hlt,hw,e1,e2,e3,hk,hJ]
     · have et:aI l a (b+1)=b+1:=by rw[aI,if_neg];rintro⟨_,h⟩;simp[hx] at h;exact hk h
       rw[et];refine⟨[(18,.bool false)],?_⟩;rw[af (L:=mU) rfl];simp[oW,hlt,hw,e1,e2,e3,hk]
   · obtain rfl:a=b+1:=by omega
     have et:aI l (b+1) (b+1)=b+1:=by rw[aI,if_neg];omega
     rw[et];refine⟨[(18,.bool false)],?_⟩;rw[af (L:=mU) rfl];simp[oW]
theorem Vw.ex {n:Nat} {ag:Bool} {xs:List DV} {w:DV} (h:Vw st n ag xs w) (H:List HO) (K:List Nat):∃ w',aV st (pst st H K) w=some w'∧Vw st n ag xs w':=by
 cases h with
 | list t n' tk nn h1 h2=>exact⟨_,rfl,.list _ _ _ _ h1 h2⟩
 | hsl b off c g vs hc hl hx hcap=>
   have hh:=iO hc;have hb:st.nt b=true:=by unfold St.nt;rw[hh]
   refine⟨_,by simp only[aV,hb,if_true],.hsl b off c g vs hc hl hx hcap⟩
theorem CG {n:Nat} {ag:Bool} {xs:List DV} {w:DV} {st0 st1 st2:St} (h:Vw st0 n ag xs w):bB st1 st2 w=aV st1 st2 w:=by
 cases h<;>rfl
theorem oC (hv:Its st l v) (hl:l.length≤140737488355328) (a b:Nat) (hab:a≤b) (hb:b≤l.length):∃ v',(E tab).F 123 [v,.int .i64 a,.int .i64 b] st=some (v',st)∧Its st ((l.drop a).take (aI l a b-a)) v':=by
 rw[au OW rfl];obtain⟨fr,hL⟩:=Jh hv a hl [] [] b hb hab;obtain⟨v',hs,hv'⟩:=Vw.slice hv (by omega) p5 (lo:=a) (hi:=aI l a b) (lE l a b hab) (by have:=gJ l a b;simp;omega) .i64 .i64;obtain⟨v2,hx,hv2⟩:=Vw.ex hv' [] [];rw[← List.map_drop,← List.map_take] at hv2;refine⟨v2,?_,hv2⟩;simp at hL;have hxT:bB st (pst st [] []) v'=some v2:=by rw[CG hv',hx]
 simp[f123,hL,hs,hxT]
end
theorem O3:tab 124=some (.code f124):=by kernel_rfl
theorem Qf:tab 139=some (.code f139):=by kernel_rfl
theorem Mx:tab 145=some (.code f145):=by kernel_rfl
theorem Oz:tab 146=some (.code f146):=by kernel_rfl
theorem P3:tab 153=some (.code f153):=by kernel_rfl
def fM (x:Int):Int:=(x/48+1)*48
theorem rk (st:St):(E tab).F 145 [.list 0 0 .no false []] st=some (.int .i64 0,st):=by
 rw[au Mx rfl]
 have hL:∀ st:St,(E tab).C wN [(3,.int .i64 0),(9,.list 0 0 .no false []),(10,.int .i64 0),(11,.int .i64 0)] st=some (.exit 0,[(3,.int .i64 0),(9,.list 0 0 .no false []),(10,.int .i64 0),(11,.int .i64 0),(12,.bool false)],st):=by
  intro st;rw[af (L:=wN) rfl];simp[EU]
 simp[f145,hL]
theorem xO (x f:DV) (st:St):(E tab).F 153 [.list 0 0 .no false [],x,f] st=some (.tuple [.int .i64 0,.bool false],st):=by
 rw[fq P3 rfl]
 have hL:∀ st:St,(E tab).C ym [(0,.list 0 0 .no false []),(1,x),(2,f),(8,.int .i64 0),(9,.int .i64 0),(10,.int .i64 0)] st=some (.exit 0,[(0,.list 0 0 .no false []),(1,x),(2,f),(8,.int .i64 0),(9,.int .i64 0),(10,.int .i64 0),(17,.bool false)],st):=by
  intro st;rw[af (L:=ym) rfl];simp[Cr]
 simp[f153,hL]
theorem Bh (x:Int) (hx:0≤x∧x≤1000000000000) (st:St):(E tab).F 146 [.list 0 0 .no false [],.int .i64 x] st=some (.agg [.int .i64 (fM x),.int .i64 0],st):=by
 rw[au Oz rfl];have e1:IntKind.i64.wrap (x.tdiv 48)=x/48:=IntWalk.i64_quo _ _ (by omega);have e2:IntKind.i64.wrap (x/48+1)=x/48+1:=ar (by omega);have e3:IntKind.i64.wrap ((x/48+1)*48)=fM x:=ar (by omega);simp[f146,xO,e1,e2,e3]
theorem GF (x:Int) (hx:0≤x∧x≤1000000000000) (st:St):(E tab).F 139 [.list 0 0 .no false [],.int .i64 x] st=some (if x≤8190 then .tuple [.agg [.int .i64 (fM x),.int .i64 0],.int .i64 0] else .tuple [.agg [.int .i64 0,.int .i64 0],.int .i64 5],st):=by
 rw[au Qf rfl];have h0:¬ x<0:=by omega
 have e1:=fun st=>Bh x hx st;by_cases h:x≤8190
 · have h1:¬ 8190<x:=by omega
   simp[f139,rk,h0,h1,e1,h]
 · have h1:8190<x:=by omega
   simp[f139,rk,h0,h1,h]
theorem H6 (x:Int) (hx:0≤x∧x≤1000000000000) (st:St):(E tab).F 124 [.int .i64 x] st=some (.int .i64 (fM x),st):=by
 rw[au O3 rfl];have e0:=fun st=>GF x hx st;have e1:IntKind.i64.wrap (x.tdiv 48)=x/48:=IntWalk.i64_quo _ _ (by omega);have e2:IntKind.i64.wrap (x/48+1)=x/48+1:=ar (by omega);have e3:IntKind.i64.wrap ((x/48+1)*48)=fM x:=ar (by omega);by_cases h:x≤8190
 · simp only[h,if_true] at e0;simp[f124,e0]
 · simp only[h,if_false] at e0;simp[f124,e0,e1,e2,e3]
def bX (at_:Int) (x:It):Int:=if x.k=1∨x.k=2 then at_+x.w else if x.k=4 then fM at_ else at_
def goI (at_:Int):List It→Int
 | []=>at_
 | x::r=>goI (bX at_ x) r
def okW (l:List It):Prop:=∀ x∈l,0≤x.w∧x.w≤2097152
theorem dQ {l:List It} (h:bd l=0):okW l∧l.length≤8192:=by
 unfold bd at h;split at h
 · omega
 · rename_i h1;split at h
   · omega
   · rename_i h2;refine⟨fun x hx=>?_,by omega⟩;rw[Bool.not_eq_true,List.any_eq_false] at h2;have:=h2 x hx;simp[fc,nJ] at this;omega
theorem lC {x:It} (h:0≤x.w∧x.w≤2097152) {a:Int} (ha:0≤a):a≤bX a x∧bX a x≤a+2097152:=by
 unfold bX fM;split
 · omega
 · split<;>omega
theorem pV:∀ {l:List It} {a:Int},okW l→0≤a→a≤goI a l∧goI a l≤a+2097152*l.length
 | [],a,_,_=>by simp[goI]
 | x::r,a,h,ha=>by
   have h1:=lC (h x (aap ..)) ha;have h2:=pV (l:=r) (a:=bX a x) (fun y hy=>h y (aan _ hy)) (by omega);simp only[goI,aax];omega
theorem z6:∀ (l r:List It) (a:Int),goI a (l++r)=goI (goI a l) r
 | [],r,a=>rfl
 | x::l,r,a=>by simp only[aaF,goI,z6 l r]
def ia (l:List It) (b:Nat):Int:=match l[b]? with | some x=>if x.k=3 then x.w else 0 | none=>0
def cf (l:List It) (a b:Nat) (x:Int):Int:=goI x ((l.drop a).take (aI l a b-a))+ia l b-x
section
variable {st:St} {l:List It} {v:DV}
theorem JX (l':List It) {v':DV} (hv':Its st l' v') (hok:okW l') (hl:l'.length≤8192) (y0 y2 y3:DV) (K:List Nat):∀ (r d:List It) (H:List HO) (a:Int),l'=d++r→0≤a→a≤4095+2097152*d.length →
 ∃ J fr,(E tab).C tP [(0,y0),(2,y2),(3,y3),(11,.int .i64 a),(28,v'),(29,.int .i64 l'.length),(30,.int .i64 d.length)] (pst st H K) =
   some (.exit 0,[(0,y0),(2,y2),(3,y3),(11,.int .i64 (goI a r))]++fr,pst st (H++J) K):=by
 intro r
 induction r with
 | nil=>
   intro d H a hd h1 h2;refine⟨[],[(28,v'),(29,.int .i64 l'.length),(30,.int .i64 l'.length),(31,.bool false)],?_⟩;rw[af (L:=tP) rfl];simp[mg,hd,goI]
 | cons x r ih=>
   intro d H a hd h1 h2;have h0:d.length<l'.length:=by simp[hd]
   have hx:l'[d.length]? = some x:=by simp[hd]
   have hxm:=hok x (by simp[hd]);have hw1:IntKind.i64.wrap ((d.length:Int)+1)=((d++[x]).length:Nat):=by rw[ar (by omega)];simp
   have e1:=fun st'=>b4 hv' h0 .i64 st';have e2:=fun H K=>og hv' hx H K;simp only[It.dv,It.cs] at e2;have hs:=lC hxm h1;obtain⟨J,fr,hJ⟩:=ih (d++[x]) (H++[.cells .plain x.cs]) (bX a x) (by simp[hd]) (by omega) (by simp;omega);refine⟨.cells .plain x.cs::J,fr,?_⟩;rw[goI];simp only[aah,aam] at hJ hw1;simp[It.cs] at hJ;rw[af (L:=tP) rfl];by_cases k1:x.k=1
   · have w1:IntKind.i64.wrap (a+x.w)=bX a x:=by rw[ar (by omega)];simp[bX,k1]
     rw[k1] at e2 hJ;simp[mg,h0,e1,e2,k1,It.cs,hw1,w1,hJ]
   · by_cases k2:x.k=2
     · have w1:IntKind.i64.wrap (a+x.w)=bX a x:=by rw[ar (by omega)];simp[bX,k2]
       rw[k2] at e2 hJ;simp[mg,h0,e1,e2,k1,k2,It.cs,hw1,w1,hJ]
     · by_cases k4:x.k=4
       · have w1:fM a=bX a x:=by simp[bX,k4]
         have e3:=fun st=>H6 a (by omega) st;rw[w1] at e3;rw[k4] at e2 hJ;simp[mg,h0,e1,e2,e3,k1,k2,k4,It.cs,hw1,hJ]
       · have w1:bX a x=a:=by simp[bX,k1,k2,k4]
         rw[w1] at hJ;simp[mg,h0,e1,e2,k1,k2,k4,It.cs,hw1,w1,hJ]
def GO (l:List It) (a b x:Int):DV:=
 if dY l a b≠0 then .tuple [.int .i64 0,.int .i64 (dY l a b)]
 else if bm x=false then .tuple [.int .i64 0,.int .i64 5]
 else .tuple [.int .i64 (cf l a.toNat b.toNat x),.int .i64 0]
theorem l7 {a b:Int} (h:dY l a b=0):bd l=0∧0≤a∧a≤b∧b≤l.length:=by
 unfold dY at h;split at h
 · omega
 · rename_i h1;refine⟨h,?_⟩;have:¬ (a<0∨b<a∨l.length<b):=fun h2=>h1 ⟨h,h2⟩;omega
theorem D1 (hv:Its st l v) (a b x:Int):(E tab).F 110 [v,.int .i64 a,.int .i64 b,.int .i64 x] st=some (GO l a b x,st):=by
 rw[au Oq rfl];have e0:=fun st'=>bH hv st';have e1:=rE (hv.inn [] []) a b;have e2:=fun st=>qO x st;unfold GO;by_cases h1:dY l a b=0
 · cases h2:bm x with
   | false=>simp[f110,e1,e2,h1,h2]
   | true=>
     obtain⟨h3,h4,h5,h6⟩:=l7 h1;obtain⟨hok,hlen⟩:=dQ h3;obtain⟨A,rfl⟩:=aaK h4;obtain⟨B,rfl⟩:=aaK (show 0≤b by omega);simp[bm] at h2;obtain⟨v',et,hv'⟩:=oC (hv.inn [] []) (by omega) A B (by omega) (by omega);have hv':=Vw.out hv';have hlt:=gJ l A B;have hok':okW ((l.drop A).take (aI l A B-A)):=fun y hy=>hok y (aao (aaz hy));have hlen':((l.drop A).take (aI l A B-A)).length≤8192:=by simp;omega
     have hg:=pV (a:=x) hok' (by omega);obtain⟨J,fr,hL⟩:=JX _ hv' hok' hlen' v (.int .i64 B) (.int .i64 x) [] _ [] [] x rfl (by omega) (by omega);have e3:=fun st'=>bH hv' st';unfold cf;simp only[abf];generalize hG:goI x ((l.drop A).take (aI l A B-A))=G at *;generalize ((l.drop A).take (aI l A B-A))=l' at *;simp at hL;by_cases hb:B<l.length
     · have hx:l[B]? = some l[B]:=aaa hb;have q1:=fun st'=>b4 hv hb .i64 st';have q2:=fun st'=>cF hv hx (off:=0) (by omega) st';have q3:=fun H K=>eY hv hx H K;have q4:=fun st'=>cF hv hx (off:=3) (by omega) st';have q5:=fun H K=>vJ hv hx H K;have hB:=hok _ (aar hb);by_cases k3:l[B].k=3
       · have ep:ia l B=l[B].w:=by simp[ia,hx,k3]
         have w1:IntKind.i64.wrap (G+l[B].w)=G+l[B].w:=ar (by omega);have w2:IntKind.i64.wrap (G+l[B].w-x)=G+l[B].w-x:=ar (by omega);simp[f110,e0,e1,e2,e3,h1,bm,h2,et,hL,hb,q1,q2,q3,q4,q5,k3,w1,w2,ep,hG]
       · have ep:ia l B=0:=by simp[ia,hx,k3]
         have w2:IntKind.i64.wrap (G-x)=G-x:=ar (by omega);simp[f110,e0,e1,e2,e3,h1,bm,h2,et,hL,hb,q1,q2,q3,k3,w2,ep,hG]
     · have ep:ia l B=0:=by simp[ia,hb]
       have w2:IntKind.i64.wrap (G-x)=G-x:=ar (by omega);simp[f110,e0,e1,e2,e3,h1,bm,h2,et,hL,hb,w2,ep,hG]
 · simp[f110,e1,h1]
end
theorem Nb:tab 353=some (.code wk):=by kernel_rfl
theorem O7:tab 342=some (.code Hg):=by kernel_rfl
theorem Md:tab 352=some (.code Bu):=by kernel_rfl
theorem Ra:tab 340=some (.code Bp):=by kernel_rfl
theorem QH:tab 241=some (.code f241):=by kernel_rfl
section
variable {st:St} {l:List It} {v:DV}
def kl (l:List It) (i:Nat):Bool:=
 i==l.length||(match l[i]? with | some x=>x.k==3||(x.k==2&&decide (0<i)&&(match l[i-1]? with | some y=>y.k != 2 | none=>false)) | none=>false)
theorem F2 (hv:Its st l v) (i:Nat) (hi:i≤l.length) (hl:l.length≤140737488355328):(E tab).F 353 [v,.int .i64 i] st=some (.bool (kl l i),st):=by
 have e0:=fun st'=>bH hv st';rw[au Nb rfl];unfold kl;by_cases h:i=l.length
 · simp[wk,e0,h]
 have h0:i<l.length:=by omega
 have hb:(i==l.length)=false:=by simp[h]
 have h':¬ (i:Int)=l.length:=by omega
 have hx:l[i]? = some l[i]:=aaa h0;have e1:=fun st'=>b4 hv h0 .i64 st';have e2:=fun st'=>cF hv hx (off:=0) (by omega) st';have e3:=fun H K=>eY hv hx H K;rw[hx,hb];generalize l[i]=x at *;by_cases k3:x.k=3
 · simp[wk,e0,h,h',e1,e2,e3,k3]
 by_cases k2:x.k=2
 · by_cases hp:0<i
   · have h1:i-1<l.length:=by omega
     have hy:l[i-1]? = some l[i-1]:=aaa h1;have q1:=fun st'=>b4 hv h1 .i64 st';have q2:=fun st'=>cF hv hy (off:=0) (by omega) st';have q3:=fun H K=>eY hv hy H K;have w:IntKind.i64.wrap ((i:Int)-1)=((i-1:Nat):Int):=by rw[ar (by omega)];omega
     rw[hy];generalize l[i-1]=y at *;simp[wk,e0,h,h',e1,e2,e3,k2,hp,w,q1,q2,q3]
   · simp[wk,e0,h,h',e1,e2,e3,k2,hp]
 · simp[wk,e0,h,h',e1,e2,e3,k3,k2]
theorem Ls (hv:Its st l v) (a:Nat) (hl:l.length≤140737488355328) (H:List HO) (K:List Nat):∀ b,b≤l.length→a≤b →
 ∃ fr,(E tab).C mS [(0,v),(1,.int .i64 a),(2,.int .i64 b)] (pst st H K)=some (.exit 0,[(0,v),(1,.int .i64 a),(2,.int .i64 (aI l a b:Nat))]++fr,pst st H K):=by
 intro b
 induction b with
 | zero=>
   intro hb ha;obtain rfl:a=0:=by omega
   refine⟨[(18,.bool false)],?_⟩;rw[af (L:=mS) rfl];simp[oT,aI]
 | succ b ih=>
   intro hb ha;by_cases hab:a≤b
   · have hw:IntKind.i64.wrap (((b+1:Nat):Int)-1)=b:=by rw[ar (by omega)];omega
     have hlt:(a:Int)<b+1:=by omega
     have hbl:b<l.length:=by omega
     have hx:l[b]? = some l[b]:=aaa hbl;have e1:=fun st'=>b4 hv hbl .i64 st';have e2:=fun st'=>cF hv hx (off:=0) (by omega) st';have e3:=fun H K=>eY hv hx H K;simp at hw;by_cases hk:l[b].k=2
     · obtain⟨fr,hJ⟩:=ih (by omega) hab;refine⟨fr,?_⟩;rw[af (L:=mS) rfl];have et:aI l a (b+1)=aI l a b:=by rw[aI,if_pos ⟨hab,by simp[hx,hk]⟩]
       rw[et];simp at hJ;simp[oT,hlt,hw,e1,e2,e3,hk,hJ]
     · have et:aI l a (b+1)=b+1:=by rw[aI,if_neg];rintro⟨_,h⟩;simp[hx] at h;exact hk h
       rw[et];refine⟨[(18,.bool false)],?_⟩;rw[af (L:=mS) rfl];simp[oT,hlt,hw,e1,e2,e3,hk]
   · obtain rfl:a=b+1:=by omega
     have et:aI l (b+1) (b+1)=b+1:=by rw[aI,if_neg];omega
     rw[et];refine⟨[(18,.bool false)],?_⟩;rw[af (L:=mS) rfl];simp[oT]
theorem zd (hv:Its st l v) (hl:l.length≤140737488355328) (a b:Nat) (hab:a≤b) (hb:b≤l.length):(E tab).F 342 [v,.int .i64 a,.int .i64 b] st=some (.int .i64 (aI l a b:Nat),st):=by
 rw[au O7 rfl];obtain⟨fr,hL⟩:=Ls hv a hl [] [] b hb hab;simp at hL;simp[Hg,hL]
theorem Ek (x:Int) (hx:0≤x∧x≤1000000000000) (st:St):(E tab).F 241 [.list 0 0 .no false [],.int .i64 x] st=some (.agg [.int .i64 (fM x),.int .i64 0],st):=by
 rw[au QH rfl]
 have hL:∀ (st:St) (p:DV),(E tab).C wO [(0,.list 0 0 .no false []),(1,.int .i64 x),(4,p),(5,.int .i64 0)] st=some (.exit 0,[(0,.list 0 0 .no false []),(1,.int .i64 x),(4,p),(5,.int .i64 0),(9,.bool false)],st):=by
  intro st p;rw[af (L:=wO) rfl];simp[DQ]
 have e1:IntKind.i64.wrap (x.tdiv 48)=x/48:=IntWalk.i64_quo _ _ (by omega);have e2:IntKind.i64.wrap (x/48+1)=x/48+1:=ar (by omega);have e3:IntKind.i64.wrap ((x/48+1)*48)=fM x:=ar (by omega);simp[f241,hL,e1,e2,e3]
theorem JZ (hv:Its st l v) (hok:okW l) (hl:l.length≤8192) (A B:Nat) (hAB:A≤B) (hB:B≤l.length) (y3:DV) (H:List HO) (K:List Nat):∀ (m i:Nat) (a:Int),i+m=aI l A B→A≤i→0≤a→a≤4095+2097152*i →
 ∃ fr,(E tab).C sL [(0,v),(1,.int .i64 A),(2,.int .i64 B),(3,y3),(9,.int .i64 a),(10,.int .i64 i)] (pst st H K) =
   some (.exit 0,[(0,v),(1,.int .i64 A),(2,.int .i64 B),(3,y3),(9,.int .i64 (goI a ((l.drop i).take m)))]++fr,pst st H K):=by
 have hT:=fun st' (h:Its st' l v)=>zd h (by omega) A B hAB hB;have hle:=gJ l A B;intro m
 induction m with
 | zero=>
   intro i a hi hA h1 h2;refine⟨[(10,.int .i64 i),(18,.bool false)],?_⟩;rw[af (L:=sL) rfl];have h0:¬ i<aI l A B:=by omega
   simp[mj,hT _ (hv.inn H K),h0,goI]
 | succ m ih=>
   intro i a hi hA h1 h2;have h0:i<aI l A B:=by omega
   have hil:i<l.length:=by omega
   have hx:l[i]? = some l[i]:=aaa hil;have hxm:=hok _ (aar hil);have hd:(l.drop i).take (m+1)=l[i]::(l.drop (i+1)).take m:=by rw[abl hil,List.take_succ_cons]
   rw[hd,goI];have hw1:IntKind.i64.wrap ((i:Int)+1)=(i+1:Nat):=by rw[ar (by omega)];simp
   have e1:=fun st'=>b4 hv hil .i64 st';have e2:=fun st'=>cF hv hx (off:=0) (by omega) st';have e3:=fun H K=>eY hv hx H K;have e4:=fun st'=>cF hv hx (off:=3) (by omega) st';have e5:=fun H K=>vJ hv hx H K;have hs:=lC hxm h1;obtain⟨fr,hJ⟩:=ih (i+1) (bX a l[i]) (by omega) (by omega) (by omega) (by omega);refine⟨fr,?_⟩;generalize l[i]=x at *;simp at hJ;rw[af (L:=sL) rfl];by_cases k1:x.k=1
   · have w1:IntKind.i64.wrap (a+x.w)=bX a x:=by rw[ar (by omega)];simp[bX,k1]
     simp[mj,hT _ (hv.inn H K),h0,e1,e2,e3,e4,e5,k1,hw1,w1,hJ]
   · by_cases k2:x.k=2
     · have w1:IntKind.i64.wrap (a+x.w)=bX a x:=by rw[ar (by omega)];simp[bX,k2]
       simp[mj,hT _ (hv.inn H K),h0,e1,e2,e3,e4,e5,k1,k2,hw1,w1,hJ]
     · by_cases k4:x.k=4
       · have w1:fM a=bX a x:=by simp[bX,k4]
         have e6:=fun st=>Ek a (by omega) st;rw[w1] at e6;simp[mj,hT _ (hv.inn H K),h0,e1,e2,e3,e6,k1,k2,k4,hw1,hJ]
       · have w1:bX a x=a:=by simp[bX,k1,k2,k4]
         rw[w1] at hJ;simp[mj,hT _ (hv.inn H K),h0,e1,e2,e3,k1,k2,k4,hw1,w1,hJ]
theorem xM (hv:Its st l v) (h:bd l=0) (A B:Nat) (hAB:A≤B) (hB:B≤l.length) (x:Int) (hx:0≤x∧x≤4095):(E tab).F 352 [v,.int .i64 A,.int .i64 B,.int .i64 x] st=some (.int .i64 (cf l A B x),st):=by
 obtain⟨hok,hlen⟩:=dQ h;have e0:=fun st'=>bH hv st';rw[au Md rfl];have t1:=lE l A B hAB;have t2:=gJ l A B;obtain⟨fr,hL⟩:=JZ hv hok hlen A B hAB hB (.int .i64 x) [] [] (aI l A B-A) A x (by omega) (aai _) hx.1 (by omega);have hok':okW ((l.drop A).take (aI l A B-A)):=fun y hy=>hok y (aao (aaz hy));have hlen':((l.drop A).take (aI l A B-A)).length≤8192:=by simp;omega
 have hg:=pV (a:=x) hok' (by omega);unfold cf;generalize goI x ((l.drop A).take (aI l A B-A))=G at *;simp at hL;by_cases hb:B<l.length
 · have hx:l[B]? = some l[B]:=aaa hb;have q1:=fun st'=>b4 hv hb .i64 st';have q2:=fun st'=>cF hv hx (off:=0) (by omega) st';have q3:=fun H K=>eY hv hx H K;have q4:=fun st'=>cF hv hx (off:=3) (by omega) st';have q5:=fun H K=>vJ hv hx H K;have hB:=hok _ (aar hb);by_cases k3:l[B].k=3
   · have ep:ia l B=l[B].w:=by simp[ia,hx,k3]
     have w1:IntKind.i64.wrap (G+l[B].w)=G+l[B].w:=ar (by omega);have w2:IntKind.i64.wrap (G+l[B].w-x)=G+l[B].w-x:=ar (by omega);simp[Bu,e0,hL,hb,q1,q2,q3,q4,q5,k3,w1,w2,ep]
   · have ep:ia l B=0:=by simp[ia,hx,k3]
     have w2:IntKind.i64.wrap (G-x)=G-x:=ar (by omega);simp[Bu,e0,hL,hb,q1,q2,q3,k3,w2,ep]
 · have ep:ia l B=0:=by simp[ia,hb]
   have w2:IntKind.i64.wrap (G-x)=G-x:=ar (by omega);simp[Bu,e0,hL,hb,w2,ep]
def br (l:List It):Nat→Nat→Nat
 | 0,i=>i
 | f+1,i=>match l[i]? with | some x=>if x.k=2 then br l f (i+1) else i | none=>i
def du (l:List It) (i:Nat):Nat:=br l l.length (match l[i]? with | some x=>if x.k=3 then i+1 else i | none=>i)
theorem wD (hv:Its st l v) (hl:l.length≤140737488355328) (H:List HO) (K:List Nat):∀ (f i:Nat),l.length≤i+f→i≤l.length →
 ∃ fr,(E tab).C js [(0,v),(1,.int .i64 i)] (pst st H K)=some (.exit 0,[(0,v),(1,.int .i64 (br l f i:Nat))]++fr,pst st H K):=by
 have e0:=fun st'=>bH hv st';intro f
 induction f with
 | zero=>
   intro i h1 h2;obtain rfl:i=l.length:=by omega
   refine⟨[(30,.bool false)],?_⟩;rw[af (L:=js) rfl];simp[pd,e0,br]
 | succ f ih=>
   intro i h1 h2;by_cases h0:i<l.length
   · have hx:l[i]? = some l[i]:=aaa h0;have e1:=fun st'=>b4 hv h0 .i64 st';have e2:=fun st'=>cF hv hx (off:=0) (by omega) st';have e3:=fun H K=>eY hv hx H K;have hw1:IntKind.i64.wrap ((i:Int)+1)=(i+1:Nat):=by rw[ar (by omega)];simp
     by_cases hk:l[i].k=2
     · have eg:br l (f+1) i=br l f (i+1):=by simp[br,hx,hk]
       obtain⟨fr,hJ⟩:=ih (i+1) (by omega) (by omega);rw[eg];refine⟨fr,?_⟩;simp at hJ;rw[af (L:=js) rfl];simp[pd,e0,h0,e1,e2,e3,hk,hw1,hJ]
     · have eg:br l (f+1) i=i:=by simp[br,hx,hk]
       rw[eg];refine⟨[(30,.bool false)],?_⟩;rw[af (L:=js) rfl];simp[pd,e0,h0,e1,e2,e3,hk]
   · have eg:br l (f+1) i=i:=by simp[br,h0]
     have h0':¬ (i:Int)<l.length:=by omega
     rw[eg];refine⟨[(30,.bool false)],?_⟩;rw[af (L:=js) rfl];simp[pd,e0,h0,h0']
theorem DA (x y z:DV) (st:St):(E tab).C js [(0,x),(1,y),(16,z)] st=(E tab).C js [(0,x),(1,y)] st:=by
 unfold js;rw[jW];rfl
theorem FJ (hv:Its st l v) (hl:l.length≤140737488355328) (i:Nat) (hi:i≤l.length):(E tab).F 340 [v,.int .i64 i] st=some (.int .i64 (du l i:Nat),st):=by
 have e0:=fun st'=>bH hv st';rw[au Ra rfl];unfold du;by_cases h0:i<l.length
 · have hx:l[i]? = some l[i]:=aaa h0;have e1:=fun st'=>b4 hv h0 .i64 st';have e2:=fun st'=>cF hv hx (off:=0) (by omega) st';have e3:=fun H K=>eY hv hx H K;have hw1:IntKind.i64.wrap ((i:Int)+1)=(i+1:Nat):=by rw[ar (by omega)];simp
   rw[hx];by_cases hk:l[i].k=3
   · obtain⟨fr,hL⟩:=wD hv hl [] [] l.length (i+1) (by omega) (by omega);simp at hL;simp[Bp,e0,h0,e1,e2,e3,hk,hw1,hL]
   · obtain⟨fr,hL⟩:=wD hv hl [] [] l.length i (by omega) hi;simp at hL;simp[Bp,e0,h0,e1,e2,e3,hk,DA,hL]
 · obtain⟨fr,hL⟩:=wD hv hl [] [] l.length i (by omega) hi;simp at hL;simp[Bp,e0,h0,DA,hL]
end
theorem Qi:tab 106=some (.code f106):=by kernel_rfl
theorem OT:tab 117=some (.code f117):=by kernel_rfl
theorem Pm:tab 118=some (.code f118):=by kernel_rfl
theorem IT:tab 131=some (.code f131):=by kernel_rfl
theorem MB:tab 132=some (.code f132):=by kernel_rfl
theorem Qc:tab 133=some (.code f133):=by kernel_rfl
theorem Of:tab 134=some (.code f134):=by kernel_rfl
theorem OV:tab 135=some (.code f135):=by kernel_rfl
theorem Qj:tab 136=some (.code f136):=by kernel_rfl
theorem Pa:tab 137=some (.code f137):=by kernel_rfl
theorem PB:tab 138=some (.code f138):=by kernel_rfl
theorem Nj:tab 238=some (.code f238):=by kernel_rfl
theorem Qk:tab 258=some (.code f258):=by kernel_rfl
theorem NV:tab 259=some (.code f259):=by kernel_rfl
theorem Nn:tab 260=some (.code f260):=by kernel_rfl
theorem OL:tab 261=some (.code f261):=by kernel_rfl
theorem M6:tab 262=some (.code f262):=by kernel_rfl
theorem Qg:tab 263=some (.code f263):=by kernel_rfl
theorem NX:tab 264=some (.code f264):=by kernel_rfl
theorem MA:tab 274=some (.code f274):=by kernel_rfl
def mz:ab:=⟨0,0,0,0,0,0⟩
def iZ (m:ab):Bool:=m.k != 3&&(m.k != 4&&m.k != 5)
def hyW (s:Int):Int:=wd 45 s
def cU (L:List ab) (fr to:Nat):It:=⟨1,(L.getD fr mz).a,(L.getD (to-1) mz).b,ff true 0 ((L.drop fr).take (to-fr)),0,0,0,false⟩
def fO (m:ab):It:=if m.k=3 then ⟨2,m.a,m.b,m.w,m.w/2,m.w/3,0,false⟩ else if m.k=4 then ⟨4,m.a,m.b,0,0,0,0,false⟩ else ⟨3,m.a,m.b,hyW m.s,0,0,50,true⟩
def dT (s:List UInt8) (m:ab):Bool:=m.k==2&&bAt s m.a.toNat==45
def qw (m:ab):It:=⟨3,m.a,m.a,hyW m.s,0,0,100,true⟩
def qA (m:ab):It:=⟨3,m.a,m.a,0,0,0,50,false⟩
def aN (s:List UInt8) (L:List ab) (pl:List Bool):Nat→Nat→Nat→List ab→List It
 | k,run,fr,[]=>if fr<k then [cU L fr k] else []
 | k,run,fr,m::r=>
   if iZ m=false then (if fr<k then [cU L fr k] else [])++fO m::aN s L pl (k+1) (k+1) (k+1) r
   else if k=fr then aN s L pl (k+1) run fr r
   else if pl.getD k false=true then cU L fr k::qw m::aN s L pl (k+1) run k r
   else if (dT s (L.getD (k-1) mz) && !dT s m&&decide (run<k-1))=true then cU L fr k::qA m::aN s L pl (k+1) run k r
   else aN s L pl (k+1) run fr r
structure MOk (s:List UInt8) (L:List ab):Prop where
 len:L.length≤4096
 ok:L.all okM=true
 at_:∀ m∈L,0≤m.a∧m.a<s.length
 sz:∀ m∈L,1≤m.s∧m.s≤64
theorem yr {m:ab} (h:okM m=true):0≤m.w∧m.w≤4095:=by
 simp only[okM,decide_eq_true_eq] at h;omega
section
variable {st:St}
theorem D9 (m:ab):(E tab).F 136 [m.dv] st=some (.bool (iZ m),st):=by
 rw[au Qj rfl];by_cases h1:m.k=3
 · simp[f136,iZ,ab.cs,h1]
 by_cases h2:m.k=4
 · simp[f136,iZ,ab.cs,h2]
 by_cases h3:m.k=5
 · simp[f136,iZ,ab.cs,h3]
 · have b1:(m.k != 3)=true:=by simp[h1]
   have b2:(m.k != 4)=true:=by simp[h2]
   simp[f136,iZ,ab.cs,h1,h2,b1,b2]
theorem Kq (m:ab):(E tab).F 261 [m.dv] st=some (.bool (iZ m),st):=by
 rw[au OL rfl];by_cases h1:m.k=3
 · simp[f261,iZ,ab.cs,h1]
 by_cases h2:m.k=4
 · simp[f261,iZ,ab.cs,h2]
 by_cases h3:m.k=5
 · simp[f261,iZ,ab.cs,h3]
 · have b1:(m.k != 3)=true:=by simp[h1]
   have b2:(m.k != 4)=true:=by simp[h2]
   simp[f261,iZ,ab.cs,h1,h2,b1,b2]
theorem qL {n:Int} (hn:1≤n∧n≤64):(E tab).F 138 [.int .i64 n] st=some (.int .i64 (hyW n),st):=by
 rw[au PB rfl];have hb:=pS 45 hn.1 hn.2
 have h:∀ st,(E tab).F 17 [.str [45],.int .i64 n] st=some (.tuple [.int .i64 (hyW n),.int .i64 0],st):=by
  intro st;rw[r9];have hw:IntKind.i64.wrap (wd 45 n)=wd 45 n:=ar (by omega);simp only[fj,if_pos hn];simp[tw,hw,hyW]
 simp[f138,h]
theorem wm (n:Int):(E tab).F 37 [.int .u8 45,.int .i64 n] st=some (.int .i64 (hyW n),st):=by
 have:=iB 45 n st;exact this
theorem F4 (m:ab) (hm:okM m=true) (hs:1≤m.s∧m.s≤64):(E tab).F 137 [m.dv] st=some ((fO m).dv,st):=by
 rw[au Pa rfl];have hw:=yr hm;have h2:IntKind.i64.wrap (m.w.tdiv 2)=m.w/2:=by rw[aau hw.1,ar (by omega)]
 have h3:IntKind.i64.wrap (m.w.tdiv 3)=m.w/3:=by rw[aau hw.1,ar (by omega)]
 have hh:=fun st=>qL (st:=st) hs;by_cases k3:m.k=3
 · simp[f137,fO,It.dv,It.cs,ab.cs,k3,h2,h3]
 by_cases k4:m.k=4
 · simp[f137,fO,It.dv,It.cs,ab.cs,k4]
 · simp[f137,fO,It.dv,It.cs,ab.cs,k3,k4,hh]
theorem GL (m:ab) (hm:okM m=true):(E tab).F 264 [m.dv] st=some ((fO m).dv,st):=by
 rw[au NX rfl];have hw:=yr hm;have h2:IntKind.i64.wrap (m.w.tdiv 2)=m.w/2:=by rw[aau hw.1,ar (by omega)]
 have h3:IntKind.i64.wrap (m.w.tdiv 3)=m.w/3:=by rw[aau hw.1,ar (by omega)]
 have hh:=fun st=>wm (st:=st) m.s;by_cases k3:m.k=3
 · simp[f264,fO,It.dv,It.cs,ab.cs,k3,h2,h3]
 by_cases k4:m.k=4
 · simp[f264,fO,It.dv,It.cs,ab.cs,k4]
 · simp[f264,fO,It.dv,It.cs,ab.cs,k3,k4,hh]
theorem getM {L:List ab} {i:Nat} (h:i<L.length):L[i]? = some (L.getD i mz):=by rw[aak,aaa h];rfl
theorem ib {L:List ab} {i:Nat} (h:i<L.length):(L.map ab.dv)[i]? = some (L.getD i mz).dv:=by rw[abe,getM h];rfl
theorem JV {s:List UInt8} {L:List ab} (hL:MOk s L) {t n:Nat} {tk:Tk} {nn:Bool} (h6:L≠[]→n=6) (h7:nn=true→n=6) {fr to:Nat} (h1:fr<to) (h2:to≤L.length):(E tab).F 135 [.list t n tk nn (L.map ab.dv),.int .i64 fr,.int .i64 to] st=some ((cU L fr to).dv,st):=by
 rw[au OV rfl];have hn:=fun st=>Bz L fr to t n tk nn h6 h7 st;rw[Ib hL.len hL.ok fr to (by omega) h2] at hn;obtain rfl:=h6 (by intro e;simp[e] at h2;omega);have hw1:IntKind.i64.wrap ((to:Int)-1)=((to-1:Nat):Int):=by have:=hL.len;rw[ar (by omega)];omega
 have g1:=ib (L:=L) (i:=fr) (by omega);have g2:=ib (L:=L) (i:=to-1) (by omega);have l1:fr<(L.map ab.dv).length:=by simp;omega
 have l2:to-1<(L.map ab.dv).length:=by simp;omega
 generalize L.map ab.dv=V at *;have g1':V[fr]'l1=(L.getD fr mz).dv:=by rw[aaa l1] at g1;exact aab.inj g1
 have g2':V[to-1]'l2=(L.getD (to-1) mz).dv:=by rw[aaa l2] at g2;exact aab.inj g2
 simp only[cU];generalize L.getD fr mz=a at *;generalize L.getD (to-1) mz=b at *;generalize ff true 0 ((L.drop fr).take (to-fr))=rg at *;simp[f135,It.dv,It.cs,hn,g1,g2,g1',g2',l1,l2,hw1,ab.dv,ab.cs]
theorem xj {s:List UInt8} {L:List ab} (hL:MOk s L) {t n:Nat} {tk:Tk} {nn:Bool} (h6:L≠[]→n=6) {fr to:Nat} (h1:fr<to) (h2:to≤L.length):(E tab).F 263 [.list t n tk nn (L.map ab.dv),.int .i64 fr,.int .i64 to] st=some ((cU L fr to).dv,st):=by
 rw[au Qg rfl];have hn:=fun st=>Rr L hL.len hL.ok fr to (by omega) h2 t n tk nn h6 st;obtain rfl:=h6 (by intro e;simp[e] at h2;omega);have hw1:IntKind.i64.wrap ((to:Int)-1)=((to-1:Nat):Int):=by have:=hL.len;rw[ar (by omega)];omega
 have g1:=ib (L:=L) (i:=fr) (by omega);have g2:=ib (L:=L) (i:=to-1) (by omega);have l1:fr<(L.map ab.dv).length:=by simp;omega
 have l2:to-1<(L.map ab.dv).length:=by simp;omega
 generalize L.map ab.dv=V at *;have g1':V[fr]'l1=(L.getD fr mz).dv:=by rw[aaa l1] at g1;exact aab.inj g1
 have g2':V[to-1]'l2=(L.getD (to-1) mz).dv:=by rw[aaa l2] at g2;exact aab.inj g2
 simp only[cU];generalize L.getD fr mz=a at *;generalize L.getD (to-1) mz=b at *;generalize ff true 0 ((L.drop fr).take (to-fr))=rg at *;simp[f263,It.dv,It.cs,hn,g1,g2,g1',g2',l1,l2,hw1,ab.dv,ab.cs]
end
def loI (st:St) (s:Nat):HO:=.loop (jS [(6,.ptr (st.heap.length+1) 0),(18,.fn 131 [] [.ptr (st.heap.length+2) 0,.ptr (st.heap.length+3) 0])] [19] (.region sR [6,7]) (.block 1 (.region sr [])) s none)
def HI (st:St) (P0 P1:List DV) (ov lv:DV) (fr s:Nat) (J:List HO):List HO:=
 .cells .plain P0::.cells .plain [ov]::.cells .plain P1::.cells .plain [lv]::loI st s::.cells .plain [.yield (st.heap.length+4)]::.cells .plain [.int .i64 fr]::J
section
variable {st:St} {P0 P1:List DV} {lv:DV} {J:List HO} {K:List Nat}
theorem wF {xs:List It} {ov:DV} {fr:Nat} (x:It) (hx:xs.length≤100000) (hA:Acc st K 8 (xs.map It.dv) ov) :
 ∃ ov' K',(E tab).V (.yield (st.heap.length+4)) [x.dv] (pst st (HI st P0 P1 ov lv fr 0 J) K)=some (.bool true,pst st (HI st P0 P1 ov' lv fr 0 (J++[.cells .plain x.cs])) K')∧Acc st K' 8 ((xs++[x]).map It.dv) ov':=by
 obtain⟨v2,K2,e2,hA2⟩:=dZ (H:=HI st P0 P1 ov lv fr 1 (J++[.cells .plain x.cs])) (t:=st.cur) (by_:=64) (ag:=true) (tk:=.tight) (ys:=[x.dv]) hA (by omega) (by simp) (by simp[C1]) (by simp[aD];omega) (by simp[aD];omega);refine⟨v2,K2,?_,by simpa using hA2⟩
 have hA1:(E tab).C (.region sR [6,7]) (c6 [(6,.ptr (st.heap.length+1) 0),(18,.fn 131 [] [.ptr (st.heap.length+2) 0,.ptr (st.heap.length+3) 0])] [19] [x.dv]) (pst st (HI st P0 P1 ov lv fr 0 J) K) =
  some (.normal,[(6,.ptr (st.heap.length+1) 0),(7,.ptr (st.heap.length+(J.length+7)) 0)],pst st (HI st P0 P1 ov lv fr 0 (J++[.cells .plain x.cs])) K):=by
  simp[HI,It.dv,It.cs]
 have hB:(E tab).C (.block 1 (.region sr [])) [(6,.ptr (st.heap.length+1) 0),(7,.ptr (st.heap.length+(J.length+7)) 0)] (pst st ((HI st P0 P1 ov lv fr 0 (J++[.cells .plain x.cs])).set 4 (loI st 1)) K) =
  some (.normal,[],pst st (HI st P0 P1 v2 lv fr 1 (J++[.cells .plain x.cs])) K2):=by
  obtain⟨t',n',tk',nn',rfl⟩:=dM hA2;simp[HI,It.dv,It.cs] at e2 ⊢;simp[aw,aK,chunk,e2]
 exact B5 (T:=tab) (k:=4) (H:=HI st P0 P1 ov lv fr 0 J) rfl rfl hA1 rfl ⟨_,hB⟩ rfl
theorem G8 {L:List ab} {p:bh} {w u:LW} (hL:MOk p.text L) {t n:Nat} {tk:Tk} {nn:Bool} (h6:L≠[]→n=6) {ov:DV} {fr s k:Nat} (hk:k<L.length) :
 (E tab).F 133 [.int .i64 k,.ptr (st.heap.length+3) 0,.ptr (st.heap.length+2) 0] (pst st (HI st P0 (ah p w u) ov (.list t n tk nn (L.map ab.dv)) fr s J) K)=some (.bool (dT p.text (L.getD k mz)),pst st (HI st P0 (ah p w u) ov (.list t n tk nn (L.map ab.dv)) fr s J) K):=by
 rw[fq Qc rfl];obtain rfl:=h6 (by intro e;simp[e] at hk);have g1:=ib (L:=L) hk;have l1:k<(L.map ab.dv).length:=by simpa using hk
 have hm:=hL.at_ _ (aaB (getM hk));generalize L.map ab.dv=V at *;have g1':V[k]'l1=(L.getD k mz).dv:=by rw[aaa l1] at g1;exact aab.inj g1
 generalize L.getD k mz=m at *;have hb:p.text[m.a.toNat]? = some (bAt p.text m.a.toNat):=pR (by omega);have hlt:m.a.toNat<p.text.length:=by omega
 have hge:p.text[m.a.toNat]'hlt=bAt p.text m.a.toNat:=by rw[aaa hlt] at hb;exact aab.inj hb
 by_cases h2:m.k=2
 · by_cases h45:bAt p.text m.a.toNat=45
   · simp[f133,HI,g1,g1',l1,ab.dv,ab.cs,h2,hb,hge,hlt,hm.1,h45,dT]
   · have h45':(((bAt p.text m.a.toNat).toNat:Int)==45)=(bAt p.text m.a.toNat==45):=z0 _ 45;simp[f133,HI,g1,g1',l1,ab.dv,ab.cs,h2,hb,hge,hlt,hm.1,h45',dT]
 · simp[f133,HI,g1,g1',l1,ab.dv,ab.cs,h2,dT]
theorem Ag {L:List ab} {s:List UInt8} (hL:MOk s L) {t n:Nat} {tk:Tk} {nn:Bool} (h6:L≠[]→n=6) (h7:nn=true→n=6) {xs:List It} {ov:DV} {fr k:Nat} (hk:k≤L.length) (hx:xs.length≤100000) (hA:Acc st K 8 (xs.map It.dv) ov) :
 ∃ ov' J' K',(E tab).F 134 [.int .i64 k,.ptr (st.heap.length+6) 0,.ptr (st.heap.length+5) 0,.ptr (st.heap.length+3) 0] (pst st (HI st P0 P1 ov (.list t n tk nn (L.map ab.dv)) fr 0 J) K) =
   some (.bool true,pst st (HI st P0 P1 ov' (.list t n tk nn (L.map ab.dv)) fr 0 (J++J')) K')∧Acc st K' 8 ((xs++if fr<k then [cU L fr k] else []).map It.dv) ov':=by
 rw[fq Of rfl];by_cases h:fr<k
 · have h':¬ (k:Int)≤fr:=by omega
   obtain⟨ov',K',hy,hA'⟩:=wF (P0:=P0) (P1:=P1) (lv:=.list t n tk nn (L.map ab.dv)) (J:=J) (fr:=fr) (cU L fr k) hx hA;have hb:=fun st=>JV (st:=st) hL (t:=t) (n:=n) (tk:=tk) h6 h7 h hk;refine⟨ov',[.cells .plain (cU L fr k).cs],K',?_,by simpa[h] using hA'⟩;generalize cU L fr k=x at *;generalize L.map ab.dv=V at *;simp[HI] at hy;have h'':¬ k≤fr:=by omega
   simp[f134,HI,h',h'',hb,hy]
 · have h':(k:Int)≤fr:=by omega
   have h'':k≤fr:=by omega
   refine⟨ov,[],K,?_,by simpa[h] using hA⟩;generalize L.map ab.dv=V at *;simp[f134,HI,h',h'']
end
def plV (t:Nat) (tk:Tk) (pl:List Bool):DV:=.list t 1 tk true (pl.map DV.bool)
section
variable {st:St} {P0:List DV}
theorem La {L:List ab} {p:bh} {w u:LW} (hL:MOk p.text L) {t n:Nat} {tk:Tk} {nn:Bool} (h6:L≠[]→n=6) (h7:nn=true→n=6) {pl:List Bool} (hpl:pl.length=L.length+1) {t2:Nat} {tk2:Tk} :
 ∀ (r d:List ab) (run fr:Nat) (J:List HO) (K:List Nat) (xs:List It) (ov:DV),L=d++r→fr≤d.length→run≤d.length→xs.length≤3*d.length→Acc st K 8 (xs.map It.dv) ov →
 ∃ (ov':DV) (fr':Nat) (J':List HO) (K':List Nat) (X:List It) (y6:DV) (tl:Fr),
   (E tab).C gF [(2,.ptr (st.heap.length+3) 0),(3,.ptr (st.heap.length+5) 0),(4,plV t2 tk2 pl),(5,.fn 133 [] [.ptr (st.heap.length+3) 0,.ptr (st.heap.length+2) 0]),(6,.int .i64 run),(7,.ptr (st.heap.length+6) 0),(8,.fn 134 [] [.ptr (st.heap.length+6) 0,.ptr (st.heap.length+5) 0,.ptr (st.heap.length+3) 0]),(17,.list t n tk nn (L.map ab.dv)),(18,.int .i64 L.length),(19,.int .i64 d.length)]
    (pst st (HI st P0 (ah p w u) ov (.list t n tk nn (L.map ab.dv)) fr 0 J) K) =
   some (.exit 0,[(2,.ptr (st.heap.length+3) 0),(3,.ptr (st.heap.length+5) 0),(4,plV t2 tk2 pl),(5,.fn 133 [] [.ptr (st.heap.length+3) 0,.ptr (st.heap.length+2) 0]),(6,y6),(7,.ptr (st.heap.length+6) 0),(8,.fn 134 [] [.ptr (st.heap.length+6) 0,.ptr (st.heap.length+5) 0,.ptr (st.heap.length+3) 0])]++tl,
    pst st (HI st P0 (ah p w u) ov' (.list t n tk nn (L.map ab.dv)) fr' 0 J') K')∧Acc st K' 8 ((xs++X).map It.dv) ov'∧(xs++X).length≤3*L.length∧aN p.text L pl d.length run fr r=X++(if fr'<L.length then [cU L fr' L.length] else []):=by
 have hlen:=hL.len;intro r
 induction r with
 | nil=>
   intro d run fr J K xs ov hd hf hr hx hA;obtain rfl:L=d:=by simpa using hd
   refine⟨ov,fr,J,K,[],.int .i64 run,[(17,.list t n tk nn (L.map ab.dv)),(18,.int .i64 L.length),(19,.int .i64 L.length),(20,.bool false)],?_,by simpa using hA,by simpa using hx,by simp[aN]⟩;generalize L.map ab.dv=V at *;rw[af (L:=gF) rfl];simp[jg]
 | cons m r ih=>
   intro d run fr J K xs ov hd hf hr hx hA;have h0:d.length<L.length:=by simp[hd]
   have hmem:m∈L:=by simp[hd]
   have hok:=aaf.1 hL.ok m hmem;have hsz:=hL.sz m hmem;have hgm:L.getD d.length mz=m:=by simp[hd]
   have hw1:IntKind.i64.wrap ((d.length:Int)+1)=(d.length:Int)+1:=by rw[ar (by omega)]
   have hwm:IntKind.i64.wrap ((d.length:Int)-1)=(d.length:Int)-1:=by rw[ar (by omega)]
   obtain rfl:=h6 (by intro e;simp[e] at h0);have g1:=ib (L:=L) h0;rw[hgm] at g1;have l1:d.length<(L.map ab.dv).length:=by simpa using h0
   have hbx:=fun st=>D9 (st:=st) m;have hln:=fun st=>F4 (st:=st) m hok hsz;have hhy:=fun st=>qL (st:=st) hsz;have hsh:=fun (J:List HO)=>Ag (st:=st) (P0:=P0) (P1:=ah p w u) (J:=J) (K:=K) (t:=t) (n:=6) (tk:=tk) (nn:=nn) hL (fun _=>rfl) (fun _=>rfl) (k:=d.length) (fr:=fr) (by omega) (by omega) hA;have hds:=fun (J:List HO) (k:Nat) (hk:k<L.length)=>G8 (st:=st) (P0:=P0) (w:=w) (u:=u) (J:=J) (K:=K) (ov:=ov) (fr:=fr) (s:=0) (t:=t) (n:=6) (tk:=tk) (nn:=nn) hL (fun _=>rfl) (k:=k) hk
   have hpd:(pl.map DV.bool)[d.length]? = some (.bool (pl.getD d.length false)):=by
    rw[abe,aaa (show d.length<pl.length by omega),aak,aaa (show d.length<pl.length by omega)];rfl
   have lpd:d.length<(pl.map DV.bool).length:=by simp;omega
   cases hb:iZ m with
   | false=>
     obtain⟨ov1,J1,K1,hS,hA1⟩:=hsh (J++[.cells .plain m.cs]);have hxl:(xs++if fr<d.length then [cU L fr d.length] else []).length≤3*d.length+1:=by split<;>simp<;>omega
     obtain⟨ov2,K2,hY,hA2⟩:=wF (st:=st) (P0:=P0) (P1:=ah p w u) (lv:=.list t 6 tk nn (L.map ab.dv)) (J:=(J++[.cells .plain m.cs])++J1) (fr:=fr) (fO m) (by omega) hA1
     obtain⟨ov',fr',J',K',X,y6,tl,hJ,a1,a2,a3⟩:=ih (d++[m]) (d.length+1) (d.length+1) (((J++[.cells .plain m.cs])++J1)++[.cells .plain (fO m).cs]) K2 ((xs++if fr<d.length then [cU L fr d.length] else [])++[fO m]) ov2 (by simp[hd]) (by simp) (by simp) (by
      rw[aah];simp only[aah,aam] at hxl ⊢;omega) hA2
     refine⟨ov',fr',J',K',(if fr<d.length then [cU L fr d.length] else [])++fO m::X,y6,tl,?_,by simpa using a1,by simpa using a2,?_⟩
     · generalize L.map ab.dv=V at *;have g1':V[d.length]'l1=m.dv:=by rw[aaa l1] at g1;exact aab.inj g1
       rw[hb] at hbx;simp only[HI,aas,aaF,aaX] at hS hY hJ ⊢;simp only[ab.dv,ab.cs] at hbx hln hS hY hJ g1';simp at hS hY hJ;rw[af (L:=gF) rfl];simp[jg,h0,g1,g1',l1,hbx,hln,hS,hY,dE,hw1,hJ,ab.dv,ab.cs]
     · simp only[aah,aam] at a3;simp only[aN,hb,if_true,a3,aas,aaF]
   | true=>
     by_cases hkf:fr=d.length
     · obtain⟨ov',fr',J',K',X,y6,tl,hJ,a1,a2,a3⟩:=ih (d++[m]) run fr (J++[.cells .plain m.cs]) K xs ov (by simp[hd]) (by simp;omega) (by simp;omega) (by simp;omega) hA;refine⟨ov',fr',J',K',X,y6,tl,?_,a1,a2,?_⟩
       · generalize L.map ab.dv=V at *;have g1':V[d.length]'l1=m.dv:=by rw[aaa l1] at g1;exact aab.inj g1
         rw[hb] at hbx;subst hkf;simp only[HI,aas,aaF,aaX] at hJ ⊢;simp only[ab.dv,ab.cs] at hbx hJ g1';simp at hJ;rw[af (L:=gF) rfl];simp[jg,h0,g1,g1',l1,hbx,hw1,hJ,ab.dv,ab.cs]
       · simp only[aah,aam] at a3;simp only[aN,hb,hkf,if_true,abd,if_false];rw[← hkf] at a3 ⊢;rw[← a3,hkf]
     · have hkf':¬ (d.length:Int)=fr:=by omega
       have hkf2:¬ d.length=fr:=by omega
       have hfl:fr<d.length:=by omega
       have hif:(if fr<d.length then [cU L fr d.length] else [])=[cU L fr d.length]:=if_pos hfl;rw[hif] at hsh
       have fin:∀ q:It,(aN p.text L pl d.length run fr (m::r)=cU L fr d.length::q::aN p.text L pl (d.length+1) run d.length r) →
        ∃ (ov':DV) (fr':Nat) (J':List HO) (K':List Nat) (X:List It) (y6:DV) (tl:Fr) (ov1 ov2:DV) (J1:List HO) (K1 K2:List Nat),
        (E tab).F 134 [.int .i64 d.length,.ptr (st.heap.length+6) 0,.ptr (st.heap.length+5) 0,.ptr (st.heap.length+3) 0] (pst st (HI st P0 (ah p w u) ov (.list t 6 tk nn (L.map ab.dv)) fr 0 (J++[.cells .plain m.cs,.cells .plain q.cs])) K) =
         some (.bool true,pst st (HI st P0 (ah p w u) ov1 (.list t 6 tk nn (L.map ab.dv)) fr 0 ((J++[.cells .plain m.cs,.cells .plain q.cs])++J1)) K1) ∧
        (E tab).V (.yield (st.heap.length+4)) [q.dv] (pst st (HI st P0 (ah p w u) ov1 (.list t 6 tk nn (L.map ab.dv)) fr 0 ((J++[.cells .plain m.cs,.cells .plain q.cs])++J1)) K1) =
         some (.bool true,pst st (HI st P0 (ah p w u) ov2 (.list t 6 tk nn (L.map ab.dv)) fr 0 (((J++[.cells .plain m.cs,.cells .plain q.cs])++J1)++[.cells .plain q.cs])) K2) ∧
        (E tab).C gF [(2,.ptr (st.heap.length+3) 0),(3,.ptr (st.heap.length+5) 0),(4,plV t2 tk2 pl),(5,.fn 133 [] [.ptr (st.heap.length+3) 0,.ptr (st.heap.length+2) 0]),(6,.int .i64 run),(7,.ptr (st.heap.length+6) 0),(8,.fn 134 [] [.ptr (st.heap.length+6) 0,.ptr (st.heap.length+5) 0,.ptr (st.heap.length+3) 0]),(17,.list t 6 tk nn (L.map ab.dv)),(18,.int .i64 L.length),(19,.int .i64 (d.length+1:Nat))]
         (pst st (HI st P0 (ah p w u) ov2 (.list t 6 tk nn (L.map ab.dv)) d.length 0 (((J++[.cells .plain m.cs,.cells .plain q.cs])++J1)++[.cells .plain q.cs])) K2) =
        some (.exit 0,[(2,.ptr (st.heap.length+3) 0),(3,.ptr (st.heap.length+5) 0),(4,plV t2 tk2 pl),(5,.fn 133 [] [.ptr (st.heap.length+3) 0,.ptr (st.heap.length+2) 0]),(6,y6),(7,.ptr (st.heap.length+6) 0),(8,.fn 134 [] [.ptr (st.heap.length+6) 0,.ptr (st.heap.length+5) 0,.ptr (st.heap.length+3) 0])]++tl,
         pst st (HI st P0 (ah p w u) ov' (.list t 6 tk nn (L.map ab.dv)) fr' 0 J') K')∧Acc st K' 8 ((xs++X).map It.dv) ov'∧(xs++X).length≤3*L.length∧aN p.text L pl d.length run fr (m::r)=X++(if fr'<L.length then [cU L fr' L.length] else []):=by
        intro q hq;obtain⟨ov1,J1,K1,hS,hA1⟩:=hsh (J++[.cells .plain m.cs,.cells .plain q.cs]);obtain⟨ov2,K2,hY,hA2⟩:=wF (st:=st) (P0:=P0) (P1:=ah p w u) (lv:=.list t 6 tk nn (L.map ab.dv)) (J:=(J++[.cells .plain m.cs,.cells .plain q.cs])++J1) (fr:=fr) q (by simp;omega) hA1;obtain⟨ov',fr',J',K',X,y6,tl,hJ,a1,a2,a3⟩:=ih (d++[m]) run d.length (((J++[.cells .plain m.cs,.cells .plain q.cs])++J1)++[.cells .plain q.cs]) K2 ((xs++[cU L fr d.length])++[q]) ov2 (by simp[hd]) (by simp) (by simp;omega) (by simp;omega) hA2;simp only[aah,aam] at hJ a3;refine⟨ov',fr',J',K',cU L fr d.length::q::X,y6,tl,ov1,ov2,J1,K1,K2,hS,hY,hJ,by simpa using a1,by simpa using a2,?_⟩;rw[hq,a3];rfl
       cases hp:pl.getD d.length false with
       | true=>
         have hq:aN p.text L pl d.length run fr (m::r)=cU L fr d.length::qw m::aN p.text L pl (d.length+1) run d.length r:=by
          simp only[aN,hb,hkf2,hp,if_false,if_true,abd]
         obtain⟨ov',fr',J',K',X,y6,tl,ov1,ov2,J1,K1,K2,hS,hY,hJ,a1,a2,a3⟩:=fin (qw m) hq;refine⟨ov',fr',J',K',X,y6,tl,?_,a1,a2,a3⟩;rw[hp] at hpd;generalize L.map ab.dv=V at *;have g1':V[d.length]'l1=m.dv:=by rw[aaa l1] at g1;exact aab.inj g1
         simp only[plV] at hJ ⊢;generalize pl.map DV.bool=PL at *;have p1':PL[d.length]'lpd=.bool true:=by rw[aaa lpd] at hpd;exact aab.inj hpd
         rw[hb] at hbx;simp only[HI,aas,aaF,aaX] at hS hY hJ ⊢;simp only[ab.dv,ab.cs,qw,It.dv,It.cs] at hbx hS hY hJ g1';simp at hS hY hJ;rw[af (L:=gF) rfl];simp[jg,h0,g1,g1',l1,hbx,hkf',hkf2,hpd,p1',lpd,hhy,hS,hY,dE,hw1,hJ,ab.dv,ab.cs]
       | false=>
         have hd1:=hds (J++[.cells .plain m.cs,.cells .plain [.int .i64 3,.int .i64 m.a,.int .i64 m.a,.int .i64 0,.int .i64 0,.int .i64 0,.int .i64 0,.bool false]]) (d.length-1) (by omega);have hd2:=hds (J++[.cells .plain m.cs,.cells .plain [.int .i64 3,.int .i64 m.a,.int .i64 m.a,.int .i64 0,.int .i64 0,.int .i64 0,.int .i64 0,.bool false]]) d.length h0;have hcz:((d.length-1:Nat):Int)=(d.length:Int)-1:=by omega
         rw[hcz] at hd1;rw[hgm] at hd2
         cases hdash:dT p.text (L.getD (d.length-1) mz) && !dT p.text m&&decide (run<d.length-1) with
         | true=>
           have hq:aN p.text L pl d.length run fr (m::r)=cU L fr d.length::qA m::aN p.text L pl (d.length+1) run d.length r:=by
            simp only[aN,hb,hkf2,hp,hdash,if_false,if_true,abd,aaq]
           obtain⟨ov',fr',J',K',X,y6,tl,ov1,ov2,J1,K1,K2,hS,hY,hJ,a1,a2,a3⟩:=fin (qA m) hq;refine⟨ov',fr',J',K',X,y6,tl,?_,a1,a2,a3⟩;simp only[aac,Bool.not_eq_true',decide_eq_true_eq] at hdash;obtain⟨⟨q1,q2⟩,q3⟩:=hdash;have q3':(run:Int)<(d.length:Int)-1:=by omega
           rw[q1] at hd1;rw[q2] at hd2;rw[hp] at hpd;generalize L.map ab.dv=V at *;have g1':V[d.length]'l1=m.dv:=by rw[aaa l1] at g1;exact aab.inj g1
           simp only[plV] at hJ ⊢;generalize pl.map DV.bool=PL at *;have p1':PL[d.length]'lpd=.bool false:=by rw[aaa lpd] at hpd;exact aab.inj hpd
           rw[hb] at hbx;simp only[HI,aas,aaF,aaX] at hS hY hJ hd1 hd2 ⊢;simp only[ab.dv,ab.cs,qA,It.dv,It.cs] at hbx hS hY hJ hd1 hd2 g1';simp at hS hY hJ hd1 hd2;rw[af (L:=gF) rfl];simp[jg,h0,g1,g1',l1,hbx,hkf',hkf2,hpd,p1',lpd,hwm,hd1,hd2,q3',hS,hY,dE,hw1,hJ,ab.dv,ab.cs]
         | false=>
           have hq:aN p.text L pl d.length run fr (m::r)=aN p.text L pl (d.length+1) run fr r:=by
            simp only[aN,hb,hkf2,hp,hdash,if_false,abd,aaq]
           obtain⟨ov',fr',J',K',X,y6,tl,hJ,a1,a2,a3⟩:=ih (d++[m]) run fr (J++[.cells .plain m.cs,.cells .plain [.int .i64 3,.int .i64 m.a,.int .i64 m.a,.int .i64 0,.int .i64 0,.int .i64 0,.int .i64 0,.bool false]]) K xs ov (by simp[hd]) (by simp;omega) (by simp;omega) (by simp;omega) hA;simp only[aah,aam] at hJ a3;refine⟨ov',fr',J',K',X,y6,tl,?_,a1,a2,by rw[hq,a3]⟩;rw[hp] at hpd;generalize L.map ab.dv=V at *;have g1':V[d.length]'l1=m.dv:=by rw[aaa l1] at g1;exact aab.inj g1
           simp only[plV] at hJ ⊢;generalize pl.map DV.bool=PL at *;have p1':PL[d.length]'lpd=.bool false:=by rw[aaa lpd] at hpd;exact aab.inj hpd
           rw[hb] at hbx;simp only[HI,aas,aaF,aaX] at hJ hd1 hd2 ⊢;simp only[ab.dv,ab.cs] at hbx hJ hd1 hd2 g1'
           cases q1:dT p.text (L.getD (d.length-1) mz) with
           | false=>
             rw[q1] at hd1;simp at hJ hd1;rw[af (L:=gF) rfl];simp[jg,h0,g1,g1',l1,hbx,hkf',hkf2,hpd,p1',lpd,hwm,hd1,dE,hw1,hJ,ab.dv,ab.cs]
           | true=>
             rw[q1] at hd1 hdash
             cases q2:dT p.text m with
             | true=>
               rw[q2] at hd2;simp at hJ hd1 hd2;rw[af (L:=gF) rfl];simp[jg,h0,g1,g1',l1,hbx,hkf',hkf2,hpd,p1',lpd,hwm,hd1,hd2,dE,hw1,hJ,ab.dv,ab.cs]
             | false=>
               rw[q2] at hd2 hdash;have q3:¬ run<d.length-1:=by simpa using hdash
               have q3':¬ (run:Int)<(d.length:Int)-1:=by omega
               simp at hJ hd1 hd2;rw[af (L:=gF) rfl];simp[jg,h0,g1,g1',l1,hbx,hkf',hkf2,hpd,p1',lpd,hwm,hd1,hd2,q3',dE,hw1,hJ,ab.dv,ab.cs]
end
def fV (_s:List UInt8) (L:List ab) (_hy:Int):List Bool:=abb (L.length+1) false
theorem lq (s:List UInt8) (L:List ab) (hy:Int):(fV s L hy).length=L.length+1:=by simp[fV]
section
variable {st:St}
theorem Db {L:List ab} {p:bh} {w u:LW} (hy:p.pr.a9=0) (hL:MOk p.text L) {t n:Nat} {tk:Tk} {nn:Bool} (h6:L≠[]→n=6) :
 ∃ t',(E tab).F 132 [.agg (ah p w u),.list t n tk nn (L.map ab.dv)] st=some (.list t' 1 .tight true ((fV p.text L p.pr.a9).map DV.bool),st):=by
 have hlen:=hL.len;have hV0:(L.map ab.dv).length=L.length:=by simp
 have hel:∀ (b:List Bool),∀ y∈b.map DV.bool,fR 1 false y:=by intro b y hy;obtain⟨c,_,rfl⟩:=aaT.1 hy;exact⟨rfl,rfl,rfl⟩
 have hw1:IntKind.i64.wrap ((L.length:Int)+1)=(L.length:Int)+1:=by rw[ar (by omega)]
 have hroom:((L.length:Int)+1)≤140737488355328:=by omega
 have hroom2:L.length+1≤140737488355328:=by omega
 have hpos:(0:Int)≤(L.length:Int)+1:=by omega
 have htn:((L.length:Int)+1).toNat=L.length+1:=by omega
 have hrep:aK [DV.bool false] (L.length+1)=(abb (L.length+1) false).map DV.bool:=by rw[ot,List.map_replicate]
 have ph:(ah p w u)[14]? = some (.int .i64 p.pr.a9):=rfl;have hpl:=lq p.text L p.pr.a9
 have hex:∀ (G:List HO) (K:List Nat),rowAt G 1=some (.plain,(fV p.text L p.pr.a9).map DV.bool)→aV st (pst st G K) (.hsl 1 false (st.heap.length+1) 0 (L.length+1) (some (L.length+1)))=some (.list st.cur 1 .tight true ((fV p.text L p.pr.a9).map DV.bool)):=by
  intro G K h;have hfl:=mX _ (hel (fV p.text L p.pr.a9));have:=CC (st:=st) (H:=G) (K:=K) (k:=1) (n:=1) (ag:=false) (g:=.plain) (ys:=(fV p.text L p.pr.a9).map DV.bool) (cap:=some (L.length+1)) (by rw[hfl];exact h) (by omega) (.inr rfl) (hel _);rw[aaM,hpl,if_pos rfl] at this;exact this
 refine⟨st.cur,?_⟩;rw[au MB rfl];have e:fV p.text L p.pr.a9=abb (L.length+1) false:=rfl;have hx:=hex [.cells .plain (ah p w u),.cells .plain ((abb (L.length+1) false).map DV.bool)] [] (by rw[e];rfl);rw[e] at hx ⊢;rw[hy] at ph;generalize (abb (L.length+1) false).map DV.bool=Z at *;generalize L.map ab.dv=V at *;simp[f132,hV0,hw1,aD,hroom,hroom2,hpos,htn,hrep,ph,hx]
end
def dS (p:bh):Bool:=decide (2≤p.pr.drop)&&(decide (0<(az p).length)&&((az p).getD 0 mz).k==1)
def bJ (p:bh):List ab:=if dS p=true then (az p).drop 1 else az p
def bI (p:bh):List It:=aN p.text (bJ p) (fV p.text (bJ p) p.pr.a9) 0 0 0 (bJ p)
theorem lj (p:bh):∀ (l:List Clu) (kr:Bool) (bf:UInt8) (ps:Int) (mk:List (List UInt8)),∀ m∈cR p kr bf ps mk l,∃ c∈l,m.a=c.a∧m.s=sizeOf p c.a
 | [],_,_,_,_,m,h=>by cases h
 | c::r,kr,bf,ps,mk,m,h=>by
   simp only[cR] at h;rcases aav.1 h with rfl | h
   · exact⟨c,by simp,rfl,rfl⟩
   · obtain⟨c',h1,h2⟩:=lj p r _ _ _ _ m h;exact⟨c',by simp[h1],h2⟩
theorem kv (p:bh):MOk p.text (az p):=by
 refine⟨A3 p,DX p,?_,?_⟩
 · intro m hm;unfold az at hm;split at hm
   · obtain⟨c,hc,h1,_⟩:=lj p _ _ _ _ _ m hm;have:=oq (j8 p.text p.text.length 0).1 c hc;rw[h1];omega
   · cases hm
 · intro m hm;unfold az at hm;split at hm
   · rename_i h0;obtain⟨_,_,hsp,hpr,_⟩:=cK h0;obtain⟨c,hc,_,h2⟩:=lj p _ _ _ _ _ m hm
     have hS:ke p.aC:=by
      unfold cD at hsp
      cases e:cq p.text.length p.aC with
      | none=>rw[e] at hsp;simp at hsp
      | some k=>exact(iS _ _ _ e).1
     have:=ky p hpr hS c.a;rw[h2];exact⟨this.1,this.2.1⟩
   · cases hm
theorem MOk.drop {s:List UInt8} {L:List ab} (h:MOk s L) (n:Nat):MOk s (L.drop n):=
 ⟨by rw[List.length_drop];have:=h.len;omega,aaf.2 fun m hm=>aaf.1 h.ok m (aao hm),fun m hm=>h.at_ m (aao hm),fun m hm=>h.sz m (aao hm)⟩
theorem mH (p:bh):MOk p.text (bJ p):=by
 unfold bJ;split
 · exact(kv p).drop 1
 · exact kv p
def lU (tk:Tk):Tk:=match tk with | .own _ _=>.no | k=>k
theorem exl (st st':St) (tag n:Nat) (tk:Tk) (nn:Bool) (xs:List DV):aV st st' (.list tag n tk nn xs)=some (.list tag n (lU tk) nn xs):=by cases tk<;>rfl
@[simp] theorem GU (l:Nat):(DV.yield l).leaves=[.yield l]:=rfl
section
variable {st:St} {p:bh} {w u:LW}
theorem xX:(ah p w u)[16]? = some (.int .i64 p.pr.drop):=rfl
theorem Hb (hp:p.small) (hw:w.ok 4 p.aC) (hu:u.ok 1 p.marks):∃ v:LW,(E tab).F 117 [.agg (ah p w u)] st=some (.tuple [.list v.t v.n v.tk v.nn ((if ax p=0 then bJ p else []).map ab.dv),.int .i64 (ax p)],st)∧v.ok 6 (if ax p=0 then bJ p else []):=by
 rw[au OT rfl];obtain⟨_,hm,v,rfl,hv⟩:=vD p hp w u hw hu (pst st [.cells .plain (ah p w u)] []);have hpd:=xX (p:=p) (w:=w) (u:=u);by_cases h0:ax p=0
 · have hV0:((az p).map ab.dv).length=(az p).length:=by simp
   rw[if_pos h0];unfold bJ dS;by_cases h1:2≤p.pr.drop
   · by_cases h2:0<(az p).length
     · have h2':(0:Int)<(az p).length:=by omega
       have hvn:=hv.n (by intro e;rw[e] at h2;simp at h2);have g0:=ib (L:=az p) h2;have l0:0<((az p).map ab.dv).length:=by simpa using h2
       by_cases h3:((az p).getD 0 mz).k=1
       · rw[if_pos (by simp only[h1,h2,h3,decide_true,Bool.true_and,beq_self_eq_true])];have hs:=nZ (n:=6) (en:=v.n) (t:=v.t) (tk:=v.tk) (nn:=v.nn) (xs:=(az p).map ab.dv) (k:=.i64) (lo:=1) (fun _=>hvn) (by omega) (by simp;omega);refine⟨⟨v.t,v.n,lU (pM v.tk ((az p).map ab.dv).length 1 ((az p).map ab.dv).length),v.nn⟩,?_,fun e=>hvn,fun e=>by have:=hv.2 e;simp[this]⟩;have hdr:((az p).map ab.dv).drop (1:Int).toNat=((az p).drop 1).map ab.dv:=by rw[List.map_drop];rfl
         rw[hdr] at hs;generalize ((az p).drop 1).map ab.dv=D at *;generalize (az p).getD 0 mz=m at *;generalize (az p).map ab.dv=V at *;have g0':V[0]'l0=m.dv:=by rw[aaa l0] at g0;exact aab.inj g0
         rw[hvn] at hm hs ⊢;have hVl:V.length=(az p).length:=hV0;rw[hVl] at hs ⊢;simp only[show (1:Int).toNat=1 from rfl] at hs;simp[-dG,exl,f117,hm,h0,hpd,h1,hV0,h2,h2',g0,g0',l0,ab.dv,ab.cs,h3,hs]
       · have h3b:(((az p).getD 0 mz).k==1)=false:=by rw[beq_eq_false_iff_ne];exact h3
         rw[if_neg (by rw[h3b];simp)];refine⟨⟨v.t,v.n,lU v.tk,v.nn⟩,?_,hv⟩;generalize (az p).getD 0 mz=m at *;generalize (az p).map ab.dv=V at *;have g0':V[0]'l0=m.dv:=by rw[aaa l0] at g0;exact aab.inj g0
         rw[hvn] at hm;simp[-dG,exl,f117,hm,h0,hpd,h1,hV0,h2,h2',g0,g0',l0,ab.dv,ab.cs,h3,hvn]
     · have h2':¬ (0:Int)<(az p).length:=by omega
       rw[if_neg (by simp[h2])];refine⟨⟨v.t,v.n,lU v.tk,v.nn⟩,?_,hv⟩;generalize (az p).map ab.dv=V at *;simp[-dG,exl,f117,hm,h0,hpd,h1,hV0,h2,h2']
   · rw[if_neg (by simp[h1])];refine⟨⟨v.t,v.n,lU v.tk,v.nn⟩,?_,hv⟩;generalize (az p).map ab.dv=V at *;simp[-dG,exl,f117,hm,h0,hpd,h1]
 · have hm0:az p=[]:=by unfold az;rw[if_neg h0]
   rw[hm0] at hm hv;rw[if_neg h0];refine⟨⟨v.t,v.n,lU v.tk,v.nn⟩,?_,hv⟩;simp at hm;simp[-dG,exl,f117,hm,h0]
theorem GW {L:List ab} (hy:p.pr.a9=0) (hL:MOk p.text L) {t n:Nat} {tk:Tk} {nn:Bool} (h6:L≠[]→n=6) (h7:nn=true→n=6) (P0:List DV):∃ (ov:DV) (fr:Nat) (J:List HO) (K:List Nat),
 (E tab).F 131 [.yield (st.heap.length+4),.ptr (st.heap.length+2) 0,.ptr (st.heap.length+3) 0] (pst st [.cells .plain P0,.cells .plain [.list 0 0 .no false []],.cells .plain (ah p w u),.cells .plain [.list t n tk nn (L.map ab.dv)],loI st 0] []) =
  some (.tuple [],pst st (HI st P0 (ah p w u) ov (.list t n tk nn (L.map ab.dv)) fr 0 J) K)∧Acc st K 8 ((aN p.text L (fV p.text L p.pr.a9) 0 0 0 L).map It.dv) ov:=by
 obtain⟨t2,hwd⟩:=Db (st:=pst st [.cells .plain P0,.cells .plain [.list 0 0 .no false []],.cells .plain (ah p w u),.cells .plain [.list t n tk nn (L.map ab.dv)],loI st 0,.cells .plain [.yield (st.heap.length+4)]] []) (w:=w) (u:=u) hy hL (t:=t) (n:=n) (tk:=tk) (nn:=nn) h6;obtain⟨ov',fr',J',K',X,y6,tl,hJ,a1,a2,a3⟩:=La (st:=st) (P0:=P0) (w:=w) (u:=u) hL (t:=t) (n:=n) (tk:=tk) (nn:=nn) h6 h7 (lq p.text L p.pr.a9) (t2:=t2) (tk2:=.tight) L [] 0 0 [] [] [] (.list 0 0 .no false []) rfl (aai _) (aai _) (by simp) (dt _ _ _ _ _ _);simp only[aaX] at a1 a2;obtain⟨ov2,J2,K2,hS,hA2⟩:=Ag (st:=st) (P0:=P0) (P1:=ah p w u) (J:=J') (t:=t) (n:=n) (tk:=tk) (nn:=nn) (fr:=fr') hL h6 h7 (k:=L.length) (aai _) (by have:=hL.len;omega) a1;refine⟨ov2,fr',J'++J2,K2,?_,by rw[aaP] at a3;rw[a3];exact hA2⟩;rw[fq IT rfl];have hV0:(L.map ab.dv).length=L.length:=by simp
 simp only[plV] at hJ;generalize (fV p.text L p.pr.a9).map DV.bool=PL at *;generalize L.map ab.dv=V at *;simp only[HI] at hS hJ ⊢;simp at hS hJ;have hpa:takeN (ah p w u) 0 21 true=some (.agg (ah p w u)):=rfl;simp[f131,hwd,hV0,hJ,dE,hS]
theorem DC (hy:p.pr.a9=0) (hp:p.small) (hw:w.ok 4 p.aC) (hu:u.ok 1 p.marks):∃ v,(E tab).F 106 [.agg (ah p w u)] st=some (.tuple [v,.int .i64 (ax p)],st)∧Lw 8 ((if ax p=0 then bI p else []).map It.dv) v:=by
 rw[au Qi rfl];obtain⟨v,hb,hv⟩:=Hb (st:=pst st [.cells .plain (ah p w u)] []) hp hw hu;by_cases h0:ax p=0
 · rw[if_pos h0] at hb hv ⊢;obtain⟨ov,fr,J,K,hwk,hA⟩:=GW (st:=st) (p:=p) (w:=w) (u:=u) hy (mH p) (t:=v.t) (tk:=v.tk) hv.n hv.1 (ah p w u)
   have hrf:=uS (T:=tab) (st:=st) (H:=[.cells .plain (ah p w u),.cells .plain [.list 0 0 .no false []],.cells .plain (ah p w u),.cells .plain [.list v.t v.n v.tk v.nn ((bJ p).map ab.dv)]]) (K:=[]) (f:=.t 18) (params:=[19]) (live:=[6,18]) (assign:=.region sR [6,7]) (body:=.block 1 (.region sr []))
    (fr:=[(6,.ptr (st.heap.length+1) 0),(18,.fn 131 [] [.ptr (st.heap.length+2) 0,.ptr (st.heap.length+3) 0])]) (g:=131) (first:=[]) (captured:=[.ptr (st.heap.length+2) 0,.ptr (st.heap.length+3) 0]) rfl IT hwk rfl (by decide)
   have h118:(E tab).F 118 [.agg (ah p w u),.list v.t v.n v.tk v.nn ((bJ p).map ab.dv)] (pst st [.cells .plain (ah p w u),.cells .plain [.list 0 0 .no false []]] [])=some (.fn 131 [] [.ptr (st.heap.length+2) 0,.ptr (st.heap.length+3) 0],pst st [.cells .plain (ah p w u),.cells .plain [.list 0 0 .no false []],.cells .plain (ah p w u),.cells .plain [.list v.t v.n v.tk v.nn ((bJ p).map ab.dv)]] []):=by
    rw[fq Pm rfl];simp[f118]
   have hA':=j6 (st':=pst st ((HI st (ah p w u) (ah p w u) ov (.list v.t v.n v.tk v.nn ((bJ p).map ab.dv)) fr 0 J).set 4 (loI st 3)) K) hA;obtain⟨t',n',tk',nn',e1,e2,e3,e4⟩:=hA';refine⟨.list t' n' tk' nn' ((bI p).map It.dv),?_,.list _ _ _ _ e3 e2⟩;obtain⟨q1,q2,q3,q4,rfl⟩:=dM hA;rw[h0] at hb ⊢;have e1':bP st (pst st ((HI st (ah p w u) (ah p w u) (.list q1 q2 q3 q4 ((aN p.text (bJ p) (fV p.text (bJ p) p.pr.a9) 0 0 0 (bJ p)).map It.dv)) (.list v.t v.n v.tk v.nn ((bJ p).map ab.dv)) fr 0 J).set 4 (loI st 3)) K) (.list q1 q2 q3 q4 ((aN p.text (bJ p) (fV p.text (bJ p) p.pr.a9) 0 0 0 (bJ p)).map It.dv))=_:=e1;unfold bI;generalize (aN p.text (bJ p) (fV p.text (bJ p) p.pr.a9) 0 0 0 (bJ p)).map It.dv=X at *;generalize (bJ p).map ab.dv=V at *;simp only[HI] at hrf e1';simp only[loI] at hrf e1';simp at hrf e1';simp[f106,hb,h118,hrf,e1']
 · rw[if_neg h0] at hb hv ⊢;refine⟨.list 0 0 .no false [],?_,.list _ _ _ _ (fun h=>by cases h) (fun _=>rfl)⟩;simp at hb;simp[f106,hb,h0]
end
def sh (L:List ab) (k:Nat):Bool:=decide (0<k)&&((L.getD k mz).k==1&&((L.getD (k-1) mz).k==1&&(L.getD k mz).s==(L.getD (k-1) mz).s))
section
variable {st:St}
theorem AW {L:List ab} {t n:Nat} {tk:Tk} {nn:Bool} (h6:L≠[]→n=6) (hlen:L.length≤4096) {k:Nat} (hk:k<L.length):(E tab).F 274 [.list t n tk nn (L.map ab.dv),.int .i64 k] st=some (.bool (sh L k),st):=by
 rw[au MA rfl];obtain rfl:=h6 (by intro e;simp[e] at hk);have hw1:IntKind.i64.wrap ((k:Int)-1)=(k:Int)-1:=by rw[ar (by omega)]
 have g1:=ib (L:=L) hk;have l1:k<(L.map ab.dv).length:=by simpa using hk
 have g2:=ib (L:=L) (i:=k-1) (by omega);have l2:k-1<(L.map ab.dv).length:=by simp;omega
 generalize L.map ab.dv=V at *;have g1':V[k]'l1=(L.getD k mz).dv:=by rw[aaa l1] at g1;exact aab.inj g1
 have g2':V[k-1]'l2=(L.getD (k-1) mz).dv:=by rw[aaa l2] at g2;exact aab.inj g2
 unfold sh;generalize L.getD k mz=x at *;generalize L.getD (k-1) mz=y at *;by_cases h0:0<k
 · have ht:((k:Int)-1).toNat=k-1:=by omega
   have hp:(1:Int)≤(k:Int):=by omega
   by_cases h1:x.k=1
   · by_cases h2:y.k=1
     · simp[f274,h0,g1,g1',l1,g2,g2',l2,hw1,ht,hp,ab.dv,ab.cs,h1,h2]
     · simp[f274,h0,g1,g1',l1,g2,g2',l2,hw1,ht,hp,ab.dv,ab.cs,h1,h2]
   · simp[f274,h0,g1,g1',l1,ab.dv,ab.cs,h1]
 · simp[f274,h0]
theorem KL {L:List ab} {p:bh} {w u:LW} (hy:p.pr.a9=0) (hL:MOk p.text L) (htl:p.text.length≤4096) {t n:Nat} {tk:Tk} {nn:Bool} (h6:L≠[]→n=6):∀ (f a:Nat) (pl:List Bool) (G:List HO) (K:List Nat),a+f=L.length→pl.length=L.length+1→rowAt G 0=some (.plain,ah p w u)→rowAt G 1=some (.plain,pl.map DV.bool) →
 ∃ (G':List HO) (K':List Nat) (tl:Fr),(E tab).C mm [(1,.list t n tk nn (L.map ab.dv)),(2,.ptr st.heap.length 0),(5,.hsl 1 false (st.heap.length+1) 0 (L.length+1) (some (L.length+1))),(6,.int .i64 a)] (pst st G K) =
   some (.exit 0,[(1,.list t n tk nn (L.map ab.dv)),(2,.ptr st.heap.length 0),(5,.hsl 1 false (st.heap.length+1) 0 (L.length+1) (some (L.length+1)))]++tl,pst st G' K')∧rowAt G' 1=some (.plain,pl.map DV.bool):=by
 have hlen:=hL.len;have hV0:(L.map ab.dv).length=L.length:=by simp
 have ph:(ah p w u)[14]? = some (.int .i64 p.pr.a9):=rfl;intro f
 induction f with
 | zero=>
   intro a pl G K h1 h3 hr0 hr1;obtain rfl:a=L.length:=by omega
   refine⟨G,K,[(6,.int .i64 L.length),(19,.bool false)],?_,hr1⟩;generalize L.map ab.dv=V at *;rw[af (L:=mm) rfl];simp[oK,hV0]
 | succ f ih=>
   intro a pl G K h1 h3 hr0 hr1;have hw1:IntKind.i64.wrap ((a:Int)+1)=(a:Int)+1:=by rw[ar (by omega)]
   have ha:a<L.length:=by omega
   obtain rfl:=h6 (by intro e;simp[e] at ha);have hm:=getM ha;have gb:=ib ha;have lb:a<(L.map ab.dv).length:=by simpa using ha
   have hat:=hL.at_ _ (aaB hm);have hj:=fun st=>AW (st:=st) (t:=t) (tk:=tk) (nn:=nn) (L:=L) (n:=6) (fun _=>rfl) hlen ha;have idle:=ih (a+1) pl G K (by omega) h3 hr0 hr1;by_cases hk:(L.getD a mz).k=1
   · cases hjb:sh L a with
     | true=>
       obtain⟨G',K',tl,hJ,hG'⟩:=idle;refine⟨G',K',tl,?_,hG'⟩;rw[hjb] at hj;generalize L.getD a mz=m at *;generalize L.map ab.dv=V at *;have gb':V[a]'lb=m.dv:=by rw[aaa lb] at gb;exact aab.inj gb
       simp at hJ;rw[af (L:=mm) rfl];simp[oK,hV0,ha,gb,gb',lb,ab.dv,ab.cs,hk,hj,hw1,hJ]
     | false=>
       obtain⟨G',K',tl,hJ,hG'⟩:=idle;refine⟨G',K',tl,?_,hG'⟩;rw[hjb] at hj;rw[hy] at ph;generalize L.getD a mz=m at *;generalize L.map ab.dv=V at *;have gb':V[a]'lb=m.dv:=by rw[aaa lb] at gb;exact aab.inj gb
       simp at hJ;rw[af (L:=mm) rfl];simp[oK,hV0,ha,gb,gb',lb,ab.dv,ab.cs,hk,hj,hr0,ph,hw1,hJ]
   · obtain⟨G',K',tl,hJ,hG'⟩:=idle;refine⟨G',K',tl,?_,hG'⟩;generalize L.getD a mz=m at *;generalize L.map ab.dv=V at *;have gb':V[a]'lb=m.dv:=by rw[aaa lb] at gb;exact aab.inj gb
     simp at hJ;rw[af (L:=mm) rfl];simp[oK,hV0,ha,gb,gb',lb,ab.dv,ab.cs,hk,hw1,hJ]
theorem BJ {L:List ab} {p:bh} {w u:LW} (hy:p.pr.a9=0) (hL:MOk p.text L) (htl:p.text.length≤4096) {t n:Nat} {tk:Tk} {nn:Bool} (h6:L≠[]→n=6) :
 ∃ t',(E tab).F 260 [.agg (ah p w u),.list t n tk nn (L.map ab.dv)] st=some (.list t' 1 .tight true ((fV p.text L p.pr.a9).map DV.bool),st):=by
 have hlen:=hL.len;have hV0:(L.map ab.dv).length=L.length:=by simp
 have hel:∀ (b:List Bool),∀ y∈b.map DV.bool,fR 1 false y:=by intro b y hy;obtain⟨c,_,rfl⟩:=aaT.1 hy;exact⟨rfl,rfl,rfl⟩
 have hw1:IntKind.i64.wrap ((L.length:Int)+1)=(L.length:Int)+1:=by rw[ar (by omega)]
 have hroom:((L.length:Int)+1)≤140737488355328:=by omega
 have hroom2:L.length+1≤140737488355328:=by omega
 have hpos:(0:Int)≤(L.length:Int)+1:=by omega
 have htn:((L.length:Int)+1).toNat=L.length+1:=by omega
 have hrep:aK [DV.bool false] (L.length+1)=(abb (L.length+1) false).map DV.bool:=by rw[ot,List.map_replicate]
 have hpl:=lq p.text L p.pr.a9
 have hex:∀ (G:List HO) (K:List Nat),rowAt G 1=some (.plain,(fV p.text L p.pr.a9).map DV.bool)→aV st (pst st G K) (.hsl 1 false (st.heap.length+1) 0 (L.length+1) (some (L.length+1)))=some (.list st.cur 1 .tight true ((fV p.text L p.pr.a9).map DV.bool)):=by
  intro G K h;have hfl:=mX _ (hel (fV p.text L p.pr.a9));have:=CC (st:=st) (H:=G) (K:=K) (k:=1) (n:=1) (ag:=false) (g:=.plain) (ys:=(fV p.text L p.pr.a9).map DV.bool) (cap:=some (L.length+1)) (by rw[hfl];exact h) (by omega) (.inr rfl) (hel _);rw[aaM,hpl,if_pos rfl] at this;exact this
 refine⟨st.cur,?_⟩;rw[au Nn rfl];obtain⟨G',K',tl,hL2,hG'⟩:=KL (st:=st) (w:=w) (u:=u) hy hL htl (t:=t) (tk:=tk) (nn:=nn) h6 L.length 0 (abb (L.length+1) false) [.cells .plain (ah p w u),.cells .plain ((abb (L.length+1) false).map DV.bool)] [] (by omega) (by simp) rfl rfl;have e:fV p.text L p.pr.a9=abb (L.length+1) false:=rfl;have hx:=hex G' K' (by rw[e];exact hG');generalize (fV p.text L p.pr.a9).map DV.bool=Y at *;generalize (abb (L.length+1) false).map DV.bool=Z at *;generalize L.map ab.dv=V at *;simp at hL2;simp[f260,hV0,hw1,aD,hroom,hroom2,hpos,htn,hrep,hL2,hx]
end
section
variable {st:St} {p:bh} {w u:LW}
theorem zE {L:List ab} (hL:MOk p.text L) {m:ab} (hmem:m∈L):(E tab).F 262 [.agg (ah p w u),m.dv] st=some (.bool (dT p.text m),st):=by
 rw[au M6 rfl];have hm:=hL.at_ m hmem;have hb:p.text[m.a.toNat]? = some (bAt p.text m.a.toNat):=pR (by omega);have hlt:m.a.toNat<p.text.length:=by omega
 have hge:p.text[m.a.toNat]'hlt=bAt p.text m.a.toNat:=by rw[aaa hlt] at hb;exact aab.inj hb
 have h45:(((bAt p.text m.a.toNat).toNat:Int)==45)=(bAt p.text m.a.toNat==45):=z0 _ 45;by_cases h2:m.k=2
 · simp[f262,ab.cs,h2,hb,hge,hlt,hm.1,h45,dT]
 · simp[f262,ab.cs,h2,dT]
theorem C2 {L:List ab} {t n:Nat} {tk:Tk} {nn:Bool} (h6:L≠[]→n=6):(E tab).F 258 [.agg (ah p w u),.list t n tk nn (L.map ab.dv)] st=some (.bool (decide (2≤p.pr.drop)&&(decide (0<L.length)&&(L.getD 0 mz).k==1)),st):=by
 rw[au Qk rfl];have hV0:(L.map ab.dv).length=L.length:=by simp
 have hpd:=xX (p:=p) (w:=w) (u:=u);by_cases h1:2≤p.pr.drop
 · by_cases h2:0<L.length
   · have h2':(0:Int)<L.length:=by omega
     obtain rfl:=h6 (by intro e;rw[e] at h2;simp at h2);have g0:=ib (L:=L) h2;have l0:0<(L.map ab.dv).length:=by simpa using h2
     generalize L.getD 0 mz=m at *;generalize L.map ab.dv=V at *;have g0':V[0]'l0=m.dv:=by rw[aaa l0] at g0;exact aab.inj g0
     simp[f258,hpd,h1,hV0,h2,h2',g0,g0',l0,ab.dv,ab.cs]
   · have h2':¬ (0:Int)<L.length:=by omega
     generalize L.getD 0 mz=m at *;generalize L.map ab.dv=V at *;simp[f258,hpd,h1,hV0,h2,h2']
 · generalize L.getD 0 mz=m at *;generalize L.map ab.dv=V at *;simp[f258,hpd,h1]
theorem GQ (hp:p.small) (hw:w.ok 4 p.aC) (hu:u.ok 1 p.marks):∃ v:LW,(E tab).F 259 [.agg (ah p w u)] st=some (.list v.t v.n v.tk v.nn ((bJ p).map ab.dv),st)∧v.ok 6 (bJ p):=by
 rw[au NV rfl];obtain⟨_,hm,v,rfl,hv⟩:=Dr p hp w u hw hu (pst st [.cells .plain (ah p w u)] []);have hd:=fun st=>C2 (st:=st) (p:=p) (w:=w) (u:=u) (L:=az p) (t:=v.t) (n:=v.n) (tk:=v.tk) (nn:=v.nn) hv.n;have hdB:(decide (2≤p.pr.drop)&&(decide (0<(az p).length)&&((az p).getD 0 mz).k==1))=dS p:=rfl;rw[hdB] at hd;unfold bJ
 cases hb:dS p with
 | true=>
   rw[hb] at hd;have hb':=hb;simp only[dS,aac,decide_eq_true_eq] at hb';have hvn:=hv.n (by intro e;have:=hb'.2.1;rw[e] at this;simp at this);have hV0:((az p).map ab.dv).length=(az p).length:=by simp
   have hs:=nZ (n:=6) (en:=v.n) (t:=v.t) (tk:=v.tk) (nn:=v.nn) (xs:=(az p).map ab.dv) (k:=.i64) (lo:=1) (fun _=>hvn) (by omega) (by simp;omega);have hdr:((az p).map ab.dv).drop (1:Int).toNat=((az p).drop 1).map ab.dv:=by rw[List.map_drop];rfl
   rw[hdr,hV0] at hs;refine⟨⟨v.t,v.n,lU (pM v.tk (az p).length (1:Int).toNat (az p).length),v.nn⟩,?_,fun e=>hvn,fun e=>by have:=hv.2 e;simp[this]⟩;simp only[if_true];generalize ((az p).drop 1).map ab.dv=D at *;generalize (az p).map ab.dv=V at *;simp at hs;rw[hvn] at hm hs ⊢;rw[hvn] at hd;simp[-dG,exl,f259,hm,hd,hs]
 | false=>
   rw[hb] at hd;refine⟨⟨v.t,v.n,lU v.tk,v.nn⟩,?_,hv⟩;simp only[aaq,if_false];generalize (az p).map ab.dv=V at *;simp[-dG,exl,f259,hm,hd]
theorem KR {L:List ab} (hL:MOk p.text L) {t n:Nat} {tk:Tk} {nn:Bool} (h6:L≠[]→n=6) {pl:List Bool} (hpl:pl.length=L.length+1) {t2:Nat} {tk2:Tk} :
 ∀ (r d:List ab) (run fr:Nat) (J:List HO) (K:List Nat) (xs:List It) (ov:DV),L=d++r→fr≤d.length→run≤d.length→xs.length≤3*d.length→Acc st K 8 (xs.map It.dv) ov →
 ∃ (ov':DV) (J':List HO) (K':List Nat) (tl:Fr),
   (E tab).C gg [(1,.ptr st.heap.length 0),(5,.list t n tk nn (L.map ab.dv)),(6,.list t2 1 tk2 true (pl.map DV.bool)),(7,ov),(8,.int .i64 run),(9,.int .i64 fr),(10,.int .i64 d.length)] (pst st (.cells .plain (ah p w u)::J) K) =
   some (.exit 0,[(1,.ptr st.heap.length 0),(5,.list t n tk nn (L.map ab.dv)),(6,.list t2 1 tk2 true (pl.map DV.bool)),(7,ov')]++tl,pst st (.cells .plain (ah p w u)::J') K')∧Acc st K' 8 ((xs++aN p.text L pl d.length run fr r).map It.dv) ov':=by
 have hlen:=hL.len;have hV0:(L.map ab.dv).length=L.length:=by simp
 have app:∀ (J:List HO) (K:List Nat) (xs:List It) (ov:DV) (x:It),xs.length≤100000→Acc st K 8 (xs.map It.dv) ov→∃ v' K',bL (pst st J K) 8 true 64 ov (.list st.cur 8 .tight true [x.dv])=some (v',pst st J K')∧Acc st K' 8 ((xs++[x]).map It.dv) v':=by
  intro J K xs ov x hx hA;obtain⟨v',K',h1,h2⟩:=dZ (st:=st) (H:=J) (by_:=64) (ag:=true) (ys:=[x.dv]) (t:=st.cur) (tk:=.tight) hA (by omega) (by simp) (by simp[C1]) (by simp[aD];omega) (by simp[aD];omega);exact⟨v',K',h1,by simpa using h2⟩
 intro r
 induction r with
 | nil=>
   intro d run fr J K xs ov hd hf hr hx hA;obtain rfl:L=d:=by simpa using hd
   have hw1:IntKind.i64.wrap ((L.length:Int)+1)=(L.length:Int)+1:=by rw[ar (by omega)]
   have hn1:¬ ((L.length:Int)+1≤L.length):=by omega
   by_cases h:fr<L.length
   · obtain⟨v1,K1,ha,hA1⟩:=app (.cells .plain (ah p w u)::J) K xs ov (cU L fr L.length) (by omega) hA;have hb:=fun st=>xj (st:=st) hL (t:=t) (n:=n) (tk:=tk) (nn:=nn) h6 h (aai _);refine⟨v1,J,K1,[(8,.int .i64 ((L.length:Int)+1)),(9,.int .i64 ((L.length:Int)+1)),(10,.int .i64 ((L.length:Int)+1)),(26,.bool false)],?_,by simpa[aN,h] using hA1⟩;generalize cU L fr L.length=x at *;generalize L.map ab.dv=V at *;simp only[It.dv,It.cs] at ha hb;rw[af (L:=gg) rfl];simp[fC,hV0,h,hb,aw,aK,chunk,ha,hw1];rw[af (L:=gg) rfl];simp[fC,hV0,hn1]
   · refine⟨ov,J,K,[(8,.int .i64 ((L.length:Int)+1)),(9,.int .i64 ((L.length:Int)+1)),(10,.int .i64 ((L.length:Int)+1)),(26,.bool false)],?_,by simpa[aN,h] using hA⟩;have h':¬ (fr:Int)<L.length:=by omega
     generalize L.map ab.dv=V at *;rw[af (L:=gg) rfl];simp[fC,hV0,h,h',hw1];rw[af (L:=gg) rfl];simp[fC,hV0,hn1]
 | cons m r ih=>
   intro d run fr J K xs ov hd hf hr hx hA;have h0:d.length<L.length:=by simp[hd]
   have h0':(d.length:Int)≤L.length:=by omega
   have h0n:d.length≤L.length:=by omega
   have hmem:m∈L:=by simp[hd]
   have hok:=aaf.1 hL.ok m hmem;have hgm:L.getD d.length mz=m:=by simp[hd]
   have hw1:IntKind.i64.wrap ((d.length:Int)+1)=(d.length:Int)+1:=by rw[ar (by omega)]
   have hwm:IntKind.i64.wrap ((d.length:Int)-1)=(d.length:Int)-1:=by rw[ar (by omega)]
   obtain rfl:=h6 (by intro e;simp[e] at h0);have g1:=ib (L:=L) h0;rw[hgm] at g1;have l1:d.length<(L.map ab.dv).length:=by simpa using h0
   have hbx:=fun st=>Kq (st:=st) m;have hln:=fun st=>GL (st:=st) m hok;have hhy:=fun st=>wm (st:=st) m.s
   have hpd:(pl.map DV.bool)[d.length]? = some (.bool (pl.getD d.length false)):=by
    rw[abe,aaa (show d.length<pl.length by omega),aak,aaa (show d.length<pl.length by omega)];rfl
   have lpd:d.length<(pl.map DV.bool).length:=by simp;omega
   cases hb:iZ m with
   | false=>
     have hstep:∃ v1 K1,(if fr<d.length then bL (pst st (.cells .plain (ah p w u)::J) K) 8 true 64 ov (.list st.cur 8 .tight true [(cU L fr d.length).dv]) else some (ov,pst st (.cells .plain (ah p w u)::J) K))=some (v1,pst st (.cells .plain (ah p w u)::J) K1)∧Acc st K1 8 ((xs++if fr<d.length then [cU L fr d.length] else []).map It.dv) v1:=by
      by_cases h:fr<d.length
      · obtain⟨v1,K1,ha,hA1⟩:=app (.cells .plain (ah p w u)::J) K xs ov (cU L fr d.length) (by omega) hA;exact⟨v1,K1,by rw[if_pos h];exact ha,by rw[if_pos h];exact hA1⟩
      · exact⟨ov,K,by rw[if_neg h],by rw[if_neg h];simpa using hA⟩
     obtain⟨v1,K1,ha1,hA1⟩:=hstep;have hxl:(xs++if fr<d.length then [cU L fr d.length] else []).length≤3*d.length+1:=by split<;>simp<;>omega
     obtain⟨v2,K2,ha2,hA2⟩:=app (.cells .plain (ah p w u)::J) K1 _ v1 (fO m) (by omega) hA1
     obtain⟨ov',J',K',tl,hJ,a1⟩:=ih (d++[m]) (d.length+1) (d.length+1) J K2 ((xs++if fr<d.length then [cU L fr d.length] else [])++[fO m]) v2 (by simp[hd]) (by simp) (by simp) (by
      rw[aah];simp only[aah,aam] at hxl ⊢;omega) hA2
     refine⟨ov',J',K',tl,?_,?_⟩
     · rw[hb] at hbx;have hbox:=fun (h:fr<d.length) st=>xj (st:=st) hL (t:=t) (n:=6) (tk:=tk) (nn:=nn) (fun _=>rfl) h (by omega);generalize L.map ab.dv=V at *;have g1':V[d.length]'l1=m.dv:=by rw[aaa l1] at g1;exact aab.inj g1
       simp only[ab.dv,ab.cs] at hbx hln g1';generalize cU L fr d.length=x at *;simp only[It.dv,It.cs] at ha1 ha2 hbox hln;simp at hJ;rw[af (L:=gg) rfl];by_cases h:fr<d.length
       · rw[if_pos h] at ha1;have hbox:=hbox h;simp[fC,hV0,h0,h0',h0n,g1,g1',l1,hbx,h,hbox,aw,aK,chunk,ha1,hln,ha2,hw1,hJ,ab.dv,ab.cs]
       · rw[if_neg h] at ha1;simp only[aab.injEq,Prod.mk.injEq] at ha1;obtain⟨rfl,hK⟩:=ha1;rw[← hK] at ha2;have h':¬ (fr:Int)<d.length:=by omega
         simp[fC,hV0,h0,h0',h0n,g1,g1',l1,hbx,h,h',aw,aK,chunk,hln,ha2,hw1,hJ,ab.dv,ab.cs]
     · simp only[aah,aam] at a1;simpa only[aN,hb,if_true,aas,aaF,aaX] using a1
   | true=>
     by_cases hkf:fr=d.length
     · obtain⟨ov',J',K',tl,hJ,a1⟩:=ih (d++[m]) run fr J K xs ov (by simp[hd]) (by simp;omega) (by simp;omega) (by simp;omega) hA;refine⟨ov',J',K',tl,?_,?_⟩
       · generalize L.map ab.dv=V at *;have g1':V[d.length]'l1=m.dv:=by rw[aaa l1] at g1;exact aab.inj g1
         rw[hb] at hbx;subst hkf;simp only[ab.dv,ab.cs] at hbx g1';simp at hJ;rw[af (L:=gg) rfl];simp[fC,hV0,h0,h0',h0n,g1,g1',l1,hbx,hw1,hJ,ab.dv,ab.cs]
       · simp only[aah,aam] at a1;simp only[aN,hb,hkf,if_true,abd,if_false];rw[← hkf] at a1 ⊢;simpa[hkf] using a1
     · have hkf':¬ (d.length:Int)=fr:=by omega
       have hkf2:¬ d.length=fr:=by omega
       have hfl:fr<d.length:=by omega
       have hd0:¬ d.length=0:=by omega
       have hd0':¬ (d.length:Int)=0:=by omega
       have hdne:¬ d=[]:=fun e=>hd0 (by rw[e];rfl);have hpv:=ib (L:=L) (i:=d.length-1) (by omega);have lpv:d.length-1<(L.map ab.dv).length:=by simp;omega
       have hmp:L.getD (d.length-1) mz∈L:=aaB (getM (by omega));have hs1:=fun st=>zE (st:=st) (w:=w) (u:=u) hL hmp;have hs2:=fun st=>zE (st:=st) (w:=w) (u:=u) hL hmem;have hbox:=fun st=>xj (st:=st) hL (t:=t) (n:=6) (tk:=tk) (nn:=nn) (fun _=>rfl) hfl (by omega);have htn:((d.length:Int)-1).toNat=d.length-1:=by omega
       have hpos:(1:Int)≤(d.length:Int):=by omega
       have hpa:takeN (ah p w u) 0 21 true=some (.agg (ah p w u)):=rfl
       have fin:∀ q:It,(aN p.text L pl d.length run fr (m::r)=cU L fr d.length::q::aN p.text L pl (d.length+1) run d.length r) →
        ∃ (ov':DV) (J':List HO) (K':List Nat) (tl:Fr) (v1 v2:DV) (K1 K2:List Nat),
        bL (pst st (.cells .plain (ah p w u)::J) K) 8 true 64 ov (.list st.cur 8 .tight true [(cU L fr d.length).dv])=some (v1,pst st (.cells .plain (ah p w u)::J) K1) ∧
        bL (pst st (.cells .plain (ah p w u)::(J++[.cells .plain q.cs])) K1) 8 true 64 v1 (.list st.cur 8 .tight true [q.dv])=some (v2,pst st (.cells .plain (ah p w u)::(J++[.cells .plain q.cs])) K2) ∧
        (E tab).C gg [(1,.ptr st.heap.length 0),(5,.list t 6 tk nn (L.map ab.dv)),(6,.list t2 1 tk2 true (pl.map DV.bool)),(7,v2),(8,.int .i64 run),(9,.int .i64 d.length),(10,.int .i64 (d.length+1:Nat))] (pst st (.cells .plain (ah p w u)::(J++[.cells .plain q.cs])) K2) =
         some (.exit 0,[(1,.ptr st.heap.length 0),(5,.list t 6 tk nn (L.map ab.dv)),(6,.list t2 1 tk2 true (pl.map DV.bool)),(7,ov')]++tl,pst st (.cells .plain (ah p w u)::J') K')∧Acc st K' 8 ((xs++aN p.text L pl d.length run fr (m::r)).map It.dv) ov':=by
        intro q hq;obtain⟨v1,K1,ha1,hA1⟩:=app (.cells .plain (ah p w u)::J) K xs ov (cU L fr d.length) (by omega) hA;obtain⟨v2,K2,ha2,hA2⟩:=app (.cells .plain (ah p w u)::(J++[.cells .plain q.cs])) K1 _ v1 q (by simp;omega) hA1;obtain⟨ov',J',K',tl,hJ,a1⟩:=ih (d++[m]) run d.length (J++[.cells .plain q.cs]) K2 ((xs++[cU L fr d.length])++[q]) v2 (by simp[hd]) (by simp) (by simp;omega) (by simp;omega) hA2;simp only[aah,aam] at hJ a1;exact⟨ov',J',K',tl,v1,v2,K1,K2,ha1,ha2,hJ,by rw[hq];simpa using a1⟩
       cases hp:pl.getD d.length false with
       | true=>
         have hq:aN p.text L pl d.length run fr (m::r)=cU L fr d.length::qw m::aN p.text L pl (d.length+1) run d.length r:=by
          simp only[aN,hb,hkf2,hp,if_false,if_true,abd]
         obtain⟨ov',J',K',tl,v1,v2,K1,K2,ha1,ha2,hJ,a1⟩:=fin (qw m) hq;refine⟨ov',J',K',tl,?_,a1⟩;rw[hp] at hpd;rw[hb] at hbx;generalize hmm:L.getD (d.length-1) mz=mp at *;generalize L.map ab.dv=V at *;have g1':V[d.length]'l1=m.dv:=by rw[aaa l1] at g1;exact aab.inj g1
         have gp':V[d.length-1]'lpv=mp.dv:=by rw[aaa lpv] at hpv;exact aab.inj hpv
         generalize pl.map DV.bool=PL at *;have p1':PL[d.length]'lpd=.bool true:=by rw[aaa lpd] at hpd;exact aab.inj hpd
         generalize cU L fr d.length=x at *;simp only[ab.dv,ab.cs] at hbx hs1 hs2 g1' gp';simp only[It.dv,It.cs,qw] at ha1 ha2 hbox;simp only[It.cs,qw] at hJ;simp at hJ ha2;rw[af (L:=gg) rfl]
         cases q1:dT p.text mp<;>cases q2:dT p.text m<;>rw[q1] at hs1<;>rw[q2] at hs2 <;>
          simp[fC,hV0,h0,h0',h0n,g1,g1',l1,hpv,gp',lpv,hbx,hkf',hkf2,hd0,hd0',hdne,hwm,htn,hpos,hs1,hs2,hpd,p1',lpd,hbox,aF,bE,bN,bM,aH,aw,aK,chunk,ha1,hhy,ha2,hw1,hJ,ab.dv,ab.cs]
       | false=>
         cases hdash:dT p.text (L.getD (d.length-1) mz) && !dT p.text m&&decide (run<d.length-1) with
         | true=>
           have hq:aN p.text L pl d.length run fr (m::r)=cU L fr d.length::qA m::aN p.text L pl (d.length+1) run d.length r:=by
            simp only[aN,hb,hkf2,hp,hdash,if_false,if_true,abd,aaq]
           obtain⟨ov',J',K',tl,v1,v2,K1,K2,ha1,ha2,hJ,a1⟩:=fin (qA m) hq;refine⟨ov',J',K',tl,?_,a1⟩;simp only[aac,Bool.not_eq_true',decide_eq_true_eq] at hdash;obtain⟨⟨q1,q2⟩,q3⟩:=hdash;have q3':(run:Int)<(d.length:Int)-1:=by omega
           rw[q1] at hs1;rw[q2] at hs2;rw[hp] at hpd;rw[hb] at hbx;generalize hmm:L.getD (d.length-1) mz=mp at *;generalize L.map ab.dv=V at *;have g1':V[d.length]'l1=m.dv:=by rw[aaa l1] at g1;exact aab.inj g1
           have gp':V[d.length-1]'lpv=mp.dv:=by rw[aaa lpv] at hpv;exact aab.inj hpv
           generalize pl.map DV.bool=PL at *;have p1':PL[d.length]'lpd=.bool false:=by rw[aaa lpd] at hpd;exact aab.inj hpd
           generalize cU L fr d.length=x at *;simp only[ab.dv,ab.cs] at hbx hs1 hs2 g1' gp';simp only[It.dv,It.cs,qA] at ha1 ha2 hbox;simp only[It.cs,qA] at hJ;simp at hJ ha2;rw[af (L:=gg) rfl];simp[fC,hV0,h0,h0',h0n,g1,g1',l1,hpv,gp',lpv,hbx,hkf',hkf2,hd0,hd0',hdne,hwm,htn,hpos,hs1,hs2,q3',hpd,p1',lpd,hbox,aF,bE,bN,bM,aH,aw,aK,chunk,ha1,hhy,ha2,hw1,hJ,ab.dv,ab.cs]
         | false=>
           have hq:aN p.text L pl d.length run fr (m::r)=aN p.text L pl (d.length+1) run fr r:=by
            simp only[aN,hb,hkf2,hp,hdash,if_false,abd,aaq]
           obtain⟨ov',J',K',tl,hJ,a1⟩:=ih (d++[m]) run fr J K xs ov (by simp[hd]) (by simp;omega) (by simp;omega) (by simp;omega) hA;simp only[aah,aam] at hJ a1;refine⟨ov',J',K',tl,?_,by rw[hq];exact a1⟩;rw[hp] at hpd;rw[hb] at hbx;generalize hmm:L.getD (d.length-1) mz=mp at *;generalize L.map ab.dv=V at *;have g1':V[d.length]'l1=m.dv:=by rw[aaa l1] at g1;exact aab.inj g1
           have gp':V[d.length-1]'lpv=mp.dv:=by rw[aaa lpv] at hpv;exact aab.inj hpv
           generalize pl.map DV.bool=PL at *;have p1':PL[d.length]'lpd=.bool false:=by rw[aaa lpd] at hpd;exact aab.inj hpd
           simp only[ab.dv,ab.cs] at hbx hs1 hs2 g1' gp';simp at hJ
           have q3':dT p.text mp=true→dT p.text m=false→¬ (run:Int)<(d.length:Int)-1:=by
            intro e1 e2 h;rw[e1,e2] at hdash;have:¬ run<d.length-1:=by simpa using hdash
            omega
           rw[af (L:=gg) rfl]
           cases q1:dT p.text mp with
           | false=>
             rw[q1] at hs1;simp[fC,hV0,h0,h0',h0n,g1,g1',l1,hpv,gp',lpv,hbx,hkf',hkf2,hd0,hd0',hdne,hwm,htn,hpos,hs1,hs2,hpd,p1',lpd,hw1,hJ,ab.dv,ab.cs]
           | true=>
             cases q2:dT p.text m with
             | true=>
               rw[q1] at hs1;rw[q2] at hs2;simp[fC,hV0,h0,h0',h0n,g1,g1',l1,hpv,gp',lpv,hbx,hkf',hkf2,hd0,hd0',hdne,hwm,htn,hpos,hs1,hs2,hpd,p1',lpd,hw1,hJ,ab.dv,ab.cs]
             | false=>
               have q3:=q3' q1 q2;rw[q1] at hs1;rw[q2] at hs2;simp[fC,hV0,h0,h0',h0n,g1,g1',l1,hpv,gp',lpv,hbx,hkf',hkf2,hd0,hd0',hdne,hwm,htn,hpos,hs1,hs2,q3,hpd,p1',lpd,hw1,hJ,ab.dv,ab.cs]
theorem Ds (hy:p.pr.a9=0) (hp:p.small) (hw:w.ok 4 p.aC) (hu:u.ok 1 p.marks):∃ v,(E tab).F 238 [.agg (ah p w u)] st=some (.tuple [v,.int .i64 (ax p)],st)∧Lw 8 ((if ax p=0 then bI p else []).map It.dv) v:=by
 rw[au Nj rfl];have hc:=th p hp w u hw hu (pst st [.cells .plain (ah p w u)] []);by_cases h0:ax p=0
 · rw[if_pos h0];obtain⟨v,hb,hv⟩:=GQ (st:=pst st [.cells .plain (ah p w u)] []) hp hw hu;obtain⟨hN,_⟩:=cK h0;obtain⟨htl,_⟩:=cM hN;obtain⟨t2,hpt⟩:=BJ (st:=pst st [.cells .plain (ah p w u)] []) (w:=w) (u:=u) hy (mH p) htl (t:=v.t) (tk:=v.tk) (nn:=v.nn) hv.n;obtain⟨ov',J',K',tl,hJ,hA⟩:=KR (st:=st) (p:=p) (w:=w) (u:=u) (mH p) (t:=v.t) (tk:=v.tk) (nn:=v.nn) hv.n (lq p.text (bJ p) p.pr.a9) (t2:=t2) (tk2:=.tight) (bJ p) [] 0 0 [] [] [] (.list 0 0 .no false []) rfl (aai _) (aai _) (by simp) (dt _ _ _ _ _ _);rw[aaX] at hA;obtain⟨t',n',tk',nn',e1,e2,e3,e4⟩:=j6 (st':=pst st (.cells .plain (ah p w u)::J') K') hA;refine⟨.list t' n' tk' nn' ((bI p).map It.dv),?_,.list _ _ _ _ e3 e2⟩;obtain⟨q1,q2,q3,q4,rfl⟩:=dM hA;rw[h0] at hc ⊢;unfold bI;simp only[aaP] at e1 hJ;have e1':bP st (pst st (.cells .plain (ah p w u)::J') K') (.list q1 q2 q3 q4 ((aN p.text (bJ p) (fV p.text (bJ p) p.pr.a9) 0 0 0 (bJ p)).map It.dv))=_:=e1;generalize (aN p.text (bJ p) (fV p.text (bJ p) p.pr.a9) 0 0 0 (bJ p)).map It.dv=X at *;generalize (fV p.text (bJ p) p.pr.a9).map DV.bool=PL at *;generalize (bJ p).map ab.dv=V at *;simp at hJ e1';simp[f238,hc,hb,hpt,hJ,e1']
 · rw[if_neg h0];refine⟨.list 0 0 .no false [],?_,.list _ _ _ _ (fun h=>by cases h) (fun _=>rfl)⟩;simp[f238,hc,h0]
end
theorem kR {n:Nat} {xs:List DV} {v:DV} (h:Lw n xs v):∃ t n' tk nn,v=.list t n' tk nn xs∧(xs≠[]→n'=n)∧(nn=true→n'=n)∧(nn=false→xs=[]):=by
 cases h with
 | list t n' tk nn h1 h2=>exact⟨t,n',tk,nn,rfl,fun hx=>h1 (by cases nn with | true=>rfl | false=>exact absurd (h2 rfl) hx),h1,h2⟩
theorem QS:tab 234=some (.code f234):=by kernel_rfl
theorem PN:tab 211=some (.code f211):=by kernel_rfl
theorem Uo (x y:Int):fg j4 [.int .i64 x,.int .i64 y]=some (.int .i64 (min x y)):=by
 have:(if y<x then y else x)=min x y:=by split<;>omega
 simp[fg,j4,this]
def nR (p:bh):Int:=if dS p=true then wd (bAt p.text 0) (min (p.pr.size*p.pr.drop) 64)+4 else 0
theorem dI {p:bh} (h:ax p=0):1≤p.pr.size∧p.pr.size≤64∧0≤p.pr.drop∧p.pr.drop≤4∧0≤p.pr.align∧p.pr.align≤3∧p.text.length≤4096:=by
 obtain⟨h1,_,_,hpr,_⟩:=cK h;have:=(cM h1).1;simp only[b7,fb,aac,decide_eq_true_eq] at hpr;omega
theorem kQ {p:bh} (h:dS p=true):ax p=0∧0<p.text.length∧0<(az p).length:=by
 simp only[dS,aac,decide_eq_true_eq] at h
 have h0:ax p=0:=by
  refine aaY fun hc=>?_;have:az p=[]:=by unfold az;rw[if_neg hc]
  rw[this] at h;simp at h
 have hm:=(kv p).at_ ((az p)[0]'h.2.1) (aar _);exact⟨h0,by omega,h.2.1⟩
theorem Hq (p:bh):0≤nR p∧nR p≤68∧(dS p=true→4≤nR p):=by
 unfold nR;by_cases h:dS p=true
 · have hc:=dI (kQ h).1;have h2:2≤p.pr.drop:=by simp only[dS,aac,decide_eq_true_eq] at h;exact h.1
   have hm:(2:Int)≤p.pr.size*p.pr.drop:=by
    have:=Int.mul_le_mul hc.1 h2 (by omega) (by omega);omega
   have h1:1≤min (p.pr.size*p.pr.drop) 64:=by omega
   have h3:min (p.pr.size*p.pr.drop) 64≤64:=by omega
   have:=pS (bAt p.text 0) h1 h3;rw[if_pos h];omega
 · rw[if_neg h];exact⟨by omega,by omega,fun e=>absurd e h⟩
section
variable {st:St} {p:bh} {w u:LW}
theorem yj {t n:Nat} {tk:Tk} {nn:Bool} (h6:az p≠[]→n=6):(E tab).F 234 [.agg (ah p w u),.list t n tk nn ((az p).map ab.dv)] st=some (.int .i64 (nR p),st):=by
 rw[au QS rfl];have hV0:((az p).map ab.dv).length=(az p).length:=by simp
 have hpd:=xX (p:=p) (w:=w) (u:=u);unfold nR;by_cases h1:2≤p.pr.drop
 · have h1':¬ p.pr.drop<2:=by omega
   by_cases h2:0<(az p).length
   · have h2':¬ ((az p).length:Int)=0:=by omega
     have h2b:¬ az p=[]:=by intro e;rw[e] at h2;simp at h2
     obtain rfl:=h6 h2b;have g0:=ib (L:=az p) h2;have l0:0<((az p).map ab.dv).length:=by simpa using h2
     by_cases h3:((az p).getD 0 mz).k=1
     · have hb:dS p=true:=by simp only[dS,h1,h2,h3,decide_true,Bool.true_and,beq_self_eq_true]
       rw[if_pos hb];obtain⟨h0,ht,_⟩:=kQ hb;have hc:=dI h0
       have hm:(2:Int)≤p.pr.size*p.pr.drop∧p.pr.size*p.pr.drop≤256:=by
        have a:=Int.mul_le_mul hc.1 h1 (by omega) (by omega);have b:=Int.mul_le_mul hc.2.1 hc.2.2.2.1 hc.2.2.1 (by omega);omega
       have hm1:1≤min (p.pr.size*p.pr.drop) 64:=by omega
       have hm3:min (p.pr.size*p.pr.drop) 64≤64:=by omega
       have hww:=pS (bAt p.text 0) hm1 hm3;have hmin:=Uo (p.pr.size*p.pr.drop) 64;have hsl:bS true 1 (.str p.text) none (some (.int .i64 1)) none=some (.str (p.text.take 1)):=by rw[Dy (by omega) (by omega)];simp
       have hW:∀ st,(E tab).F 17 [.str (p.text.take 1),.int .i64 (min (p.pr.size*p.pr.drop) 64)] st=some (.tuple [.int .i64 (wd (bAt p.text 0) (min (p.pr.size*p.pr.drop) 64)),.int .i64 0],st):=by
        intro st
        have e:p.text.take 1=[bAt p.text 0]:=by
         cases hs:p.text with
         | nil=>rw[hs] at ht;simp at ht
         | cons a r=>simp[bAt]
        rw[r9,e];have hw:IntKind.i64.wrap (wd (bAt p.text 0) (min (p.pr.size*p.pr.drop) 64))=wd (bAt p.text 0) (min (p.pr.size*p.pr.drop) 64):=ar (by omega);simp only[fj];rw[if_pos ⟨hm1,hm3⟩];simp[tw,hw]
       have hw2:IntKind.i64.wrap (p.pr.size*p.pr.drop)=p.pr.size*p.pr.drop:=ar (by omega);have hw3:IntKind.i64.wrap (wd (bAt p.text 0) (min (p.pr.size*p.pr.drop) 64)+4)=wd (bAt p.text 0) (min (p.pr.size*p.pr.drop) 64)+4:=ar (by omega);generalize (az p).getD 0 mz=m at *;generalize (az p).map ab.dv=V at *;have g0':V[0]'l0=m.dv:=by rw[aaa l0] at g0;exact aab.inj g0
       generalize wd (bAt p.text 0) (min (p.pr.size*p.pr.drop) 64)=W at *;have ht1:(1:Int)≤p.text.length:=by omega
       simp[f234,hpd,h1',hV0,h2b,h2',g0,g0',l0,ab.dv,ab.cs,h3,hw2,hw3,hW,hsl,hmin]
     · have hb:¬ dS p=true:=by
        simp only[dS,aac];rintro⟨_,_,h⟩;exact h3 (by simpa using h)
       rw[if_neg hb];generalize (az p).getD 0 mz=m at *;generalize (az p).map ab.dv=V at *;have g0':V[0]'l0=m.dv:=by rw[aaa l0] at g0;exact aab.inj g0
       simp[f234,hpd,h1',hV0,h2b,h2',g0,g0',l0,ab.dv,ab.cs,h3]
   · have h2':az p=[]:=aaU.1 (by omega);have hb:¬ dS p=true:=by simp[dS,h2']
     rw[if_neg hb,h2'];simp[f234,hpd,h1']
 · have h1':p.pr.drop<2:=by omega
   have hb:¬ dS p=true:=by simp only[dS,aac,decide_eq_true_eq];rintro⟨h,_⟩;exact h1 h
   rw[if_neg hb];generalize (az p).map ab.dv=V at *;simp[f234,hpd,h1']
theorem F9 (hp:p.small) (hw:w.ok 4 p.aC) (hu:u.ok 1 p.marks):(E tab).F 211 [.agg (ah p w u)] st=some (.tuple [.int .i64 (nR p),.int .i64 (ax p)],st):=by
 rw[au PN rfl];obtain⟨_,hm,v,rfl,hv⟩:=vD p hp w u hw hu (pst st [.cells .plain (ah p w u)] []);have hc:=fun st=>yj (st:=st) (p:=p) (w:=w) (u:=u) (t:=v.t) (tk:=v.tk) (nn:=v.nn) hv.n;by_cases h0:ax p=0
 · generalize (az p).map ab.dv=V at *;simp[f211,hm,h0,hc]
 · have hb:¬ dS p=true:=fun h=>h0 (kQ h).1;have hcp:nR p=0:=by unfold nR;rw[if_neg hb]
   generalize (az p).map ab.dv=V at *;simp[f211,hm,h0,hcp]
structure Ln where
 f:Int
 t:Int
 x:Int
 w:Int
 n:Int
 h:Bool
 g:Int
def Ln.cs (l:Ln):List DV:=[.int .i64 l.f,.int .i64 l.t,.int .i64 l.x,.int .i64 l.w,.int .i64 l.n,.bool l.h,.int .i64 l.g]
def Ln.dv (l:Ln):DV:=.agg l.cs
end
theorem Rx:tab 322=some (.code Ft):=by kernel_rfl
theorem MO:tab 329=some (.code GN):=by kernel_rfl
def eM:List It→Int
 | []=>0
 | x::r=>x.s+eM r
def eP:List It→Int
 | []=>0
 | x::r=>x.h+eP r
theorem pq:∀ a b,eM (a++b)=eM a+eM b
 | [],b=>by simp[eM]
 | x::a,b=>by simp only[aaF,eM,pq a b];omega
theorem pZ:∀ a b,eP (a++b)=eP a+eP b
 | [],b=>by simp[eP]
 | x::a,b=>by simp only[aaF,eP,pZ a b];omega
def okS (l:List It):Prop:=∀ x∈l,0≤x.s∧x.s≤4095∧0≤x.h∧x.h≤4095
theorem Ep {l:List It} (h:bd l=0):okS l:=by
 unfold bd at h;split at h
 · omega
 · split at h
   · omega
   · rename_i h2;intro x hx;rw[Bool.not_eq_true,List.any_eq_false] at h2;have:=h2 x hx;simp[fc,nJ,bm] at this;omega
theorem wB:∀ {l:List It},okS l→0≤eM l∧eM l≤4095*l.length∧0≤eP l∧eP l≤4095*l.length
 | [],_=>by simp[eM,eP]
 | x::r,h=>by
   have h1:=h x (aap ..);have h2:=wB (l:=r) fun y hy=>h y (aan _ hy);simp only[eM,eP,aax];omega
def yY (l:List It) (a b:Int):DV:=
 if dY l a b≠0 then .tuple [.int .i64 0,.int .i64 0,.int .i64 (dY l a b)]
 else .tuple [.int .i64 (eM ((l.drop a.toNat).take (aI l a.toNat b.toNat-a.toNat))),.int .i64 (eP ((l.drop a.toNat).take (aI l a.toNat b.toNat-a.toNat))),.int .i64 0]
section
variable {st:St} {l:List It} {v:DV}
theorem Jt (l':List It) {v':DV} (hv':Its st l' v') (hok:okS l') (hl:l'.length≤8192) (K:List Nat):∀ (r d:List It) (H:List HO),l'=d++r →
 ∃ J fr,(E tab).C se [(10,.int .i64 (eM d)),(11,.int .i64 (eP d)),(24,v'),(25,.int .i64 l'.length),(26,.int .i64 d.length)] (pst st H K) =
   some (.exit 0,[(10,.int .i64 (eM l')),(11,.int .i64 (eP l'))]++fr,pst st (H++J) K):=by
 intro r
 induction r with
 | nil=>
   intro d H hd;refine⟨[],[(24,v'),(25,.int .i64 l'.length),(26,.int .i64 l'.length),(27,.bool false)],?_⟩;rw[af (L:=se) rfl];simp[wC,hd]
 | cons x r ih=>
   intro d H hd;have h0:d.length<l'.length:=by simp[hd]
   have hx:l'[d.length]? = some x:=by simp[hd]
   have hw1:IntKind.i64.wrap ((d.length:Int)+1)=((d++[x]).length:Nat):=by rw[ar (by omega)];simp
   have e1:=fun st'=>b4 hv' h0 .i64 st';have e2:=fun H K=>og hv' hx H K;simp only[It.dv,It.cs] at e2;have hs:=wB (l:=d++[x]) fun y hy=>hok y (by rw[hd];simp at hy ⊢;rcases hy with h | h;exact .inl h;exact .inr (.inl h));have hlen:(d++[x]).length≤8192:=by have:=congrArg List.length hd;simp at this ⊢;omega
   have eS:eM (d++[x])=eM d+x.s:=by rw[pq];simp[eM]
   have eH:eP (d++[x])=eP d+x.h:=by rw[pZ];simp[eP]
   have w2:IntKind.i64.wrap (eM d+x.s)=eM (d++[x]):=by rw[eS,ar (by omega)]
   have w3:IntKind.i64.wrap (eP d+x.h)=eP (d++[x]):=by rw[eH,ar (by omega)]
   obtain⟨J,fr,hJ⟩:=ih (d++[x]) (H++[.cells .plain x.cs]) (by simp[hd]);refine⟨.cells .plain x.cs::J,fr,?_⟩;simp only[aah,aam] at hJ hw1;simp[It.cs] at hJ;rw[af (L:=se) rfl];simp[wC,h0,e1,e2,It.cs,hw1,w2,w3,hJ]
theorem Hj (hv:Its st l v) (a b:Int):(E tab).F 322 [v,.int .i64 a,.int .i64 b] st=some (yY l a b,st):=by
 rw[au Rx rfl];have e0:=fun st'=>bH hv st';have e1:=rE (hv.inn [] []) a b;unfold yY;by_cases h1:dY l a b=0
 · obtain⟨h3,h4,h5,h6⟩:=l7 h1;obtain⟨hok,hlen⟩:=dQ h3;have hok2:=Ep h3;obtain⟨A,rfl⟩:=aaK h4;obtain⟨B,rfl⟩:=aaK (show 0≤b by omega);obtain⟨v',et,hv'⟩:=oC (hv.inn [] []) (by omega) A B (by omega) (by omega);have hv':=Vw.out hv';have hlt:=gJ l A B;have hok':okS ((l.drop A).take (aI l A B-A)):=fun y hy=>hok2 y (aao (aaz hy));have hlen':((l.drop A).take (aI l A B-A)).length≤8192:=by simp;omega
   obtain⟨J,fr,hL⟩:=Jt _ hv' hok' hlen' [] _ [] [] rfl;have e3:=fun st'=>bH hv' st';simp only[abf];generalize ((l.drop A).take (aI l A B-A))=l' at *;simp[eM,eP] at hL;simp[Ft,e0,e1,e3,h1,et,hL]
 · simp[Ft,e1,h1]
theorem Lc (hv:Its st l v) (hok:okS l) (hl:l.length≤8192) (A B:Nat) (hAB:A≤B) (hB:B≤l.length) (H:List HO) (K:List Nat):∀ (m i:Nat),i+m=aI l A B→A≤i →
 ∃ fr,(E tab).C s9 [(0,v),(1,.int .i64 A),(2,.int .i64 B),(8,.int .i64 (eM ((l.drop A).take (i-A)))),(9,.int .i64 (eP ((l.drop A).take (i-A)))),(10,.int .i64 i)] (pst st H K) =
   some (.exit 0,[(0,v),(1,.int .i64 A),(2,.int .i64 B),(8,.int .i64 (eM ((l.drop A).take (aI l A B-A)))),(9,.int .i64 (eP ((l.drop A).take (aI l A B-A))))]++fr,pst st H K):=by
 have hT:=fun st' (h:Its st' l v)=>zd h (by omega) A B hAB hB;have hle:=gJ l A B;intro m
 induction m with
 | zero=>
   intro i hi hA;refine⟨[(10,.int .i64 i),(17,.bool false)],?_⟩;rw[af (L:=s9) rfl];obtain rfl:i=aI l A B:=by omega
   simp[xU,hT _ (hv.inn H K)]
 | succ m ih=>
   intro i hi hA;have h0:i<aI l A B:=by omega
   have hil:i<l.length:=by omega
   have hx:l[i]? = some l[i]:=aaa hil;have hw1:IntKind.i64.wrap ((i:Int)+1)=(i+1:Nat):=by rw[ar (by omega)];simp
   have e1:=fun st'=>b4 hv hil .i64 st';have e2:=fun st'=>cF hv hx (off:=4) (by omega) st';have e3:=fun H K=>NQ hv hx H K;have e4:=fun st'=>cF hv hx (off:=5) (by omega) st';have e5:=fun H K=>Pd hv hx H K
   have ed:(l.drop A).take (i+1-A)=(l.drop A).take (i-A)++[l[i]]:=by
    rw[show i+1-A=(i-A)+1 by omega,List.take_succ_eq_append_getElem (by simp;omega)]
    congr 2
    rw[List.getElem_drop];congr 1;omega
   have hs:=wB (l:=(l.drop A).take (i+1-A)) fun y hy=>hok y (aao (aaz hy));have hlen:((l.drop A).take (i+1-A)).length≤8192:=by simp;omega
   have eS:eM ((l.drop A).take (i+1-A))=eM ((l.drop A).take (i-A))+l[i].s:=by rw[ed,pq];simp[eM]
   have eH:eP ((l.drop A).take (i+1-A))=eP ((l.drop A).take (i-A))+l[i].h:=by rw[ed,pZ];simp[eP]
   have w2:IntKind.i64.wrap (eM ((l.drop A).take (i-A))+l[i].s)=eM ((l.drop A).take (i+1-A)):=by rw[eS,ar (by omega)]
   have w3:IntKind.i64.wrap (eP ((l.drop A).take (i-A))+l[i].h)=eP ((l.drop A).take (i+1-A)):=by rw[eH,ar (by omega)]
   obtain⟨fr,hJ⟩:=ih (i+1) (by omega) (by omega);refine⟨fr,?_⟩;generalize eM ((l.drop A).take (i+1-A))=S1 at *;generalize eP ((l.drop A).take (i+1-A))=H1 at *;generalize eM ((l.drop A).take (i-A))=S0 at *;generalize eP ((l.drop A).take (i-A))=H0 at *;generalize l[i]=x at *;simp at hJ;rw[af (L:=s9) rfl];simp[xU,hT _ (hv.inn H K),h0,e1,e2,e3,e4,e5,hw1,w2,w3,hJ]
end
structure Sl where
 x:Int
 w:Int
def Sl.cs (s:Sl):List DV:=[.int .i64 s.x,.int .i64 s.w]
def Sl.dv (s:Sl):DV:=.agg s.cs
theorem um (s:Sl):fR 2 true s.dv:=⟨rfl,rfl,rfl⟩
theorem pL {l:List Sl}:∀ y∈l.map Sl.dv,fR 2 true y:=fun y hy=>by obtain⟨x,_,rfl⟩:=aaT.1 hy;exact um x
abbrev Sls (st:St) (l:List Sl) (v:DV):Prop:=Vw st 2 true (l.map Sl.dv) v
structure Pc where
 a:Int
 b:Int
 wide:Bool
 hy:Bool
 n:Int
def Pc.cs (p:Pc):List DV:=[.int .i64 p.a,.int .i64 p.b,.bool p.wide,.bool p.hy,.int .i64 p.n]
def Pc.dv (p:Pc):DV:=.agg p.cs
theorem Iw (p:Pc):fR 5 true p.dv:=⟨rfl,rfl,rfl⟩
theorem Nt:tab 113=some (.code f113):=by kernel_rfl
theorem QL:tab 114=some (.code f114):=by kernel_rfl
theorem Mh:tab 126=some (.code f126):=by kernel_rfl
theorem MV:tab 127=some (.code f127):=by kernel_rfl
theorem N7:tab 128=some (.code f128):=by kernel_rfl
theorem NB:tab 129=some (.code f129):=by kernel_rfl
theorem NS:tab 130=some (.code f130):=by kernel_rfl
theorem NI:tab 140=some (.code f140):=by kernel_rfl
theorem Pb:tab 141=some (.code f141):=by kernel_rfl
theorem Nz:tab 142=some (.code f142):=by kernel_rfl
def hI (s:Sl):Bool:=bm s.x&&bm s.w
theorem Kt (s:Sl) (st:St):(E tab).F 140 [s.dv] st=some (.bool (hI s),st):=by
 rw[au NI rfl];unfold hI bm;by_cases h1:0≤s.x
 · by_cases h2:s.x≤4095
   · by_cases h3:0≤s.w
     · simp[f140,Sl.dv,Sl.cs,h1,h2,h3]
     · simp[f140,Sl.dv,Sl.cs,h1,h2,h3]
   · simp[f140,Sl.dv,Sl.cs,h1,h2]
 · simp[f140,Sl.dv,Sl.cs,h1]
def lV (l:List Sl) (rest:Sl) (n:Nat):Sl:=(l[n]?).getD rest
def aS (l:List Sl) (rest:Sl) (n:Int):Sl:=if n<0 then ⟨0,0⟩ else lV l rest n.toNat
section
variable {st:St} {l:List It} {v:DV} {sl:List Sl} {sv:DV} {rest:Sl}
theorem rY (hv:Sls st sl sv) (n:Int):(E tab).F 114 [sv,rest.dv,.int .i64 n] st=some ((aS sl rest n).dv,st):=by
 rw[au QL rfl];have e0:=fun st'=>Vw.len hv st';simp only[aaM] at e0;unfold aS lV;by_cases h1:n<0
 · simp[f114,Sl.dv,Sl.cs,h1]
 · obtain⟨n,rfl⟩:=aaK (show 0≤n by omega);by_cases h2:n<sl.length
   · have hx:sl[n]? = some sl[n]:=aaa h2;have e1:=fun st'=>Vw.aY hv (i:=n) (by simpa using h2) .i64 st';have e2:=fun H K=>Vw.load (Vw.inn hv H K) pL rfl (i:=n) (x:=sl[n].dv) (by simp[hx]);simp only[Sl.dv,Sl.cs] at e2;simp[f114,Sl.dv,Sl.cs,e0,h2,e1,e2]
   · simp[f114,Sl.dv,Sl.cs,e0,h2]
def c9 (sl:List Sl) (rest:Sl):Int:=if 256<sl.length then 3 else if sl.all hI&&hI rest then 0 else 2
theorem Ka (all:List Sl) (hl:all.length≤1000) (t:Nat) (tk:Tk) (K:List Nat):∀ (r d:List Sl) (H:List HO),all=d++r →
 ∃ J fr,(E tab).C m9 [(14,.list t 2 tk true (all.map Sl.dv)),(15,.int .i64 all.length),(16,.int .i64 d.length)] (pst st H K) =
   some (if r.all hI then (.exit 0,fr,pst st (H++J) K) else (.ret,[(4,.int .i64 2)],pst st (H++J) K)):=by
 intro r
 induction r with
 | nil=>
   intro d H hd;refine⟨[],[(14,.list t 2 tk true (all.map Sl.dv)),(15,.int .i64 all.length),(16,.int .i64 all.length),(17,.bool false)],?_⟩;rw[af (L:=m9) rfl];simp[tc,hd]
 | cons x r ih=>
   intro d H hd;have h0:d.length<all.length:=by simp[hd]
   have hg:all[d.length]=x:=by simp[hd]
   have hw1:IntKind.i64.wrap ((d.length:Int)+1)=((d++[x]).length:Nat):=by rw[ar (by omega)];simp
   have e1:=fun st=>Kt x st;simp only[Sl.dv,Sl.cs] at e1;rw[aa3]
   cases hm:hI x with
   | false=>
     rw[hm] at e1;refine⟨[.cells .plain x.cs],[],?_⟩;rw[af (L:=m9) rfl];simp[tc,h0,hg,Sl.dv,Sl.cs,e1]
   | true=>
     rw[hm] at e1;obtain⟨J,fr,hJ⟩:=ih (d++[x]) (H++[.cells .plain x.cs]) (by simp[hd]);refine⟨.cells .plain x.cs::J,fr,?_⟩;rw[Bool.true_and];generalize r.all hI=b at hJ ⊢;simp only[aah,aam] at hJ hw1;simp[Sl.cs,Sl.dv] at hJ;rw[af (L:=m9) rfl];simp[tc,h0,hg,Sl.dv,Sl.cs,e1,hw1,hJ]
theorem uj (hv:Sls st sl sv):(E tab).F 126 [sv,rest.dv] st=some (.int .i64 (c9 sl rest),st):=by
 rw[au Mh rfl];have e0:=fun st'=>Vw.len hv st';simp only[aaM] at e0;unfold c9;by_cases h:256<sl.length
 · have h':(256:Int)<sl.length:=by omega
   simp[f126,Sl.dv,Sl.cs,e0,h,h']
 have h':¬ (256:Int)<sl.length:=by omega
 have hn:=Vw.news (Vw.inn hv [.cells .plain rest.cs] []);simp only[aaM] at hn;have hfl:=iW (n:=2) (ag:=true) (ys:=sl.map Sl.dv) pL;have hdm:=dH hfl;have hch:=fA (n:=2) (ag:=true) (ys:=sl.map Sl.dv) pL;simp only[aaM] at hch;have hL:=Ka (st:=st) (sl++[rest]) (by simp;omega) st.cur (.own st.bc.length (if sl.length=0 then 0 else 1)) [if sl.length=0 then 0 else 1] (sl++[rest]) [] [.cells .plain rest.cs] rfl;obtain⟨J,fr,hL⟩:=hL;have ea:((sl++[rest]).all hI)=(sl.all hI&&hI rest):=by simp
 rw[ea] at hL;have hb1:sl.length*16≤140737488355328:=by omega
 have hb2:sl.length≤140737488355328:=by omega
 have hb3:(sl.length+1)*16≤140737488355328:=by omega
 have hb4:sl.length+1≤140737488355328:=by omega
 generalize (sl.all hI&&hI rest)=b at *
 have hreg:(E tab).C (.av yh [] [(2,[0]),(3,[0])] [14,15,16]) [(0,sv),(3,.ptr st.heap.length 0),(9,.bool false)] (pst st [.cells .plain rest.cs] []) =
  some (.normal,[(14,.list st.cur 2 (.own st.bc.length (if sl.length=0 then 0 else 1)) true ((sl++[rest]).map Sl.dv)),(15,.int .i64 (sl++[rest]).length),(16,.int .i64 0)],pst st [.cells .plain rest.cs] [if sl.length=0 then 0 else 1]):=by
  have hvi:=hv.inn [.cells .plain rest.cs] [];by_cases hz:sl=[]
  · subst hz;have a1:=At (t:=0) (n':=0) (by_:=16) (tk:=.no) (nn:=false) (ys:=[]) hvi;have a2:=yF (st:=st) (H:=[.cells .plain rest.cs]) (K:=[]) (n:=2) (n':=0) (t:=0) (t':=st.cur) (by_:=16) (ag:=true) (tk:=.no) (tk':=.tight) (nn:=false) (xs:=[]) (ys:=[rest.dv]) (.inl rfl) (by omega) (by simp) (by simp[um]) (by simp[aD]) (by simp[aD]);simp[Sl.dv,Sl.cs] at a1 a2;have hp4:aH (al tab) (.append 2 true 16 (.c (.list 0 0 .no false [])) (.t 10))=true:=rfl;simp[aF,bE,bN,bM,aH,aw,aK,chunk,Sl.dv,Sl.cs,a1,a2]
  · have hp:0<sl.length:=aaZ.2 hz;have hne:¬ sl.length=0:=by omega
    have a1:=Fc (t:=0) (n':=0) (by_:=16) (tk:=.no) hvi pL (by simpa using hz) (by omega) (by simp[aD];omega) (by simp[aD];omega);have a2:=za (st:=st) (H:=[.cells .plain rest.cs]) (K:=[0]) (n:=2) (t:=st.cur) (t':=st.cur) (by_:=16) (k:=0) (s:=0) (ag:=true) (tk':=.tight) (xs:=sl.map Sl.dv) (ys:=[rest.dv]) rfl (by omega) (by simp) (by simp[um]) (by simp[aD];omega) (by simp[aD];omega);simp[Sl.dv,Sl.cs] at a1 a2;have w1:((sl.length:Int)+1)=((sl.length+1:Nat):Int):=by simp
    simp[aF,bE,bN,bM,aH,aw,aK,chunk,Sl.dv,Sl.cs,a1,a2,hne,hz]
 have h0:(E tab).C (.region wL [0,3]) (bq [sv,rest.dv] 0) (pst st [] [])=some (.normal,[(0,sv),(3,.ptr st.heap.length 0)],pst st [.cells .plain rest.cs] []):=by simp[Sl.dv,Sl.cs]
 have h1:(E tab).C (.seq (.region xG [0,3,9]) (.cond (.t 9) (.seq (.region xD [4]) .ret) .skip)) [(0,sv),(3,.ptr st.heap.length 0)] (pst st [.cells .plain rest.cs] [])=some (.normal,[(0,sv),(3,.ptr st.heap.length 0),(9,.bool false)],pst st [.cells .plain rest.cs] []):=by simp[e0,h,h']
 rw[show f126.body=(.seq (.region wL [0,3]) (.seq (.seq (.region xG [0,3,9]) (.cond (.t 9) (.seq (.region xD [4]) .ret) .skip)) (.seq (.seq (.av yh [] [(2,[0]),(3,[0])] [14,15,16]) (.block 0 m9)) (.seq (.region B2 [4]) .ret)))) from rfl,cB,h0];simp only;rw[cB,h1];simp only;rw[cB,cB,hreg];simp only[aaP] at hL;simp only[nT];have hL':=hL;simp only[Int.natCast_zero] at hL'
 erw [hL']
 cases b<;>simp[f126,h]
end
structure BrS (N:Nat) (lv sv ov:DV) (rest:Sl) (G:List HO):Prop where
 r0:rowAt G 0=some (.plain,[sv])
 r1:rowAt G 1=some (.plain,rest.cs)
 r2:rowAt G 2=some (.plain,[lv,.fn 127 [] [.ptr N 0,.ptr (N+1) 0],ov])
theorem BrS.app {N:Nat} {lv sv ov:DV} {rest:Sl} {G:List HO} (h:BrS N lv sv ov rest G) (X:List HO):BrS N lv sv ov rest (G++X):=⟨jK h.r0 X,jK h.r1 X,jK h.r2 X⟩
section
variable {st:St} {l:List It} {lv sv ov:DV} {sl:List Sl} {rest:Sl} {G:List HO} {K:List Nat}
theorem Gm (hs:Sls st sl sv) (hG:BrS st.heap.length lv sv ov rest G) (n:Int):(E tab).F 127 [.int .i64 n,.ptr st.heap.length 0,.ptr (st.heap.length+1) 0] (pst st G K)=some ((aS sl rest n).dv,pst st (G++[.cells .plain (aS sl rest n).cs]) K):=by
 rw[fq MV rfl];have e1:=rY (rest:=rest) (hs.inn (G++[.cells .plain [.int .i64 0,.int .i64 0]]) K) n;have hr0:=jK hG.r0 [.cells .plain [.int .i64 0,.int .i64 0]];have hr1:=jK hG.r1 [.cells .plain [.int .i64 0,.int .i64 0]];generalize aS sl rest n=s at *;simp only[Sl.cs,Sl.dv] at hr1 e1;simp[f127,hr0,hr1,e1,Sl.cs,Sl.dv]
theorem BE (hv:Its st l lv) (hl:l.length≤140737488355328) (hG:BrS st.heap.length lv sv ov rest G) (i:Nat) (hi:i≤l.length):(E tab).F 141 [.ptr (st.heap.length+2) 0,.int .i64 i] (pst st G K)=some (.bool (kl l i),pst st G K):=by
 have e0:=fun st'=>bH hv st';have hr:=hG.r2;rw[fq Pb rfl];unfold kl;by_cases h:i=l.length
 · simp[f141,hr,e0,h]
 have h0:i<l.length:=by omega
 have hb:(i==l.length)=false:=by simp[h]
 have h':¬ (i:Int)=l.length:=by omega
 have hx:l[i]? = some l[i]:=aaa h0;have e1:=fun st'=>b4 hv h0 .i64 st';have e2:=fun st'=>cF hv hx (off:=0) (by omega) st';have e3:=fun H K=>eY hv hx H K;rw[hx,hb];generalize l[i]=x at *;by_cases k3:x.k=3
 · simp[f141,hr,e0,h,h',e1,e2,e3,k3]
 by_cases k2:x.k=2
 · by_cases hp:0<i
   · have h1:i-1<l.length:=by omega
     have hy:l[i-1]? = some l[i-1]:=aaa h1;have q1:=fun st'=>b4 hv h1 .i64 st';have q2:=fun st'=>cF hv hy (off:=0) (by omega) st';have q3:=fun H K=>eY hv hy H K;have w:IntKind.i64.wrap ((i:Int)-1)=((i-1:Nat):Int):=by rw[ar (by omega)];omega
     rw[hy];generalize l[i-1]=y at *;simp[f141,hr,e0,h,h',e1,e2,e3,k2,hp,w,q1,q2,q3]
   · simp[f141,hr,e0,h,h',e1,e2,e3,k2,hp]
 · simp[f141,hr,e0,h,h',e1,e2,e3,k3,k2]
theorem Hu (hv:Its st l lv) (hc:bd l=0) (hG:BrS st.heap.length lv sv ov rest G) (i:Nat) (hi:i<l.length) (a:Int) (ha:0≤a∧a≤100000000000):(E tab).F 142 [.ptr (st.heap.length+2) 0,.int .i64 i,.int .i64 a] (pst st G K)=some (.int .i64 (bX a l[i]),pst st G K):=by
 have hr:=hG.r2;obtain⟨hok,hlen⟩:=dQ hc;rw[fq Nz rfl];have hx:l[i]? = some l[i]:=aaa hi;have hxm:=hok _ (aar hi);have e1:=fun st'=>b4 hv hi .i64 st';have e2:=fun st'=>cF hv hx (off:=0) (by omega) st';have e3:=fun H K=>eY hv hx H K;have e4:=fun st'=>cF hv hx (off:=3) (by omega) st';have e5:=fun H K=>vJ hv hx H K;have hd:(l.drop i).take (i+1-i)=[l[i]]:=by rw[show i+1-i=1 by omega,abl hi];rfl
 have hs:=lC hxm ha.1;by_cases k1:l[i].k=1
 · have w1:IntKind.i64.wrap (a+l[i].w)=bX a l[i]:=by simp only[bX,k1,true_or,if_true] at hs ⊢;exact ar (by omega)
   generalize l[i]=x at *;simp[f142,hr,e1,e2,e3,e4,e5,k1,w1]
 by_cases k2:l[i].k=2
 · have w1:IntKind.i64.wrap (a+l[i].w)=bX a l[i]:=by simp only[bX,k2,or_true,if_true] at hs ⊢;exact ar (by omega)
   generalize l[i]=x at *;simp[f142,hr,e1,e2,e3,e4,e5,k1,k2,w1]
 by_cases k4:l[i].k=4
 · obtain⟨v',hsl,hv'⟩:=Vw.slice hv (by omega) p5 (lo:=i) (hi:=i+1) (by omega) (by simp;omega) .i64 .i64;have w1:IntKind.i64.wrap ((i:Int)+1)=((i+1:Nat):Int):=by rw[ar (by omega)];simp
   rw[← List.map_drop,← List.map_take,hd] at hv'
   have hc1:bd [l[i]]=0:=by
    have:l.any fc=false:=by
     unfold bd at hc;split at hc
     · omega
     · split at hc
       · omega
       · rename_i h;simpa using h
    have ho:=List.any_eq_false.1 this _ (aar hi);simp only[Bool.not_eq_true] at ho;simp[bd,ho]
   have eS:bX a l[i]=fM a:=by simp[bX,k4]
   have hmin:fg j4 [.int .i64 a,.int .i64 4095]=some (.int .i64 (min a 4095)):=by
    have:(if (4095:Int)<a then (4095:Int) else a)=min a 4095:=by split<;>omega
    simp[fg,j4,this]
   have hmw:bm (min a 4095)=true:=by simp[bm];omega
   have hwid:=D1 (hv'.inn G K) 0 1 (min a 4095);have hrg:dY [l[i]] 0 1=0:=by unfold dY;rw[if_neg (by simp),hc1]
   have hwv:GO [l[i]] 0 1 (min a 4095)=.tuple [.int .i64 (fM (min a 4095)-min a 4095),.int .i64 0]:=by
    unfold GO;rw[hrg,hmw];simp[cf,aI,ia,k4,goI,bX]
   rw[hwv] at hwid;rw[eS];by_cases hm:4095<a
   · have q1:IntKind.i64.wrap (a.tdiv 48)=a/48:=IntWalk.i64_quo _ _ (by omega);have q2:IntKind.i64.wrap (a/48+1)=a/48+1:=ar (by omega);have q3:IntKind.i64.wrap ((a/48+1)*48)=fM a:=ar (by omega);simp at hsl w1;simp[f142,hr,e1,e2,e3,k1,k2,k4,hsl,w1,hmin,hwid,hm,q1,q2,q3]
   · have em:min a 4095=a:=by omega
     rw[em] at hwid hmin;have q1:IntKind.i64.wrap (a+(fM a-a))=fM a:=by rw[ar (by unfold fM;omega)];omega
     simp at hsl w1;simp[f142,hr,e1,e2,e3,k1,k2,k4,hsl,w1,hmin,hwid,hm,q1]
 · have w1:bX a l[i]=a:=by simp[bX,k1,k2,k4]
   rw[w1];simp[f142,hr,e1,e2,e3,k1,k2,k4]
theorem xn (x y z:DV) (st:St):(E tab).C jy [(0,x),(1,y),(26,z)] st=(E tab).C jy [(0,x),(1,y)] st:=by
 unfold jy;rw[jW];rfl
theorem yd (hv:Its st l lv) (hl:l.length≤140737488355328) (hG:BrS st.heap.length lv sv ov rest G):∀ (f i:Nat),l.length≤i+f→i≤l.length →
 ∃ fr,(E tab).C jy [(0,.ptr (st.heap.length+2) 0),(1,.int .i64 i)] (pst st G K)=some (.exit 0,[(0,.ptr (st.heap.length+2) 0),(1,.int .i64 (br l f i:Nat))]++fr,pst st G K):=by
 have e0:=fun st'=>bH hv st';have hr:=hG.r2;intro f
 induction f with
 | zero=>
   intro i h1 h2;obtain rfl:i=l.length:=by omega
   refine⟨[(46,.bool false)],?_⟩;rw[af (L:=jy) rfl];simp[oI,hr,e0,br]
 | succ f ih=>
   intro i h1 h2;by_cases h0:i<l.length
   · have hx:l[i]? = some l[i]:=aaa h0;have e1:=fun st'=>b4 hv h0 .i64 st';have e2:=fun st'=>cF hv hx (off:=0) (by omega) st';have e3:=fun H K=>eY hv hx H K;have hw1:IntKind.i64.wrap ((i:Int)+1)=(i+1:Nat):=by rw[ar (by omega)];simp
     by_cases hk:l[i].k=2
     · have eg:br l (f+1) i=br l f (i+1):=by simp[br,hx,hk]
       obtain⟨fr,hJ⟩:=ih (i+1) (by omega) (by omega);rw[eg];refine⟨fr,?_⟩;simp at hJ;rw[af (L:=jy) rfl];simp[oI,hr,e0,h0,e1,e2,e3,hk,hw1,hJ]
     · have eg:br l (f+1) i=i:=by simp[br,hx,hk]
       rw[eg];refine⟨[(46,.bool false)],?_⟩;rw[af (L:=jy) rfl];simp[oI,hr,e0,h0,e1,e2,e3,hk]
   · have eg:br l (f+1) i=i:=by simp[br,h0]
     have h0':¬ (i:Int)<l.length:=by omega
     rw[eg];refine⟨[(46,.bool false)],?_⟩;rw[af (L:=jy) rfl];simp[oI,hr,e0,h0,h0']
theorem C6 (hv:Its st l lv) (hl:l.length≤140737488355328) (hG:BrS st.heap.length lv sv ov rest G) (i:Nat) (hi:i≤l.length):(E tab).F 130 [.ptr (st.heap.length+2) 0,.int .i64 i] (pst st G K)=some (.int .i64 (du l i:Nat),pst st G K):=by
 have e0:=fun st'=>bH hv st';have hr:=hG.r2;rw[fq NS rfl];unfold du;by_cases h0:i<l.length
 · have hx:l[i]? = some l[i]:=aaa h0;have e1:=fun st'=>b4 hv h0 .i64 st';have e2:=fun st'=>cF hv hx (off:=0) (by omega) st';have e3:=fun H K=>eY hv hx H K;have hw1:IntKind.i64.wrap ((i:Int)+1)=(i+1:Nat):=by rw[ar (by omega)];simp
   rw[hx];by_cases hk:l[i].k=3
   · obtain⟨fr,hL⟩:=yd (K:=K) hv hl hG l.length (i+1) (by omega) (by omega);simp at hL;simp[f130,hr,e0,h0,e1,e2,e3,hk,hw1,xn,hL]
   · obtain⟨fr,hL⟩:=yd (K:=K) hv hl hG l.length i (by omega) hi;simp at hL;simp[f130,hr,e0,h0,e1,e2,e3,hk,xn,hL]
 · obtain⟨fr,hL⟩:=yd (K:=K) hv hl hG l.length i (by omega) hi;simp at hL;simp[f130,hr,e0,h0,xn,hL]
end
def kT (l:List It) (a:Nat) (X W:Int):Nat→Nat→Option Nat→Option (Nat×Bool)
 | 0,_,best=>best.map (·,false)
 | f+1,i,best=>
   if a<i∧kl l i=true then
    if W<cf l a i X then (match best with | none=>some (i,true) | some c=>some (c,false))
    else kT l a X W f (i+1) (some i)
   else kT l a X W f (i+1) best
theorem CD (l:List It):kl l l.length=true:=by simp[kl]
theorem gy (l:List It) (a:Nat) (X W:Int) (h:a<l.length):∀ (f i:Nat) (best:Option Nat),i+f=l.length+1→(best=none→i≤l.length)→a≤i→(∀ c,best=some c→a<c∧c≤l.length)→∃ b w,kT l a X W f i best=some (b,w)∧a<b∧b≤l.length
 | 0,i,best,h1,h2,h3,h4=>by
   cases best with
   | none=>have:=h2 rfl;omega
   | some c=>exact⟨c,false,rfl,h4 c rfl⟩
 | f+1,i,best,h1,h2,h3,h4=>by
   unfold kT;split
   · rename_i hc;split
     · cases best with
       | none=>exact⟨i,true,rfl,hc.1,h2 rfl⟩
       | some c=>exact⟨c,false,rfl,h4 c rfl⟩
     · exact gy l a X W h f (i+1) (some i) (by omega) (fun e=>by cases e) (by omega) (fun c e=>by cases e;omega)
   · rename_i hc;refine gy l a X W h f (i+1) best (by omega) (fun e=>?_) (by omega) h4;have:=h2 e;by_cases hi:i=l.length
     · subst hi;exact absurd ⟨by omega,CD l⟩ hc
     · omega
def eI:Option Nat→Int
 | none => -1
 | some c=>c
def iM (l:List It) (a:Nat) (X:Int):Option Nat→Int
 | none=>0
 | some c=>cf l a c X
def hyI (l:List It) (b:Nat):Bool:=match l[b]? with | some x=>x.y | none=>false
def dg (l:List It) (a:Nat) (s:Sl):Pc:=
 match kT l a s.x s.w (l.length+1-a) a none with
 | some (b,w)=>⟨a,b,w,hyI l b,cf l a b s.x⟩
 | none=>⟨a,-1,false,false,0⟩
section
variable {st:St} {l:List It} {lv sv ov:DV} {sl:List Sl} {rest:Sl} {G:List HO} {K:List Nat}
theorem Hs (l:List It) (a:Nat) (X:Int) (i:Nat) (ha:a≤i) (hi:i<l.length) :
 goI X ((l.drop a).take (i+1-a))=bX (goI X ((l.drop a).take (i-a))) l[i] ∧
 goI X ((l.drop a).take (aI l a (i+1)-a))=(if l[i].k=2 then goI X ((l.drop a).take (aI l a i-a)) else bX (goI X ((l.drop a).take (i-a))) l[i]):=by
 have ed:(l.drop a).take (i+1-a)=(l.drop a).take (i-a)++[l[i]]:=by
  rw[show i+1-a=(i-a)+1 by omega,List.take_succ_eq_append_getElem (by simp;omega)]
  congr 2
  rw[List.getElem_drop];congr 1;omega
 have e1:goI X ((l.drop a).take (i+1-a))=bX (goI X ((l.drop a).take (i-a))) l[i]:=by rw[ed,z6];rfl
 refine⟨e1,?_⟩;have hx:l[i]? = some l[i]:=aaa hi;by_cases hk:l[i].k=2
 · rw[if_pos hk,aI,if_pos ⟨ha,by simp[hx,hk]⟩]
 · rw[if_neg hk,aI,if_neg (by rintro⟨_,h⟩;simp[hx] at h;exact hk h),e1]
theorem Kz (hv:Its st l lv) (hc:bd l=0) (hG:BrS st.heap.length lv sv ov rest G) (i:Nat) (hi:i≤l.length) (w0:Int) (hw:-100000000000≤w0∧w0≤100000000000) (y1 y5 y6 y7 y8 y9 y10:DV) :
 ∃ ex,(E tab).C (.seq (.region sg [0,1,5,6,7,8,9,10,11,12,67]) (.cond (.t 67) (.region nV [0,1,5,6,7,8,9,10,11,12]) .skip)) [(0,.ptr (st.heap.length+2) 0),(1,y1),(5,y5),(6,y6),(7,y7),(8,y8),(9,y9),(10,y10),(11,.int .i64 i),(12,.int .i64 w0)] (pst st G K) =
   some (.normal,[(0,.ptr (st.heap.length+2) 0),(1,y1),(5,y5),(6,y6),(7,y7),(8,y8),(9,y9),(10,y10),(11,.int .i64 i),(12,.int .i64 (w0+ia l i))]++ex,pst st G K):=by
 have e0:=fun st'=>bH hv st';have hr:=hG.r2;by_cases h0:i<l.length
 · have hx:l[i]? = some l[i]:=aaa h0;have e1:=fun st'=>b4 hv h0 .i64 st';have e2:=fun st'=>cF hv hx (off:=0) (by omega) st';have e3:=fun H K=>eY hv hx H K;have e4:=fun st'=>cF hv hx (off:=3) (by omega) st';have e5:=fun H K=>vJ hv hx H K;have hb:=(dQ hc).1 _ (aar h0);by_cases k3:l[i].k=3
   · have ep:ia l i=l[i].w:=by simp[ia,hx,k3]
     have w1:IntKind.i64.wrap (w0+l[i].w)=w0+l[i].w:=ar (by omega);rw[ep];generalize l[i]=x at *;refine⟨[],?_⟩;simp[hr,e0,h0,e1,e2,e3,e4,e5,k3,w1]
   · have ep:ia l i=0:=by simp[ia,hx,k3]
     rw[ep];generalize l[i]=x at *;refine⟨[(67,.bool false)],?_⟩;simp[hr,e0,h0,e1,e2,e3,k3]
 · have ep:ia l i=0:=by simp[ia,h0]
   rw[ep];refine⟨[(67,.bool false)],?_⟩;simp[hr,e0,h0]
theorem Jw (hv:Its st l lv) (hc:bd l=0) (hG:BrS st.heap.length lv sv ov rest G) (a:Nat) (ha:a<l.length) (X W:Int) (hX:0≤X∧X≤4095) (h:Nat) (hh:rowAt G h=some (.plain,[.int .i64 X,.int .i64 W])) (i:Nat) (hi:i≤l.length) (hai:a≤i) (best:Option Nat) (y9:DV) (ex0:Fr) :
 ∃ ex,(E tab).C (.seq (.region sC [0,1,5,6,7,8,9,10,11,45]) (.cond (.t 45) (.seq (.region sI [0,1,5,6,7,8,9,10,11,12]) (.seq (.seq (.region sg [0,1,5,6,7,8,9,10,11,12,67]) (.cond (.t 67) (.region nV [0,1,5,6,7,8,9,10,11,12]) .skip)) (.seq (.seq (.region tR [0,1,5,6,7,8,9,10,11,12,85]) (.cond (.t 85) (.seq (.seq (.region rZ [0,1,5,8,9,10,11,12,89]) (.cond (.t 89) (.region ta [0,1,5,8,9,10,11,12]) .skip)) (.region so [0,1,5,6,7,8,9,10,11,12])) .skip)) (.seq (.region si [0,1,5,6,7,8,9,10,11,95]) (.cond (.t 95) (.exit 0) .skip))))) .skip))
  ([(0,.ptr (st.heap.length+2) 0),(1,.int .i64 a),(5,.ptr (st.heap.length+h) 0),(6,.int .i64 (eI best)),(7,.int .i64 (iM l a X best)),(8,.bool false),(9,y9),(10,.int .i64 (goI X ((l.drop a).take (aI l a i-a)))),(11,.int .i64 i)]++ex0) (pst st G K) =
  some (if a<i∧kl l i=true then
   (if W<cf l a i X then (.exit 0,(match best with
       | none=>[(0,.ptr (st.heap.length+2) 0),(1,.int .i64 a),(5,.ptr (st.heap.length+h) 0),(6,.int .i64 i),(7,.int .i64 (cf l a i X)),(8,.bool true)]
       | some c=>[(0,.ptr (st.heap.length+2) 0),(1,.int .i64 a),(5,.ptr (st.heap.length+h) 0),(6,.int .i64 c),(7,.int .i64 (cf l a c X)),(8,.bool false)])++ex,pst st G K)
   else (.normal,[(0,.ptr (st.heap.length+2) 0),(1,.int .i64 a),(5,.ptr (st.heap.length+h) 0),(6,.int .i64 i),(7,.int .i64 (cf l a i X)),(8,.bool false),(9,y9),(10,.int .i64 (goI X ((l.drop a).take (aI l a i-a)))),(11,.int .i64 i)]++ex,pst st G K))
   else (.normal,[(0,.ptr (st.heap.length+2) 0),(1,.int .i64 a),(5,.ptr (st.heap.length+h) 0),(6,.int .i64 (eI best)),(7,.int .i64 (iM l a X best)),(8,.bool false),(9,y9),(10,.int .i64 (goI X ((l.drop a).take (aI l a i-a)))),(11,.int .i64 i)]++ex,pst st G K)):=by
 obtain⟨hok,hlen⟩:=dQ hc;have hleg:=BE (K:=K) hv (by omega) hG i hi;by_cases h1:a<i
 · cases h2:kl l i with
   | false=>
     rw[h2] at hleg;simp only[aaq,and_false,if_false];refine⟨[(45,.bool false)],?_⟩;simp[h1,hleg]
   | true=>
     rw[h2] at hleg;simp only[h1,and_self,if_true];have hp:okW ((l.drop a).take (aI l a i-a)):=fun y hy=>hok y (aao (aaz hy));have hlen':((l.drop a).take (aI l a i-a)).length≤8192:=by simp;omega
     have hg:=pV (a:=X) hp (by omega);have hwid:cf l a i X=goI X ((l.drop a).take (aI l a i-a))-X+ia l i:=by unfold cf;omega
     generalize goI X ((l.drop a).take (aI l a i-a))=g at *;obtain⟨ex9,h9⟩:=Kz (K:=K) hv hc hG i hi (g-X) (by omega) (.int .i64 a) (.ptr (st.heap.length+h) 0) (.int .i64 (eI best)) (.int .i64 (iM l a X best)) (.bool false) y9 (.int .i64 g);have w1:IntKind.i64.wrap (g-X)=g-X:=ar (by omega)
     have hr7:(E tab).C (.region sC [0,1,5,6,7,8,9,10,11,45]) ([(0,.ptr (st.heap.length+2) 0),(1,.int .i64 a),(5,.ptr (st.heap.length+h) 0),(6,.int .i64 (eI best)),(7,.int .i64 (iM l a X best)),(8,.bool false),(9,y9),(10,.int .i64 g),(11,.int .i64 i)]++ex0) (pst st G K) =
      some (.normal,[(0,.ptr (st.heap.length+2) 0),(1,.int .i64 a),(5,.ptr (st.heap.length+h) 0),(6,.int .i64 (eI best)),(7,.int .i64 (iM l a X best)),(8,.bool false),(9,y9),(10,.int .i64 g),(11,.int .i64 i),(45,.bool true)],pst st G K):=by simp[h1,hleg]
     have hr8:(E tab).C (.region sI [0,1,5,6,7,8,9,10,11,12]) [(0,.ptr (st.heap.length+2) 0),(1,.int .i64 a),(5,.ptr (st.heap.length+h) 0),(6,.int .i64 (eI best)),(7,.int .i64 (iM l a X best)),(8,.bool false),(9,y9),(10,.int .i64 g),(11,.int .i64 i),(45,.bool true)] (pst st G K) =
      some (.normal,[(0,.ptr (st.heap.length+2) 0),(1,.int .i64 a),(5,.ptr (st.heap.length+h) 0),(6,.int .i64 (eI best)),(7,.int .i64 (iM l a X best)),(8,.bool false),(9,y9),(10,.int .i64 g),(11,.int .i64 i),(12,.int .i64 (g-X))],pst st G K):=by simp[hh,w1]
     rw[← hwid] at h9;rw[cB,hr7];simp only;rw[KM _ _ _ _ _ true rfl];simp only[if_true];rw[cB,hr8];simp only;rw[cB,h9];simp only;generalize cf l a i X=w at *;by_cases hW:W<w
     · have hW':¬ w≤W:=by omega
       simp only[hW,if_true]
       cases best with
       | none=>
         refine⟨[(9,y9),(10,.int .i64 g),(11,.int .i64 i),(95,.bool true)],?_⟩;simp[eI,iM,hh,hW]
       | some c=>
         refine⟨[(9,y9),(10,.int .i64 g),(11,.int .i64 i),(95,.bool true)],?_⟩;simp[eI,iM,hh,hW,hW']
     · have hW':w≤W:=by omega
       simp only[hW,if_false]
       cases best with
       | none=>
         refine⟨[(95,.bool false)],?_⟩;simp[eI,iM,hh,hW]
       | some c=>
         refine⟨[(95,.bool false)],?_⟩;simp[eI,iM,hh,hW,hW']
 · simp only[h1,false_and,if_false];refine⟨[(45,.bool false)],?_⟩;simp[h1]
end
section
variable {st:St} {l:List It} {lv sv ov:DV} {sl:List Sl} {rest:Sl} {G:List HO} {K:List Nat}
theorem Ki (hv:Its st l lv) (hc:bd l=0) (hG:BrS st.heap.length lv sv ov rest G) (a:Nat) (X:Int) (hX:0≤X∧X≤4095) (i:Nat) (hi:i≤l.length) (hai:a≤i) (y1 y5 y6 y7 y8:DV) (ex:Fr) :
 ∃ ex',(E tab).C (.seq (.region zf [0,1,5,6,7,8,9,10,11,102]) (.cond (.t 102) (.seq (.region yQ [0,1,5,6,7,8,9,10,11]) (.seq (.region yG [0,1,5,6,7,8,9,10,11,115]) (.cond (.t 115) (.region Ap [0,1,5,6,7,8,9,10,11]) .skip))) .skip))
  ([(0,.ptr (st.heap.length+2) 0),(1,y1),(5,y5),(6,y6),(7,y7),(8,y8),(9,.int .i64 (goI X ((l.drop a).take (i-a)))),(10,.int .i64 (goI X ((l.drop a).take (aI l a i-a)))),(11,.int .i64 i)]++ex) (pst st G K) =
  some (.normal,[(0,.ptr (st.heap.length+2) 0),(1,y1),(5,y5),(6,y6),(7,y7),(8,y8),(9,.int .i64 (goI X ((l.drop a).take ((if i<l.length then i+1 else i)-a)))),(10,.int .i64 (goI X ((l.drop a).take (aI l a (if i<l.length then i+1 else i)-a)))),(11,.int .i64 i)]++ex',pst st G K):=by
 obtain⟨hok,hlen⟩:=dQ hc;have e0:=fun st'=>bH hv st';have hr:=hG.r2;by_cases h0:i<l.length
 · obtain⟨g1,g2⟩:=Hs l a X i hai h0;simp only[h0,if_true];rw[g1,g2];have hp:okW ((l.drop a).take (i-a)):=fun y hy=>hok y (aao (aaz hy));have hlen':((l.drop a).take (i-a)).length≤8192:=by simp;omega
   have hg:=pV (a:=X) hp (by omega);generalize goI X ((l.drop a).take (i-a))=g at *;generalize goI X ((l.drop a).take (aI l a i-a))=e at *;have hpa:=Hu (K:=K) hv hc hG i h0 g (by omega);have hx:l[i]? = some l[i]:=aaa h0;have e1:=fun st'=>b4 hv h0 .i64 st';have e2:=fun st'=>cF hv hx (off:=0) (by omega) st';have e3:=fun H K=>eY hv hx H K;generalize l[i]=x at *;by_cases hk:x.k=2
   · refine⟨[(115,.bool false)],?_⟩;simp[hr,e0,h0,hpa,e1,e2,e3,hk]
   · refine⟨[],?_⟩;simp[hr,e0,h0,hpa,e1,e2,e3,hk]
 · simp only[h0,if_false];refine⟨[(102,.bool false)],?_⟩;simp[hr,e0,h0]
theorem Lp (hv:Its st l lv) (hc:bd l=0) (hG:BrS st.heap.length lv sv ov rest G) (a:Nat) (ha:a<l.length) (X W:Int) (hX:0≤X∧X≤4095) (h:Nat) (hh:rowAt G h=some (.plain,[.int .i64 X,.int .i64 W])) :
 ∀ (m i:Nat) (best:Option Nat) (y9 y10:DV),i+m=l.length+1→a≤i→(i≤l.length→y9=.int .i64 (goI X ((l.drop a).take (i-a)))∧y10=.int .i64 (goI X ((l.drop a).take (aI l a i-a)))) →
 ∀ b w,kT l a X W m i best=some (b,w)→∃ fr,(E tab).C jB [(0,.ptr (st.heap.length+2) 0),(1,.int .i64 a),(5,.ptr (st.heap.length+h) 0),(6,.int .i64 (eI best)),(7,.int .i64 (iM l a X best)),(8,.bool false),(9,y9),(10,y10),(11,.int .i64 i)] (pst st G K) =
   some (.exit 0,[(0,.ptr (st.heap.length+2) 0),(1,.int .i64 a),(5,.ptr (st.heap.length+h) 0),(6,.int .i64 b),(7,.int .i64 (cf l a b X)),(8,.bool w)]++fr,pst st G K):=by
 obtain⟨hok,hlen⟩:=dQ hc;have e0:=fun st'=>bH hv st';have hr:=hG.r2;intro m
 induction m with
 | zero=>
   intro i best y9 y10 hi hai hy b w ho;have h0:¬ i≤l.length:=by omega
   cases best with
   | none=>simp[kT] at ho
   | some c=>
     simp only[kT,abg,aab.injEq,Prod.mk.injEq] at ho;obtain⟨rfl,rfl⟩:=ho;refine⟨[(9,y9),(10,y10),(11,.int .i64 i),(35,.bool false)],?_⟩;rw[af (L:=jB) rfl];simp[pW,hr,e0,h0,eI,iM]
 | succ m ih=>
   intro i best y9 y10 hi hai hy b w ho;have h0:i≤l.length:=by omega
   obtain⟨rfl,rfl⟩:=hy h0;have hw1:IntKind.i64.wrap ((i:Int)+1)=((i+1:Nat):Int):=by rw[ar (by omega)];simp
   obtain⟨ex,hA⟩:=Jw (K:=K) hv hc hG a ha X W hX h hh i h0 hai best (.int .i64 (goI X ((l.drop a).take (i-a)))) [(35,.bool true)]
   have h6:(E tab).C (.seq (.region Dk [0,1,5,6,7,8,9,10,11,35]) (.cond (.t 35) .skip (.exit 0))) (Fr.bG [(0,.ptr (st.heap.length+2) 0),(1,.int .i64 a),(5,.ptr (st.heap.length+h) 0),(6,.int .i64 (eI best)),(7,.int .i64 (iM l a X best)),(8,.bool false),(9,.int .i64 (goI X ((l.drop a).take (i-a)))),(10,.int .i64 (goI X ((l.drop a).take (aI l a i-a)))),(11,.int .i64 i)] [0,1,5,6,7,8,9,10,11]) (pst st G K) =
    some (.normal,[(0,.ptr (st.heap.length+2) 0),(1,.int .i64 a),(5,.ptr (st.heap.length+h) 0),(6,.int .i64 (eI best)),(7,.int .i64 (iM l a X best)),(8,.bool false),(9,.int .i64 (goI X ((l.drop a).take (i-a)))),(10,.int .i64 (goI X ((l.drop a).take (aI l a i-a)))),(11,.int .i64 i)]++[(35,.bool true)],pst st G K):=by simp[hr,e0,h0]
   have turn:∀ (best':Option Nat) (ex:Fr) ,(E tab).C (.seq (.region sC [0,1,5,6,7,8,9,10,11,45]) (.cond (.t 45) (.seq (.region sI [0,1,5,6,7,8,9,10,11,12]) (.seq (.seq (.region sg [0,1,5,6,7,8,9,10,11,12,67]) (.cond (.t 67) (.region nV [0,1,5,6,7,8,9,10,11,12]) .skip)) (.seq (.seq (.region tR [0,1,5,6,7,8,9,10,11,12,85]) (.cond (.t 85) (.seq (.seq (.region rZ [0,1,5,8,9,10,11,12,89]) (.cond (.t 89) (.region ta [0,1,5,8,9,10,11,12]) .skip)) (.region so [0,1,5,6,7,8,9,10,11,12])) .skip)) (.seq (.region si [0,1,5,6,7,8,9,10,11,95]) (.cond (.t 95) (.exit 0) .skip))))) .skip)) ([(0,.ptr (st.heap.length+2) 0),(1,.int .i64 a),(5,.ptr (st.heap.length+h) 0),(6,.int .i64 (eI best)),(7,.int .i64 (iM l a X best)),(8,.bool false),(9,.int .i64 (goI X ((l.drop a).take (i-a)))),(10,.int .i64 (goI X ((l.drop a).take (aI l a i-a)))),(11,.int .i64 i)]++[(35,.bool true)]) (pst st G K) =
    some (.normal,[(0,.ptr (st.heap.length+2) 0),(1,.int .i64 a),(5,.ptr (st.heap.length+h) 0),(6,.int .i64 (eI best')),(7,.int .i64 (iM l a X best')),(8,.bool false),(9,.int .i64 (goI X ((l.drop a).take (i-a)))),(10,.int .i64 (goI X ((l.drop a).take (aI l a i-a)))),(11,.int .i64 i)]++ex,pst st G K) →
    kT l a X W m (i+1) best'=some (b,w)→∃ fr,(E tab).C jB [(0,.ptr (st.heap.length+2) 0),(1,.int .i64 a),(5,.ptr (st.heap.length+h) 0),(6,.int .i64 (eI best)),(7,.int .i64 (iM l a X best)),(8,.bool false),(9,.int .i64 (goI X ((l.drop a).take (i-a)))),(10,.int .i64 (goI X ((l.drop a).take (aI l a i-a)))),(11,.int .i64 i)] (pst st G K) =
    some (.exit 0,[(0,.ptr (st.heap.length+2) 0),(1,.int .i64 a),(5,.ptr (st.heap.length+h) 0),(6,.int .i64 b),(7,.int .i64 (cf l a b X)),(8,.bool w)]++fr,pst st G K):=by
    intro best' ex hA' ho';obtain⟨ex2,hB⟩:=Ki (K:=K) hv hc hG a X hX i h0 hai (.int .i64 a) (.ptr (st.heap.length+h) 0) (.int .i64 (eI best')) (.int .i64 (iM l a X best')) (.bool false) ex;obtain⟨fr,hJ⟩:=ih (i+1) best' (.int .i64 (goI X ((l.drop a).take ((if i<l.length then i+1 else i)-a)))) (.int .i64 (goI X ((l.drop a).take (aI l a (if i<l.length then i+1 else i)-a)))) (by omega) (by omega) (fun hle=>by rw[if_pos (by omega)];exact⟨rfl,rfl⟩) b w ho';refine⟨fr,?_⟩;rw[af (L:=jB) rfl,pW,cB,h6];simp only;rw[cB,nT,cB,hA'];simp only;rw[hB];simp at hJ;simp[hw1,hJ]
   unfold kT at ho;by_cases hle:a<i∧kl l i=true
   · rw[if_pos hle] at ho hA;by_cases hW:W<cf l a i X
     · rw[if_pos hW] at ho hA
       cases best with
       | none=>
         simp only[aab.injEq,Prod.mk.injEq] at ho;obtain⟨rfl,rfl⟩:=ho;refine⟨ex,?_⟩;rw[af (L:=jB) rfl,pW,cB,h6];simp only;rw[cB,nT,cB,hA];simp
       | some c=>
         simp only[aab.injEq,Prod.mk.injEq] at ho;obtain⟨rfl,rfl⟩:=ho;refine⟨ex,?_⟩;rw[af (L:=jB) rfl,pW,cB,h6];simp only;rw[cB,nT,cB,hA];simp
     · rw[if_neg hW] at ho hA;exact turn (some i) ex hA ho
   · rw[if_neg hle] at ho hA;exact turn best ex hA ho
end
section
variable {st:St} {l:List It} {lv sv ov:DV} {sl:List Sl} {rest:Sl} {G:List HO} {K:List Nat}
def tt (N h:Nat):List ak:=[
 ⟨some 14,.mv (.t 0),none⟩,
 ⟨some 15,.aX (.t 14),none⟩,
 ⟨some 16,.gU 1 (.t 15),none⟩,
 ⟨some 17,.load 1 false (.t 16),none⟩,
 ⟨some 18,.mv (.t 0),none⟩,
 ⟨some 19,.aX (.t 18),none⟩,
 ⟨some 20,.gU 2 (.t 19),none⟩,
 ⟨some 21,.load 1 false (.t 20),none⟩,
 ⟨some 22,.len .slice (.t 21),none⟩,
 ⟨some 23,.bz (.t 17) [(.t 22)],none⟩,
 ⟨some 5,.got (.ptr (N+h) 0) [],none⟩,
 ⟨none,.store 2 (.t 5) (.t 23),none⟩]
theorem BS (hs:Sls st sl sv) (hG:BrS st.heap.length lv sv ov rest G) {ps:List Pc} (hA:Acc st K 5 (ps.map Pc.dv) ov) (y1:DV) :
 ∃ J,(E tab).C (.av r8 [10] [] [0,1,5]) [(0,.ptr (st.heap.length+2) 0),(1,y1)] (pst st G K) =
   some (.normal,[(0,.ptr (st.heap.length+2) 0),(1,y1),(5,.ptr (st.heap.length+G.length) 0)],pst st (G++.cells .plain (aS sl rest ps.length).cs::J) K):=by
 have hr:=hG.r2;have hG2:=hG.app [.cells .plain [.int .i64 0,.int .i64 0]];have hr2:=hG2.r2;obtain⟨t,n',tk,nn,rfl⟩:=dM hA;have hc:=Gm (K:=K) hs hG2 ps.length;have hV:=dE (T:=tab) 127 [] [.ptr st.heap.length 0,.ptr (st.heap.length+1) 0] [.int .i64 (ps.length:Nat)] (pst st (G++[.cells .plain [.int .i64 0,.int .i64 0]]) K);simp only[aaX,List.singleton_append] at hV;rw[hc] at hV
 have hp:gI [(0,.ptr (st.heap.length+2) 0),(1,y1)] [10] (pst st G K) r8=some (pst st (G++[.cells .plain [.int .i64 0,.int .i64 0]]) K,tt st.heap.length G.length):=by
  simp[gI,Es,Ec,aH,qH,je,lx,tt,hr]
 refine⟨[.cells .plain (aS sl rest ps.length).cs],?_⟩;rw[x9 hp];generalize aS sl rest ps.length=s at *;simp only[Sl.cs,Sl.dv] at hV;simp[bE,tt,aH,hr2,hV,Sl.cs]
theorem BrS.SR {N:Nat} (h:BrS N lv sv ov rest G) (ov':DV):BrS N lv sv ov' rest (G.set 2 (.cells .plain [lv,.fn 127 [] [.ptr N 0,.ptr (N+1) 0],ov'])):=by
 have k2:=lJ h.r2;refine⟨?_,?_,gw k2 _ _⟩
 · have:=h.r0;unfold rowAt at this ⊢;rw[aaA (by omega)];exact this
 · have:=h.r1;unfold rowAt at this ⊢;rw[aaA (by omega)];exact this
theorem Hf (hs:Sls st sl sv) (hv:Its st l lv) (hc:bd l=0) (hG:BrS st.heap.length lv sv ov rest G) {ps:List Pc} (hA:Acc st K 5 (ps.map Pc.dv) ov) (hps:ps.length≤10000) (a:Nat) (ha:a<l.length)
 (hX:0≤(aS sl rest ps.length).x∧(aS sl rest ps.length).x≤4095) :
 ∃ (b:Nat) (G':List HO) (K':List Nat) (ov':DV),a<b∧b≤l.length∧(dg l a (aS sl rest ps.length)).b=b∧(E tab).F 129 [.ptr (st.heap.length+2) 0,.int .i64 a] (pst st G K)=some (.int .i64 b,pst st G' K')∧BrS st.heap.length lv sv ov' rest G' ∧
   Acc st K' 5 ((ps++[dg l a (aS sl rest ps.length)]).map Pc.dv) ov':=by
 have e0:=fun st'=>bH hv st';obtain⟨hok,hlen⟩:=dQ hc;obtain⟨J,hH⟩:=BS hs hG hA (.int .i64 a);generalize hsl:aS sl rest ps.length=s at *;obtain⟨b,w,ho,hab,hbl⟩:=gy l a s.x s.w ha (l.length+1-a) a none (by omega) (fun _=>by omega) (aai _) (fun c e=>by cases e);have hpc:dg l a s=⟨a,b,w,hyI l b,cf l a b s.x⟩:=by unfold dg;rw[ho]
 have hG1:=hG.app (.cells .plain s.cs::J);have hh:rowAt (G++.cells .plain s.cs::J) G.length=some (.plain,[.int .i64 s.x,.int .i64 s.w]):=by rw[show G.length=G.length+0 from rfl,uM];rfl
 generalize hG1e:G++HO.cells .plain s.cs::J=G1 at *
 obtain⟨fr,hL⟩:=Lp (K:=K) hv hc hG1 a ha s.x s.w hX G.length hh (l.length+1-a) a none (.int .i64 s.x) (.int .i64 s.x) (by omega) (aai _) (fun _=>by
  have ht:aI l a a=a:=by
   cases a with
   | zero=>rfl
   | succ k=>rw[aI,if_neg (by omega)]
  rw[ht];simp[goI]) b w ho
 have hG2:=hG1.app [.cells .plain (Pc.cs ⟨a,b,w,false,cf l a b s.x⟩)];have hG3:=hG1.app [.cells .plain (Pc.cs ⟨a,b,w,hyI l b,cf l a b s.x⟩)];obtain⟨ov',K',hap,hA'⟩:=dZ (H:=G1++[.cells .plain (Pc.cs ⟨a,b,w,hyI l b,cf l a b s.x⟩)]) (by_:=32) (ag:=true) (tk:=.tight) (t:=st.cur) (ys:=[Pc.dv ⟨a,b,w,hyI l b,cf l a b s.x⟩]) hA (by omega) (by simp) (by simp[Iw]) (by simp[aD];omega) (by simp[aD];omega);refine⟨b,(G1++[HO.cells .plain (Pc.cs ⟨a,b,w,hyI l b,cf l a b s.x⟩)]).set 2 (.cells .plain [lv,.fn 127 [] [.ptr st.heap.length 0,.ptr (st.heap.length+1) 0],ov']),K',ov',hab,hbl,by rw[hpc],?_,hG3.SR ov',by rw[hpc];simpa using hA'⟩;have hr2:=hG2.r2;have hr3:=hG3.r2;have k3:=lJ hr3
 have hov:ov'.leaves=[ov']∧ov'.bp=true:=by
  rcases hA' with ⟨_,t,n',tk,rfl⟩ | ⟨k,s,rfl,_⟩<;>exact⟨rfl,rfl⟩
 have h22:(E tab).C (.region rR [0,6,13]) [(0,.ptr (st.heap.length+2) 0),(6,.int .i64 b),(13,.ptr (st.heap.length+G1.length) 0)] (pst st (G1++[.cells .plain (Pc.cs ⟨a,b,w,false,cf l a b s.x⟩)]) K) =
  some (.normal,[(0,.ptr (st.heap.length+2) 0),(6,.int .i64 b),(13,.ptr (st.heap.length+G1.length) 0)],pst st (G1++[.cells .plain (Pc.cs ⟨a,b,w,hyI l b,cf l a b s.x⟩)]) K):=by
  by_cases hb:b<l.length
  · have hx:l[b]? = some l[b]:=aaa hb;have e1:=fun st'=>b4 hv hb .i64 st';have e2:=fun st'=>cF hv hx (off:=7) (by omega) st';have e3:=fun H K=>I5 hv hx H K;have eh:hyI l b=l[b].y:=by simp[hyI,hx]
    rw[eh];generalize l[b]=x at *;simp only[Pc.cs] at hr2;simp[hr2,e0,hb,e1,e2,e3,Pc.cs]
  · have eh:hyI l b=false:=by simp[hyI,hb]
    rw[eh];simp only[Pc.cs] at hr2;simp[hr2,e0,hb,Pc.cs]
 have h23:(E tab).C (.av rX [] [] [6]) [(0,.ptr (st.heap.length+2) 0),(6,.int .i64 b),(13,.ptr (st.heap.length+G1.length) 0)] (pst st (G1++[.cells .plain (Pc.cs ⟨a,b,w,hyI l b,cf l a b s.x⟩)]) K) =
  some (.normal,[(6,.int .i64 b)],pst st ((G1++[HO.cells .plain (Pc.cs ⟨a,b,w,hyI l b,cf l a b s.x⟩)]).set 2 (.cells .plain [lv,.fn 127 [] [.ptr st.heap.length 0,.ptr (st.heap.length+1) 0],ov'])) K'):=by
  simp only[Pc.cs,Pc.dv] at hr3 hap k3;simp[hr3,aw,aK,chunk,Pc.cs,hap,hov.1,hov.2]
 rw[fq NB rfl];have h0:(E tab).C (.region wM [0,1]) (bq [.ptr (st.heap.length+2) 0,.int .i64 a] 0) (pst st G K)=some (.normal,[(0,.ptr (st.heap.length+2) 0),(1,.int .i64 a)],pst st G K):=by simp
 have hmid:(E tab).C (.seq (.region xi [0,1,5,6,7,8]) (.seq (.region ye [0,1,5,6,7,8,9]) (.seq (.region yl [0,1,5,6,7,8,9,10]) (.seq (.region x7 [0,1,5,6,7,8,9,10,11]) (.block 0 jB))))) [(0,.ptr (st.heap.length+2) 0),(1,.int .i64 a),(5,.ptr (st.heap.length+G.length) 0)] (pst st G1 K) =
  some (.normal,[(0,.ptr (st.heap.length+2) 0),(1,.int .i64 a),(5,.ptr (st.heap.length+G.length) 0),(6,.int .i64 b),(7,.int .i64 (cf l a b s.x)),(8,.bool w)]++fr,pst st G1 K):=by
  have e1:(-1:Int)=Int.negSucc 0:=rfl;simp[eI,iM] at hL;simp[hh,hL]
 have h21:(E tab).C (.region sj [0,6,13]) ([(0,.ptr (st.heap.length+2) 0),(1,.int .i64 a),(5,.ptr (st.heap.length+G.length) 0),(6,.int .i64 b),(7,.int .i64 (cf l a b s.x)),(8,.bool w)]++fr) (pst st G1 K) =
  some (.normal,[(0,.ptr (st.heap.length+2) 0),(6,.int .i64 b),(13,.ptr (st.heap.length+G1.length) 0)],pst st (G1++[.cells .plain (Pc.cs ⟨a,b,w,false,cf l a b s.x⟩)]) K):=by
  simp[Pc.cs]
 rw[show f129.body=(.seq (.region wM [0,1]) (.seq (.av r8 [10] [] [0,1,5]) (.seq (.region xi [0,1,5,6,7,8]) (.seq (.region ye [0,1,5,6,7,8,9]) (.seq (.region yl [0,1,5,6,7,8,9,10]) (.seq (.seq (.region x7 [0,1,5,6,7,8,9,10,11]) (.block 0 jB)) (.seq (.region sj [0,6,13]) (.seq (.region rR [0,6,13]) (.seq (.av rX [] [] [6]) (.seq (.region yK [4]) .ret)))))))))) from rfl,cB,h0];simp only;rw[cB,hH];simp only;obtain⟨fu1,S1,m1,m2⟩:=mw hmid;obtain⟨fu2,S2,m3,m4⟩:=mw m2;obtain⟨fu3,S3,m5,m6⟩:=mw m4;rw[cB,m1];simp only;rw[cB,m3];simp only;rw[cB,m5];simp only;rw[cB,m6];simp only;rw[cB,h21];simp only;rw[cB,h22];simp only;rw[cB,h23];simp[f129]
end
theorem iQ (l:List It):∀ f i,i≤l.length→i≤br l f i∧br l f i≤l.length
 | 0,i,h=>⟨aai _,h⟩
 | f+1,i,h=>by
   unfold br;split
   · rename_i x hx;have hi:=(aae.1 hx).1;split
     · have:=iQ l f (i+1) hi;omega
     · exact⟨aai _,h⟩
   · exact⟨aai _,h⟩
theorem ml (l:List It) (i:Nat) (h:i≤l.length):i≤du l i∧du l i≤l.length:=by
 unfold du
 cases hx:l[i]? with
 | none=>exact iQ l _ _ h
 | some x=>
   have hi:=(aae.1 hx).1;simp only;split
   · have:=iQ l l.length (i+1) hi;omega
   · exact iQ l _ _ h
def cO (l:List It) (sl:List Sl) (rest:Sl):Nat→Nat→Nat→List Pc
 | 0,_,_=>[]
 | f+1,a,n=>if a<l.length then dg l a (aS sl rest n)::cO l sl rest f (du l (dg l a (aS sl rest n)).b.toNat) (n+1) else []
def AE (sl:List Sl) (rest:Sl):Prop:=∀ n:Nat,0≤(aS sl rest n).x∧(aS sl rest n).x≤4095∧0≤(aS sl rest n).w∧(aS sl rest n).w≤4095
theorem kx {sl:List Sl} {rest:Sl} (h:c9 sl rest=0):AE sl rest∧sl.length≤256:=by
 unfold c9 at h;split at h
 · omega
 · split at h
   · rename_i h1 h2;simp only[aac,aaf] at h2;refine⟨fun n=>?_,by omega⟩
     have hm:hI (aS sl rest n)=true:=by
      unfold aS lV;rw[if_neg (by omega)]
      cases hx:sl[((n:Nat):Int).toNat]? with
      | none=>exact h2.2
      | some s=>exact h2.1 s (aaB hx)
     simp[hI,bm] at hm;omega
   · omega
section
variable {st:St} {l:List It} {lv sv ov:DV} {sl:List Sl} {rest:Sl} {G:List HO} {K:List Nat}
theorem JK (hs:Sls st sl sv) (hv:Its st l lv) (hc:bd l=0) (hso:AE sl rest):∀ (f a:Nat) (ps:List Pc) (ov:DV) (G:List HO) (K:List Nat),l.length≤a+f→a≤l.length→ps.length≤a→BrS st.heap.length lv sv ov rest G→Acc st K 5 (ps.map Pc.dv) ov →
 ∃ G' K' ov' fr,(E tab).C oX [(1,.int .i64 l.length),(2,.fn 129 [.ptr (st.heap.length+2) 0] []),(3,.fn 130 [.ptr (st.heap.length+2) 0] []),(8,.int .i64 a)] (pst st G K)=some (.exit 0,fr,pst st G' K') ∧
   BrS st.heap.length lv sv ov' rest G'∧Acc st K' 5 ((ps++cO l sl rest f a ps.length).map Pc.dv) ov':=by
 obtain⟨hok,hlen⟩:=dQ hc;intro f
 induction f with
 | zero=>
   intro a ps ov G K h1 h2 h3 hG hA;refine⟨G,K,ov,[(1,.int .i64 l.length),(2,.fn 129 [.ptr (st.heap.length+2) 0] []),(3,.fn 130 [.ptr (st.heap.length+2) 0] []),(8,.int .i64 a),(12,.bool false)],?_,hG,by simpa[cO] using hA⟩;have h0:¬ a<l.length:=by omega
   rw[af (L:=oX) rfl];simp[tC,h0]
 | succ f ih=>
   intro a ps ov G K h1 h2 h3 hG hA;by_cases h0:a<l.length
   · have hX:=hso ps.length;obtain⟨b,G1,K1,ov1,hab,hbl,hpb,hF,hG1,hA1⟩:=Hf hs hv hc hG hA (by omega) a h0 ⟨hX.1,hX.2.1⟩;have hS:=C6 (K:=K1) hv (by omega) hG1 b hbl;have hbe:=ml l b hbl;obtain⟨G2,K2,ov2,fr,hJ,hG2,hA2⟩:=ih (du l b) (ps++[dg l a (aS sl rest ps.length)]) ov1 G1 K1 (by omega) hbe.2 (by simp;omega) hG1 hA1;refine⟨G2,K2,ov2,fr,?_,hG2,?_⟩
     · have hV1:=dE (T:=tab) 129 [.ptr (st.heap.length+2) 0] [] [.int .i64 (a:Nat)] (pst st G K);have hV2:=dE (T:=tab) 130 [.ptr (st.heap.length+2) 0] [] [.int .i64 (b:Nat)] (pst st G1 K1);simp only[List.singleton_append,aaE] at hV1 hV2;rw[hF] at hV1;rw[hS] at hV2;rw[af (L:=oX) rfl];simp[tC,h0,hV1,hV2,hJ]
     · rw[cO,if_pos h0,hpb,abf];simpa using hA2
   · refine⟨G,K,ov,[(1,.int .i64 l.length),(2,.fn 129 [.ptr (st.heap.length+2) 0] []),(3,.fn 130 [.ptr (st.heap.length+2) 0] []),(8,.int .i64 a),(12,.bool false)],?_,hG,by simpa[cO,h0] using hA⟩;rw[af (L:=oX) rfl];simp[tC,h0]
theorem Lq (hv:Its st l lv) (hl:l.length≤140737488355328) (y10:DV) (H:List HO) (K:List Nat):∀ (f i:Nat),l.length≤i+f→i≤l.length →
 ∃ fr,(E tab).C nb [(0,lv),(10,y10),(11,.int .i64 i)] (pst st H K)=some (.exit 0,[(0,lv),(10,y10),(11,.int .i64 (br l f i:Nat))]++fr,pst st H K):=by
 have e0:=fun st'=>bH hv st';intro f
 induction f with
 | zero=>
   intro i h1 h2;obtain rfl:i=l.length:=by omega
   refine⟨[(38,.bool false)],?_⟩;rw[af (L:=nb) rfl];simp[oP,e0,br]
 | succ f ih=>
   intro i h1 h2;by_cases h0:i<l.length
   · have hx:l[i]? = some l[i]:=aaa h0;have e1:=fun st'=>b4 hv h0 .i64 st';have e2:=fun st'=>cF hv hx (off:=0) (by omega) st';have e3:=fun H K=>eY hv hx H K;have hw1:IntKind.i64.wrap ((i:Int)+1)=(i+1:Nat):=by rw[ar (by omega)];simp
     by_cases hk:l[i].k=2
     · have eg:br l (f+1) i=br l f (i+1):=by simp[br,hx,hk]
       obtain⟨fr,hJ⟩:=ih (i+1) (by omega) (by omega);rw[eg];refine⟨fr,?_⟩;simp at hJ;rw[af (L:=nb) rfl];simp[oP,e0,h0,e1,e2,e3,hk,hw1,hJ]
     · have eg:br l (f+1) i=i:=by simp[br,hx,hk]
       rw[eg];refine⟨[(38,.bool false)],?_⟩;rw[af (L:=nb) rfl];simp[oP,e0,h0,e1,e2,e3,hk]
   · have eg:br l (f+1) i=i:=by simp[br,h0]
     rw[eg];refine⟨[(38,.bool false)],?_⟩;rw[af (L:=nb) rfl];simp[oP,e0,h0]
def eT (l:List It) (sl:List Sl) (rest:Sl):Int:=if bd l≠0 then bd l else c9 sl rest
def iD (l:List It) (sl:List Sl) (rest:Sl):List Pc:=
 if eT l sl rest≠0 then [] else if br l l.length 0=l.length then [⟨l.length,l.length,false,false,0⟩] else cO l sl rest l.length (br l l.length 0) 0
theorem Ej (hs:Sls st sl sv) (hv:Its st l lv):∃ v,(E tab).F 113 [lv,sv,rest.dv] st=some (.tuple [v,.int .i64 (eT l sl rest)],st)∧Lw 5 ((iD l sl rest).map Pc.dv) v:=by
 rw[au Nt rfl];have e0:=fun st'=>bH hv st';have c1:=vG (hv.inn [.cells .plain [sv],.cells .plain rest.cs] []);have c2:=uj (rest:=rest) (hs.inn [.cells .plain [sv],.cells .plain rest.cs] []);have hsv:sv.leaves=[sv]∧sv.bp=true:=by cases hs<;>exact⟨rfl,rfl⟩
 have hlv:lv.leaves=[lv]∧lv.bp=true:=by cases hv<;>exact⟨rfl,rfl⟩
 unfold iD;by_cases hc:bd l=0
 · have hE:eT l sl rest=c9 sl rest:=by simp[eT,hc]
   rw[hE];by_cases hd:c9 sl rest=0
   · obtain⟨hok,hlen⟩:=dQ hc;obtain⟨hso,_⟩:=kx hd;have hG:BrS st.heap.length lv sv (.list 0 0 .no false []) rest [.cells .plain [sv],.cells .plain rest.cs,.cells .plain [lv,.fn 127 [] [.ptr st.heap.length 0,.ptr (st.heap.length+1) 0],.list 0 0 .no false []]]:=⟨rfl,rfl,rfl⟩;obtain⟨fr,hL0⟩:=Lq hv (by omega) (.ptr (st.heap.length+2) 0) [.cells .plain [sv],.cells .plain rest.cs,.cells .plain [lv,.fn 127 [] [.ptr st.heap.length 0,.ptr (st.heap.length+1) 0],.list 0 0 .no false []]] [] l.length 0 (by omega) (by omega);have hg:=iQ l l.length 0 (by omega);simp only[hd,ne_eq,not_true_eq_false,if_false];generalize br l l.length 0=g at *;by_cases hgl:g=l.length
     · simp only[hgl,if_true];rw[hgl] at hL0;refine⟨.list st.cur 5 .tight true [Pc.dv ⟨l.length,l.length,false,false,0⟩],?_,.list _ _ _ _ (fun _=>rfl) (fun e=>by cases e)⟩;simp only[Sl.cs,Sl.dv] at c1 c2 hL0;simp at hL0;simp[f113,Sl.cs,Sl.dv,hsv.1,hsv.2,hlv.1,hlv.2,c1,c2,hc,hd,hL0,e0,aw,aK,chunk,Pc.dv,Pc.cs]
     · simp only[hgl,if_false];obtain⟨G',K',ov',fr2,hL,hG',hA'⟩:=JK hs hv hc hso l.length g [] (.list 0 0 .no false []) _ [] (by omega) (by omega) (by simp) hG (dt st [] 5 0 0 .no);obtain⟨t,n',tk,nn,hx,hx1,hx2,_⟩:=j6 (st':=pst st G' K') hA'
       have hF:(E tab).F 128 [.int .i64 g,.int .i64 l.length,.fn 129 [.ptr (st.heap.length+2) 0] [],.fn 130 [.ptr (st.heap.length+2) 0] []] (pst st [.cells .plain [sv],.cells .plain rest.cs,.cells .plain [lv,.fn 127 [] [.ptr st.heap.length 0,.ptr (st.heap.length+1) 0],.list 0 0 .no false []]] [])=some (.tuple [],pst st G' K'):=by
        rw[fq N7 rfl];simp[f128,hL]
       have hr2:=hG'.r2;have hgl':¬ (g:Int)=l.length:=by omega
       refine⟨.list t n' tk nn ((cO l sl rest l.length g 0).map Pc.dv),?_,.list _ _ _ _ (fun h=>hx2 h) (fun h=>hx1 h)⟩;simp only[Sl.cs,Sl.dv] at c1 c2 hL0 hF;simp at hL0 hx
       have hxA:bP st (pst st G' K') ov'=aV st (pst st G' K') ov':=by
        rcases hA' with ⟨_,t,n',tk,rfl⟩ | ⟨k,s,rfl,_⟩<;>rfl
       simp[f113,Sl.cs,Sl.dv,hsv.1,hsv.2,hlv.1,hlv.2,c1,c2,hc,hd,hL0,e0,hgl,hgl',hF,hr2,hxA,hx]
   · simp only[ne_eq,hd,not_false_eq_true,if_true];refine⟨.list 0 0 .no false [],?_,.list _ _ _ _ (fun e=>by cases e) (fun _=>rfl)⟩;simp only[Sl.cs,Sl.dv] at c1 c2;simp[f113,Sl.cs,Sl.dv,hsv.1,hsv.2,c1,c2,hc,hd]
 · have hE:eT l sl rest=bd l:=by simp[eT,hc]
   rw[hE];simp only[ne_eq,hc,not_false_eq_true,if_true];refine⟨.list 0 0 .no false [],?_,.list _ _ _ _ (fun e=>by cases e) (fun _=>rfl)⟩;simp only[Sl.cs,Sl.dv] at c1;simp[f113,Sl.cs,Sl.dv,hsv.1,hsv.2,c1,hc]
end
section
variable {st:St} {l:List Sl} {v:DV}
theorem tV (h:Sls st l v) (st':St):qD st' .slice v=some (.int .i64 l.length,st'):=by simpa using Vw.len h st'
theorem Fg (h:Sls st l v) {i:Nat} (hi:i<l.length) (k:IntKind) (st':St):ln st' 2 v (.int k i)=some (elP 2 v i,st'):=Vw.aY h (by simpa using hi) k st'
theorem uz (h:Sls st l v) {i:Nat} {x:Sl} (hx:l[i]? = some x) (H:List HO) (K:List Nat):c7 (pst st H K) 2 true (elP 2 v i)=some x.dv:=Vw.load (Vw.inn h H K) pL rfl (by simp[hx])
end
end Go.D.Tab
end
