import Derived.Lib.LaidTab
import Derived.LaidMore
import Derived.Test.YtljfiehklfefbaaGreatDoorM4
/-! Texts 5 of this claim, joined. -/
section
set_option linter.unusedSimpArgs false
set_option linter.unusedVariables false
set_option linter.unnecessarySimpa false
namespace Go.D.Tab
theorem aiX:tab 307=some (.code z9):=by kernel_rfl
theorem afQ:tab 319=some (.code zQ):=by kernel_rfl
theorem af1:tab 320=some (.code Ba):=by kernel_rfl
theorem afb:tab 321=some (.code z0):=by kernel_rfl
theorem am4:tab 330=some (.code BH):=by kernel_rfl
theorem afh:tab 331=some (.code Dc):=by kernel_rfl
theorem amS:tab 343=some (.code BX):=by kernel_rfl
theorem ahF:tab 344=some (.code zS):=by kernel_rfl
theorem ahd:tab 345=some (.code AP):=by kernel_rfl
theorem ajT:tab 346=some (.code zT):=by kernel_rfl
theorem akP:tab 308=some (.code pR):=by kernel_rfl
theorem afo:tab 309=some (.code CS):=by kernel_rfl
theorem agK (k:IntKind) (x y:Int):ee kE [.int k x,.int k y]=some (.int k (max x y)):=by
 have:(if y>x then y else x)=max x y:=by split<;>omega
 simp [ee,kE,this]
theorem ajy (k:IntKind) (x y:Int):ee l5 [.int k x,.int k y]=some (.int k (min x y)):=by
 have:(if y<x then y else x)=min x y:=by split<;>omega
 simp [ee,l5,this]
def jA (p:bq):Int:=if p.label=[] then 0 else tw p.pr.size 0 p.label+4
def cd (p:bq):Nat→Int→Int
 | 0,_=>p.pr.inn
 | 1,n=>if 0<n then 0 else p.pr.first+jA p
 | _,n=>if p.pr.drop≤n then 0 else n7 p
def vY (p:bq) (n:Int):Int:=cd p 0 n+cd p 1 n+cd p 2 n
def g9 (p:bq) (s:Sl) (n:Int):Sl:=⟨min (s.x+vY p n) 4095,max (s.w-vY p n-p.pr.out) 0⟩
section
variable {st:St} {p:bq} {w u:LW}
theorem sr {n:Int} (hn:1≤n∧n≤64):∀ (l:List UInt8) (a:Int),0≤a→a+64*l.length≤1000000→a≤tw n a l∧tw n a l≤a+64*l.length
 | [],a,_,_=>by simp [tw]
 | c::r,a,h,h2=>by
   have hb:=rp c hn.1 hn.2
   simp only [List.length_cons] at h2 ⊢
   simp only [tw]
   rw [aN (by omega)]
   have:=sr hn r (a+wd c n) (by omega) (by omega)
   omega
theorem qQ (h0:aF p=0):p.label.length≤16:=by
 have h:=(da h0).2.2.2.2.1
 unfold dG at h
 simp only [Bool.and_eq_true,decide_eq_true_eq] at h
 omega
theorem u5 (h0:aF p=0):0≤jA p∧jA p≤1028:=by
 have hl:=qQ h0
 have hc:=dh h0
 have ht:=sr ⟨hc.1,hc.2.1⟩ p.label 0 (by omega) (by omega)
 unfold jA
 split<;>omega
theorem BQ (h0:aF p=0):(E tab).F 345 [.agg (aq p w u)] st=some (.int .i64 (jA p),st):=by
 rw [bj ahd rfl]
 have hc:=dh h0
 have hw:=fun st=>tn p.label p.pr.size st
 unfold jA
 by_cases h:p.label=[]
 · simp [AP,h]
 · have hl:=qQ h0
   have h2:¬ 4096<p.label.length:=by omega
   have ht:=sr ⟨hc.1,hc.2.1⟩ p.label 0 (by omega) (by omega)
   have w1:IntKind.i64.wrap (tw p.pr.size 0 p.label+4)=tw p.pr.size 0 p.label+4:=aN (by omega)
   unfold eP at hw
   rw [if_pos ⟨hc.1,hc.2.1⟩,if_neg h2] at hw
   simp [AP,h,hw,w1]
def prH (p:bq) (w u:LW) (N:Nat):List HO:=[.cells .plain (aq p w u),.cells .plain [.int .i64 (n7 p)],.cells .plain [.fn 343 [] [.ptr N 0],.fn 344 [] [.ptr N 0],.fn 346 [] [.ptr N 0,.ptr (N+1) 0]]]
theorem A6 (h0:aF p=0) (hp:p.small) (hw:w.ok 4 p.aT) (hu:u.ok 1 p.marks) (H:List HO) (K:List Nat):(E tab).F 330 [.agg (aq p w u)] (pst st H K)=some (.hsl 1 false (st.heap.length+(H.length+2)) 0 3 (some 3),pst st (H++prH p w u (st.heap.length+H.length)) K):=by
 rw [eL am4 rfl]
 have hd:=fun st=>Gr (st:=st) hp hw hu
 rw [h0] at hd
 simp [BH,hd,j6,bn,chunk,prH,Nat.add_assoc]
structure tJ (st:St) (p:bq) (w u:LW) (H:List HO) (k:Nat):Prop where
 r0:rowAt H k=some (.plain,aq p w u)
 r1:rowAt H (k+1)=some (.plain,[.int .i64 (n7 p)])
 r2:rowAt H (k+2)=some (.plain,[.fn 343 [] [.ptr (st.heap.length+k) 0],.fn 344 [] [.ptr (st.heap.length+k) 0],.fn 346 [] [.ptr (st.heap.length+k) 0,.ptr (st.heap.length+(k+1)) 0]])
theorem tJ.add {H:List HO} {k:Nat} (h:tJ st p w u H k) (X:List HO):tJ st p w u (H++X) k:=⟨eU h.r0 X,eU h.r1 X,eU h.r2 X⟩
theorem iI (h0:aF p=0):0≤p.pr.first∧p.pr.first≤255∧0≤p.pr.inn∧p.pr.inn≤255∧0≤p.pr.out∧p.pr.out≤255:=by
 have h:=(da h0).2.2.2.1
 simp only [cM,fb,Bool.and_eq_true,decide_eq_true_eq] at h
 omega
theorem Gt {H:List HO} {K:List Nat} {k:Nat} (hk:tJ st p w u H k) (n:Int):(E tab).F 343 [.int .i64 n,.ptr (st.heap.length+k) 0] (pst st H K)=some (.int .i64 (cd p 0 n),pst st H K):=by
 rw [eL amS rfl]
 have r0:=hk.r0
 have e:(aq p w u)[6]? = some (.int .i64 p.pr.inn):=rfl
 simp [BX,r0,e,cd]
theorem EM (h0:aF p=0) {H:List HO} {K:List Nat} {k:Nat} (hk:tJ st p w u H k) (n:Int):(E tab).F 344 [.int .i64 n,.ptr (st.heap.length+k) 0] (pst st H K)=some (.int .i64 (cd p 1 n),pst st H K):=by
 rw [eL ahF rfl]
 have r0:=hk.r0
 have hl:=u5 h0
 have hm:=iI h0
 have h3:=fun st=>BQ (st:=st) (w:=w) (u:=u) h0
 have e:(aq p w u)[5]? = some (.int .i64 p.pr.first):=rfl
 have w1:IntKind.i64.wrap (p.pr.first+jA p)=p.pr.first+jA p:=aN (by omega)
 by_cases hn:0<n
 · simp [zS,hn,cd]
 · simp [zS,hn,cd,c9,gO,jO,jW,bb,r0,e,h3,w1]
theorem G5 {H:List HO} {K:List Nat} {k:Nat} (hk:tJ st p w u H k) (n:Int):(E tab).F 346 [.int .i64 n,.ptr (st.heap.length+k) 0,.ptr (st.heap.length+(k+1)) 0] (pst st H K)=some (.int .i64 (cd p 2 n),pst st H K):=by
 rw [eL ajT rfl]
 have r0:=hk.r0
 have r1:=hk.r1
 have e:(aq p w u)[16]? = some (.int .i64 p.pr.drop):=rfl
 by_cases hn:p.pr.drop≤n
 · simp [zT,hn,cd,r0,e]
 · simp [zT,hn,cd,r0,r1,e]
theorem zv (h0:aF p=0) (n:Int):0≤cd p 0 n∧cd p 0 n≤255∧0≤cd p 1 n∧cd p 1 n≤1283∧0≤cd p 2 n∧cd p 2 n≤68:=by
 have hl:=u5 h0
 have hm:=iI h0
 have hc:=EL p
 simp only [cd]
 refine ⟨by omega,by omega,?_,?_,?_,?_⟩<;>split<;>omega
theorem vO (h0:aF p=0) {H:List HO} {K:List Nat} {k:Nat} (hk:tJ st p w u H k) (s:Sl) (hs:0≤s.x∧s.x≤4095∧0≤s.w∧s.w≤4095) (n:Int):∃ J,(E tab).F 331 [.agg (aq p w u),.hsl 1 false (st.heap.length+(k+2)) 0 3 (some 3),s.dv,.int .i64 n] (pst st H K)=some ((g9 p s n).dv,pst st (H++J) K):=by
 have hpl:=zv h0 n
 have hm:=iI h0
 have hk2:=hk.add [.cells .plain (aq p w u),.cells .plain s.cs,.cells .plain [.int .i64 0,.int .i64 0]]
 have h1:=Gt (K:=K) hk2 n
 have h2:=EM (K:=K) h0 hk2 n
 have h3:=G5 (K:=K) hk2 n
 have r2:=hk2.r2
 have e:(aq p w u)[7]? = some (.int .i64 p.pr.out):=rfl
 refine ⟨[.cells .plain (aq p w u),.cells .plain s.cs,.cells .plain (g9 p s n).cs],?_⟩
 rw [eL afh rfl]
 unfold g9 vY
 generalize cd p 0 n=A at *
 generalize cd p 1 n=B at *
 generalize cd p 2 n=C at *
 have w0:IntKind.i64.wrap A=A:=aN (by omega)
 have w1:IntKind.i64.wrap (A+B)=A+B:=aN (by omega)
 have w2:IntKind.i64.wrap (A+B+C)=A+B+C:=aN (by omega)
 have w3:IntKind.i64.wrap (s.x+(A+B+C))=s.x+(A+B+C):=aN (by omega)
 have w4:IntKind.i64.wrap (s.w-(A+B+C))=s.w-(A+B+C):=aN (by omega)
 have w5:IntKind.i64.wrap (s.w-(A+B+C)-p.pr.out)=s.w-(A+B+C)-p.pr.out:=aN (by omega)
 simp only [Sl.cs] at h1 h2 h3 r2
 generalize hS:pst st (H++[.cells .plain (aq p w u),.cells .plain [.int .i64 s.x,.int .i64 s.w],.cells .plain [.int .i64 0,.int .i64 0]]) K=S at h1 h2 h3
 have hld:∀ i (v:DV),[DV.fn 343 [] [.ptr (st.heap.length+k) 0],.fn 344 [] [.ptr (st.heap.length+k) 0],.fn 346 [] [.ptr (st.heap.length+k) 0,.ptr (st.heap.length+(k+1)) 0]][i]? = some v→cR S 1 false (.ptr (st.heap.length+(k+2)) i)=some v:=by
  intro i v hv
  subst hS
  simp [r2,hv]
 have l0:=hld 0 _ rfl
 have l1:=hld 1 _ rfl
 have l2:=hld 2 _ rfl
 have t3:(E tab).C iT [(3,.int .i64 n),(4,.ptr (st.heap.length+H.length) 0),(6,.ptr (st.heap.length+(H.length+1)) 0),(8,.ptr (st.heap.length+(H.length+2)) 0),(9,.int .i64 (A+B+C)),(12,.hsl 1 false (st.heap.length+(k+2)) 0 3 (some 3)),(13,.int .i64 3),(14,.int .i64 3)] S=some (.exit 0,[(3,.int .i64 n),(4,.ptr (st.heap.length+H.length) 0),(6,.ptr (st.heap.length+(H.length+1)) 0),(8,.ptr (st.heap.length+(H.length+2)) 0),(9,.int .i64 (A+B+C)),(12,.hsl 1 false (st.heap.length+(k+2)) 0 3 (some 3)),(13,.int .i64 3),(14,.int .i64 3),(15,.bool false)],S):=by
  rw [aj (L:=iT) rfl]
  simp [pk]
 have t2:(E tab).C iT [(3,.int .i64 n),(4,.ptr (st.heap.length+H.length) 0),(6,.ptr (st.heap.length+(H.length+1)) 0),(8,.ptr (st.heap.length+(H.length+2)) 0),(9,.int .i64 (A+B)),(12,.hsl 1 false (st.heap.length+(k+2)) 0 3 (some 3)),(13,.int .i64 3),(14,.int .i64 2)] S=some (.exit 0,[(3,.int .i64 n),(4,.ptr (st.heap.length+H.length) 0),(6,.ptr (st.heap.length+(H.length+1)) 0),(8,.ptr (st.heap.length+(H.length+2)) 0),(9,.int .i64 (A+B+C)),(12,.hsl 1 false (st.heap.length+(k+2)) 0 3 (some 3)),(13,.int .i64 3),(14,.int .i64 3),(15,.bool false)],S):=by
  rw [aj (L:=iT) rfl]
  simp [pk,dc,l2,h3,w2,show IntKind.i64.wrap 3=3 by decide,t3]
 have t1:(E tab).C iT [(3,.int .i64 n),(4,.ptr (st.heap.length+H.length) 0),(6,.ptr (st.heap.length+(H.length+1)) 0),(8,.ptr (st.heap.length+(H.length+2)) 0),(9,.int .i64 A),(12,.hsl 1 false (st.heap.length+(k+2)) 0 3 (some 3)),(13,.int .i64 3),(14,.int .i64 1)] S=some (.exit 0,[(3,.int .i64 n),(4,.ptr (st.heap.length+H.length) 0),(6,.ptr (st.heap.length+(H.length+1)) 0),(8,.ptr (st.heap.length+(H.length+2)) 0),(9,.int .i64 (A+B+C)),(12,.hsl 1 false (st.heap.length+(k+2)) 0 3 (some 3)),(13,.int .i64 3),(14,.int .i64 3),(15,.bool false)],S):=by
  rw [aj (L:=iT) rfl]
  simp [pk,dc,l1,h2,w1,show IntKind.i64.wrap 2=2 by decide,t2]
 have t0:(E tab).C iT [(3,.int .i64 n),(4,.ptr (st.heap.length+H.length) 0),(6,.ptr (st.heap.length+(H.length+1)) 0),(8,.ptr (st.heap.length+(H.length+2)) 0),(9,.int .i64 0),(12,.hsl 1 false (st.heap.length+(k+2)) 0 3 (some 3)),(13,.int .i64 3),(14,.int .i64 0)] S=some (.exit 0,[(3,.int .i64 n),(4,.ptr (st.heap.length+H.length) 0),(6,.ptr (st.heap.length+(H.length+1)) 0),(8,.ptr (st.heap.length+(H.length+2)) 0),(9,.int .i64 (A+B+C)),(12,.hsl 1 false (st.heap.length+(k+2)) 0 3 (some 3)),(13,.int .i64 3),(14,.int .i64 3),(15,.bool false)],S):=by
  rw [aj (L:=iT) rfl]
  simp [pk,dc,l0,h1,w0,show IntKind.i64.wrap 1=1 by decide,t1]
 subst hS
 simp [Dc,Sl.dv,Sl.cs,t0,w3,w4,w5,e,agK,ajy]
end
theorem ai2 (k:IntKind) (x y z:Int):ee kE [.int k x,.int k y,.int k z]=some (.int k (max (max x y) z)):=by
 have h1:(if y>x then y else x)=max x y:=by split<;>omega
 have h2:(if z>max x y then z else max x y)=max (max x y) z:=by split<;>omega
 simp [ee,kE,h1,h2]
def manyN (p:bq) (sl:List Sl):Nat:=(max (max (sl.length:Int) 1) p.pr.drop).toNat
def inF (p:bq) (sl:List Sl) (rest:Sl) (n:Nat):Sl:=g9 p (aW sl rest n) n
def inL (p:bq) (sl:List Sl) (rest:Sl):List Sl:=(List.range (manyN p sl)).map (inF p sl rest)
def kT (p:bq) (sl:List Sl) (rest:Sl):Sl:=g9 p rest (manyN p sl)
section
variable {st:St} {p:bq} {w u:LW} {sl:List Sl} {sv:DV} {rest:Sl}
theorem og (h0:aF p=0) (hl:sl.length≤256):1≤manyN p sl∧manyN p sl≤256∧((manyN p sl:Nat):Int)=max (max (sl.length:Int) 1) p.pr.drop:=by
 have hc:=dh h0
 unfold manyN
 omega
theorem X3 (h0:aF p=0) (hs:Sls st sl sv) (hso:OB sl rest) (hl:sl.length≤256) (x2:HO):∀ (k i:Nat) (J:List HO) (K:List Nat) (ov:DV),i+k=manyN p sl →
 tJ st p w u (.cells .plain (aq p w u)::.cells .plain rest.cs::x2::J) 3 →
 Acc st K 2 (((List.range i).map (inF p sl rest)).map Sl.dv) ov→∃ ov' K' J' fr,
 (E tab).C tH [(1,sv),(3,.ptr st.heap.length 0),(5,.ptr (st.heap.length+1) 0),(7,.ptr (st.heap.length+2) 0),(8,.hsl 1 false (st.heap.length+5) 0 3 (some 3)),(9,.int .i64 (manyN p sl)),(10,ov),(20,.int .i64 (manyN p sl)),(21,.int .i64 i)] (pst st (.cells .plain (aq p w u)::.cells .plain rest.cs::x2::J) K) =
  some (.exit 0,(1,sv)::(3,.ptr st.heap.length 0)::(5,.ptr (st.heap.length+1) 0)::(7,.ptr (st.heap.length+2) 0)::(8,.hsl 1 false (st.heap.length+5) 0 3 (some 3))::(9,.int .i64 (manyN p sl))::(10,ov')::fr,pst st (.cells .plain (aq p w u)::.cells .plain rest.cs::x2::(J++J')) K') ∧
  Acc st K' 2 ((inL p sl rest).map Sl.dv) ov':=by
 have hm:=og (p:=p) h0 hl
 intro k
 induction k with
 | zero=>
   intro i J K ov hi hk hA
   obtain rfl:i=manyN p sl:=by omega
   refine ⟨ov,K,[],[(20,.int .i64 (manyN p sl)),(21,.int .i64 (manyN p sl)),(22,.bool false)],?_,hA⟩
   rw [aj (L:=tH) rfl]
   simp [xP]
 | succ k ih=>
   intro i J K ov hi hk hA
   have his:(i:Int)<manyN p sl:=by omega
   have his':i<manyN p sl:=by omega
   have hw:IntKind.i64.wrap ((i:Int)+1)=((i+1:Nat):Int):=by rw [aN (by omega)];simp
   have hrange:(List.range (i+1)).map (inF p sl rest)=(List.range i).map (inF p sl rest)++[inF p sl rest i]:=by rw [List.range_succ];simp
   have h114:=rK (rest:=rest) (hs.inn (.cells .plain (aq p w u)::.cells .plain rest.cs::x2::J) K) i
   obtain ⟨J1,h331⟩:=vO (K:=K) h0 hk (aW sl rest i) (hso i) i
   have hk2:=hk.add J1
   obtain ⟨ov2,K2,hap,hA2⟩:=eY (H:=.cells .plain (aq p w u)::.cells .plain rest.cs::x2::(J++J1)) (by_:=16) (ag:=true) (tk:=.tight) (t:=st.cur) (ys:=[(inF p sl rest i).dv]) hA (by omega) (by simp) (by simp [vL]) (by simp [az];omega) (by simp [az];omega)
   obtain ⟨ov',K',J',fr,hJ,hR⟩:=ih (i+1) (J++J1) K2 ov2 (by omega) hk2 (by rw [hrange];simpa using hA2)
   refine ⟨ov',K',J1++J',fr,?_,hR⟩
   rw [aj (L:=tH) rfl]
   rw [show g9 p (aW sl rest i) i=inF p sl rest i from rfl] at h331
   generalize inF p sl rest i=g at *
   generalize aW sl rest i=s at *
   simp only [Sl.cs,Sl.dv] at h114 h331 hap hJ ⊢
   simp at h331 hap hJ
   simp [xP,his,c9,gO,jO,jW,bb,h114,h331,bc,bn,chunk,hap,hw,hJ]
theorem Ak (h0:aF p=0) (hp:p.small) (hw:w.ok 4 p.aT) (hu:u.ok 1 p.marks) (hs:Sls st sl sv) (hc:b8 sl rest=0) :
 ∃ v,(E tab).F 320 [.agg (aq p w u),sv,rest.dv] st=some (.tuple [v,(kT p sl rest).dv],st)∧Lw 2 ((inL p sl rest).map Sl.dv) v:=by
 rw [bj af1 rfl]
 obtain ⟨hso,hl⟩:=mh hc
 have hm:=og (p:=p) h0 hl
 have hcp:=dh h0
 have e0:=fun st'=>Vw.len hs st'
 simp only [List.length_map] at e0
 have hsv:sv.leaves=[sv]∧sv.bh=true:=by cases hs<;>exact ⟨rfl,rfl⟩
 have h330:=A6 (st:=st) h0 hp hw hu [.cells .plain (aq p w u),.cells .plain rest.cs,.cells .plain [.int .i64 0,.int .i64 0]] []
 have hk:tJ st p w u (.cells .plain (aq p w u)::.cells .plain rest.cs::.cells .plain [.int .i64 0,.int .i64 0]::prH p w u (st.heap.length+3)) 3:=⟨rfl,rfl,rfl⟩
 obtain ⟨ov,K1,J1,fr1,hJ,hA⟩:=X3 (st:=st) h0 hs hso hl (.cells .plain [.int .i64 0,.int .i64 0]) (manyN p sl) 0 (prH p w u (st.heap.length+3)) [] (.list 0 0 .no false []) (by omega) hk (ef _ _ _ _ _ _)
 have hk1:=hk.add J1
 have hrest:0≤rest.x∧rest.x≤4095∧0≤rest.w∧rest.w≤4095:=by
  have:=hso sl.length
  unfold aW kF at this
  rw [if_neg (by omega)] at this
  simpa using this
 obtain ⟨J2,h331⟩:=vO (K:=K1) h0 hk1 rest hrest (manyN p sl)
 obtain ⟨t,n,tk,nn,rfl,c1,c2⟩:∃ t n tk nn,ov=.list t n tk nn ((inL p sl rest).map Sl.dv)∧(nn=true→n=2)∧(nn=false→(inL p sl rest).map Sl.dv=[]):=by
  rcases hA with ⟨hx,t,n',tk,rfl⟩ | ⟨k,s,rfl,hk⟩
  · exact ⟨_,_,_,_,by rw [hx],(fun h=>by cases h),fun _=>hx⟩
  · exact ⟨_,_,_,_,rfl,fun _=>rfl,(fun h=>by cases h)⟩
 refine ⟨.list t n (s7 tk) nn ((inL p sl rest).map Sl.dv),?_,.list _ _ _ _ c1 c2⟩
 have e14:(aq p w u)[16]? = some (.int .i64 p.pr.drop):=rfl
 have wl:IntKind.i64.wrap (sl.length:Int)=sl.length:=aN (by omega)
 have hmx:=ai2 .i64 (sl.length:Int) 1 p.pr.drop
 rw [← hm.2.2] at hmx
 rw [show g9 p rest (manyN p sl)=kT p sl rest from rfl] at h331
 generalize (inL p sl rest).map Sl.dv=VI at *
 generalize kT p sl rest=R at *
 generalize manyN p sl=MN at *
 simp only [Sl.cs,Sl.dv,prH] at h330 hJ h331 ⊢
 simp at h330 hJ h331
 simp [-fH,exl,Ba,e0,e14,hmx,h330,hJ,h331]
theorem De (hp:p.small) (hw:w.ok 4 p.aT) (hu:u.ok 1 p.marks) (hs:Sls st sl sv):(E tab).F 319 [.agg (aq p w u),sv,rest.dv] st=some (.int .i64 (if aF p≠0 then aF p else b8 sl rest),st):=by
 rw [bj afQ rfl]
 have h13:=fun st=>yF p hp w u hw hu st
 have h126:=um (rest:=rest) (hs.inn [.cells .plain (aq p w u),.cells .plain rest.cs] [])
 by_cases h0:aF p=0
 · simp only [Sl.cs,Sl.dv] at h126 ⊢
   simp [zQ,h13,h0,h126]
 · simp only [Sl.cs,Sl.dv] at h126 ⊢
   simp [zQ,h13,h0]
theorem AH (hl1:p.pr.least≠1) {l:List It} {lv:DV} (hv:Its st l lv) (hs:Sls st sl sv) :
 ∃ v,(E tab).F 321 [.agg (aq p w u),lv,sv,rest.dv] st=some (.agg [v,.bool true,.bool (decide (fu l sl rest≠0))],st)∧Lw 5 ((jj l sl rest).map Pc.dv) v:=by
 rw [bj afb rfl]
 have e15:(aq p w u)[15]? = some (.int .i64 p.pr.least):=rfl
 obtain ⟨v,hb,hv5⟩:=CW (rest:=rest) (hs.inn [.cells .plain (aq p w u),.cells .plain rest.cs,.cells .plain [.list 0 0 .no false [],.bool false,.bool false]] []) (hv.inn [.cells .plain (aq p w u),.cells .plain rest.cs,.cells .plain [.list 0 0 .no false [],.bool false,.bool false]] [])
 have hlv:lv.leaves=[lv]∧lv.bh=true:=by cases hv<;>exact ⟨rfl,rfl⟩
 have hsv:sv.leaves=[sv]∧sv.bh=true:=by cases hs<;>exact ⟨rfl,rfl⟩
 obtain ⟨t,n,tk,nn,rfl,c0,c1,c2⟩:=pM hv5
 refine ⟨.list t n (s7 tk) nn ((jj l sl rest).map Pc.dv),?_,.list _ _ _ _ c1 c2⟩
 generalize (jj l sl rest).map Pc.dv=VB at *
 by_cases hE:fu l sl rest=0
 · rw [hE] at hb
   simp only [Sl.cs,Sl.dv] at hb ⊢
   simp [-fH,exl,z0,e15,hl1,dc,hb,hE]
 · simp only [Sl.cs,Sl.dv] at hb ⊢
   simp [-fH,exl,z0,e15,hl1,dc,hb,hE]
end
def iz0:It:=⟨0,0,0,0,0,0,0,false⟩
def toP (T:Int) (it:List It):List Pc→Int
 | []=>T
 | y::_=>(it.getD y.a.toNat iz0).f
def lnP (fr to:Int) (s:Sl) (x:Pc):Ln:=⟨fr,to,s.x,s.w,x.n,x.hy,if x.wide then 1 else 0⟩
def lg (T:Int) (it:List It) (sl:List Sl) (rest:Sl):Nat→Int→List Pc→List Ln
 | _,_,[]=>[]
 | n,fr,x::r=>lnP fr (toP T it r) (aW sl rest n) x::lg T it sl rest (n+1) (toP T it r) r
section
variable {st:St} {p:bq} {w u:LW} {sl:List Sl} {sv:DV} {rest:Sl}
theorem AI (l:List It) (a b:Int):∃ x y z:Int,yR l a b=.tuple [.int .i64 x,.int .i64 y,.int .i64 z]:=by
 unfold yR
 split<;>exact ⟨_,_,_,rfl⟩
theorem ahK (l:Ln):dB 7 true l.dv:=⟨rfl,rfl,rfl⟩
theorem mR (T:Int) (it:List It) (sl:List Sl) (rest:Sl):∀ (P:List Pc) (n:Nat) (fr:Int),(lg T it sl rest n fr P).length=P.length
 | [],_,_=>rfl
 | x::r,n,fr=>by simp [lg,mR T it sl rest r]
theorem LA {it:List It} {iv:DV} {c1:List DV} (hi:Its st it iv) (hs:Sls st sl sv) {P:List Pc} (hP:P.length≤20000) (hPa:∀ y∈P,0≤y.a) (hPb:2≤P.length→∀ y∈P,y.a<it.length) {t n:Nat} {tk:Tk} {nn:Bool} (h5:P≠[]→n=5) {lo:Bool} (hlo:P≠[]→lo=false) :
 ∀ (r d:List Pc) (J:List HO) (K:List Nat) (ov:DV) (fr0:Int) (ls:List Ln),P=d++r→ls.length=d.length →
 Acc st K 7 (ls.map Ln.dv) ov→∃ ov' K' J' fr,
 (E tab).C sc [(3,.ptr st.heap.length 0),(9,iv),(11,sv),(12,.ptr (st.heap.length+2) 0),(13,.ptr (st.heap.length+3) 0),(14,ov),(15,.int .i64 fr0),(49,.list t n tk nn (P.map Pc.dv)),(50,.int .i64 P.length),(51,.int .i64 d.length)] (pst st (.cells .plain (aq p w u)::.cells .plain c1::.cells .plain rest.cs::.cells .plain [.list t n tk nn (P.map Pc.dv),.bool true,.bool lo]::J) K) =
  some (.exit 0,(3,.ptr st.heap.length 0)::(9,iv)::(11,sv)::(12,.ptr (st.heap.length+2) 0)::(13,.ptr (st.heap.length+3) 0)::(14,ov')::fr,pst st (.cells .plain (aq p w u)::.cells .plain c1::.cells .plain rest.cs::.cells .plain [.list t n tk nn (P.map Pc.dv),.bool true,.bool lo]::(J++J')) K') ∧
  Acc st K' 7 ((ls++lg p.text.length it sl rest d.length fr0 r).map Ln.dv) ov':=by
 intro r
 induction r with
 | nil=>
   intro d J K ov fr0 ls hd hls hA
   rw [List.append_nil] at hd
   subst hd
   refine ⟨ov,K,[],[(15,.int .i64 fr0),(49,.list t n tk nn (P.map Pc.dv)),(50,.int .i64 P.length),(51,.int .i64 P.length),(52,.bool false)],?_,by simpa [lg] using hA⟩
   rw [aj (L:=sc) rfl]
   simp [my]
 | cons x r ih=>
   intro d J K ov fr0 ls hd hls hA
   have hlt:d.length<P.length:=by simp [hd]
   obtain rfl:=h5 (by intro e;rw [e] at hlt;simp at hlt)
   obtain rfl:=hlo (by intro e;rw [e] at hlt;simp at hlt)
   have hlt':(d.length:Int)<P.length:=by omega
   have hw:IntKind.i64.wrap ((d.length:Int)+1)=((d++[x]).length:Nat):=by rw [aN (by omega)];simp
   have hVl:(P.map Pc.dv).length=P.length:=by simp
   have l0:d.length<(P.map Pc.dv).length:=by rw [hVl];exact hlt
   have g0:(P.map Pc.dv)[d.length]'l0=x.dv:=by simp [hd]
   have h114:=rK (rest:=rest) (hs.inn (.cells .plain (aq p w u)::.cells .plain c1::.cells .plain rest.cs::.cells .plain [.list t 5 tk nn (P.map Pc.dv),.bool true,.bool false]::(J++[.cells .plain x.cs])) K) d.length
   obtain ⟨g1,g2,g3,hgv⟩:=AI it x.a x.b
   have h322:=Et (hi.inn (.cells .plain (aq p w u)::.cells .plain c1::.cells .plain rest.cs::.cells .plain [.list t 5 tk nn (P.map Pc.dv),.bool true,.bool false]::(J++[.cells .plain x.cs,.cells .plain (aW sl rest d.length).cs,.cells .plain ([.int .i64 fr0,.int .i64 (toP p.text.length it r),.int .i64 (aW sl rest d.length).x,.int .i64 (aW sl rest d.length).w,.int .i64 x.n,.bool x.hy,.int .i64 0])])) K) x.a x.b
   rw [hgv] at h322
   obtain ⟨ov2,K2,hap,hA2⟩:=eY (H:=.cells .plain (aq p w u)::.cells .plain c1::.cells .plain rest.cs::.cells .plain [.list t 5 tk nn (P.map Pc.dv),.bool true,.bool false]::(J++[.cells .plain x.cs,.cells .plain (aW sl rest d.length).cs,.cells .plain (lnP fr0 (toP p.text.length it r) (aW sl rest d.length) x).cs])) (by_:=56) (ag:=true) (tk:=.tight) (t:=st.cur) (ys:=[(lnP fr0 (toP p.text.length it r) (aW sl rest d.length) x).dv]) hA (by omega) (by simp) (by simp [ahK]) (by simp [az];omega) (by simp [az];omega)
   obtain ⟨ov',K',J',fr,hJ,hR⟩:=ih (d++[x]) (J++[.cells .plain x.cs,.cells .plain (aW sl rest d.length).cs,.cells .plain (lnP fr0 (toP p.text.length it r) (aW sl rest d.length) x).cs]) K2 ov2 (toP p.text.length it r) (ls++[lnP fr0 (toP p.text.length it r) (aW sl rest d.length) x]) (by simp [hd]) (by simp [hls]) (by simpa using hA2)
   refine ⟨ov',K',.cells .plain x.cs::.cells .plain (aW sl rest d.length).cs::.cells .plain (lnP fr0 (toP p.text.length it r) (aW sl rest d.length) x).cs::J',fr,?_,by
    simpa [lg] using hR⟩
   rw [aj (L:=sc) rfl]
   have hxa:=hPa x (by simp [hd])
   cases r with
   | nil=>
     have hlen:P.length=d.length+1:=by simp [hd]
     have hlt2:(d.length:Int)<(d.length:Int)+1:=by omega
     generalize P.map Pc.dv=V at *
     unfold lnP at hap hJ ⊢
     simp only [toP] at hap hJ h322 ⊢
     generalize aW sl rest d.length=s at *
     simp only [Sl.dv,Sl.cs,Ln.dv,Ln.cs,Pc.dv,Pc.cs] at h114 h322 hap hJ g0 ⊢
     simp at h114 h322 hap hJ
     cases hwd:x.wide with
     | false=>
       rw [hwd] at g0 h114 h322 hap hJ
       simp at hap hJ
       simp [my,hlt2,g0,l0,h114,hVl,hlen,h322,hw,bc,bn,chunk,hap]
       simpa [hlen] using hJ
     | true=>
       rw [hwd] at g0 h114 h322 hap hJ
       simp at hap hJ
       simp [my,hlt2,g0,l0,h114,hVl,hlen,h322,hw,show IntKind.i64.wrap 1=1 by decide,bc,bn,chunk,hap]
       simpa [hlen] using hJ
   | cons y r'=>
     have hlen:P.length=d.length+1+1+r'.length:=by simp [hd];omega
     have hlt2:(d.length:Int)<(d.length:Int)+1+1+r'.length:=by omega
     have hge:(0:Int)≤(d.length:Int)+1:=by omega
     have hlt4:d.length<d.length+1+1+r'.length:=by omega
     have hlt5:d.length+1<d.length+1+1+r'.length:=by omega
     have hlt3:(d.length:Int)+1<(d.length:Int)+1+1+r'.length:=by omega
     have l1:d.length+1<(P.map Pc.dv).length:=by rw [hVl,hlen];omega
     have g1':(P.map Pc.dv)[d.length+1]'l1=y.dv:=by simp [hd]
     have hya:=hPa y (by simp [hd])
     have hyb:=hPb (by rw [hlen];omega) y (by simp [hd])
     obtain ⟨ya,hy⟩:∃ ya:Nat,y.a=ya:=⟨y.a.toNat,by omega⟩
     have hyl:ya<it.length:=by omega
     have hx:it[ya]? = some (it.getD ya iz0):=by rw [List.getD_eq_getElem?_getD,List.getElem?_eq_getElem hyl];rfl
     have i1:=fun st'=>dL hi hyl .i64 st'
     have i2:=fun st'=>gk hi hx (off:=1) (by omega) st'
     have i3:=fun H K=>sy hi hx (off:=1) (y:=.int .i64 (it.getD ya iz0).f) rfl H K
     have et:toP p.text.length it (y::r')=(it.getD ya iz0).f:=by simp only [toP,hy];rfl
     rw [et] at hap hJ h322 ⊢
     generalize it.getD ya iz0=q at *
     generalize P.map Pc.dv=V at *
     unfold lnP at hap hJ ⊢
     generalize aW sl rest d.length=s at *
     simp only [Sl.dv,Sl.cs,Ln.dv,Ln.cs,Pc.dv,Pc.cs] at h114 h322 hap hJ g0 g1' ⊢
     simp at h114 h322 hap hJ
     have w1:IntKind.i64.wrap ((d.length:Int)+1)=(d.length:Int)+1:=aN (by omega)
     rw [hy] at g1'
     cases hwd:x.wide with
     | false=>
       rw [hwd] at g0 h114 h322 hap hJ
       simp at hap hJ
       simp [my,hlt2,hlt3,hlt4,hlt5,hge,g0,l0,g1',h114,hVl,hlen,h322,w1,i1,i2,i3,bc,bn,chunk,hap]
       simpa [hlen] using hJ
     | true=>
       rw [hwd] at g0 h114 h322 hap hJ
       simp at hap hJ
       simp [my,hlt2,hlt3,hlt4,hlt5,hge,g0,l0,g1',h114,hVl,hlen,h322,w1,i1,i2,i3,show IntKind.i64.wrap 1=1 by decide,bc,bn,chunk,hap]
       simpa [hlen] using hJ
end
section
variable {p:bq} {sl:List Sl} {rest:Sl}
theorem u9 (h0:aF p=0) (hl:sl.length≤256) (n:Nat):aW (inL p sl rest) (kT p sl rest) n=inF p sl rest n:=by
 have hm:=og (p:=p) h0 hl
 unfold aW kF
 rw [if_neg (by omega),show (n:Int).toNat=n from rfl]
 by_cases h:n<manyN p sl
 · unfold inL
   simp [h]
 · have e:(inL p sl rest)[n]? = none:=by
    rw [List.getElem?_eq_none_iff];simp [inL];omega
   rw [e]
   unfold inF aW kF
   have e2:sl[(n:Int).toNat]? = none:=by
    rw [List.getElem?_eq_none_iff];show sl.length≤n;omega
   rw [if_neg (by omega),e2]
   simp only [Option.getD_none]
   unfold kT g9 vY
   have p0:cd p 0 (manyN p sl)=cd p 0 n:=rfl
   have p1:cd p 1 (manyN p sl)=cd p 1 n:=by
    simp only [cd];rw [if_pos (by omega),if_pos (by omega)]
   have p2:cd p 2 (manyN p sl)=cd p 2 n:=by
    simp only [cd];rw [if_pos (by omega),if_pos (by omega)]
   rw [p0,p1,p2]
theorem tZ (h0:aF p=0) (s:Sl) (hs:0≤s.x∧s.x≤4095∧0≤s.w∧s.w≤4095) (n:Int):kj (g9 p s n)=true:=by
 have hp:=zv h0 n
 have hm:=iI h0
 unfold kj bH g9 vY
 simp only [Bool.and_eq_true,decide_eq_true_eq]
 omega
theorem afK (h0:aF p=0) (hc:b8 sl rest=0):b8 (inL p sl rest) (kT p sl rest)=0:=by
 obtain ⟨hso,hl⟩:=mh hc
 have hm:=og (p:=p) h0 hl
 have hrest:0≤rest.x∧rest.x≤4095∧0≤rest.w∧rest.w≤4095:=by
  have:=hso sl.length
  unfold aW kF at this
  rw [if_neg (by omega)] at this
  simpa using this
 unfold b8
 rw [if_neg (by simp [inL];omega),if_pos]
 rw [Bool.and_eq_true,List.all_eq_true]
 refine ⟨fun s hs => ?_,tZ h0 rest hrest _⟩
 obtain ⟨n,_,rfl⟩:=List.mem_map.1 hs
 exact tZ h0 _ (hso n) _
def ew (l:List It) (F:Nat→Sl):Nat→Nat→Nat→List Pc
 | 0,_,_=>[]
 | f+1,a,n=>if a<l.length then fj l a (F n)::ew l F f (jk l (fj l a (F n)).b.toNat) (n+1) else []
theorem yG (l:List It) {sl:List Sl} {rest:Sl} {F:Nat→Sl} (h:∀ n:Nat,aW sl rest n=F n):∀ f a n,iJ l sl rest f a n=ew l F f a n
 | 0,_,_=>rfl
 | f+1,a,n=>by simp only [iJ,ew,h n,yG l h f]
theorem oC (l:List It) {F G:Nat→Sl}:∀ f a n,(∀ m,n≤m→m<n+(ew l F f a n).length→G m=F m)→ew l G f a n=ew l F f a n
 | 0,_,_,_=>rfl
 | f+1,a,n,h=>by
   simp only [ew] at h ⊢
   split
   · rename_i ha
     rw [if_pos ha] at h
     have e:G n=F n:=h n (Nat.le_refl _) (by simp)
     rw [e,oC l f _ (n+1) fun m h1 h2=>h m (by omega) (by simp;omega)]
   · rfl
def wQ (T:Int) (it:List It) (F:Nat→Sl):Nat→Int→List Pc→List Ln
 | _,_,[]=>[]
 | n,fr,x::r=>lnP fr (toP T it r) (F n) x::wQ T it F (n+1) (toP T it r) r
theorem La (T:Int) (it:List It) {sl:List Sl} {rest:Sl} {F:Nat→Sl} (h:∀ n:Nat,aW sl rest n=F n):∀ (P:List Pc) (n:Nat) (fr:Int),lg T it sl rest n fr P=wQ T it F n fr P
 | [],_,_=>rfl
 | x::r,n,fr=>by simp only [lg,wQ,h n,La T it h r]
theorem uw (T:Int) (it:List It) {F G:Nat→Sl}:∀ (P:List Pc) (n:Nat) (fr:Int),(∀ m,n≤m→m<n+P.length→G m=F m)→wQ T it G n fr P=wQ T it F n fr P
 | [],_,_,_=>rfl
 | x::r,n,fr,h=>by
   simp only [wQ]
   rw [h n (Nat.le_refl _) (by simp),uw T it r (n+1) _ fun m h1 h2=>h m (by omega) (by simp;omega)]
def jX (p:bq) (sl:List Sl) (rest:Sl):List Pc:=jj (db p) (inL p sl rest) (kT p sl rest)
def cE (p:bq) (sl:List Sl) (rest:Sl):List Ln:=lg p.text.length (db p) (inL p sl rest) (kT p sl rest) 0 0 (jX p sl rest)
def dZ (l:List It) (F:Nat→Sl):List Pc:=
 if bI l≠0 then [] else if cg l l.length 0=l.length then [⟨l.length,l.length,false,false,0⟩] else ew l F l.length (cg l l.length 0) 0
theorem pU (h0:aF p=0) (hc:b8 sl rest=0):jX p sl rest=dZ (db p) (inF p sl rest):=by
 obtain ⟨_,hl⟩:=mh hc
 have hin:=afK h0 hc
 have hE:fu (db p) (inL p sl rest) (kT p sl rest)=bI (db p):=by
  unfold fu
  by_cases h:bI (db p)=0
  · rw [if_neg (by simp [h]),h,hin]
  · rw [if_pos h]
 unfold jX jj dZ
 rw [hE,yG _ (u9 h0 hl)]
theorem BD (h0:aF p=0) (hc:b8 sl rest=0):cE p sl rest=wQ p.text.length (db p) (inF p sl rest) 0 0 (jX p sl rest):=by
 obtain ⟨_,hl⟩:=mh hc
 exact La _ _ (u9 h0 hl) _ _ _
theorem u7 (l:List It) {F G:Nat→Sl} (h:∀ m,m<(dZ l F).length→G m=F m):dZ l G=dZ l F:=by
 unfold dZ at h ⊢
 split
 · rfl
 · rename_i h1
   rw [if_neg h1] at h
   split
   · rfl
   · rename_i h2
     rw [if_neg h2] at h
     exact oC l _ _ _ fun m _ h3=>h m (by omega)
theorem Av (h0:aF p=0) (hc:b8 sl rest=0) {sl2:List Sl} {rest2:Sl} (hc2:b8 sl2 rest2=0) (h:∀ m:Nat,m<(cE p sl rest).length→aW sl2 rest2 m=aW sl rest m):cE p sl2 rest2=cE p sl rest:=by
 have hlen:(cE p sl rest).length=(jX p sl rest).length:=mR _ _ _ _ _ _ _
 have hF:∀ m:Nat,m<(jX p sl rest).length→inF p sl2 rest2 m=inF p sl rest m:=fun m hm=>by
  unfold inF;rw [h m (by omega)]
 have hP:jX p sl2 rest2=jX p sl rest:=by
  rw [pU h0 hc2,pU h0 hc]
  rw [pU h0 hc] at hF
  exact u7 _ hF
 rw [BD h0 hc2,BD h0 hc,hP]
 exact uw _ _ _ _ _ fun m _ hm=>hF m (by omega)
theorem AV (l:List It) (a:Nat) (s:Sl):(fj l a s).a=a:=by
 unfold fj
 split<;>rfl
theorem ox (l:List It) (F:Nat→Sl):∀ f a n,∀ y∈ew l F f a n,0≤y.a∧y.a<l.length
 | 0,_,_,y,h=>by simp [ew] at h
 | f+1,a,n,y,h=>by
   simp only [ew] at h
   split at h
   · rename_i ha
     rcases List.mem_cons.1 h with rfl | h
     · have e:=AV l a (F n)
       rw [e];omega
     · exact ox l F f _ _ y h
   · cases h
theorem qY (l:List It) (F:Nat→Sl):∀ f a n,(ew l F f a n).length≤f
 | 0,_,_=>by simp [ew]
 | f+1,a,n=>by
   simp only [ew]
   split
   · have:=qY l F f (jk l (fj l a (F n)).b.toNat) (n+1);simp;omega
   · simp
theorem rv (l:List It) (F:Nat→Sl):(∀ y∈dZ l F,0≤y.a)∧(2≤(dZ l F).length→∀ y∈dZ l F,y.a<l.length)∧(dZ l F).length≤8193:=by
 unfold dZ
 split
 · simp
 · rename_i h1
   have hlen:l.length≤8192:=by
    apply Classical.byContradiction
    intro h
    apply h1
    unfold bI
    rw [if_pos (by omega)];simp
   split
   · refine ⟨?_,?_,?_⟩
     · simp
     · intro h;simp at h
     · simp
   · exact ⟨fun y hy=>(ox l F _ _ _ y hy).1,fun _ y hy=>(ox l F _ _ _ y hy).2,by have:=qY l F l.length (cg l l.length 0) 0;omega⟩
end
section
variable {st:St} {p:bq} {w u:LW} {sl:List Sl} {sv:DV} {rest:Sl}
def kY (p:bq) (sl:List Sl) (rest:Sl):Int:=if aF p≠0 then aF p else b8 sl rest
theorem CN (hp:p.small) (hw:w.ok 4 p.aT) (hu:u.ok 1 p.marks) (hl1:p.pr.least≠1) (hs:Sls st sl sv) :
 ∃ v,(E tab).F 307 [.agg (aq p w u),sv,rest.dv] st=some (.tuple [v,.int .i64 (kY p sl rest)],st)∧Lw 7 ((if kY p sl rest=0 then cE p sl rest else []).map Ln.dv) v:=by
 rw [bj aiX rfl]
 have h319:=De (rest:=rest) hp hw hu (hs.inn [.cells .plain (aq p w u),.cells .plain rest.cs] [])
 rw [show (if aF p≠0 then aF p else b8 sl rest)=kY p sl rest from rfl] at h319
 have hsv:sv.leaves=[sv]∧sv.bh=true:=by cases hs<;>exact ⟨rfl,rfl⟩
 by_cases hE:kY p sl rest=0
 rotate_left
 · rw [if_neg hE]
   refine ⟨.list 0 0 .no false [],?_,.list _ _ _ _ (fun h=>by cases h) (fun _=>rfl)⟩
   simp only [Sl.dv,Sl.cs] at h319 ⊢
   simp [z9,h319,hE]
 rw [if_pos hE,hE]
 rw [hE] at h319
 have h0:aF p=0:=by
  apply Classical.byContradiction
  intro h;unfold kY at hE;rw [if_pos h] at hE;exact h hE
 have hc:b8 sl rest=0:=by unfold kY at hE;rw [if_neg (by simp [h0])] at hE;exact hE
 obtain ⟨iv,h106,hiv⟩:=Dj (st:=pst st [.cells .plain (aq p w u),.cells .plain rest.cs] []) hp hw hu
 rw [h0] at h106
 rw [if_pos h0] at hiv
 obtain ⟨nv,h320,hnv⟩:=Ak (st:=pst st [.cells .plain (aq p w u),.cells .plain rest.cs] []) h0 hp hw hu (hs.inn _ _) hc
 obtain ⟨bv,h321,hbv⟩:=AH (st:=pst st [.cells .plain (aq p w u),.cells .plain rest.cs,.cells .plain (kT p sl rest).cs] []) (w:=w) (u:=u) (rest:=kT p sl rest) hl1 (Lw.vw hiv:Its _ (db p) iv) (Lw.vw hnv)
 obtain ⟨t,n,tk,nn,rfl,c0,_,_⟩:=pM hbv
 have hP:=pU h0 hc
 obtain ⟨q1,q2,q3⟩:=rv (db p) (inF p sl rest)
 rw [← hP] at q1 q2 q3
 have hlo:jX p sl rest≠[]→decide (fu (db p) (inL p sl rest) (kT p sl rest)≠0)=false:=by
  intro h
  apply decide_eq_false
  intro h2
  apply h
  unfold jX jj
  rw [if_pos h2]
 rw [show jj (db p) (inL p sl rest) (kT p sl rest)=jX p sl rest from rfl] at h321 c0
 obtain ⟨ov,K1,J1,fr1,hJ,hA⟩:=LA (st:=st) (p:=p) (w:=w) (u:=u) (rest:=kT p sl rest) (c1:=rest.cs) (Lw.vw hiv:Its st (db p) iv) (Lw.vw hnv) (P:=jX p sl rest) (by omega) q1 q2 (t:=t) (tk:=tk) (nn:=nn) (fun h=>c0 (by
  intro e;rw [List.map_eq_nil_iff] at e;exact h e)) hlo (jX p sl rest) [] [] [] (.list 0 0 .no false []) 0 [] rfl rfl (ef _ _ _ _ _ _)
 obtain ⟨t2,n2,tk2,nn2,rfl,c1,c2⟩:∃ t n tk nn,ov=.list t n tk nn ((cE p sl rest).map Ln.dv)∧(nn=true→n=7)∧(nn=false→(cE p sl rest).map Ln.dv=[]):=by
  have hA':Acc st K1 7 ((cE p sl rest).map Ln.dv) ov:=by simpa [cE] using hA
  rcases hA' with ⟨hx,t,n',tk,rfl⟩ | ⟨k,s,rfl,hk⟩
  · exact ⟨_,_,_,_,by rw [hx],(fun h=>by cases h),fun _=>hx⟩
  · exact ⟨_,_,_,_,rfl,fun _=>rfl,(fun h=>by cases h)⟩
 refine ⟨.list t2 n2 (s7 tk2) nn2 ((cE p sl rest).map Ln.dv),?_,.list _ _ _ _ c1 c2⟩
 have hVl:((jX p sl rest).map Pc.dv).length=(jX p sl rest).length:=by simp
 generalize (cE p sl rest).map Ln.dv=VL at *
 generalize kT p sl rest=R2 at *
 generalize decide (fu (db p) (inL p sl rest) R2≠0)=lo at *
 generalize (jX p sl rest).map Pc.dv=VP at *
 simp only [Sl.dv,Sl.cs] at h319 h106 h320 h321 hJ ⊢
 simp at h106 h320 h321 hJ
 simp [-fH,exl,z9,h319,h106,h320,h321,hVl,hJ]
theorem MT (L:List Ln) (hl:L.length≤100000) (w u:LW) (hw:L≠[]→w.n=7) (hu:L≠[]→u.n=7) (st:St):∀ (r d:List Ln),L=d++r →
 (E tab).C ta [(0,.list w.t w.n w.tk w.nn (L.map Ln.dv)),(1,.list u.t u.n u.tk u.nn (L.map Ln.dv)),(5,.int .i64 d.length)] (pst st [] []) =
  some (.exit 0,[(0,.list w.t w.n w.tk w.nn (L.map Ln.dv)),(1,.list u.t u.n u.tk u.nn (L.map Ln.dv)),(5,.int .i64 L.length),(14,.bool false)],pst st [] []):=by
 intro r
 induction r with
 | nil=>
   intro d hd
   rw [aj (L:=ta) rfl]
   simp [xl,hd]
 | cons m r ih=>
   intro d hd
   have w4:=hw (by simp [hd])
   have u4:=hu (by simp [hd])
   have h0:d.length<L.length:=by simp [hd]
   have hw:IntKind.i64.wrap ((d.length:Int)+1)=((d++[m]).length:Nat):=by rw [aN (by omega)];simp
   have hg:L[d.length]=m:=by simp [hd]
   rw [aj (L:=ta) rfl]
   have hJ:=ih (d++[m]) (by simp [hd])
   simp [w4,u4] at hJ ⊢
   simp [xl,c9,gO,jO,jW,bb,h0,hg,hw,Ln.dv,Ln.cs,eqD,aR,cp]
   simpa [Ln.dv,Ln.cs] using hJ
theorem FP (L:List Ln) (hl:L.length≤100000) (w u:LW) (hw:L≠[]→w.n=7) (hu:L≠[]→u.n=7) (st:St) :
 (E tab).F 309 [.list w.t w.n w.tk w.nn (L.map Ln.dv),.list u.t u.n u.tk u.nn (L.map Ln.dv)] st=some (.bool true,st):=by
 rw [bj afo rfl]
 have h:=MT L hl w u hw hu st L [] rfl
 simp at h
 simp [CS,h]
theorem Db (hw:w.ok 4 p.aT) (hu:u.ok 1 p.marks):∃ b,(E tab).F 308 [.agg (aq p w u)] st=some (.bool b,st):=by
 rw [bj akP rfl]
 by_cases a:(300:Int)<p.text.length
 · by_cases a2:(p.text.length:Int)≤4096
   · exact ⟨true,by simp [pR,a,a2]⟩
   · by_cases b:(5000:Int)<p.aT.length
     · exact ⟨true,by simp [pR,a,a2,b]⟩
     · by_cases c:(5000:Int)<p.marks.length
       · exact ⟨true,by simp [pR,a,a2,b,c]⟩
       · exact ⟨false,by simp [pR,a,a2,b,c]⟩
 · by_cases b:(5000:Int)<p.aT.length
   · exact ⟨true,by simp [pR,a,b]⟩
   · by_cases c:(5000:Int)<p.marks.length
     · exact ⟨true,by simp [pR,a,b,c]⟩
     · exact ⟨false,by simp [pR,a,b,c]⟩
end
theorem KX:tab 301=some (.code CZ):=by kernel_rfl
theorem sF:ab tab 307=true:=by kernel_rfl
def s7c:RC:=(.seq (.region AX [1,3,5,7,9,11,12,14]) (.seq (.seq (.region Co [1,3,5,7,9,11,12,14,15]) (.block 0 nh)) (.seq (.au yH [] [(0,[1]),(4,[0])] [11,12,16,17]) (.seq (.region zm [10]) .ret))))
def s4c:RC:=(.seq (.region Dq [1,3,5,7,9,11,12,13]) (.seq (.seq (.region C5 [1,3,5,7,9,11,12,46]) (.cond (.t 46) (.seq (.region Ct [10]) .ret) .skip)) s7c))
theorem ahW:CZ=⟨[.t 10],(.seq (.region A7 [1,3,5,7,9]) (.seq (.region B6 [1,3,5,7,9,11]) (.seq (.seq (.region Ck [1,3,5,7,9,11,36]) (.cond (.t 36) (.seq (.region C1 [10]) .ret) .skip)) s4c))),true⟩:=rfl
section
variable {st:St} {p:bq} {w u:LW} {sl:List Sl} {sv:DV} {rest last:Sl}
def iy (sl:List Sl) (rest:Sl) (n:Nat):List Sl:=(List.range n).map fun m:Nat=>aW sl rest m
theorem T7 (hs:Sls st sl sv) {L:Nat} (c3:DV) {t n:Nat} {tk:Tk} {nn:Bool} {V:List DV} (hV:V.length=L):∀ (k i:Nat) (K:List Nat) (ov:DV),i+k=min L 200 →
 Acc st K 2 ((iy sl rest i).map Sl.dv) ov→∃ ov' K' fr,
 (E tab).C nh [(1,sv),(3,c3),(5,.ptr st.heap.length 0),(7,.ptr (st.heap.length+1) 0),(9,.ptr (st.heap.length+2) 0),(11,.bool true),(12,.list t n tk nn V),(14,ov),(15,.int .i64 i)] (pst st [.cells .plain (aq p w u),.cells .plain rest.cs,.cells .plain last.cs] K) =
  some (.exit 0,(1,sv)::(3,c3)::(5,.ptr st.heap.length 0)::(7,.ptr (st.heap.length+1) 0)::(9,.ptr (st.heap.length+2) 0)::(11,.bool true)::(12,.list t n tk nn V)::(14,ov')::fr,pst st [.cells .plain (aq p w u),.cells .plain rest.cs,.cells .plain last.cs] K') ∧
  Acc st K' 2 ((iy sl rest (min L 200)).map Sl.dv) ov':=by
 intro k
 induction k with
 | zero=>
   intro i K ov hi hA
   obtain rfl:i=min L 200:=by omega
   by_cases h:min L 200<L
   · have h2:min L 200=200:=by omega
     refine ⟨ov,K,[(15,.int .i64 (min L 200:Nat)),(55,.bool false)],?_,hA⟩
     have h3:(200:Int)<L:=by omega
     rw [aj (L:=nh) rfl,h2]
     simp [pZ,hV,h3]
   · have h2:min L 200=L:=by omega
     refine ⟨ov,K,[(15,.int .i64 (min L 200:Nat)),(55,.bool false)],?_,hA⟩
     rw [aj (L:=nh) rfl,h2]
     simp [pZ,hV]
 | succ k ih=>
   intro i K ov hi hA
   have h1:(i:Int)<L:=by omega
   have h1':i<L:=by omega
   have h2:(i:Int)<200:=by omega
   have h2':i<200:=by omega
   have hw:IntKind.i64.wrap ((i:Int)+1)=((i+1:Nat):Int):=by rw [aN (by omega)];simp
   have e0:=fun st'=>Vw.len hs st'
   simp only [List.length_map] at e0
   have hrange:iy sl rest (i+1)=iy sl rest i++[aW sl rest i]:=by unfold iy;rw [List.range_succ];simp
   have hal:(iy sl rest i).length=i:=by simp [iy]
   obtain ⟨ov2,K2,hap,hA2⟩:=eY (H:=[.cells .plain (aq p w u),.cells .plain rest.cs,.cells .plain last.cs]) (by_:=16) (ag:=true) (tk:=.tight) (t:=st.cur) (ys:=[(aW sl rest i).dv]) hA (by omega) (by simp) (by simp [vL]) (by simp [az,hal];omega) (by simp [az,hal];omega)
   obtain ⟨ov',K',fr,hJ,hR⟩:=ih (i+1) K2 ov2 (by omega) (by rw [hrange];simpa using hA2)
   refine ⟨ov',K',fr,?_,hR⟩
   rw [aj (L:=nh) rfl]
   by_cases hsl:i<sl.length
   · have hx:sl[i]? = some sl[i]:=List.getElem?_eq_getElem hsl
     have ez:aW sl rest i=sl[i]:=by
      unfold aW kF
      rw [if_neg (by omega),show (i:Int).toNat=i from rfl,hx];rfl
     rw [ez] at hap
     have e1:=fun st'=>Vw.aJ hs (i:=i) (by simpa using hsl) .i64 st'
     have e2:=fun H K=>Vw.load (Vw.inn hs H K) mI rfl (i:=i) (x:=sl[i].dv) (by simp [hx])
     have hsl':(i:Int)<sl.length:=by omega
     generalize sl[i]=s at *
     simp only [Sl.dv,Sl.cs] at e2 hap hJ ⊢
     simp at hJ
     simp [pZ,hV,h1,h1',h2,h2',e0,hsl,e1,e2,bc,bn,chunk,hap,hw,hJ]
   · have ez:aW sl rest i=rest:=by
      unfold aW kF
      have hx:sl[i]? = none:=List.getElem?_eq_none_iff.2 (by omega)
      rw [if_neg (by omega),show (i:Int).toNat=i from rfl,hx];rfl
     rw [ez] at hap
     simp only [Sl.dv,Sl.cs] at hap hJ ⊢
     simp at hJ
     simp [pZ,hV,h1,h1',h2,h2',e0,hsl,bc,bn,chunk,hap,hw,hJ]
theorem CY {K:List Nat} {ov:DV} {xs ys:List Sl} {w:DV} (hA:Acc st K 2 (xs.map Sl.dv) ov) (hw:Sls st ys w) (hl:xs.length+ys.length≤1000) (H:List HO):∃ v' K',aY (pst st H K) 2 true 16 ov w=some (v',pst st H K')∧Acc st K' 2 ((xs++ys).map Sl.dv) v':=by
 by_cases hy:ys=[]
 · subst hy
   obtain ⟨t,n',tk,nn,rfl⟩:=eo hA
   refine ⟨_,K,pP ?_,by simpa using hA⟩
   have:=(hw.inn H K).news
   simpa [flat] using this
 · obtain ⟨v',K',h1,h2⟩:=uD (H:=H) (by_:=16) hA (hw.inn H K) (by omega) (by simpa using hy) mI (by simp [az];omega) (by simp [az];omega)
   exact ⟨v',K',h1,by simpa using h2⟩
theorem Wp {n m:Nat} (h:m<n) (oth:List Sl) (last:Sl):aW (iy sl rest n++oth) last m=aW sl rest m:=by
 have e:(iy sl rest n++oth)[m]? = some (aW sl rest m):=by
  have hl:m<(iy sl rest n).length:=by simpa [iy] using h
  rw [List.getElem?_append_left hl]
  simp [iy,h]
 conv=>lhs;unfold aW kF
 rw [if_neg (by omega),show (m:Int).toNat=m from rfl,e];rfl
theorem Ra (hp:p.small) (hw:w.ok 4 p.aT) (hu:u.ok 1 p.marks) (hl1:p.pr.least≠1) (h0:aF p=0) (hc:b8 sl rest=0) (hs:Sls st sl sv) {oth:List Sl} {ot:DV} (ho:Sls st oth ot) (hol:oth.length≤50) {t n:Nat} {tk:Tk} {nn:Bool} (h7:cE p sl rest≠[]→n=7) (fr0:Fr):∃ fr' K',
 (E tab).C s7c ((1,sv)::(3,ot)::(5,.ptr st.heap.length 0)::(7,.ptr (st.heap.length+1) 0)::(9,.ptr (st.heap.length+2) 0)::(11,.bool true)::(12,.list t n tk nn ((cE p sl rest).map Ln.dv))::fr0) (pst st [.cells .plain (aq p w u),.cells .plain rest.cs,.cells .plain last.cs] []) =
  some (.ret,(10,.bool true)::fr',pst st [.cells .plain (aq p w u),.cells .plain rest.cs,.cells .plain last.cs] K'):=by
 obtain ⟨ov,K1,fr1,hJ,hA⟩:=T7 (st:=st) (p:=p) (w:=w) (u:=u) (last:=last) hs ot (t:=t) (n:=n) (tk:=tk) (nn:=nn) (V:=(cE p sl rest).map Ln.dv) (L:=(cE p sl rest).length) (by simp) (min (cE p sl rest).length 200) 0 [] (.list 0 0 .no false []) (by omega) (by simpa [iy] using ef st [] 2 0 0 .no)
 have hal:(iy sl rest (min (cE p sl rest).length 200)).length=min (cE p sl rest).length 200:=by simp [iy]
 obtain ⟨v2,K2,hap,hA2⟩:=CY (xs:=iy sl rest (min (cE p sl rest).length 200)) hA ho (by omega) [.cells .plain (aq p w u),.cells .plain rest.cs,.cells .plain last.cs]
 obtain ⟨v3,h307,hv3⟩:=CN (st:=pst st [.cells .plain (aq p w u),.cells .plain rest.cs,.cells .plain last.cs] K2) (rest:=last) hp hw hu hl1 (Lw.vw (Cg hA2))
 obtain ⟨x0,x1,x2,x3,rfl,hx,_,_⟩:=pM hv3
 have hVl:((cE p sl rest).map Ln.dv).length=(cE p sl rest).length:=by simp
 have hlen:(cE p sl rest).length≤100000:=by
  have h1:(cE p sl rest).length=(jX p sl rest).length:=mR _ _ _ _ _ _ _
  have h2:=(rv (db p) (inF p sl rest)).2.2
  rw [← pU h0 hc] at h2
  omega
 refine ⟨[],K2,?_⟩
 unfold s7c
 by_cases hL:(cE p sl rest).length≤200
 · by_cases hE:kY p (iy sl rest (min (cE p sl rest).length 200)++oth) last=0
   · have hc2:b8 (iy sl rest (min (cE p sl rest).length 200)++oth) last=0:=by
      unfold kY at hE;rw [if_neg (by simp [h0])] at hE;exact hE
     have heq:=Av h0 hc hc2 fun m hm=>Wp (by omega) oth last
     rw [hE,heq] at h307
     rw [if_pos hE,heq] at hx
     simp only [hE,if_true] at h307
     have hx':cE p sl rest≠[]→x1=7:=fun h=>hx (by intro e;rw [List.map_eq_nil_iff] at e;exact h e)
     have hsm:=fun st=>FP (cE p sl rest) hlen ⟨t,n,tk,nn⟩ ⟨x0,x1,x2,x3⟩ h7 hx' st
     have hL':¬ (200:Int)<(cE p sl rest).length:=by omega
     generalize (cE p sl rest).map Ln.dv=VV at *
     generalize (cE p sl rest).length=LL at *
     simp only [Sl.dv,Sl.cs] at hJ hap h307 ⊢
     simp at hJ
     simp [hJ,c9,gO,jO,jW,bb,sF,hap,h307,hVl,hL',hsm]
   · have hL':¬ (200:Int)<(cE p sl rest).length:=by omega
     generalize (cE p sl rest).map Ln.dv=VV at *
     generalize (cE p sl rest).length=LL at *
     generalize kY p (iy sl rest (min LL 200)++oth) last=EE at *
     simp only [Sl.dv,Sl.cs] at hJ hap h307 ⊢
     simp at hJ
     simp [hJ,c9,gO,jO,jW,bb,sF,hap,h307,hVl,hL',hE]
 · have hL':(200:Int)<(cE p sl rest).length:=by omega
   generalize (cE p sl rest).map Ln.dv=VV at *
   generalize (cE p sl rest).length=LL at *
   generalize kY p (iy sl rest (min LL 200)++oth) last=EE at *
   simp only [Sl.dv,Sl.cs] at hJ hap h307 ⊢
   simp at hJ
   simp [hJ,c9,gO,jO,jW,bb,sF,hap,h307,hVl,hL']
theorem BR (hp:p.small) (hw:w.ok 4 p.aT) (hu:u.ok 1 p.marks) (hs:Sls st sl sv) {oth:List Sl} {ot:DV} (ho:Sls st oth ot):(E tab).F 301 [.agg (aq p w u),sv,rest.dv,ot,last.dv] st=some (.bool true,st):=by
 rw [bj KX rfl,ahW]
 have hkn:=fun st=>xk st
 obtain ⟨b,hh⟩:=Db (st:=pst st [.cells .plain (aq p w u),.cells .plain rest.cs,.cells .plain last.cs] []) hw hu
 have e0:=fun st'=>Vw.len hs st'
 have e1:=fun st'=>Vw.len ho st'
 simp only [List.length_map] at e0 e1
 have hsv:sv.leaves=[sv]∧sv.bh=true:=by cases hs<;>exact ⟨rfl,rfl⟩
 have hov:ot.leaves=[ot]∧ot.bh=true:=by cases ho<;>exact ⟨rfl,rfl⟩
 have e15:(aq p w u)[15]? = some (.int .i64 p.pr.least):=rfl
 cases b with
 | true=>
   simp only [Sl.dv,Sl.cs] at hh ⊢
   simp [hkn,hh]
 | false=>
 by_cases c1:(200:Int)<sl.length
 · simp only [Sl.dv,Sl.cs] at hh ⊢
   simp [hkn,hh,e0,c1]
 by_cases c2:(50:Int)<oth.length
 · simp only [Sl.dv,Sl.cs] at hh ⊢
   simp [hkn,hh,e0,e1,c1,c2]
 by_cases c3:p.pr.least=1
 · simp only [Sl.dv,Sl.cs] at hh ⊢
   simp [hkn,hh,e0,e1,c1,c2,e15,c3]
 obtain ⟨v,h307,hv⟩:=CN (st:=pst st [.cells .plain (aq p w u),.cells .plain rest.cs,.cells .plain last.cs] []) (rest:=rest) hp hw hu c3 (hs.inn _ _)
 by_cases hE:kY p sl rest=0
 rotate_left
 · obtain ⟨x0,x1,x2,x3,rfl,_,_,_⟩:=pM hv
   unfold s4c
   generalize kY p sl rest=EE at *
   simp only [Sl.dv,Sl.cs] at hh h307 ⊢
   simp [hkn,hh,e0,e1,c1,c2,e15,c3,h307,hE]
 · rw [if_pos hE] at hv
   rw [hE] at h307
   obtain ⟨x0,x1,x2,x3,rfl,hx,_,_⟩:=pM hv
   have h0:aF p=0:=by
    apply Classical.byContradiction
    intro h;unfold kY at hE;rw [if_pos h] at hE;exact h hE
   have hc:b8 sl rest=0:=by unfold kY at hE;rw [if_neg (by simp [h0])] at hE;exact hE
   have h7:cE p sl rest≠[]→x1=7:=fun h=>hx (by intro e;rw [List.map_eq_nil_iff] at e;exact h e)
   obtain ⟨fr',K',hr⟩:=Ra (st:=st) (last:=last) hp hw hu c3 h0 hc hs ho (by omega) (t:=x0) (tk:=x2) (nn:=x3) h7 [(46,.bool false)]
   unfold s4c
   generalize (if kY p sl rest=0 then cE p sl rest else []).map Ln.dv=ZZ at *
   generalize (cE p sl rest).map Ln.dv=VV at *
   simp only [Sl.dv,Sl.cs] at hh h307 hr ⊢
   simp [hkn,hh,e0,e1,c1,c2,e15,c3,h307,hr]
end
def xm:List Sh:=[.int .i64,.int .i64]
theorem Ma {vs:List DV} (h:iE xm vs):∃ x:Sl,vs=x.cs:=by
 obtain ⟨_,_,rfl,⟨a,rfl,_⟩,_,_,rfl,⟨b,rfl,_⟩,rfl⟩:=h
 exact ⟨⟨a,b⟩,rfl⟩
theorem y4 {vs:List DV} (h:Fits xm vs):∃ x:Sl,vs=x.cs:=by
 obtain ⟨_,_,rfl,⟨a,rfl,_⟩,_,_,rfl,⟨b,rfl,_⟩,rfl⟩:=h
 exact ⟨⟨a,b⟩,rfl⟩
theorem yf {v:DV} (h:Fit (.list true 16 xm) v) (st:St):∃ l:List Sl,Sls st l v:=by
 obtain ⟨nn,xs,rfl,hnn,hmax,hlen,hxs⟩:=h
 obtain ⟨l,rfl⟩:∃ l:List Sl,xs=l.map Sl.dv:=rT fun x hx=>by
  obtain ⟨vs,h1,rfl⟩:=hxs x hx
  obtain ⟨m,rfl⟩:=Ma h1
  exact ⟨m,rfl⟩
 exact ⟨l,.list _ _ _ _ (fun _=>rfl) hnn⟩
def KP:List (Bool×List Sh):=[(true,A3),(false,[.list true 16 xm]),(true,xm),(false,[.list true 16 xm]),(true,xm)]
theorem Ki (us:List DV) (hf:sV KP us):∃ st',(E tab).F 301 us st0=some (.bool true,st'):=by
 obtain ⟨_,_,rfl,hp,_,_,rfl,⟨_,_,rfl,h1,rfl⟩,_,_,rfl,hr,_,_,rfl,⟨_,_,rfl,h2,rfl⟩,_,_,rfl,hl,rfl⟩:=hf
 obtain ⟨p,w,u,rfl,hs,hw,hu⟩:=CB hp
 obtain ⟨sl,hv⟩:=yf h1 st0
 obtain ⟨rest,rfl⟩:=y4 hr
 obtain ⟨oth,hv2⟩:=yf h2 st0
 obtain ⟨last,rfl⟩:=y4 hl
 refine ⟨st0,?_⟩
 simp only [elemOf,List.headD_cons,Bool.false_eq_true,if_false,if_true]
 exact BR hs hw hu hv hv2
end Go.D.Tab
end
section
namespace Go.D
open Go.RowKit
variable {P:Program}
theorem uA {w:World}:∀ (l:List (String×DataW Unit)) (ps:List MemPlace),DataW.LaidVars P w l ps→∀ x∈l,∃ g t cs fuel p,P.globalNamed x.1=some g∧(P.globals[g]?).map (·.type)=some t∧w.var? P x.1=some cs ∧
 DataW.trod (fun _=>()) P w 0 (fun _=>true) false fuel t cs.toList=some (x.2,p)
 | [],_,_,x,hx=>by simp at hx
 | y::l,ps,h,x,hx=>by
   obtain ⟨g,t,cs,fuel,p,q,h1,h2,h3,h4,h5,h6⟩:=h
   rcases List.mem_cons.1 hx with rfl | hx
   · exact ⟨g,t,cs,fuel,p,h1,h2,h3,h4⟩
   · exact uA l _ h5 x hx
theorem wJ {l:List (Nat×FuncId)} {laid:List (String×DataW Unit)} {w:World} {name:String} {tab:List Nat} {g n:Nat} {t e:TypeId} (hg:P.globalNamed name=some g) (hty:(P.globals[g]?).map (·.type)=some t) (ht:P.underlying t=some (.array n e))
 (he:P.underlying e=some (.int .u8)) (hce:P.cellsOf e=1) (hct:P.cellsOf t=n) (hx:(name,Lib.tabData .u8 (tab.map Int.ofNat))∈laid) (h:laidMet P laid w):re (aa l [(g,tab)]) w:=by
 obtain ⟨ps,h1,_⟩:=h
 obtain ⟨g',t',cs,fuel,p,hg',ht',hvar,hd⟩:=uA laid ps h1 _ hx
 obtain rfl:=Option.some.inj (hg.symm.trans hg')
 obtain rfl:=Option.some.inj (hty.symm.trans ht')
 have hcs:=Lib.cells_of_tab ht he hce hct hd
 refine zK fun i hi => ?_
 rw [World.var?_cell hg hvar i,← Array.getElem?_toList,hcs]
 simp [hi]
end Go.D
end
