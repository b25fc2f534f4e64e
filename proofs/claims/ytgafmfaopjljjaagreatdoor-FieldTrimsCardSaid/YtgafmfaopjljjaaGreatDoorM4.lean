import Derived.Lib.LaidTab
import Derived.LaidMore
import Derived.Test.YtgafmfaopjljjaaGreatDoorM3
/-! Texts 4 of this claim, joined. -/
set_option linter.unnecessarySimpa false
set_option linter.unusedSimpArgs false
set_option linter.unusedVariables false
open _root_.Array renaming getElem?_toList → abt
open _root_.Bool renaming and_eq_true → aac, eq_iff_iff → aaW, false_eq_true → aaq
open _root_.Classical renaming byContradiction → aaY
open _root_.Int renaming eq_ofNat_of_zero_le → aaK, ofNat → abs, tdiv_eq_ediv_of_nonneg → aau, toNat_natCast → abf
open _root_.List renaming all_cons → aa3, all_eq_true → aaf, any_cons → abq, append_assoc → aas, append_nil → aaE, cons_append → aaF, getD_eq_getElem?_getD → aak, getElem?_append_left → aaj, getElem?_append_right → aat, getElem?_eq_getElem → aaa, getElem?_eq_some_iff → aae, getElem?_set_ne → aaA, getElem?_set_self → abh, length_append → aah, length_cons → aax, length_eq_zero_iff → aaU, length_map → aaM, length_nil → aaP, length_pos_iff → aaZ, length_singleton → aam, mem_cons → aav, mem_cons_of_mem → aan, mem_cons_self → aap, mem_map → aaT, mem_of_getElem? → aaB, mem_of_mem_drop → aao, mem_of_mem_take → aaz, nil_append → aaX, not_mem_nil → aa7, range → aal, take_append_drop → aaQ, take_of_length_le → aa8
open _root_.Nat renaming add_assoc → aby, le_refl → aai, le_trans → abu
open _root_.Option renaming map_some → abg, some → aab
open _root_.UInt8 renaming ofNat → aa2, toNat_inj → abn
section
namespace Go.D.Tab
theorem Iu:tab 307=some (.code f307):=by kernel_rfl
theorem PD:tab 319=some (.code CV):=by kernel_rfl
theorem Qm:tab 320=some (.code GD):=by kernel_rfl
theorem OJ:tab 321=some (.code Fx):=by kernel_rfl
theorem P8:tab 330=some (.code GJ):=by kernel_rfl
theorem NU:tab 331=some (.code FP):=by kernel_rfl
theorem M3:tab 343=some (.code HG):=by kernel_rfl
theorem Pk:tab 344=some (.code B3):=by kernel_rfl
theorem Qe:tab 345=some (.code D6):=by kernel_rfl
theorem L7:tab 346=some (.code Fk):=by kernel_rfl
theorem L8:tab 309=some (.code HC):=by kernel_rfl
theorem Da (k:IntKind) (x y:Int):fg pn [.int k x,.int k y]=some (.int k (max x y)):=by
 have:(if y>x then y else x)=max x y:=by split<;>omega
 simp[fg,pn,this]
theorem u0 (k:IntKind) (x y:Int):fg j4 [.int k x,.int k y]=some (.int k (min x y)):=by
 have:(if y<x then y else x)=min x y:=by split<;>omega
 simp[fg,j4,this]
def iF (p:bh):Int:=if p.label=[] then 0 else tw p.pr.size 0 p.label+4
def cp (p:bh):Nat→Int→Int
 | 0,_=>p.pr.inn
 | 1,n=>if 0<n then 0 else p.pr.first+iF p
 | _,n=>if p.pr.drop≤n then 0 else nR p
def nk (p:bh) (n:Int):Int:=cp p 0 n+cp p 1 n+cp p 2 n
def ew (p:bh) (s:Sl) (n:Int):Sl:=⟨min (s.x+nk p n) 4095,max (s.w-nk p n-p.pr.out) 0⟩
section
variable {st:St} {p:bh} {w u:LW}
theorem sD {n:Int} (hn:1≤n∧n≤64):∀ (l:List UInt8) (a:Int),0≤a→a+64*l.length≤1000000→a≤tw n a l∧tw n a l≤a+64*l.length
 | [],a,_,_=>by simp[tw]
 | c::r,a,h,h2=>by
   have hb:=pS c hn.1 hn.2;simp only[aax] at h2 ⊢;simp only[tw];rw[ar (by omega)];have:=sD hn r (a+wd c n) (by omega) (by omega);omega
theorem rq (h0:ax p=0):p.label.length≤16:=by
 have h:=(cK h0).2.2.2.2.1;unfold cC at h;simp only[aac,decide_eq_true_eq] at h;omega
theorem vq (h0:ax p=0):0≤iF p∧iF p≤1028:=by
 have hl:=rq h0;have hc:=dI h0;have ht:=sD ⟨hc.1,hc.2.1⟩ p.label 0 (by omega) (by omega);unfold iF;split<;>omega
theorem CX (h0:ax p=0):(E tab).F 345 [.agg (ah p w u)] st=some (.int .i64 (iF p),st):=by
 rw[au Qe rfl];have hc:=dI h0;have hw:=fun st=>r9 p.label p.pr.size st;unfold iF;by_cases h:p.label=[]
 · simp[D6,h]
 · have hl:=rq h0;have h2:¬ 4096<p.label.length:=by omega
   have ht:=sD ⟨hc.1,hc.2.1⟩ p.label 0 (by omega) (by omega);have w1:IntKind.i64.wrap (tw p.pr.size 0 p.label+4)=tw p.pr.size 0 p.label+4:=ar (by omega);unfold fj at hw;rw[if_pos ⟨hc.1,hc.2.1⟩,if_neg h2] at hw;simp[D6,h,hw,w1]
def prH (p:bh) (w u:LW) (N:Nat):List HO:=[.cells .plain (ah p w u),.cells .plain [.int .i64 (nR p)],.cells .plain [.fn 343 [] [.ptr N 0],.fn 344 [] [.ptr N 0],.fn 346 [] [.ptr N 0,.ptr (N+1) 0]]]
theorem Cc (h0:ax p=0) (hp:p.small) (hw:w.ok 4 p.aC) (hu:u.ok 1 p.marks) (H:List HO) (K:List Nat):(E tab).F 330 [.agg (ah p w u)] (pst st H K)=some (.hsl 1 false (st.heap.length+(H.length+2)) 0 3 (some 3),pst st (H++prH p w u (st.heap.length+H.length)) K):=by
 rw[fq P8 rfl];have hd:=fun st=>F9 (st:=st) hp hw hu;rw[h0] at hd;simp[GJ,hd,Gj,aK,chunk,prH,aby]
structure tF (st:St) (p:bh) (w u:LW) (H:List HO) (k:Nat):Prop where
 r0:rowAt H k=some (.plain,ah p w u)
 r1:rowAt H (k+1)=some (.plain,[.int .i64 (nR p)])
 r2:rowAt H (k+2)=some (.plain,[.fn 343 [] [.ptr (st.heap.length+k) 0],.fn 344 [] [.ptr (st.heap.length+k) 0],.fn 346 [] [.ptr (st.heap.length+k) 0,.ptr (st.heap.length+(k+1)) 0]])
theorem tF.add {H:List HO} {k:Nat} (h:tF st p w u H k) (X:List HO):tF st p w u (H++X) k:=⟨jK h.r0 X,jK h.r1 X,jK h.r2 X⟩
theorem gV (h0:ax p=0):0≤p.pr.first∧p.pr.first≤255∧0≤p.pr.inn∧p.pr.inn≤255∧0≤p.pr.out∧p.pr.out≤255:=by
 have h:=(cK h0).2.2.2.1;simp only[b7,fb,aac,decide_eq_true_eq] at h;omega
theorem GA {H:List HO} {K:List Nat} {k:Nat} (hk:tF st p w u H k) (n:Int):(E tab).F 343 [.int .i64 n,.ptr (st.heap.length+k) 0] (pst st H K)=some (.int .i64 (cp p 0 n),pst st H K):=by
 rw[fq M3 rfl];have r0:=hk.r0;have e:(ah p w u)[6]? = some (.int .i64 p.pr.inn):=rfl;simp[HG,r0,e,cp]
theorem Gg (h0:ax p=0) {H:List HO} {K:List Nat} {k:Nat} (hk:tF st p w u H k) (n:Int):(E tab).F 344 [.int .i64 n,.ptr (st.heap.length+k) 0] (pst st H K)=some (.int .i64 (cp p 1 n),pst st H K):=by
 rw[fq Pk rfl];have r0:=hk.r0;have hl:=vq h0;have hm:=gV h0;have h3:=fun st=>CX (st:=st) (w:=w) (u:=u) h0;have e:(ah p w u)[5]? = some (.int .i64 p.pr.first):=rfl;have w1:IntKind.i64.wrap (p.pr.first+iF p)=p.pr.first+iF p:=ar (by omega);by_cases hn:0<n
 · simp[B3,hn,cp]
 · simp[B3,hn,cp,aF,bE,bN,bM,aH,r0,e,h3,w1]
theorem G4 {H:List HO} {K:List Nat} {k:Nat} (hk:tF st p w u H k) (n:Int):(E tab).F 346 [.int .i64 n,.ptr (st.heap.length+k) 0,.ptr (st.heap.length+(k+1)) 0] (pst st H K)=some (.int .i64 (cp p 2 n),pst st H K):=by
 rw[fq L7 rfl];have r0:=hk.r0;have r1:=hk.r1;have e:(ah p w u)[16]? = some (.int .i64 p.pr.drop):=rfl;by_cases hn:p.pr.drop≤n
 · simp[Fk,hn,cp,r0,e]
 · simp[Fk,hn,cp,r0,r1,e]
theorem Ao (h0:ax p=0) (n:Int):0≤cp p 0 n∧cp p 0 n≤255∧0≤cp p 1 n∧cp p 1 n≤1283∧0≤cp p 2 n∧cp p 2 n≤68:=by
 have hl:=vq h0;have hm:=gV h0;have hc:=Hq p;simp only[cp];refine⟨by omega,by omega,?_,?_,?_,?_⟩<;>split<;>omega
theorem uU (h0:ax p=0) {H:List HO} {K:List Nat} {k:Nat} (hk:tF st p w u H k) (s:Sl) (hs:0≤s.x∧s.x≤4095∧0≤s.w∧s.w≤4095) (n:Int):∃ J,(E tab).F 331 [.agg (ah p w u),.hsl 1 false (st.heap.length+(k+2)) 0 3 (some 3),s.dv,.int .i64 n] (pst st H K)=some ((ew p s n).dv,pst st (H++J) K):=by
 have hpl:=Ao h0 n;have hm:=gV h0;have hk2:=hk.add [.cells .plain (ah p w u),.cells .plain s.cs,.cells .plain [.int .i64 0,.int .i64 0]];have h1:=GA (K:=K) hk2 n;have h2:=Gg (K:=K) h0 hk2 n;have h3:=G4 (K:=K) hk2 n;have r2:=hk2.r2;have e:(ah p w u)[7]? = some (.int .i64 p.pr.out):=rfl;refine⟨[.cells .plain (ah p w u),.cells .plain s.cs,.cells .plain (ew p s n).cs],?_⟩;rw[fq NU rfl];unfold ew nk;generalize cp p 0 n=A at *;generalize cp p 1 n=B at *;generalize cp p 2 n=C at *;have w0:IntKind.i64.wrap A=A:=ar (by omega);have w1:IntKind.i64.wrap (A+B)=A+B:=ar (by omega);have w2:IntKind.i64.wrap (A+B+C)=A+B+C:=ar (by omega);have w3:IntKind.i64.wrap (s.x+(A+B+C))=s.x+(A+B+C):=ar (by omega);have w4:IntKind.i64.wrap (s.w-(A+B+C))=s.w-(A+B+C):=ar (by omega);have w5:IntKind.i64.wrap (s.w-(A+B+C)-p.pr.out)=s.w-(A+B+C)-p.pr.out:=ar (by omega);simp only[Sl.cs] at h1 h2 h3 r2;generalize hS:pst st (H++[.cells .plain (ah p w u),.cells .plain [.int .i64 s.x,.int .i64 s.w],.cells .plain [.int .i64 0,.int .i64 0]]) K=S at h1 h2 h3
 have hld:∀ i (v:DV),[DV.fn 343 [] [.ptr (st.heap.length+k) 0],.fn 344 [] [.ptr (st.heap.length+k) 0],.fn 346 [] [.ptr (st.heap.length+k) 0,.ptr (st.heap.length+(k+1)) 0]][i]? = some v→c7 S 1 false (.ptr (st.heap.length+(k+2)) i)=some v:=by
  intro i v hv;subst hS;simp[r2,hv]
 have l0:=hld 0 _ rfl;have l1:=hld 1 _ rfl;have l2:=hld 2 _ rfl
 have t3:(E tab).C jF [(3,.int .i64 n),(4,.ptr (st.heap.length+H.length) 0),(6,.ptr (st.heap.length+(H.length+1)) 0),(8,.ptr (st.heap.length+(H.length+2)) 0),(9,.int .i64 (A+B+C)),(12,.hsl 1 false (st.heap.length+(k+2)) 0 3 (some 3)),(13,.int .i64 3),(14,.int .i64 3)] S=some (.exit 0,[(3,.int .i64 n),(4,.ptr (st.heap.length+H.length) 0),(6,.ptr (st.heap.length+(H.length+1)) 0),(8,.ptr (st.heap.length+(H.length+2)) 0),(9,.int .i64 (A+B+C)),(12,.hsl 1 false (st.heap.length+(k+2)) 0 3 (some 3)),(13,.int .i64 3),(14,.int .i64 3),(15,.bool false)],S):=by
  rw[af (L:=jF) rfl];simp[oB]
 have t2:(E tab).C jF [(3,.int .i64 n),(4,.ptr (st.heap.length+H.length) 0),(6,.ptr (st.heap.length+(H.length+1)) 0),(8,.ptr (st.heap.length+(H.length+2)) 0),(9,.int .i64 (A+B)),(12,.hsl 1 false (st.heap.length+(k+2)) 0 3 (some 3)),(13,.int .i64 3),(14,.int .i64 2)] S=some (.exit 0,[(3,.int .i64 n),(4,.ptr (st.heap.length+H.length) 0),(6,.ptr (st.heap.length+(H.length+1)) 0),(8,.ptr (st.heap.length+(H.length+2)) 0),(9,.int .i64 (A+B+C)),(12,.hsl 1 false (st.heap.length+(k+2)) 0 3 (some 3)),(13,.int .i64 3),(14,.int .i64 3),(15,.bool false)],S):=by
  rw[af (L:=jF) rfl];simp[oB,dE,l2,h3,w2,show IntKind.i64.wrap 3=3 by decide,t3]
 have t1:(E tab).C jF [(3,.int .i64 n),(4,.ptr (st.heap.length+H.length) 0),(6,.ptr (st.heap.length+(H.length+1)) 0),(8,.ptr (st.heap.length+(H.length+2)) 0),(9,.int .i64 A),(12,.hsl 1 false (st.heap.length+(k+2)) 0 3 (some 3)),(13,.int .i64 3),(14,.int .i64 1)] S=some (.exit 0,[(3,.int .i64 n),(4,.ptr (st.heap.length+H.length) 0),(6,.ptr (st.heap.length+(H.length+1)) 0),(8,.ptr (st.heap.length+(H.length+2)) 0),(9,.int .i64 (A+B+C)),(12,.hsl 1 false (st.heap.length+(k+2)) 0 3 (some 3)),(13,.int .i64 3),(14,.int .i64 3),(15,.bool false)],S):=by
  rw[af (L:=jF) rfl];simp[oB,dE,l1,h2,w1,show IntKind.i64.wrap 2=2 by decide,t2]
 have t0:(E tab).C jF [(3,.int .i64 n),(4,.ptr (st.heap.length+H.length) 0),(6,.ptr (st.heap.length+(H.length+1)) 0),(8,.ptr (st.heap.length+(H.length+2)) 0),(9,.int .i64 0),(12,.hsl 1 false (st.heap.length+(k+2)) 0 3 (some 3)),(13,.int .i64 3),(14,.int .i64 0)] S=some (.exit 0,[(3,.int .i64 n),(4,.ptr (st.heap.length+H.length) 0),(6,.ptr (st.heap.length+(H.length+1)) 0),(8,.ptr (st.heap.length+(H.length+2)) 0),(9,.int .i64 (A+B+C)),(12,.hsl 1 false (st.heap.length+(k+2)) 0 3 (some 3)),(13,.int .i64 3),(14,.int .i64 3),(15,.bool false)],S):=by
  rw[af (L:=jF) rfl];simp[oB,dE,l0,h1,w0,show IntKind.i64.wrap 1=1 by decide,t1]
 subst hS;simp[FP,Sl.dv,Sl.cs,t0,w3,w4,w5,e,Da,u0]
end
theorem IY (k:IntKind) (x y z:Int):fg pn [.int k x,.int k y,.int k z]=some (.int k (max (max x y) z)):=by
 have h1:(if y>x then y else x)=max x y:=by split<;>omega
 have h2:(if z>max x y then z else max x y)=max (max x y) z:=by split<;>omega
 simp[fg,pn,h1,h2]
def manyN (p:bh) (sl:List Sl):Nat:=(max (max (sl.length:Int) 1) p.pr.drop).toNat
def inF (p:bh) (sl:List Sl) (rest:Sl) (n:Nat):Sl:=ew p (aS sl rest n) n
def inL (p:bh) (sl:List Sl) (rest:Sl):List Sl:=(aal (manyN p sl)).map (inF p sl rest)
def gh (p:bh) (sl:List Sl) (rest:Sl):Sl:=ew p rest (manyN p sl)
section
variable {st:St} {p:bh} {w u:LW} {sl:List Sl} {sv:DV} {rest:Sl}
theorem kn (h0:ax p=0) (hl:sl.length≤256):1≤manyN p sl∧manyN p sl≤256∧((manyN p sl:Nat):Int)=max (max (sl.length:Int) 1) p.pr.drop:=by
 have hc:=dI h0;unfold manyN;omega
theorem Kn (h0:ax p=0) (hs:Sls st sl sv) (hso:AE sl rest) (hl:sl.length≤256) (x2:HO):∀ (k i:Nat) (J:List HO) (K:List Nat) (ov:DV),i+k=manyN p sl →
 tF st p w u (.cells .plain (ah p w u)::.cells .plain rest.cs::x2::J) 3 →
 Acc st K 2 (((aal i).map (inF p sl rest)).map Sl.dv) ov→∃ ov' K' J' fr,
 (E tab).C sn [(1,sv),(3,.ptr st.heap.length 0),(5,.ptr (st.heap.length+1) 0),(7,.ptr (st.heap.length+2) 0),(8,.hsl 1 false (st.heap.length+5) 0 3 (some 3)),(9,.int .i64 (manyN p sl)),(10,ov),(20,.int .i64 (manyN p sl)),(21,.int .i64 i)] (pst st (.cells .plain (ah p w u)::.cells .plain rest.cs::x2::J) K) =
  some (.exit 0,(1,sv)::(3,.ptr st.heap.length 0)::(5,.ptr (st.heap.length+1) 0)::(7,.ptr (st.heap.length+2) 0)::(8,.hsl 1 false (st.heap.length+5) 0 3 (some 3))::(9,.int .i64 (manyN p sl))::(10,ov')::fr,pst st (.cells .plain (ah p w u)::.cells .plain rest.cs::x2::(J++J')) K') ∧
  Acc st K' 2 ((inL p sl rest).map Sl.dv) ov':=by
 have hm:=kn (p:=p) h0 hl;intro k
 induction k with
 | zero=>
   intro i J K ov hi hk hA;obtain rfl:i=manyN p sl:=by omega
   refine⟨ov,K,[],[(20,.int .i64 (manyN p sl)),(21,.int .i64 (manyN p sl)),(22,.bool false)],?_,hA⟩;rw[af (L:=sn) rfl];simp[xR]
 | succ k ih=>
   intro i J K ov hi hk hA;have his:(i:Int)<manyN p sl:=by omega
   have his':i<manyN p sl:=by omega
   have hw:IntKind.i64.wrap ((i:Int)+1)=((i+1:Nat):Int):=by rw[ar (by omega)];simp
   have hrange:(aal (i+1)).map (inF p sl rest)=(aal i).map (inF p sl rest)++[inF p sl rest i]:=by rw[List.range_succ];simp
   have h114:=rY (rest:=rest) (hs.inn (.cells .plain (ah p w u)::.cells .plain rest.cs::x2::J) K) i;obtain⟨J1,h331⟩:=uU (K:=K) h0 hk (aS sl rest i) (hso i) i;have hk2:=hk.add J1;obtain⟨ov2,K2,hap,hA2⟩:=dZ (H:=.cells .plain (ah p w u)::.cells .plain rest.cs::x2::(J++J1)) (by_:=16) (ag:=true) (tk:=.tight) (t:=st.cur) (ys:=[(inF p sl rest i).dv]) hA (by omega) (by simp) (by simp[um]) (by simp[aD];omega) (by simp[aD];omega);obtain⟨ov',K',J',fr,hJ,hR⟩:=ih (i+1) (J++J1) K2 ov2 (by omega) hk2 (by rw[hrange];simpa using hA2);refine⟨ov',K',J1++J',fr,?_,hR⟩;rw[af (L:=sn) rfl];rw[show ew p (aS sl rest i) i=inF p sl rest i from rfl] at h331;generalize inF p sl rest i=g at *;generalize aS sl rest i=s at *;simp only[Sl.cs,Sl.dv] at h114 h331 hap hJ ⊢;simp at h331 hap hJ;simp[xR,his,aF,bE,bN,bM,aH,h114,h331,aw,aK,chunk,hap,hw,hJ]
theorem Br (h0:ax p=0) (hp:p.small) (hw:w.ok 4 p.aC) (hu:u.ok 1 p.marks) (hs:Sls st sl sv) (hc:c9 sl rest=0) :
 ∃ v,(E tab).F 320 [.agg (ah p w u),sv,rest.dv] st=some (.tuple [v,(gh p sl rest).dv],st)∧Lw 2 ((inL p sl rest).map Sl.dv) v:=by
 rw[au Qm rfl];obtain⟨hso,hl⟩:=kx hc;have hm:=kn (p:=p) h0 hl;have hcp:=dI h0;have e0:=fun st'=>Vw.len hs st';simp only[aaM] at e0;have hsv:sv.leaves=[sv]∧sv.bp=true:=by cases hs<;>exact⟨rfl,rfl⟩
 have h330:=Cc (st:=st) h0 hp hw hu [.cells .plain (ah p w u),.cells .plain rest.cs,.cells .plain [.int .i64 0,.int .i64 0]] [];have hk:tF st p w u (.cells .plain (ah p w u)::.cells .plain rest.cs::.cells .plain [.int .i64 0,.int .i64 0]::prH p w u (st.heap.length+3)) 3:=⟨rfl,rfl,rfl⟩;obtain⟨ov,K1,J1,fr1,hJ,hA⟩:=Kn (st:=st) h0 hs hso hl (.cells .plain [.int .i64 0,.int .i64 0]) (manyN p sl) 0 (prH p w u (st.heap.length+3)) [] (.list 0 0 .no false []) (by omega) hk (dt _ _ _ _ _ _);have hk1:=hk.add J1
 have hrest:0≤rest.x∧rest.x≤4095∧0≤rest.w∧rest.w≤4095:=by
  have:=hso sl.length;unfold aS lV at this;rw[if_neg (by omega)] at this;simpa using this
 obtain⟨J2,h331⟩:=uU (K:=K1) h0 hk1 rest hrest (manyN p sl)
 obtain⟨t,n,tk,nn,rfl,c1,c2⟩:∃ t n tk nn,ov=.list t n tk nn ((inL p sl rest).map Sl.dv)∧(nn=true→n=2)∧(nn=false→(inL p sl rest).map Sl.dv=[]):=by
  rcases hA with ⟨hx,t,n',tk,rfl⟩ | ⟨k,s,rfl,hk⟩
  · exact⟨_,_,_,_,by rw[hx],(fun h=>by cases h),fun _=>hx⟩
  · exact⟨_,_,_,_,rfl,fun _=>rfl,(fun h=>by cases h)⟩
 refine⟨.list t n (lU tk) nn ((inL p sl rest).map Sl.dv),?_,.list _ _ _ _ c1 c2⟩;have e14:(ah p w u)[16]? = some (.int .i64 p.pr.drop):=rfl;have wl:IntKind.i64.wrap (sl.length:Int)=sl.length:=ar (by omega);have hmx:=IY .i64 (sl.length:Int) 1 p.pr.drop;rw[← hm.2.2] at hmx;rw[show ew p rest (manyN p sl)=gh p sl rest from rfl] at h331;generalize (inL p sl rest).map Sl.dv=VI at *;generalize gh p sl rest=R at *;generalize manyN p sl=MN at *;simp only[Sl.cs,Sl.dv,prH] at h330 hJ h331 ⊢;simp at h330 hJ h331;simp[-dG,exl,GD,e0,e14,hmx,h330,hJ,h331]
theorem FE (hp:p.small) (hw:w.ok 4 p.aC) (hu:u.ok 1 p.marks) (hs:Sls st sl sv):(E tab).F 319 [.agg (ah p w u),sv,rest.dv] st=some (.int .i64 (if ax p≠0 then ax p else c9 sl rest),st):=by
 rw[au PD rfl];have h13:=fun st=>yX p hp w u hw hu st;have h126:=uj (rest:=rest) (hs.inn [.cells .plain (ah p w u),.cells .plain rest.cs] []);by_cases h0:ax p=0
 · simp only[Sl.cs,Sl.dv] at h126 ⊢;simp[CV,h13,h0,h126]
 · simp only[Sl.cs,Sl.dv] at h126 ⊢;simp[CV,h13,h0]
theorem BQ (hl1:p.pr.least≠1) {l:List It} {lv:DV} (hv:Its st l lv) (hs:Sls st sl sv) :
 ∃ v,(E tab).F 321 [.agg (ah p w u),lv,sv,rest.dv] st=some (.agg [v,.bool true,.bool (decide (eT l sl rest≠0))],st)∧Lw 5 ((iD l sl rest).map Pc.dv) v:=by
 rw[au OJ rfl];have e15:(ah p w u)[15]? = some (.int .i64 p.pr.least):=rfl;obtain⟨v,hb,hv5⟩:=Ej (rest:=rest) (hs.inn [.cells .plain (ah p w u),.cells .plain rest.cs,.cells .plain [.list 0 0 .no false [],.bool false,.bool false]] []) (hv.inn [.cells .plain (ah p w u),.cells .plain rest.cs,.cells .plain [.list 0 0 .no false [],.bool false,.bool false]] []);have hlv:lv.leaves=[lv]∧lv.bp=true:=by cases hv<;>exact⟨rfl,rfl⟩
 have hsv:sv.leaves=[sv]∧sv.bp=true:=by cases hs<;>exact⟨rfl,rfl⟩
 obtain⟨t,n,tk,nn,rfl,c0,c1,c2⟩:=kR hv5;refine⟨.list t n (lU tk) nn ((iD l sl rest).map Pc.dv),?_,.list _ _ _ _ c1 c2⟩;generalize (iD l sl rest).map Pc.dv=VB at *;by_cases hE:eT l sl rest=0
 · rw[hE] at hb;simp only[Sl.cs,Sl.dv] at hb ⊢;simp[-dG,exl,Fx,e15,hl1,dE,hb,hE]
 · simp only[Sl.cs,Sl.dv] at hb ⊢;simp[-dG,exl,Fx,e15,hl1,dE,hb,hE]
end
def iz0:It:=⟨0,0,0,0,0,0,0,false⟩
def toP (T:Int) (it:List It):List Pc→Int
 | []=>T
 | y::_=>(it.getD y.a.toNat iz0).f
def lnP (fr to:Int) (s:Sl) (x:Pc):Ln:=⟨fr,to,s.x,s.w,x.n,x.hy,if x.wide then 1 else 0⟩
def kB (T:Int) (it:List It) (sl:List Sl) (rest:Sl):Nat→Int→List Pc→List Ln
 | _,_,[]=>[]
 | n,fr,x::r=>lnP fr (toP T it r) (aS sl rest n) x::kB T it sl rest (n+1) (toP T it r) r
section
variable {st:St} {p:bh} {w u:LW} {sl:List Sl} {sv:DV} {rest:Sl}
theorem Bl (l:List It) (a b:Int):∃ x y z:Int,yY l a b=.tuple [.int .i64 x,.int .i64 y,.int .i64 z]:=by
 unfold yY;split<;>exact⟨_,_,_,rfl⟩
theorem Ja (l:Ln):fR 7 true l.dv:=⟨rfl,rfl,rfl⟩
theorem rG (T:Int) (it:List It) (sl:List Sl) (rest:Sl):∀ (P:List Pc) (n:Nat) (fr:Int),(kB T it sl rest n fr P).length=P.length
 | [],_,_=>rfl
 | x::r,n,fr=>by simp[kB,rG T it sl rest r]
theorem Jy {it:List It} {iv:DV} {c1:List DV} (hi:Its st it iv) (hs:Sls st sl sv) {P:List Pc} (hP:P.length≤20000) (hPa:∀ y∈P,0≤y.a) (hPb:2≤P.length→∀ y∈P,y.a<it.length) {t n:Nat} {tk:Tk} {nn:Bool} (h5:P≠[]→n=5) {lo:Bool} (hlo:P≠[]→lo=false) :
 ∀ (r d:List Pc) (J:List HO) (K:List Nat) (ov:DV) (fr0:Int) (ls:List Ln),P=d++r→ls.length=d.length →
 Acc st K 7 (ls.map Ln.dv) ov→∃ ov' K' J' fr,
 (E tab).C s5 [(3,.ptr st.heap.length 0),(9,iv),(11,sv),(12,.ptr (st.heap.length+2) 0),(13,.ptr (st.heap.length+3) 0),(14,ov),(15,.int .i64 fr0),(49,.list t n tk nn (P.map Pc.dv)),(50,.int .i64 P.length),(51,.int .i64 d.length)] (pst st (.cells .plain (ah p w u)::.cells .plain c1::.cells .plain rest.cs::.cells .plain [.list t n tk nn (P.map Pc.dv),.bool true,.bool lo]::J) K) =
  some (.exit 0,(3,.ptr st.heap.length 0)::(9,iv)::(11,sv)::(12,.ptr (st.heap.length+2) 0)::(13,.ptr (st.heap.length+3) 0)::(14,ov')::fr,pst st (.cells .plain (ah p w u)::.cells .plain c1::.cells .plain rest.cs::.cells .plain [.list t n tk nn (P.map Pc.dv),.bool true,.bool lo]::(J++J')) K') ∧
  Acc st K' 7 ((ls++kB p.text.length it sl rest d.length fr0 r).map Ln.dv) ov':=by
 intro r
 induction r with
 | nil=>
   intro d J K ov fr0 ls hd hls hA;rw[aaE] at hd;subst hd;refine⟨ov,K,[],[(15,.int .i64 fr0),(49,.list t n tk nn (P.map Pc.dv)),(50,.int .i64 P.length),(51,.int .i64 P.length),(52,.bool false)],?_,by simpa[kB] using hA⟩;rw[af (L:=s5) rfl];simp[mO]
 | cons x r ih=>
   intro d J K ov fr0 ls hd hls hA;have hlt:d.length<P.length:=by simp[hd]
   obtain rfl:=h5 (by intro e;rw[e] at hlt;simp at hlt);obtain rfl:=hlo (by intro e;rw[e] at hlt;simp at hlt);have hlt':(d.length:Int)<P.length:=by omega
   have hw:IntKind.i64.wrap ((d.length:Int)+1)=((d++[x]).length:Nat):=by rw[ar (by omega)];simp
   have hVl:(P.map Pc.dv).length=P.length:=by simp
   have l0:d.length<(P.map Pc.dv).length:=by rw[hVl];exact hlt
   have g0:(P.map Pc.dv)[d.length]'l0=x.dv:=by simp[hd]
   have h114:=rY (rest:=rest) (hs.inn (.cells .plain (ah p w u)::.cells .plain c1::.cells .plain rest.cs::.cells .plain [.list t 5 tk nn (P.map Pc.dv),.bool true,.bool false]::(J++[.cells .plain x.cs])) K) d.length;obtain⟨g1,g2,g3,hgv⟩:=Bl it x.a x.b;have h322:=Hj (hi.inn (.cells .plain (ah p w u)::.cells .plain c1::.cells .plain rest.cs::.cells .plain [.list t 5 tk nn (P.map Pc.dv),.bool true,.bool false]::(J++[.cells .plain x.cs,.cells .plain (aS sl rest d.length).cs,.cells .plain ([.int .i64 fr0,.int .i64 (toP p.text.length it r),.int .i64 (aS sl rest d.length).x,.int .i64 (aS sl rest d.length).w,.int .i64 x.n,.bool x.hy,.int .i64 0])])) K) x.a x.b;rw[hgv] at h322;obtain⟨ov2,K2,hap,hA2⟩:=dZ (H:=.cells .plain (ah p w u)::.cells .plain c1::.cells .plain rest.cs::.cells .plain [.list t 5 tk nn (P.map Pc.dv),.bool true,.bool false]::(J++[.cells .plain x.cs,.cells .plain (aS sl rest d.length).cs,.cells .plain (lnP fr0 (toP p.text.length it r) (aS sl rest d.length) x).cs])) (by_:=56) (ag:=true) (tk:=.tight) (t:=st.cur) (ys:=[(lnP fr0 (toP p.text.length it r) (aS sl rest d.length) x).dv]) hA (by omega) (by simp) (by simp[Ja]) (by simp[aD];omega) (by simp[aD];omega);obtain⟨ov',K',J',fr,hJ,hR⟩:=ih (d++[x]) (J++[.cells .plain x.cs,.cells .plain (aS sl rest d.length).cs,.cells .plain (lnP fr0 (toP p.text.length it r) (aS sl rest d.length) x).cs]) K2 ov2 (toP p.text.length it r) (ls++[lnP fr0 (toP p.text.length it r) (aS sl rest d.length) x]) (by simp[hd]) (by simp[hls]) (by simpa using hA2)
   refine⟨ov',K',.cells .plain x.cs::.cells .plain (aS sl rest d.length).cs::.cells .plain (lnP fr0 (toP p.text.length it r) (aS sl rest d.length) x).cs::J',fr,?_,by
    simpa[kB] using hR⟩
   rw[af (L:=s5) rfl];have hxa:=hPa x (by simp[hd])
   cases r with
   | nil=>
     have hlen:P.length=d.length+1:=by simp[hd]
     have hlt2:(d.length:Int)<(d.length:Int)+1:=by omega
     generalize P.map Pc.dv=V at *;unfold lnP at hap hJ ⊢;simp only[toP] at hap hJ h322 ⊢;generalize aS sl rest d.length=s at *;simp only[Sl.dv,Sl.cs,Ln.dv,Ln.cs,Pc.dv,Pc.cs] at h114 h322 hap hJ g0 ⊢;simp at h114 h322 hap hJ
     cases hwd:x.wide with
     | false=>
       rw[hwd] at g0 h114 h322 hap hJ;simp at hap hJ;simp[mO,hlt2,g0,l0,h114,hVl,hlen,h322,hw,aw,aK,chunk,hap];simpa[hlen] using hJ
     | true=>
       rw[hwd] at g0 h114 h322 hap hJ;simp at hap hJ;simp[mO,hlt2,g0,l0,h114,hVl,hlen,h322,hw,show IntKind.i64.wrap 1=1 by decide,aw,aK,chunk,hap];simpa[hlen] using hJ
   | cons y r'=>
     have hlen:P.length=d.length+1+1+r'.length:=by simp[hd];omega
     have hlt2:(d.length:Int)<(d.length:Int)+1+1+r'.length:=by omega
     have hge:(0:Int)≤(d.length:Int)+1:=by omega
     have hlt4:d.length<d.length+1+1+r'.length:=by omega
     have hlt5:d.length+1<d.length+1+1+r'.length:=by omega
     have hlt3:(d.length:Int)+1<(d.length:Int)+1+1+r'.length:=by omega
     have l1:d.length+1<(P.map Pc.dv).length:=by rw[hVl,hlen];omega
     have g1':(P.map Pc.dv)[d.length+1]'l1=y.dv:=by simp[hd]
     have hya:=hPa y (by simp[hd]);have hyb:=hPb (by rw[hlen];omega) y (by simp[hd]);obtain⟨ya,hy⟩:∃ ya:Nat,y.a=ya:=⟨y.a.toNat,by omega⟩;have hyl:ya<it.length:=by omega
     have hx:it[ya]? = some (it.getD ya iz0):=by rw[aak,aaa hyl];rfl
     have i1:=fun st'=>b4 hi hyl .i64 st';have i2:=fun st'=>cF hi hx (off:=1) (by omega) st';have i3:=fun H K=>lf hi hx (off:=1) (y:=.int .i64 (it.getD ya iz0).f) rfl H K;have et:toP p.text.length it (y::r')=(it.getD ya iz0).f:=by simp only[toP,hy];rfl
     rw[et] at hap hJ h322 ⊢;generalize it.getD ya iz0=q at *;generalize P.map Pc.dv=V at *;unfold lnP at hap hJ ⊢;generalize aS sl rest d.length=s at *;simp only[Sl.dv,Sl.cs,Ln.dv,Ln.cs,Pc.dv,Pc.cs] at h114 h322 hap hJ g0 g1' ⊢;simp at h114 h322 hap hJ;have w1:IntKind.i64.wrap ((d.length:Int)+1)=(d.length:Int)+1:=ar (by omega);rw[hy] at g1'
     cases hwd:x.wide with
     | false=>
       rw[hwd] at g0 h114 h322 hap hJ;simp at hap hJ;simp[mO,hlt2,hlt3,hlt4,hlt5,hge,g0,l0,g1',h114,hVl,hlen,h322,w1,i1,i2,i3,aw,aK,chunk,hap];simpa[hlen] using hJ
     | true=>
       rw[hwd] at g0 h114 h322 hap hJ;simp at hap hJ;simp[mO,hlt2,hlt3,hlt4,hlt5,hge,g0,l0,g1',h114,hVl,hlen,h322,w1,i1,i2,i3,show IntKind.i64.wrap 1=1 by decide,aw,aK,chunk,hap];simpa[hlen] using hJ
end
section
variable {p:bh} {sl:List Sl} {rest:Sl}
theorem FC (h0:ax p=0) (hl:sl.length≤256) (n:Nat):aS (inL p sl rest) (gh p sl rest) n=inF p sl rest n:=by
 have hm:=kn (p:=p) h0 hl;unfold aS lV;rw[if_neg (by omega),show (n:Int).toNat=n from rfl];by_cases h:n<manyN p sl
 · unfold inL;simp[h]
 · have e:(inL p sl rest)[n]? = none:=by
    rw[List.getElem?_eq_none_iff];simp[inL];omega
   rw[e];unfold inF aS lV
   have e2:sl[(n:Int).toNat]? = none:=by
    rw[List.getElem?_eq_none_iff];show sl.length≤n;omega
   rw[if_neg (by omega),e2];simp only[Option.getD_none];unfold gh ew nk;have p0:cp p 0 (manyN p sl)=cp p 0 n:=rfl
   have p1:cp p 1 (manyN p sl)=cp p 1 n:=by
    simp only[cp];rw[if_pos (by omega),if_pos (by omega)]
   have p2:cp p 2 (manyN p sl)=cp p 2 n:=by
    simp only[cp];rw[if_pos (by omega),if_pos (by omega)]
   rw[p0,p1,p2]
theorem uZ (h0:ax p=0) (s:Sl) (hs:0≤s.x∧s.x≤4095∧0≤s.w∧s.w≤4095) (n:Int):hI (ew p s n)=true:=by
 have hp:=Ao h0 n;have hm:=gV h0;unfold hI bm ew nk;simp only[aac,decide_eq_true_eq];omega
theorem DG (h0:ax p=0) (hc:c9 sl rest=0):c9 (inL p sl rest) (gh p sl rest)=0:=by
 obtain⟨hso,hl⟩:=kx hc;have hm:=kn (p:=p) h0 hl
 have hrest:0≤rest.x∧rest.x≤4095∧0≤rest.w∧rest.w≤4095:=by
  have:=hso sl.length;unfold aS lV at this;rw[if_neg (by omega)] at this;simpa using this
 unfold c9;rw[if_neg (by simp[inL];omega),if_pos];rw[aac,aaf];refine⟨fun s hs=>?_,uZ h0 rest hrest _⟩;obtain⟨n,_,rfl⟩:=aaT.1 hs;exact uZ h0 _ (hso n) _
def fv (l:List It) (F:Nat→Sl):Nat→Nat→Nat→List Pc
 | 0,_,_=>[]
 | f+1,a,n=>if a<l.length then dg l a (F n)::fv l F f (du l (dg l a (F n)).b.toNat) (n+1) else []
theorem yV (l:List It) {sl:List Sl} {rest:Sl} {F:Nat→Sl} (h:∀ n:Nat,aS sl rest n=F n):∀ f a n,cO l sl rest f a n=fv l F f a n
 | 0,_,_=>rfl
 | f+1,a,n=>by simp only[cO,fv,h n,yV l h f]
def jr (p:bh) (sl:List Sl) (rest:Sl):List Pc:=iD (bI p) (inL p sl rest) (gh p sl rest)
def jP (p:bh) (sl:List Sl) (rest:Sl):List Ln:=kB p.text.length (bI p) (inL p sl rest) (gh p sl rest) 0 0 (jr p sl rest)
def gp (l:List It) (F:Nat→Sl):List Pc:=
 if bd l≠0 then [] else if br l l.length 0=l.length then [⟨l.length,l.length,false,false,0⟩] else fv l F l.length (br l l.length 0) 0
theorem yu (h0:ax p=0) (hc:c9 sl rest=0):jr p sl rest=gp (bI p) (inF p sl rest):=by
 obtain⟨_,hl⟩:=kx hc;have hin:=DG h0 hc
 have hE:eT (bI p) (inL p sl rest) (gh p sl rest)=bd (bI p):=by
  unfold eT;by_cases h:bd (bI p)=0
  · rw[if_neg (by simp[h]),h,hin]
  · rw[if_pos h]
 unfold jr iD gp;rw[hE,yV _ (FC h0 hl)]
theorem Fw (l:List It) (a:Nat) (s:Sl):(dg l a s).a=a:=by
 unfold dg;split<;>rfl
theorem py (l:List It) (F:Nat→Sl):∀ f a n,∀ y∈fv l F f a n,0≤y.a∧y.a<l.length
 | 0,_,_,y,h=>by simp[fv] at h
 | f+1,a,n,y,h=>by
   simp only[fv] at h;split at h
   · rename_i ha;rcases aav.1 h with rfl | h
     · have e:=Fw l a (F n);rw[e];omega
     · exact py l F f _ _ y h
   · cases h
theorem qZ (l:List It) (F:Nat→Sl):∀ f a n,(fv l F f a n).length≤f
 | 0,_,_=>by simp[fv]
 | f+1,a,n=>by
   simp only[fv];split
   · have:=qZ l F f (du l (dg l a (F n)).b.toNat) (n+1);simp;omega
   · simp
theorem mQ (l:List It) (F:Nat→Sl):(∀ y∈gp l F,0≤y.a)∧(2≤(gp l F).length→∀ y∈gp l F,y.a<l.length)∧(gp l F).length≤8193:=by
 unfold gp;split
 · simp
 · rename_i h1
   have hlen:l.length≤8192:=by
    apply aaY;intro h;apply h1;unfold bd;rw[if_pos (by omega)];simp
   split
   · refine⟨?_,?_,?_⟩
     · simp
     · intro h;simp at h
     · simp
   · exact⟨fun y hy=>(py l F _ _ _ y hy).1,fun _ y hy=>(py l F _ _ _ y hy).2,by have:=qZ l F l.length (br l l.length 0) 0;omega⟩
end
section
variable {st:St} {p:bh} {w u:LW} {sl:List Sl} {sv:DV} {rest:Sl}
def iy (p:bh) (sl:List Sl) (rest:Sl):Int:=if ax p≠0 then ax p else c9 sl rest
theorem Ku (hy:p.pr.a9=0) (hp:p.small) (hw:w.ok 4 p.aC) (hu:u.ok 1 p.marks) (hl1:p.pr.least≠1) (hs:Sls st sl sv) :
 ∃ v,(E tab).F 307 [.agg (ah p w u),sv,rest.dv] st=some (.tuple [v,.int .i64 (iy p sl rest)],st)∧Lw 7 ((if iy p sl rest=0 then jP p sl rest else []).map Ln.dv) v:=by
 rw[au Iu rfl];have h319:=FE (rest:=rest) hp hw hu (hs.inn [.cells .plain (ah p w u),.cells .plain rest.cs] []);rw[show (if ax p≠0 then ax p else c9 sl rest)=iy p sl rest from rfl] at h319;have hsv:sv.leaves=[sv]∧sv.bp=true:=by cases hs<;>exact⟨rfl,rfl⟩
 by_cases hE:iy p sl rest=0;rotate_left
 · rw[if_neg hE];refine⟨.list 0 0 .no false [],?_,.list _ _ _ _ (fun h=>by cases h) (fun _=>rfl)⟩;simp only[Sl.dv,Sl.cs] at h319 ⊢;simp[f307,h319,hE]
 rw[if_pos hE,hE];rw[hE] at h319
 have h0:ax p=0:=by
  apply aaY;intro h;unfold iy at hE;rw[if_pos h] at hE;exact h hE
 have hc:c9 sl rest=0:=by unfold iy at hE;rw[if_neg (by simp[h0])] at hE;exact hE
 obtain⟨iv,h106,hiv⟩:=DC (st:=pst st [.cells .plain (ah p w u),.cells .plain rest.cs] []) hy hp hw hu;rw[h0] at h106;rw[if_pos h0] at hiv;obtain⟨nv,h320,hnv⟩:=Br (st:=pst st [.cells .plain (ah p w u),.cells .plain rest.cs] []) h0 hp hw hu (hs.inn _ _) hc;obtain⟨bv,h321,hbv⟩:=BQ (st:=pst st [.cells .plain (ah p w u),.cells .plain rest.cs,.cells .plain (gh p sl rest).cs] []) (w:=w) (u:=u) (rest:=gh p sl rest) hl1 (Lw.vw hiv:Its _ (bI p) iv) (Lw.vw hnv);obtain⟨t,n,tk,nn,rfl,c0,_,_⟩:=kR hbv;have hP:=yu h0 hc;obtain⟨q1,q2,q3⟩:=mQ (bI p) (inF p sl rest);rw[← hP] at q1 q2 q3
 have hlo:jr p sl rest≠[]→decide (eT (bI p) (inL p sl rest) (gh p sl rest)≠0)=false:=by
  intro h;apply decide_eq_false;intro h2;apply h;unfold jr iD;rw[if_pos h2]
 rw[show iD (bI p) (inL p sl rest) (gh p sl rest)=jr p sl rest from rfl] at h321 c0
 obtain⟨ov,K1,J1,fr1,hJ,hA⟩:=Jy (st:=st) (p:=p) (w:=w) (u:=u) (rest:=gh p sl rest) (c1:=rest.cs) (Lw.vw hiv:Its st (bI p) iv) (Lw.vw hnv) (P:=jr p sl rest) (by omega) q1 q2 (t:=t) (tk:=tk) (nn:=nn) (fun h=>c0 (by
  intro e;rw[List.map_eq_nil_iff] at e;exact h e)) hlo (jr p sl rest) [] [] [] (.list 0 0 .no false []) 0 [] rfl rfl (dt _ _ _ _ _ _)
 obtain⟨t2,n2,tk2,nn2,rfl,c1,c2⟩:∃ t n tk nn,ov=.list t n tk nn ((jP p sl rest).map Ln.dv)∧(nn=true→n=7)∧(nn=false→(jP p sl rest).map Ln.dv=[]):=by
  have hA':Acc st K1 7 ((jP p sl rest).map Ln.dv) ov:=by simpa[jP] using hA
  rcases hA' with ⟨hx,t,n',tk,rfl⟩ | ⟨k,s,rfl,hk⟩
  · exact⟨_,_,_,_,by rw[hx],(fun h=>by cases h),fun _=>hx⟩
  · exact⟨_,_,_,_,rfl,fun _=>rfl,(fun h=>by cases h)⟩
 refine⟨.list t2 n2 (lU tk2) nn2 ((jP p sl rest).map Ln.dv),?_,.list _ _ _ _ c1 c2⟩;have hVl:((jr p sl rest).map Pc.dv).length=(jr p sl rest).length:=by simp
 generalize (jP p sl rest).map Ln.dv=VL at *;generalize gh p sl rest=R2 at *;generalize decide (eT (bI p) (inL p sl rest) R2≠0)=lo at *;generalize (jr p sl rest).map Pc.dv=VP at *;simp only[Sl.dv,Sl.cs] at h319 h106 h320 h321 hJ ⊢;simp at h106 h320 h321 hJ;simp[-dG,exl,f307,h319,h106,h320,h321,hVl,hJ]
end
section
theorem K8 (L:List Ln) (hl:L.length≤100000) (w u:LW) (hw:L≠[]→w.n=7) (hu:L≠[]→u.n=7) (st:St):∀ (r d:List Ln),L=d++r →
 (E tab).C tj [(0,.list w.t w.n w.tk w.nn (L.map Ln.dv)),(1,.list u.t u.n u.tk u.nn (L.map Ln.dv)),(5,.int .i64 d.length)] (pst st [] []) =
  some (.exit 0,[(0,.list w.t w.n w.tk w.nn (L.map Ln.dv)),(1,.list u.t u.n u.tk u.nn (L.map Ln.dv)),(5,.int .i64 L.length),(14,.bool false)],pst st [] []):=by
 intro r
 induction r with
 | nil=>
   intro d hd;rw[af (L:=tj) rfl];simp[xg,hd]
 | cons m r ih=>
   intro d hd;have w4:=hw (by simp[hd]);have u4:=hu (by simp[hd]);have h0:d.length<L.length:=by simp[hd]
   have hw:IntKind.i64.wrap ((d.length:Int)+1)=((d++[m]).length:Nat):=by rw[ar (by omega)];simp
   have hg:L[d.length]=m:=by simp[hd]
   rw[af (L:=tj) rfl];have hJ:=ih (d++[m]) (by simp[hd]);simp[w4,u4] at hJ ⊢;simp[xg,aF,bE,bN,bM,aH,h0,hg,hw,Ln.dv,Ln.cs,eqD,bk,gQ];simpa[Ln.dv,Ln.cs] using hJ
theorem An (L:List Ln) (hl:L.length≤100000) (w u:LW) (hw:L≠[]→w.n=7) (hu:L≠[]→u.n=7) (st:St) :
 (E tab).F 309 [.list w.t w.n w.tk w.nn (L.map Ln.dv),.list u.t u.n u.tk u.nn (L.map Ln.dv)] st=some (.bool true,st):=by
 rw[au L8 rfl];have h:=K8 L hl w u hw hu st L [] rfl;simp at h;simp[HC,h]
end
def wA:Nat→List Clu→Nat→Prop
 | i,[],e=>i=e
 | i,c::r,e=>c.a=i∧i<c.b∧wA c.b r e
def Chn:Int→List ab→Int→Prop
 | i,[],e=>i=e
 | i,m::r,e=>m.a=i∧i<m.b∧Chn m.b r e
theorem q0 (s:List UInt8):∀ n i,s.length≤i+n→i≤s.length→wA i (dz s n i) s.length
 | 0,i,h1,h2=>by
   obtain rfl:i=s.length:=by omega
   simp[dz,wA]
 | n+1,i,h1,h2=>by
   have ht:=m7 s (fH s i) 2 (i+1);by_cases hi:i<s.length
   · simp only[dz,hi,if_true,wA];exact⟨trivial,by unfold cTo;omega,q0 s n (cTo s i) (by unfold cTo;omega) (by unfold cTo;omega)⟩
   · obtain rfl:i=s.length:=by omega
     simp[dz,wA]
theorem oG (p:bh):∀ (l:List Clu) (i e:Nat) (kr:Bool) (bf:UInt8) (ps:Int) (mk:List (List UInt8)),wA i l e→Chn i (cR p kr bf ps mk l) e
 | [],i,e,_,_,_,_,h=>by simp only[wA] at h;subst h;simp[cR,Chn]
 | c::r,i,e,kr,bf,ps,mk,h=>by
   obtain⟨h1,h2,h3⟩:=h;simp only[cR,Chn,ay];exact⟨by omega,by omega,oG p r c.b e _ _ _ _ h3⟩
theorem Be {p:bh} (h0:ax p=0):Chn 0 (az p) p.text.length:=by
 have:=oG p (gC p.text) 0 p.text.length false 0 0 p.marks (q0 p.text p.text.length 0 (by omega) (by omega));unfold az mc;rw[if_pos h0];exact this
theorem Chn.ge:∀ {L:List ab} {i e:Int},Chn i L e→i≤e∧∀ m∈L,i≤m.a∧m.a<m.b∧m.b≤e
 | [],i,e,h=>by simp only[Chn] at h;subst h;simp
 | m::r,i,e,h=>by
   obtain⟨h1,h2,h3⟩:=h;have ih:=Chn.ge h3;refine⟨by omega,fun x hx=>?_⟩;rcases aav.1 hx with rfl | hx
   · omega
   · have:=ih.2 x hx;omega
def sW:List ab→Int
 | []=>0
 | m::r=>m.w+sW r
theorem wG:∀ (a b:List ab),sW (a++b)=sW a+sW b
 | [],b=>by simp[sW]
 | x::a,b=>by simp only[aaF,sW,wG a b];omega
theorem uO:∀ (l:List ab) (o:Bool) (n:Int),(∀ m∈l,m.e=0)→ff o n l=n+sW l
 | [],o,n,_=>by simp[ff,sW]
 | m::r,o,n,h=>by
   have h1:=h m (aap ..);rw[ff,uO r _ _ fun x hx=>h x (aan _ hx),sW,h1];split<;>omega
theorem Ed:∀ (l:List ab),l.all okM=true→0≤sW l∧sW l≤4095*l.length
 | [],_=>by simp[sW]
 | m::r,h=>by
   simp only[aa3,aac] at h;have h1:=Ed r h.2;have h2:=h.1;simp[okM] at h2;simp only[sW,aax];omega
theorem Gy (l:List ab) (h:l.all okM=true) (i k:Nat):0≤sW ((l.drop i).take k)∧sW ((l.drop i).take k)≤sW l:=by
 have e:l=l.take i++((l.drop i).take k++(l.drop i).drop k):=by rw[aaQ,aaQ]
 have hs:=congrArg sW e;rw[wG,wG] at hs;have hall:=aaf.1 h;have sub:∀ l':List ab,(∀ m∈l',m∈l)→0≤sW l':=fun l' hm=>(Ed l' (aaf.2 fun m h=>hall m (hm m h))).1;have h1:=sub (l.take i) fun m hm=>aaz hm;have h2:=sub ((l.drop i).take k) fun m hm=>aao (aaz hm);have h3:=sub ((l.drop i).drop k) fun m hm=>aao (aao hm);omega
theorem fk (s:List UInt8) (L:List ab) (pl:List Bool):∀ (l:List ab) (k run fr:Nat),(aN s L pl k run fr l).length≤3*l.length+1
 | [],k,run,fr=>by simp only[aN];split<;>simp
 | m::r,k,run,fr=>by
   simp only[aN,aax];split
   · have:=fk s L pl r (k+1) (k+1) (k+1);split<;>simp<;>omega
   · split
     · have:=fk s L pl r (k+1) run fr;omega
     · split
       · have:=fk s L pl r (k+1) run k;simp;omega
       · split
         · have:=fk s L pl r (k+1) run k;simp;omega
         · have:=fk s L pl r (k+1) run fr;omega
def gP (pr:bC) (s:List UInt8):bh:=⟨s,if s=[] then [] else [⟨s.length,⟨0,0,0⟩⟩],pr,[],[]⟩
def gW (st:St) (s:List UInt8):LW:=if s=[] then ⟨0,0,.no,false⟩ else ⟨st.cur,4,.tight,true⟩
theorem I4 (st:St) (pr:bC) (s:List UInt8):(gW st s).ok 4 (gP pr s).aC:=by
 unfold gW gP;by_cases h:s=[]<;>simp[h,LW.ok]
theorem wc (pr:bC) (s:List UInt8):(gP pr s).small:=⟨by simp[gP],by simp[gP],by simp[gP]⟩
theorem Ik (pr:bC) (s:List UInt8):LW.ok ⟨0,0,.no,false⟩ 1 (gP pr s).marks:=⟨(fun h=>by cases h),fun _=>rfl⟩
def fh (c:UInt8):Bool:=decide (32≤c.toNat)&&decide (c.toNat≤126)
theorem TG (pr:bC) (s:List UInt8):∀ m∈az (gP pr s),m.e=0:=by
 have hl:∀ i,(bg (gP pr s).aC i).e=0:=by
  intro i;unfold bg gP;by_cases h:s=[]
  · simp[h,bZ,iP]
  · simp only[h,if_false,bZ];split<;>rfl
 have go:∀ (l:List Clu) (kr:Bool) (bf:UInt8) (ps:Int) (mk:List (List UInt8)),∀ m∈cR (gP pr s) kr bf ps mk l,m.e=0:=by
  intro l
  induction l with
  | nil=>intro kr bf ps mk m h;cases h
  | cons c r ih=>
    intro kr bf ps mk m h;rcases aav.1 h with rfl | h
    · simp[ay,aZ,hl]
    · exact ih _ _ _ _ m h
 unfold az;split
 · exact go _ _ _ _ _
 · intro m h;cases h
theorem sY {L:List ab} (hok:L.all okM=true) (he:∀ m∈L,m.e=0) {i e:Int} (hc:Chn i L e) (hi:0≤i) (hlen:L.length≤500) {fr k:Nat} (h1:fr<k) (h2:k≤L.length):fc (cU L fr k)=false:=by
 have hsw:=Gy L hok fr (k-fr);have hle:=Ed L hok;have hr:=uO ((L.drop fr).take (k-fr)) true 0 fun m hm=>he m (aao (aaz hm));have hma:=aaB (getM (L:=L) (i:=fr) (by omega));have hmb:=aaB (getM (L:=L) (i:=k-1) (by omega));have ha:=hc.ge.2 _ hma;have hb:=hc.ge.2 _ hmb
 have hab:(L.getD fr mz).a<(L.getD (k-1) mz).b:=by
  by_cases hz:fr=k-1
  · rw[hz];omega
  · have hlt:∀ {L:List ab} {i e:Int},Chn i L e→∀ {j k:Nat},j<k→k<L.length→(L.getD j mz).b≤(L.getD k mz).a:=by
     intro L
     induction L with
     | nil=>intro i e _ j k _ h;simp at h
     | cons m r ih=>
       intro i e h j k h1 h2;obtain⟨g1,g2,g3⟩:=h
       cases k with
       | zero=>omega
       | succ k=>
         have hk:k<r.length:=by simpa using h2
         cases j with
         | zero=>
           have:=g3.ge.2 _ (aaB (getM hk));simp only[List.getD_cons_zero,List.getD_cons_succ];omega
         | succ j=>
           simp only[List.getD_cons_succ];exact ih g3 (by omega) hk
    have:=hlt hc (j:=fr) (k:=k-1) (by omega) (by omega);omega
 unfold fc nJ jR cU bm;simp only;rw[hr];have e1:decide ((L.getD fr mz).a<0)=false:=decide_eq_false (by omega);have e2:decide ((L.getD (k-1) mz).b<(L.getD fr mz).a)=false:=decide_eq_false (by omega);have e3:decide (0+sW ((L.drop fr).take (k-fr))<0)=false:=decide_eq_false (by omega);have e4:decide (2097152<0+sW ((L.drop fr).take (k-fr)))=false:=decide_eq_false (by omega);rw[e1,e2,e3,e4];rfl
theorem ER {n:Int} (h1:1≤n) (h2:n≤64):0≤hyW n∧hyW n≤64:=by
 have:=pS 45 h1 h2;exact⟨this.1,this.2.1⟩
theorem F7 {m:ab} (ha:0≤m.a) (hb:m.a<m.b) (hw:okM m=true) (hz:1≤m.s∧m.s≤64):fc (fO m)=false:=by
 have hw':=yr hw;have hh:=ER hz.1 hz.2;unfold fO;split
 · unfold fc nJ jR bm;simp only;have e1:decide (m.a<0)=false:=decide_eq_false (by omega);have e2:decide (m.b<m.a)=false:=decide_eq_false (by omega);have e3:decide (m.w<0)=false:=decide_eq_false (by omega);have e4:decide (2097152<m.w)=false:=decide_eq_false (by omega);have e5:decide (0≤m.w/2)=true:=decide_eq_true (by omega);have e6:decide (m.w/2≤4095)=true:=decide_eq_true (by omega);have e7:decide (0≤m.w/3)=true:=decide_eq_true (by omega);have e8:decide (m.w/3≤4095)=true:=decide_eq_true (by omega);rw[e1,e2,e3,e4,e5,e6,e7,e8];rfl
 · split
   · unfold fc nJ jR bm;simp only;have e1:decide (m.a<0)=false:=decide_eq_false (by omega);have e2:decide (m.b<m.a)=false:=decide_eq_false (by omega);rw[e1,e2];rfl
   · unfold fc nJ jR bm;simp only;have e1:decide (m.a<0)=false:=decide_eq_false (by omega);have e2:decide (m.b<m.a)=false:=decide_eq_false (by omega);have e3:decide (hyW m.s<0)=false:=decide_eq_false (by omega);have e4:decide (2097152<hyW m.s)=false:=decide_eq_false (by omega);rw[e1,e2,e3,e4];rfl
theorem Ij {m:ab} (ha:0≤m.a) (hz:1≤m.s∧m.s≤64):fc (qw m)=false:=by
 have hh:=ER hz.1 hz.2;unfold qw fc nJ jR bm;simp only;have e1:decide (m.a<0)=false:=decide_eq_false (by omega);have e2:decide (m.a<m.a)=false:=decide_eq_false (by omega);have e3:decide (hyW m.s<0)=false:=decide_eq_false (by omega);have e4:decide (2097152<hyW m.s)=false:=decide_eq_false (by omega);rw[e1,e2,e3,e4];rfl
theorem HY {m:ab} (ha:0≤m.a):fc (qA m)=false:=by
 unfold qA fc nJ jR bm;simp only;have e1:decide (m.a<0)=false:=decide_eq_false (by omega);have e2:decide (m.a<m.a)=false:=decide_eq_false (by omega);rw[e1,e2];rfl
theorem qJ {s:List UInt8} {L:List ab} {pl:List Bool} (hok:L.all okM=true) (he:∀ m∈L,m.e=0) {i e:Int} (hc:Chn i L e) (hi:0≤i) (hlen:L.length≤500) (hz:∀ m∈L,1≤m.s∧m.s≤64):∀ (r d:List ab) (run fr:Nat),L=d++r→fr≤d.length→(aN s L pl d.length run fr r).any fc=false
 | [],d,run,fr,hd,hf=>by
   simp only[aN];split
   · rename_i h;simp[sY hok he hc hi hlen h (by simp[hd])]
   · rfl
 | m::r,d,run,fr,hd,hf=>by
   have hm:m∈L:=by rw[hd];simp
   have hm1:=hc.ge.2 m hm;have hk:d.length<L.length:=by simp[hd]
   have hd':L=(d++[m])++r:=by simp[hd]
   have ih:=fun run fr h=>qJ hok he hc hi hlen hz r (d++[m]) run fr hd' h (s:=s) (pl:=pl);have hl:(d++[m]).length=d.length+1:=by simp
   rw[hl] at ih;simp only[aN];split
   · rw[List.any_append,abq,ih _ _ (aai _),F7 (by omega) hm1.2.1 (aaf.1 hok m hm) (hz m hm)];split
     · rename_i h;simp[sY hok he hc hi hlen h (by omega)]
     · rfl
   · split
     · exact ih _ _ (by omega)
     · rename_i h1 h2;split
       · rw[abq,abq,ih _ _ (by omega),sY hok he hc hi hlen (by omega) (by omega),Ij (by omega) (hz m hm)];rfl
       · split
         · rw[abq,abq,ih _ _ (by omega),sY hok he hc hi hlen (by omega) (by omega),HY (by omega)];rfl
         · exact ih _ _ (by omega)
theorem uR {p:bh} (h0:ax p=0) (hD:p.pr.drop=0) (he:∀ m∈az p,m.e=0) (hl:p.text.length≤500):bd (bI p)=0:=by
 have hM:=kv p;have hch:=Be h0
 have hlen:(az p).length≤500:=by
  have:∀ {L:List ab} {i e:Int},Chn i L e→(L.length:Int)≤e-i:=by
   intro L
   induction L with
   | nil=>intro i e h;simp only[Chn] at h;simp;omega
   | cons m r ih=>
     intro i e h;obtain⟨g1,g2,g3⟩:=h;have:=ih g3;simp only[aax];omega
  have:=this hch;omega
 have hb:bJ p=az p:=by
  unfold bJ dS;rw[if_neg];rw[hD];simp
 have hodd:=qJ (s:=p.text) (pl:=fV p.text (az p) p.pr.a9) hM.ok he hch (Int.le_refl 0) hlen (fun m hm=>hM.sz m hm) (az p) [] 0 0 rfl (aai _)
 have hil:(bI p).length≤3*(az p).length+1:=by
  have:=fk p.text (bJ p) (fV p.text (bJ p) p.pr.a9) (bJ p) 0 0 0;rw[hb] at this;unfold bI;rw[hb];exact this
 unfold bd;rw[if_neg (by omega)]
 have e:(bI p).any fc=false:=by
  unfold bI;rw[hb];exact hodd
 rw[e];rfl
abbrev Str:=List UInt8
theorem IF:tab 463=some (.code DM):=by kernel_rfl
theorem Iy:tab 464=some (.code EJ):=by kernel_rfl
theorem Mr:tab 465=some (.code Fh):=by kernel_rfl
theorem Mp:tab 472=some (.code Ee):=by kernel_rfl
theorem Rt:tab 478=some (.g9 jd):=by kernel_rfl
theorem Lk (v:DV) (st:St):(E tab).F 478 [v] st=some (v,st):=by
 rw[EF];simp only[dA,Rt];rfl
def bV (s:Str):List DV:=s.map fun b=>.int .u8 b.toNat
theorem Dc (s:Str):(bV s).length=s.length:=by simp[bV]
theorem Dn:∀ s:Str,eQ (bV s)=some s
 | []=>rfl
 | c::r=>by
   have h:(bV (c::r))=.int .u8 c.toNat::bV r:=rfl;have hc:(c.toNat:Int)≤255:=by have:c.toNat<256:=c.toNat_lt;omega
   rw[h,eQ,Dn r];simp[hc]
def SB (N:Nat) (H:List HO) (k:Nat) (s:Str):Prop:=
 ∃ p l,H[k]? = some (.cells (.typed 75) [p,l])∧(p=.b5∨p=.ptr (N+k) 0)∧((s=[]∧l=.list 0 0 .no false [])∨(s≠[]∧∃ j,j≠k∧H[j]? = some (.cells (.frz 5) (bV s))∧l=.hsl 1 false (N+j) 0 s.length none))
def Kp (H:List HO) (k:Nat) (H':List HO):Prop:=H.length≤H'.length∧∀ j o,j≠k→H[j]? = some o→(∀ t vs,o≠.cells (.frz t) vs)→H'[j]? = some o
theorem Kp.refl (H:List HO) (k:Nat):Kp H k H:=⟨aai _,fun _ _ _ h _=>h⟩
theorem Kp.trans {H H' H'':List HO} {k:Nat} (h:Kp H k H') (h':Kp H' k H''):Kp H k H'':=⟨abu h.1 h'.1,fun j o hj ho hn=>h'.2 j o hj (h.2 j o hj ho hn) hn⟩
theorem Kp.app (H:List HO) (k:Nat) (X:List HO):Kp H k (H++X):=⟨by simp,fun j o _ h _=>by rw[aaj (aae.1 h).1];exact h⟩
theorem Kp.set (H:List HO) (k:Nat) (o:HO):Kp H k (H.set k o):=⟨by simp,fun j o' hj h _=>by rw[aaA (fun e=>hj e.symm)];exact h⟩
theorem Kp.row {H H':List HO} {k j:Nat} {vs:List DV} (h:Kp H k H') (hj:j≠k) (hr:rowAt H j=some (.plain,vs)):rowAt H' j=some (.plain,vs):=by
 unfold rowAt at hr;split at hr
 · rename_i g vs' e;simp only[aab.injEq,Prod.mk.injEq] at hr;obtain⟨rfl,rfl⟩:=hr;have:=h.2 j _ hj e (by intro t vs' e;injection e with e _;cases e);unfold rowAt;rw[this]
 · cases hr
theorem SB.app {N:Nat} {H:List HO} {k:Nat} {s:Str} (h:SB N H k s) (X:List HO):SB N (H++X) k s:=by
 obtain⟨p,l,h1,h2,h3⟩:=h;have e:∀ {j:Nat} {o:HO},H[j]? = some o→(H++X)[j]? = some o:=fun h=>by rw[aaj (aae.1 h).1];exact h
 refine⟨p,l,e h1,h2,?_⟩;rcases h3 with h3 | ⟨h3,j,hj,h4,h5⟩
 · exact .inl h3
 · exact .inr ⟨h3,j,hj,e h4,h5⟩
theorem sk {H:List HO} {k:Nat} {g:CK} {vs:List DV} (h:H[k]? = some (.cells g vs)):rowAt H k=some (g,vs):=by unfold rowAt;rw[h]
theorem Q9 (N:Nat) (H:List HO):SB N (H++[.cells (.typed 75) [.b5,.list 0 0 .no false []]]) H.length []:=⟨_,_,by simp,.inl rfl,.inl ⟨rfl,rfl⟩⟩
section
variable {st:St} {H:List HO} {K:List Nat} {k:Nat} {s:Str}
theorem uC {t n:Nat} {tk:Tk} {x:Str} (hx:x≠[]) (hl:x.length≤10000):dR (pst st H K) 5 1 (.list t n tk false []) (.str x)=some (.hsl 1 false (st.heap.length+H.length) 0 x.length none,pst st (H++[.cells (.frz 5) (bV x)]) K):=by
 have hx0:¬ x.length=0:=fun e=>hx (aaU.1 e);have hroom:x.length≤aD:=by simp[aD];omega
 simp[dR,cd,hx0,hroom,bV];simp[pst]
theorem u3 {j:Nat} {x:Str} (hx:x≠[]) (hl:s.length+x.length≤10000) (hj:H[j]? = some (.cells (.frz 5) (bV s))):dR (pst st H K) 5 1 (.hsl 1 false (st.heap.length+j) 0 s.length none) (.str x)=some (.hsl 1 false (st.heap.length+H.length) 0 (s.length+x.length) none,pst st (H.set j .gone++[.cells (.frz 5) (bV (s++x))]) K):=by
 have hx0:¬ x.length=0:=fun e=>hx (aaU.1 e);have hroom:s.length+x.length≤aD:=by simp[aD];omega
 simp[dR,cd,hx0,hroom,sk hj,Dc];simp[pst,bV,List.set_append_right]
theorem yL {p l:DV} (h1:H[k]? = some (.cells (.typed 75) [p,l])) (h2:p=.b5∨p=.ptr (st.heap.length+k) 0) :
 (E tab).F 472 [.ptr (st.heap.length+k) 0] (pst st H K)=some (.tuple [],pst st (H.set k (.cells (.typed 75) [.ptr (st.heap.length+k) 0,l])) K):=by
 have hr:=sk h1;rw[fq Mp rfl];rcases h2 with rfl | rfl
 · simp[Ee,hr,eqD,uh,h1,Lk]
 · have e:H.set k (.cells (.typed 75) [.ptr (st.heap.length+k) 0,l])=H:=by
    obtain⟨hk,h⟩:=aae.1 h1;rw[← h,List.set_getElem_self]
   simp[Ee,hr,eqD,e]
theorem FG (h:SB st.heap.length H k s) (x:Str) (hx:x≠[]) (hl:s.length+x.length≤10000) :
 ∃ H',(E tab).F 463 [.ptr (st.heap.length+k) 0,.str x] (pst st H K)=some (.tuple [.int .i64 x.length,.aL],pst st H' K)∧SB st.heap.length H' k (s++x)∧Kp H k H':=by
 obtain⟨p,l,h1,h2,h3⟩:=h;have hc:=yL (K:=K) h1 h2;have hk:=(aae.1 h1).1;rcases h3 with ⟨rfl,rfl⟩ | ⟨hs,j,hj,h4,rfl⟩
 · refine⟨H.set k (.cells (.typed 75) [.ptr (st.heap.length+k) 0,.hsl 1 false (st.heap.length+H.length) 0 x.length none])++[.cells (.frz 5) (bV x)],?_,⟨.ptr (st.heap.length+k) 0,.hsl 1 false (st.heap.length+H.length) 0 x.length none,?_,.inr rfl,.inr ⟨by simpa using hx,H.length,by omega,by simp,rfl⟩⟩,(Kp.set _ _ _).trans (Kp.app _ _ _)⟩
   · rw[fq IF rfl];have ha:=uC (st:=st) (H:=H.set k (.cells (.typed 75) [.ptr (st.heap.length+k) 0,.list 0 0 .no false []])) (K:=K) (t:=0) (n:=0) (tk:=.no) hx (by simpa using hl);rw[List.length_set] at ha;simp[DM,hc,gw hk,ha,jA hk,lQ hk]
   · rw[aaj (by simpa using hk),abh hk]
 · have hj':=(aae.1 h4).1;refine⟨(H.set k (.cells (.typed 75) [.ptr (st.heap.length+k) 0,.hsl 1 false (st.heap.length+H.length) 0 (s.length+x.length) none])).set j .gone++[.cells (.frz 5) (bV (s++x))],?_,⟨.ptr (st.heap.length+k) 0,.hsl 1 false (st.heap.length+H.length) 0 (s.length+x.length) none,?_,.inr rfl,.inr ⟨by simp[hx],H.length,by omega,by simp,by simp⟩⟩,?_⟩
   · rw[fq IF rfl];have ha:=u3 (st:=st) (H:=H.set k (.cells (.typed 75) [.ptr (st.heap.length+k) 0,.hsl 1 false (st.heap.length+j) 0 s.length none])) (K:=K) (j:=j) hx hl (by rw[aaA (fun e=>hj e.symm),h4]);rw[List.length_set,List.set_comm _ _ (fun e=>hj e.symm)] at ha;have hk2:k<(H.set j .gone).length:=by simpa using hk
     simp[DM,hc,gw hk,ha,jA hk2,lQ hk2];rw[List.set_comm _ _ hj]
   · rw[aaj (by simpa using hk),aaA hj,abh hk]
   · refine⟨by simp,fun i o hi ho hn=>?_⟩
     have hij:j≠i:=by
      rintro rfl;rw[h4] at ho;injection ho with ho;exact hn _ _ ho.symm
     rw[aaj (by simpa using(aae.1 ho).1),aaA hij,aaA (fun e=>hi e.symm)];exact ho
theorem qN {st:St} {v:DV} {c:UInt8} {t:Nat} {tk:Tk} {S:St}:dR S 5 1 v (.list t 1 tk true [.int .u8 c.toNat])=dR S 5 1 v (.str [c]):=by
 unfold dR;have e1:cd S 1 (.list t 1 tk true [.int .u8 c.toNat])=cd S 1 (.str [c]):=by simp[cd,flat]
 rw[e1]
theorem Gt (h:SB st.heap.length H k s) (c:UInt8) (hl:s.length+1≤10000) :
 ∃ H',(E tab).F 464 [.ptr (st.heap.length+k) 0,.int .u8 c.toNat] (pst st H K)=some (.aL,pst st H' K)∧SB st.heap.length H' k (s++[c])∧Kp H k H':=by
 obtain⟨p,l,h1,h2,h3⟩:=h;have hc:=yL (K:=K) h1 h2;have hk:=(aae.1 h1).1;rcases h3 with ⟨rfl,rfl⟩ | ⟨hs,j,hj,h4,rfl⟩
 · refine⟨H.set k (.cells (.typed 75) [.ptr (st.heap.length+k) 0,.hsl 1 false (st.heap.length+H.length) 0 1 none])++[.cells (.frz 5) (bV [c])],?_,⟨.ptr (st.heap.length+k) 0,.hsl 1 false (st.heap.length+H.length) 0 1 none,?_,.inr rfl,.inr ⟨by simp,H.length,by omega,by simp,rfl⟩⟩,(Kp.set _ _ _).trans (Kp.app _ _ _)⟩
   · rw[fq Iy rfl];have ha:=uC (st:=st) (H:=H.set k (.cells (.typed 75) [.ptr (st.heap.length+k) 0,.list 0 0 .no false []])) (K:=K) (t:=0) (n:=0) (tk:=.no) (x:=[c]) (by simp) (by simp);rw[List.length_set,← qN (st:=st) (t:=st.cur) (tk:=.tight)] at ha;simp at ha hc;simp[EJ,hc,gw hk,aw,aK,chunk,ha,jA hk,lQ hk]
   · rw[aaj (by simpa using hk),abh hk]
 · have hj':=(aae.1 h4).1;refine⟨(H.set k (.cells (.typed 75) [.ptr (st.heap.length+k) 0,.hsl 1 false (st.heap.length+H.length) 0 (s.length+1) none])).set j .gone++[.cells (.frz 5) (bV (s++[c]))],?_,⟨.ptr (st.heap.length+k) 0,.hsl 1 false (st.heap.length+H.length) 0 (s.length+1) none,?_,.inr rfl,.inr ⟨by simp,H.length,by omega,by simp,by simp⟩⟩,?_⟩
   · rw[fq Iy rfl];have ha:=u3 (st:=st) (H:=H.set k (.cells (.typed 75) [.ptr (st.heap.length+k) 0,.hsl 1 false (st.heap.length+j) 0 s.length none])) (K:=K) (j:=j) (x:=[c]) (by simp) (by simpa using hl) (by rw[aaA (fun e=>hj e.symm),h4]);rw[List.length_set,List.set_comm _ _ (fun e=>hj e.symm),← qN (st:=st) (t:=st.cur) (tk:=.tight)] at ha;have hk2:k<(H.set j .gone).length:=by simpa using hk
     simp at ha hc;simp[EJ,hc,gw hk,aw,aK,chunk,ha,jA hk2,lQ hk2];rw[List.set_comm _ _ hj]
   · rw[aaj (by simpa using hk),aaA hj,abh hk]
   · refine⟨by simp,fun i o hi ho hn=>?_⟩
     have hij:j≠i:=by
      rintro rfl;rw[h4] at ho;injection ho with ho;exact hn _ _ ho.symm
     rw[aaj (by simpa using(aae.1 ho).1),aaA hij,aaA (fun e=>hi e.symm)];exact ho
theorem Bb (h:SB st.heap.length H k s) (hl:s.length≤10000):(E tab).F 465 [.ptr (st.heap.length+k) 0] (pst st H K)=some (.str s,pst st H K):=by
 obtain⟨p,l,h1,h2,h3⟩:=h;have hr:=sk h1;rw[fq Mr rfl];rcases h3 with ⟨rfl,rfl⟩ | ⟨hs,j,hj,h4,rfl⟩
 · simp[Fh,hr,lu,wu]
 · have h0:0<s.length:=aaZ.2 hs;have h0':¬ s.length=0:=by omega
   have hroom:s.length≤aD:=by simp[aD];omega
   simp[Fh,hr,lu,h0,wu,h0',sk h4,hroom,Dc,aa8,Dn]
end
theorem OE:tab 440=some (.code qB):=by kernel_rfl
theorem Rp:tab 441=some (.code Hp):=by kernel_rfl
theorem NN:tab 442=some (.code Ie):=by kernel_rfl
theorem OQ:tab 466=some (.code xF):=by kernel_rfl
theorem NC:tab 467=some (.code Ge):=by kernel_rfl
theorem QF:tab 473=some (.code wI):=by kernel_rfl
theorem P4:tab 474=some (.code BU):=by kernel_rfl
theorem Px:tab 475=some (.code Ii):=by kernel_rfl
theorem Ov:tab 479=some (.code Gl):=by kernel_rfl
theorem Ml:tab 480=some (.code AS):=by kernel_rfl
structure Sec where
 w:Int
 h:Int
 top:Int
 bot:Int
 inn:Int
 out:Int
 aJ:Int
 gap:Int
 start:Int
 bal:Int
 mir:Int
 h0:List UInt8
 h1:List UInt8
 h2:List UInt8
 t0:List UInt8
 t1:List UInt8
 t2:List UInt8
def Sec.cs (s:Sec):List DV:=[.int .i64 s.w,.int .i64 s.h,.int .i64 s.top,.int .i64 s.bot,.int .i64 s.inn,.int .i64 s.out,.int .i64 s.aJ,.int .i64 s.gap,.int .i64 s.start,.int .i64 s.bal,.int .i64 s.mir,.str s.h0,.str s.h1,.str s.h2,.str s.t0,.str s.t1,.str s.t2]
abbrev Bd:=Int×Int×Int×Int
def Bd.dv (b:Bd):DV:=.agg [.int .i64 b.1,.int .i64 b.2.1,.int .i64 b.2.2.1,.int .i64 b.2.2.2]
def bF:List Bd→Option Int
 | []=>none
 | b::r=>if b.1<b.2.1∨b.2.2.1<b.1 then some b.2.2.2 else bF r
def Sec.bs (s:Sec):List Bd:=[(s.w,1,4095,5),(s.h,1,4095,5),(s.top,0,4095,5),(s.bot,0,4095,5),(s.inn,0,4095,5),(s.out,0,4095,5),(s.gap,0,4095,5),(s.aJ,1,8,2),(s.start,0,2,2),(s.bal,0,1,2),(s.mir,0,1,2)]
def cg (s:Sec):Int:=(s.w-s.inn-s.out-s.gap*(s.aJ-1)).tdiv s.aJ
def kG (s:Sec):Int:=s.h-s.top-s.bot
def aT (c:UInt8):Bool:=decide (c=3)||fh c
def txE (L:List (List UInt8)):Int:=if L.any (fun t=>decide (100<t.length)) then 3 else if L.all (fun t=>t.all aT) then 0 else 4
def Sec.tx (s:Sec):List (List UInt8):=[s.h0,s.h1,s.h2,s.t0,s.t1,s.t2]
def fp (s:Sec):Int:=match bF s.bs with | some e=>e | none=>if cg s<10∨kG s<20 then 5 else txE s.tx
structure eD (s:Sec):Prop where
 w:1≤s.w∧s.w≤4095
 h:1≤s.h∧s.h≤4095
 top:0≤s.top∧s.top≤4095
 bot:0≤s.bot∧s.bot≤4095
 inn:0≤s.inn∧s.inn≤4095
 out:0≤s.out∧s.out≤4095
 gap:0≤s.gap∧s.gap≤4095
 aJ:1≤s.aJ∧s.aJ≤8
 start:0≤s.start∧s.start≤2
 bal:0≤s.bal∧s.bal≤1
 mir:0≤s.mir∧s.mir≤1
theorem II {s:Sec} (h:bF s.bs=none):eD s:=by
 have go:∀ L:List Bd,bF L=none→∀ b∈L,b.2.1≤b.1∧b.1≤b.2.2.1:=by
  intro L
  induction L with
  | nil=>intro _ b hb;cases hb
  | cons x r ih=>
    intro h b hb;simp only[bF] at h;split at h
    · cases h
    · rename_i hx;rcases aav.1 hb with rfl | hb
      · omega
      · exact ih h b hb
 have g:=go _ h;have a:=g (s.w,1,4095,5) (by simp[Sec.bs]);have b:=g (s.h,1,4095,5) (by simp[Sec.bs]);have c:=g (s.top,0,4095,5) (by simp[Sec.bs]);have d:=g (s.bot,0,4095,5) (by simp[Sec.bs]);have e:=g (s.inn,0,4095,5) (by simp[Sec.bs]);have f:=g (s.out,0,4095,5) (by simp[Sec.bs]);have i:=g (s.gap,0,4095,5) (by simp[Sec.bs]);have j:=g (s.aJ,1,8,2) (by simp[Sec.bs]);have k:=g (s.start,0,2,2) (by simp[Sec.bs]);have l:=g (s.bal,0,1,2) (by simp[Sec.bs]);have m:=g (s.mir,0,1,2) (by simp[Sec.bs]);exact⟨a,b,c,d,e,f,i,j,k,l,m⟩
theorem Dz {s:Sec} (h:eD s):bF s.bs=none:=by
 have go:∀ L:List Bd,(∀ b∈L,b.2.1≤b.1∧b.1≤b.2.2.1)→bF L=none:=by
  intro L
  induction L with
  | nil=>intro _;rfl
  | cons x r ih=>
    intro h;have hx:=h x (aap ..);simp only[bF];rw[if_neg (by omega)];exact ih fun b hb=>h b (aan _ hb)
 obtain⟨a,b,c,d,e,f,g,h,i,j,k⟩:=h;apply go;intro x hx;simp only[Sec.bs,aav,aa7,or_false] at hx;rcases hx with rfl|rfl|rfl|rfl|rfl|rfl|rfl|rfl|rfl|rfl|rfl<;>assumption
theorem zZ {s:Sec} {e:Int} (h:bF s.bs=some e):e=5∨e=2:=by
 have go:∀ L:List Bd,(∀ b∈L,b.2.2.2=5∨b.2.2.2=2)→∀ e,bF L=some e→e=5∨e=2:=by
  intro L
  induction L with
  | nil=>intro _ e h;cases h
  | cons b r ih=>
    intro hL e h;simp only[bF] at h;split at h
    · injection h with h;subst h;exact hL b (aap ..)
    · exact ih (fun x hx=>hL x (aan _ hx)) e h
 refine go s.bs ?_ e h;intro b hb;simp only[Sec.bs,aav,aa7,or_false] at hb;rcases hb with rfl | rfl | rfl | rfl | rfl | rfl | rfl | rfl | rfl | rfl | rfl<;>simp
structure RdS (st:St) (L:List (List UInt8)) (v:DV):Prop where
 len:∀ st',qD st' .slice v=some (.int .i64 L.length,st')
 at_:∀ i,i<L.length→∀ st',ln st' 1 v (.int .i64 (i:Nat))=some (elP 1 v i,st')
 ld:∀ i x,L[i]? = some x→∀ H K,c7 (pst st H K) 1 false (elP 1 v i)=some (.str x)
theorem RdS.row {st:St} {G:List HO} {K:List Nat} {k:Nat} {g:CK} {L:List (List UInt8)} (h:G[k]? = some (.cells g (L.map DV.str))):RdS (pst st G K) L (.hsl 1 false (st.heap.length+k) 0 L.length none) where
 len:=fun st'=>by simp
 at_:=fun i hi st'=>by simp[hi,elP]
 ld:=fun i x hx H' K'=>by
  have hc:(pst st G K).cells (st.heap.length+k)=some (g,L.map DV.str):=by
   unfold St.cells;show (match (st.heap++G)[st.heap.length+k]? with | some (.cells g vs)=>some (g,vs) | _=>none)=_;rw[aat (by omega),Nat.add_sub_cancel_left,h]
  have hc':=rQ (H:=H') (K:=K') hc;show (match (pst (pst st G K) H' K').cells (st.heap.length+k) with | some (_,vs)=>takeN vs (0+i*1) 1 false | none=>none)=_;rw[hc'];simp[takeN,hx]
section
variable {st:St} {s:Sec}
theorem Le (B:List Bd) (hB:B.length≤100) (x1:HO) (K:List Nat) (c0:Nat):∀ (r d:List Bd) (J:List HO),B=d++r →
 ∃ J' fr,(E tab).C mI [(1,.ptr st.heap.length 0),(38,.list c0 4 .tight true (B.map Bd.dv)),(39,.int .i64 B.length),(40,.int .i64 d.length)] (pst st (x1::J) K) =
   some (match bF r with | none=>(.exit 0,(1,.ptr st.heap.length 0)::fr,pst st (x1::(J++J')) K) | some e=>(.ret,[(2,.int .i64 e)],pst st (x1::(J++J')) K)):=by
 intro r
 induction r with
 | nil=>
   intro d J hd;rw[aaE] at hd;subst hd;refine⟨[],[(38,.list c0 4 .tight true (B.map Bd.dv)),(39,.int .i64 B.length),(40,.int .i64 B.length),(41,.bool false)],?_⟩;rw[af (L:=mI) rfl];simp[oA,bF]
 | cons b r ih=>
   intro d J hd;have h0:d.length<B.length:=by simp[hd]
   have hg:B[d.length]=b:=by simp[hd]
   have hw:IntKind.i64.wrap ((d.length:Int)+1)=((d++[b]).length:Nat):=by rw[ar (by omega)];simp
   obtain⟨J',fr,hJ⟩:=ih (d++[b]) (J++[.cells .plain [.int .i64 b.1,.int .i64 b.2.1,.int .i64 b.2.2.1,.int .i64 b.2.2.2]]) (by simp[hd]);simp only[aah,aam] at hJ hw;simp only[bF];by_cases c1:b.1<b.2.1
   · refine⟨[.cells .plain [.int .i64 b.1,.int .i64 b.2.1,.int .i64 b.2.2.1,.int .i64 b.2.2.2]],[],?_⟩;rw[af (L:=mI) rfl];rw[if_pos (.inl c1)];simp[oA,h0,hg,Bd.dv,c1]
   · by_cases c2:b.2.2.1<b.1
     · refine⟨[.cells .plain [.int .i64 b.1,.int .i64 b.2.1,.int .i64 b.2.2.1,.int .i64 b.2.2.2]],[],?_⟩;rw[af (L:=mI) rfl];rw[if_pos (.inr c2)];simp[oA,h0,hg,Bd.dv,c1,c2]
     · refine⟨[.cells .plain [.int .i64 b.1,.int .i64 b.2.1,.int .i64 b.2.2.1,.int .i64 b.2.2.2]]++J',fr,?_⟩;rw[af (L:=mI) rfl];rw[if_neg (by omega)];simp at hJ;simp[oA,h0,hg,Bd.dv,c1,c2,hw];simpa[Bd.dv] using hJ
theorem iw (h:eD s):0≤s.gap*(s.aJ-1)∧s.gap*(s.aJ-1)≤28665 ∧ -36855≤cg s∧cg s≤4095:=by
 obtain⟨w,hh,top,bot,inn,out,gap,aJ,_,_,_⟩:=h;have h1:0≤s.gap*(s.aJ-1):=Int.mul_nonneg gap.1 (by omega);have h2:s.gap*(s.aJ-1)≤4095*7:=Int.mul_le_mul gap.2 (by omega) (by omega) (by omega);refine⟨h1,by omega,?_⟩;unfold cg;generalize s.gap*(s.aJ-1)=g at *
 have hq:((s.w-s.inn-s.out-g).tdiv s.aJ).natAbs≤(s.w-s.inn-s.out-g).natAbs:=by
  rw[Int.natAbs_tdiv];exact Nat.div_le_self _ _
 have hn:s.w-s.inn-s.out-g<0→(s.w-s.inn-s.out-g).tdiv s.aJ≤0:=by
  intro hx;have h3:0≤(-(s.w-s.inn-s.out-g)).tdiv s.aJ:=Int.tdiv_nonneg (by omega) (by omega);rw[Int.neg_tdiv] at h3;omega
 generalize (s.w-s.inn-s.out-g).tdiv s.aJ=q at *;by_cases hx:s.w-s.inn-s.out-g<0
 · have:=hn hx;omega
 · omega
theorem z9 (h:eD s):(E tab).F 475 [.agg s.cs] st=some (.int .i64 (cg s),st):=by
 rw[au Px rfl];have hl:=iw h;obtain⟨w,hh,top,bot,inn,out,gap,aJ,_,_,_⟩:=h;have w0:IntKind.i64.wrap (s.w-s.inn)=s.w-s.inn:=ar (by omega);have w1:IntKind.i64.wrap (s.w-s.inn-s.out)=s.w-s.inn-s.out:=ar (by omega);have w2:IntKind.i64.wrap (s.aJ-1)=s.aJ-1:=ar (by omega);have w3:IntKind.i64.wrap (s.gap*(s.aJ-1))=s.gap*(s.aJ-1):=ar (by omega);have w4:IntKind.i64.wrap (s.w-s.inn-s.out-s.gap*(s.aJ-1))=s.w-s.inn-s.out-s.gap*(s.aJ-1):=ar (by omega);have w5:IntKind.i64.wrap ((s.w-s.inn-s.out-s.gap*(s.aJ-1)).tdiv s.aJ)=cg s:=ar (by unfold cg at hl;omega);have hc:¬ s.aJ=0:=by omega
 simp[Ii,Sec.cs,w0,w1,w2,w3,w4,w5,hc]
theorem GI (h:eD s):(E tab).F 479 [.agg s.cs] st=some (.int .i64 (kG s),st):=by
 rw[au Ov rfl];obtain⟨w,hh,top,bot,inn,out,gap,aJ,_,_,_⟩:=h;have w0:IntKind.i64.wrap (s.h-s.top)=s.h-s.top:=ar (by omega);have w1:IntKind.i64.wrap (s.h-s.top-s.bot)=s.h-s.top-s.bot:=ar (by omega);simp[Gl,Sec.cs,w0,w1,kG]
theorem Ld {L:List (List UInt8)} {v:DV} (hv:RdS st L v) (hl:L.length≤100) (c0:DV) (H:List HO) (K:List Nat):∀ (r d:List (List UInt8)),L=d++r →
 ∃ fr,(E tab).C tu [(0,c0),(9,v),(10,.int .i64 L.length),(11,.int .i64 d.length)] (pst st H K) =
   some (if r.any (fun t=>decide (100<t.length)) then (.ret,[(2,.int .i64 3)],pst st H K) else (.exit 0,(0,c0)::fr,pst st H K)):=by
 intro r
 induction r with
 | nil=>
   intro d hd;rw[aaE] at hd;subst hd;refine⟨[(9,v),(10,.int .i64 L.length),(11,.int .i64 L.length),(12,.bool false)],?_⟩;rw[af (L:=tu) rfl];simp[tL]
 | cons x r ih=>
   intro d hd;have h0:d.length<L.length:=by simp[hd]
   have hg:L[d.length]? = some x:=by simp[hd]
   have a1:=hv.at_ d.length h0;have a2:=hv.ld d.length x hg H K;have hw:IntKind.i64.wrap ((d.length:Int)+1)=((d++[x]).length:Nat):=by rw[ar (by omega)];simp
   obtain⟨fr,hJ⟩:=ih (d++[x]) (by simp[hd]);refine⟨fr,?_⟩;rw[af (L:=tu) rfl];simp only[aah,aam] at hJ hw;by_cases c:100<x.length
   · have c':(100:Int)<x.length:=by omega
     simp[tL,h0,a1,a2,c,c']
   · have c':¬ (100:Int)<x.length:=by omega
     simp at hJ;simp[tL,h0,a1,a2,c,c',hw];simpa using hJ
theorem J7 {t:List UInt8} (hl:t.length≤100) (c19 c20 c21:DV) (S:St):∀ (r d:List UInt8),t=d++r →
 ∃ fr,(E tab).C tI [(6,.str t),(19,c19),(20,c20),(21,c21),(26,.int .i64 t.length),(27,.int .i64 d.length)] S =
   some (if r.all aT then (.exit 4,(6,.str t)::(19,c19)::(20,c20)::(21,c21)::fr,S) else (.ret,[(2,.int .i64 4)],S)):=by
 intro r
 induction r with
 | nil=>
   intro d hd;rw[aaE] at hd;subst hd;refine⟨[(26,.int .i64 t.length),(27,.int .i64 t.length),(28,.bool false)],?_⟩;rw[af (L:=tI) rfl];simp[mi]
 | cons c r ih=>
   intro d hd;have h0:d.length<t.length:=by simp[hd]
   have hg:t[d.length]=c:=by simp[hd]
   have hw:IntKind.i64.wrap ((d.length:Int)+1)=((d++[c]).length:Nat):=by rw[ar (by omega)];simp
   obtain⟨fr,hJ⟩:=ih (d++[c]) (by simp[hd]);refine⟨fr,?_⟩;rw[af (L:=tI) rfl];simp only[aah,aam] at hJ hw;by_cases h3:c=3
   · subst h3;have hb:aT 3=true:=by decide
     simp[mi,h0,hg,hb,hw];simpa using hJ
   have h3':¬ (c.toNat:Int)=3:=by
    intro e;apply h3;have:c.toNat=3:=by omega
    exact abn.1 (by simpa using this)
   have h3'':¬ c.toNat=3:=by omega
   by_cases h1:c.toNat<32
   · have hb:aT c=false:=by simp[aT,fh,h3];omega
     have h1':(c.toNat:Int)<32:=by omega
     simp[mi,h0,hg,h1,h1',hb,h3,h3',h3'']
   · have h1':¬ (c.toNat:Int)<32:=by omega
     by_cases h2:126<c.toNat
     · have hb:aT c=false:=by simp[aT,fh,h3];omega
       have h2':126<(c.toNat:Int):=by omega
       simp[mi,h0,hg,h1,h1',h2,h2',hb,h3,h3',h3'']
     · have hb:aT c=true:=by simp[aT,fh];right;omega
       have h2':¬ 126<(c.toNat:Int):=by omega
       simp[mi,h0,hg,h1,h1',h2,h2',hb,h3,h3',h3'',hw];simpa using hJ
theorem Ko {L:List (List UInt8)} {v:DV} (hv:RdS st L v) (hl:L.length≤100) (hs:∀ t∈L,t.length≤100) (H:List HO) (K:List Nat):∀ (r d:List (List UInt8)) (ex:Fr),L=d++r →
 ∃ fr,(E tab).C tn ((19,v)::(20,.int .i64 L.length)::(21,.int .i64 d.length)::ex) (pst st H K) =
   some (if r.all (fun t=>t.all aT) then (.exit 2,fr,pst st H K) else (.ret,[(2,.int .i64 4)],pst st H K)):=by
 intro r
 induction r with
 | nil=>
   intro d ex hd;rw[aaE] at hd;subst hd;refine⟨[(19,v),(20,.int .i64 L.length),(21,.int .i64 L.length),(22,.bool false)],?_⟩;rw[af (L:=tn) rfl];simp[sJ]
 | cons x r ih=>
   intro d ex hd;have h0:d.length<L.length:=by simp[hd]
   have hg:L[d.length]? = some x:=by simp[hd]
   have a1:=hv.at_ d.length h0;have a2:=hv.ld d.length x hg H K;have hw:IntKind.i64.wrap ((d.length:Int)+1)=((d++[x]).length:Nat):=by rw[ar (by omega)];simp
   obtain⟨fr1,hL⟩:=J7 (hs x (by rw[hd];simp)) v (.int .i64 L.length) (.int .i64 d.length) (pst st H K) x [] rfl;obtain⟨fr,hJ⟩:=ih (d++[x]) [] (by simp[hd]);refine⟨fr,?_⟩;rw[af (L:=tn) rfl];simp only[aah,aam,aaP] at hJ hw hL
   cases ha:x.all aT with
   | false=>
     rw[ha] at hL;simp at hL;simp[sJ,h0,a1,a2,ha,hL]
   | true=>
     rw[ha] at hL;simp at hL hJ;simp[sJ,h0,a1,a2,ha,hL,hw];simpa using hJ
theorem Dv {L:List (List UInt8)} {v:DV} (hv:RdS st L v) (hl:L.length≤100):(E tab).F 480 [v] st=some (.int .i64 (txE L),st):=by
 rw[au Ml rfl];have hn:=hv.len;obtain⟨fr0,hL0⟩:=Ld hv hl v [] [] L [] rfl;unfold txE
 cases ha:L.any (fun t=>decide (100<t.length)) with
 | true=>
   rw[ha] at hL0;simp at hL0;simp[AS,hn,hL0]
 | false=>
   rw[ha] at hL0
   have hs:∀ t∈L,t.length≤100:=by
    intro t ht;have:=List.any_eq_false.1 ha t ht;simpa using this
   obtain⟨fr,hL⟩:=Ko hv hl hs [] [] L [] [] rfl;simp at hL0
   cases hb:L.all (fun t=>t.all aT) with
   | true=>
     rw[hb] at hL;simp at hL;simp[AS,hn,hL0,hL]
   | false=>
     rw[hb] at hL;simp at hL;simp[AS,hn,hL0,hL]
theorem FN:(E tab).F 473 [.agg s.cs] st=some (.int .i64 (fp s),st):=by
 rw[au QF rfl];obtain⟨J',fr,hL⟩:=Le (st:=st) s.bs (by simp[Sec.bs]) (.cells .plain s.cs) [] st.cur s.bs [] [] rfl;unfold fp;simp only[aaP] at hL
 cases hb:bF s.bs with
 | some e=>
   rw[hb] at hL;simp[Sec.bs,Bd.dv,Sec.cs] at hL;simp[wI,Sec.cs,aw,aK,chunk,hL]
 | none=>
   rw[hb] at hL;have hok:=II hb;have h475:=fun st=>z9 (st:=st) hok;have h479:=fun st=>GI (st:=st) hok;have h480:=Dv (st:=pst st (.cells .plain s.cs::(J'++[.cells .grown (s.tx.map DV.str)])) []) (RdS.row (k:=J'.length+1) (g:=.grown) (L:=s.tx) (by simp)) (by simp[Sec.tx]);simp only;simp[Sec.bs,Bd.dv,Sec.cs] at hL;simp only[Sec.cs] at h475 h479;by_cases c1:cg s<10
   · rw[if_pos (.inl c1)];simp[wI,Sec.cs,aw,aK,chunk,hL,h475,c1]
   by_cases c2:kG s<20
   · rw[if_pos (.inr c2)];simp[wI,Sec.cs,aw,aK,chunk,hL,h475,h479,c1,c2]
   rw[if_neg (by omega)];simp[Sec.tx,Sec.cs] at h480;simp[wI,Sec.cs,aw,aK,chunk,hL,h475,h479,c1,c2,Sec.tx,aF,bE,bN,bM,aH,bL,cd,aD];simp[pst] at h480 ⊢;simp[h480]
def pgE (s:Sec) (n least:Int):Int:=if fp s≠0 then fp s else if n<least∨4096<n then 5 else 0
theorem tU (n least:Int):(E tab).F 466 [.agg s.cs,.int .i64 n,.int .i64 least] st=some (.int .i64 (pgE s n least),st):=by
 rw[au OQ rfl];have h:=fun st=>FN (st:=st) (s:=s);unfold pgE;simp only[Sec.cs] at h ⊢;by_cases c:fp s=0
 · by_cases c1:n<least
   · simp[xF,h,c,c1]
   by_cases c2:4096<n
   · simp[xF,h,c,c1,c2]
   simp[xF,h,c,c1,c2]
 · simp[xF,h,c]
def cI (s:Sec) (n:Int) (first:Bool):Int:=if first=true∧(s.h0≠[]∨s.t0≠[]) then 0 else if n.tmod 2=1 then 1 else 2
theorem oJ (n:Int) (first:Bool):(E tab).F 440 [.agg s.cs,.int .i64 n,.bool first] st=some (.tuple [.int .i64 (if pgE s n 1=0 then cI s n first else 0),.int .i64 (pgE s n 1)],st):=by
 rw[au OE rfl];have h:=fun st=>tU (st:=st) (s:=s) n 1;simp only[Sec.cs] at h ⊢;by_cases c:pgE s n 1=0
 · cases first with
   | false=>
     by_cases c3:n.tmod 2=1
     · simp[qB,h,c,c3,cI]
     · simp[qB,h,c,c3,cI]
   | true=>
     by_cases c1:s.h0=[]
     · have c1':s.h0.isEmpty=true:=by simpa using c1
       by_cases c2:s.t0=[]
       · have c2':s.t0.isEmpty=true:=by simpa using c2
         by_cases c3:n.tmod 2=1
         · have hv:cI s n true=1:=by unfold cI;simp[c1,c2,c3]
           rw[hv];simp[-List.isEmpty_iff,qB,h,c,c1',c2',c3]
         · have hv:cI s n true=2:=by unfold cI;simp[c1,c2,c3]
           rw[hv];simp[-List.isEmpty_iff,qB,h,c,c1',c2',c3]
       · have c2':s.t0.isEmpty=false:=by simpa using c2
         have hv:cI s n true=0:=by unfold cI;simp[c2]
         rw[hv];simp[-List.isEmpty_iff,qB,h,c,c1',c2',c2]
     · have c1':s.h0.isEmpty=false:=by simpa using c1
       have hv:cI s n true=0:=by unfold cI;simp[c1]
       rw[hv];simp[qB,h,c,c1,c1']
 · simp[qB,h,c]
def oQ (s:Sec) (n:Int):Int:=if s.mir=1∧n.tmod 2=0 then s.out else s.inn
theorem HT (n:Int):(E tab).F 474 [.agg s.cs,.int .i64 n] st=some (.int .i64 (oQ s n),st):=by
 rw[au P4 rfl];unfold oQ;by_cases c:s.mir=1
 · by_cases c2:n.tmod 2=0
   · simp[BU,Sec.cs,c,c2]
   · simp[BU,Sec.cs,c,c2]
 · simp[BU,Sec.cs,c]
structure Rc where
 x:Int
 y:Int
 w:Int
 h:Int
def Rc.cs (r:Rc):List DV:=[.int .i64 r.x,.int .i64 r.y,.int .i64 r.w,.int .i64 r.h]
def ma (s:Sec):Int:=cg s*s.aJ+s.gap*(s.aJ-1)
theorem ze (h:eD s):-400000≤cg s*s.aJ∧cg s*s.aJ≤400000:=by
 have hl:=iw h;obtain⟨w,hh,top,bot,inn,out,gap,aJ,_,_,_⟩:=h;have h1:cg s*s.aJ≤4095*s.aJ:=Int.mul_le_mul_of_nonneg_right hl.2.2.2 (by omega);have h2:-36855*s.aJ≤cg s*s.aJ:=Int.mul_le_mul_of_nonneg_right hl.2.2.1 (by omega);omega
theorem q7 (h:eD s) (n y z:Int):(E tab).F 467 [.agg s.cs,.int .i64 n,.int .i64 y,.int .i64 z] st=some (.agg (⟨oQ s n,y,ma s,z⟩:Rc).cs,st):=by
 rw[au NC rfl];have hl:=iw h;have hsp:=ze h;have h474:=fun st=>HT (st:=st) (s:=s) n;have h475:=fun st=>z9 (st:=st) h;obtain⟨w,hh,top,bot,inn,out,gap,aJ,_,_,_⟩:=h;have w1:IntKind.i64.wrap (cg s*s.aJ)=cg s*s.aJ:=ar (by omega);have w2:IntKind.i64.wrap (s.aJ-1)=s.aJ-1:=ar (by omega);have w3:IntKind.i64.wrap (s.gap*(s.aJ-1))=s.gap*(s.aJ-1):=ar (by omega);have w4:IntKind.i64.wrap (cg s*s.aJ+s.gap*(s.aJ-1))=ma s:=ar (by omega);simp only[Sec.cs] at h474 h475 ⊢;simp[Ge,aF,bE,bN,bM,aH,h474,h475,w1,w2,w3,w4,Rc.cs]
theorem uc {n:Int} (h:pgE s n 1=0):eD s∧fp s=0∧1≤n∧n≤4096:=by
 unfold pgE at h;split at h
 · rename_i h1;exact absurd h h1
 · rename_i h1;split at h
   · omega
   · rename_i h2;have h1:fp s=0:=by simpa using h1
     refine⟨?_,h1,by omega⟩;unfold fp at h1
     cases hb:bF s.bs with
     | none=>exact II hb
     | some e=>
       rw[hb] at h1;rcases zZ hb with rfl | rfl<;>cases h1
def eJ (s:Sec) (n:Int):Rc:=⟨oQ s n,s.top.tdiv 2,ma s,s.top-s.top.tdiv 2⟩
def fe (s:Sec) (n:Int):Rc:=⟨oQ s n,s.h-s.bot,ma s,s.bot.tdiv 2⟩
theorem Hw {n:Int} (h:pgE s n 1=0):(E tab).F 441 [.agg s.cs,.int .i64 n] st=some (.tuple [.agg (eJ s n).cs,.int .i64 0],st):=by
 rw[au Rp rfl];obtain⟨hok,_⟩:=uc h;have h466:=fun st=>tU (st:=st) (s:=s) n 1;have h467:=fun st=>q7 (st:=st) hok n (s.top.tdiv 2) (s.top-s.top.tdiv 2);obtain⟨w,hh,top,bot,inn,out,gap,aJ,_,_,_⟩:=hok;have ht:0≤s.top.tdiv 2∧s.top.tdiv 2≤s.top:=by rw[aau top.1];omega
 have w1:IntKind.i64.wrap (s.top.tdiv 2)=s.top.tdiv 2:=ar (by omega);have w2:IntKind.i64.wrap (s.top-s.top.tdiv 2)=s.top-s.top.tdiv 2:=ar (by omega);rw[h] at h466;simp only[Sec.cs,Rc.cs] at h466 h467 ⊢;simp[Hp,h466,h467,w1,w2,eJ]
theorem H5 {n:Int} (h:pgE s n 1=0):(E tab).F 442 [.agg s.cs,.int .i64 n] st=some (.tuple [.agg (fe s n).cs,.int .i64 0],st):=by
 rw[au NN rfl];obtain⟨hok,_⟩:=uc h;have h466:=fun st=>tU (st:=st) (s:=s) n 1;have h467:=fun st=>q7 (st:=st) hok n (s.h-s.bot) (s.bot.tdiv 2);obtain⟨w,hh,top,bot,inn,out,gap,aJ,_,_,_⟩:=hok;have ht:0≤s.bot.tdiv 2∧s.bot.tdiv 2≤s.bot:=by rw[aau bot.1];omega
 have w1:IntKind.i64.wrap (s.bot.tdiv 2)=s.bot.tdiv 2:=ar (by omega);have w2:IntKind.i64.wrap (s.h-s.bot)=s.h-s.bot:=ar (by omega);rw[h] at h466;simp only[Sec.cs,Rc.cs] at h466 h467 ⊢;simp[Ie,h466,h467,w1,w2,fe]
end
theorem Lw.sc {n:Nat} {xs:List DV} {u:DV} (h:Lw n xs u):u.leaves=[u]∧u.bp=true:=by cases h;exact⟨rfl,rfl⟩
theorem Im:tab 414=some (.code C0):=by kernel_rfl
theorem OX:tab 416=some (.code rS):=by kernel_rfl
theorem Od:tab 438=some (.code BD):=by kernel_rfl
theorem IJ:tab 439=some (.code D5):=by kernel_rfl
theorem Rw:tab 443=some (.code DO):=by kernel_rfl
theorem N9:tab 445=some (.code Cw):=by kernel_rfl
theorem IX:tab 446=some (.code Bv):=by kernel_rfl
def bl (d:List UInt8):List UInt8→List UInt8
 | []=>[]
 | c::r=>(if c=3 then d else [c])++bl d r
theorem kq (d:List UInt8):∀ a b:List UInt8,bl d (a++b)=bl d a++bl d b
 | [],b=>rfl
 | c::a,b=>by simp only[aaF,bl,kq d a b,aas]
theorem gA {d:List UInt8} (hd:d.length≤5):∀ s:List UInt8,(bl d s).length≤5*s.length
 | []=>by simp[bl]
 | c::r=>by
   have:=gA hd r;simp only[bl,aah,aax];split<;>simp<;>omega
theorem oZ:∀ (f n:Nat),(iT f n).length≤f
 | 0,_=>by simp[iT]
 | f+1,n=>by
   have:=oZ f (n/10);simp only[iT];split<;>simp<;>omega
theorem fU (n:Nat):(bY n).length≤5:=oZ 5 n
theorem HX:∀ (f n:Nat),iT (f+1) n≠[]
 | f,n=>by
   simp only[iT];split<;>simp
theorem Gx (n:Nat):bY n≠[]:=HX 4 n
section
variable {st:St}
theorem Lj {s:List UInt8} (hs:s.length≤100) {n:Nat} (hn:n<4224) (c0:Nat) (K:List Nat):∀ (r d:List UInt8) (H:List HO),s=d++r→SB st.heap.length H 0 (bl (bY n) d) →
 ∃ H' fr,(E tab).C o9 [(1,.int .i64 n),(5,.ptr st.heap.length 0),(9,.list c0 1 .no true (s.map fun b=>.int .u8 b.toNat)),(10,.int .i64 s.length),(11,.int .i64 d.length)] (pst st H K) =
   some (.exit 0,(1,.int .i64 n)::(5,.ptr st.heap.length 0)::fr,pst st H' K)∧SB st.heap.length H' 0 (bl (bY n) s):=by
 intro r
 induction r with
 | nil=>
   intro d H hd hS;rw[aaE] at hd;subst hd;refine⟨H,[(9,.list c0 1 .no true (s.map fun b=>.int .u8 b.toNat)),(10,.int .i64 s.length),(11,.int .i64 s.length),(12,.bool false)],?_,hS⟩;rw[af (L:=o9) rfl];simp[tD]
 | cons c r ih=>
   intro d H hd hS;have h0:d.length<s.length:=by simp[hd]
   have hg:s[d.length]=c:=by simp[hd]
   have hw:IntKind.i64.wrap ((d.length:Int)+1)=((d++[c]).length:Nat):=by rw[ar (by omega)];simp
   have hfl:=gA (fU n) d;have hdl:=fU n;by_cases h3:c=3
   · subst h3;obtain⟨H1,hW,hS1,_⟩:=FG (K:=K) hS (bY n) (Gx n) (by omega);have hi:=fun st=>Ca hn st;have e:bl (bY n) (d++[3])=bl (bY n) d++bY n:=by rw[kq];simp[bl]
     obtain⟨H',fr,hJ,hR⟩:=ih (d++[3]) H1 (by simp[hd]) (by rw[e];exact hS1);refine⟨H',fr,?_,hR⟩;rw[af (L:=o9) rfl];simp only[aah,aam] at hJ hw;simp at hJ hW;simp[tD,h0,hg,hi,hW,hw,hJ]
   · have h3':¬ (c.toNat:Int)=3:=by
      intro e;apply h3;have:c.toNat=3:=by omega
      exact abn.1 (by simpa using this)
     have h3'':¬ c.toNat=3:=by omega
     obtain⟨H1,hW,hS1,_⟩:=Gt (K:=K) hS c (by omega);have e:bl (bY n) (d++[c])=bl (bY n) d++[c]:=by rw[kq];simp[bl,h3]
     obtain⟨H',fr,hJ,hR⟩:=ih (d++[c]) H1 (by simp[hd]) (by rw[e];exact hS1);refine⟨H',fr,?_,hR⟩;rw[af (L:=o9) rfl];simp only[aah,aam] at hJ hw;simp at hJ hW;simp[tD,h0,hg,h3,h3',h3'',hW,hw,hJ]
theorem rB {s:List UInt8} (hs:s.length≤100) {n:Nat} (hn:n<4224):(E tab).F 439 [.str s,.int .i64 n] st=some (.str (bl (bY n) s),st):=by
 rw[au IJ rfl];obtain⟨H',fr,hL,hS⟩:=Lj (st:=st) hs hn st.cur [] s [] [.cells (.typed 75) [.b5,.list 0 0 .no false []]] rfl (Q9 st.heap.length []);have hfl:=gA (fU n) s;have h465:=Bb (K:=[]) hS (by omega);simp at hL h465;simp[D5,hL,h465]
def cl:bC:=⟨8,10,3,0,0,0,0,0,0,0,1,1,0,0,0,0,0⟩
theorem FX (s:List UInt8):(E tab).F 446 [.str s] st=some (.agg (ah (gP cl s) (gW st s) ⟨0,0,.no,false⟩),st):=by
 rw[au IX rfl];by_cases h:s=[]
 · subst h;simp[Bv,ah,gP,gW,cl,bC.cs,LW.dv]
 · have h2:s.isEmpty=false:=by simpa using h
   simp[Bv,h,h2,ah,gP,gW,cl,bC.cs,LW.dv,Span.dv,Span.cs,aw,aK,chunk]
theorem B4 (c:UInt8):(E tab).F 438 [.int .u8 c.toNat] st=some (.bool (fh c),st):=by
 rw[au Od rfl];unfold fh;by_cases h:32≤c.toNat
 · have h':(32:Int)≤c.toNat:=by omega
   by_cases h2:c.toNat≤126
   · have h2':(c.toNat:Int)≤126:=by omega
     simp[BD,h,h',h2,h2']
   · have h2':¬ (c.toNat:Int)≤126:=by omega
     simp[BD,h,h',h2,h2']
 · have h':¬ (32:Int)≤c.toNat:=by omega
   simp[BD,h,h']
def pF (x:Int):Bool:=decide (0≤x)&&decide (x≤4095)
theorem BR (x:Int):(E tab).F 445 [.int .i64 x] st=some (.bool (pF x),st):=by
 rw[au N9 rfl];unfold pF;by_cases h:0≤x
 · simp[Cw,h]
 · simp[Cw,h]
theorem J4 {s:List UInt8} (hs:s.length≤4096) (c0:Nat) (c3:DV) (H:List HO) (K:List Nat):∀ (r d:List UInt8),s=d++r →
 ∃ fr,(E tab).C sf [(0,.str s),(3,c3),(16,.list c0 1 .no true (s.map fun b=>.int .u8 b.toNat)),(17,.int .i64 s.length),(18,.int .i64 d.length)] (pst st H K) =
   some (if r.all fh then (.exit 0,(0,.str s)::(3,c3)::fr,pst st H K) else (.ret,[(4,.list 0 0 .no false []),(5,.bool false),(6,.int .i64 4)],pst st H K)):=by
 intro r
 induction r with
 | nil=>
   intro d hd;rw[aaE] at hd;subst hd;refine⟨[(16,.list c0 1 .no true (s.map fun b=>.int .u8 b.toNat)),(17,.int .i64 s.length),(18,.int .i64 s.length),(19,.bool false)],?_⟩;rw[af (L:=sf) rfl];simp[sE]
 | cons c r ih=>
   intro d hd;have h0:d.length<s.length:=by simp[hd]
   have hg:s[d.length]=c:=by simp[hd]
   have hw:IntKind.i64.wrap ((d.length:Int)+1)=((d++[c]).length:Nat):=by rw[ar (by omega)];simp
   have h438:=fun st=>B4 (st:=st) c;obtain⟨fr,hJ⟩:=ih (d++[c]) (by simp[hd]);refine⟨fr,?_⟩;rw[af (L:=sf) rfl];simp only[aah,aam] at hJ hw
   cases hb:fh c with
   | false=>simp[sE,h0,hg,h438,hb]
   | true=>
     simp at hJ;simp[sE,h0,hg,h438,hb,hw];simpa using hJ
def jI (s:List UInt8) (r:Rc):Int:=if 4096<s.length then 3 else if s.all fh then (if pF r.w&&pF r.h then 0 else 5) else 4
def gq (s:List UInt8) (w:Int):List Ln:=if iy (gP cl s) [] ⟨0,w⟩=0 then jP (gP cl s) [] ⟨0,w⟩ else []
def pP (s:List UInt8) (r:Rc):List Ln:=if jI s r=0∧s≠[] then (gq s r.w).take (min (gq s r.w).length (r.h.toNat/10)) else []
def mT (s:List UInt8) (r:Rc):Bool:=if jI s r=0∧s≠[] then decide (min (gq s r.w).length (r.h.toNat/10)<(gq s r.w).length) else false
theorem kK:Lw 7 (([]:List Ln).map Ln.dv) (.list 0 0 .no false []):=.list _ _ _ _ (fun h=>by cases h) (fun _=>rfl)
theorem pH (s:List UInt8) (w:Int):(gq s w).length≤8193:=by
 unfold gq;split
 · rename_i h;unfold iy at h;split at h
   · rename_i h2;exact absurd h h2
   · rename_i h2;have h0:ax (gP cl s)=0:=by simpa using h2
     have e:(jP (gP cl s) [] ⟨0,w⟩).length=(jr (gP cl s) [] ⟨0,w⟩).length:=rG _ _ _ _ _ _ _;rw[e,yu h0 h];exact(mQ _ _).2.2
 · simp
theorem FW {n:Nat} {xs:List DV} {u:DV} (h:Lw n xs u) {m:Nat} (hm:m≤xs.length) (k k':IntKind):∃ u',bS false n u none (some (.int k m)) (some (.int k' m))=some u'∧Lw n (xs.take m) u'∧∀ st st',bP st st' u'=some u':=by
 cases h with
 | list t n' tk nn h1 h2=>
   refine⟨.list t n' .tight nn (xs.take m),?_,.list _ _ _ _ h1 fun e=>by rw[h2 e];simp,fun _ _=>by simp⟩;have hb:¬ (nn=true∧n'≠n):=fun ⟨a,b⟩=>b (h1 a);simp only[bS];rw[if_neg hb];have b1:bnd (.int k' m) xs.length=some m:=by simp[bnd,hm]
   have b2:bnd (.int k m) m=some m:=by simp[bnd]
   simp[b1,b2]
theorem Lb (s:List UInt8) (r:Rc):∃ v,(E tab).F 416 [.str s,.agg r.cs] st=some (.tuple [v,.bool (mT s r),.int .i64 (jI s r)],st)∧Lw 7 ((pP s r).map Ln.dv) v:=by
 rw[au OX rfl];have h445:=fun x st=>BR (st:=st) x;unfold mT pP;by_cases h1:4096<s.length
 · have h1':(4096:Int)<s.length:=by omega
   have e:jI s r=3:=by unfold jI;rw[if_pos h1]
   rw[e];refine⟨_,?_,kK⟩;simp[rS,h1,h1',Rc.cs]
 have h1':¬ (4096:Int)<s.length:=by omega
 obtain⟨fr,hL⟩:=J4 (st:=st) (s:=s) (by omega) st.cur (.ptr st.heap.length 0) [.cells .plain r.cs] [] s [] rfl;simp only[aaP] at hL
 cases ha:s.all fh with
 | false=>
   rw[ha] at hL;have e:jI s r=4:=by unfold jI;rw[if_neg h1,ha];rfl
   rw[e];refine⟨_,?_,kK⟩;simp[Rc.cs] at hL;simp[rS,h1,h1',Rc.cs,hL]
 | true=>
   rw[ha] at hL
   cases hw:pF r.w with
   | false=>
     have e:jI s r=5:=by unfold jI;rw[if_neg h1,ha,hw];rfl
     rw[e];refine⟨_,?_,kK⟩;simp[Rc.cs] at hL;simp[rS,h1,h1',Rc.cs,hL,h445,hw]
   | true=>
   cases hh:pF r.h with
   | false=>
     have e:jI s r=5:=by unfold jI;rw[if_neg h1,ha,hw,hh];rfl
     rw[e];refine⟨_,?_,kK⟩;simp[Rc.cs] at hL;simp[rS,h1,h1',Rc.cs,hL,h445,hw,hh]
   | true=>
     have e:jI s r=0:=by unfold jI;rw[if_neg h1,ha,hw,hh];rfl
     rw[e];by_cases hs:s=[]
     · subst hs;refine⟨_,?_,kK⟩;simp[Rc.cs] at hL;simp[rS,Rc.cs,hL,h445,hw,hh]
     · have hs2:s.isEmpty=false:=by simpa using hs
       rw[if_pos ⟨rfl,hs⟩,if_pos ⟨rfl,hs⟩];have h446:=FX (st:=pst st [.cells .plain r.cs] []) s;rw[show gW (pst st [.cells .plain r.cs] []) s=gW st s from rfl] at h446;obtain⟨vl,h307,hvl⟩:=Ku (st:=pst st [.cells .plain r.cs] []) (p:=gP cl s) (w:=gW st s) (u:=⟨0,0,.no,false⟩) (sl:=[]) (sv:=.list 0 0 .no false []) (rest:=⟨0,r.w⟩) rfl (wc _ _) (I4 _ _ _) (Ik _ _) (by simp[gP,cl]) (.list _ _ _ _ (fun h=>by cases h) (fun _=>rfl));rw[show (if iy (gP cl s) [] ⟨0,r.w⟩=0 then jP (gP cl s) [] ⟨0,r.w⟩ else [])=gq s r.w from rfl] at hvl;have hlen:=pH s r.w;have hln:=fun st'=>(hvl.vw (st:=st) (ag:=true)).len st';simp only[aaM] at hln;have hh2:0≤r.h∧r.h≤4095:=by simpa[pF] using hh
       have wq:IntKind.i64.wrap (r.h.tdiv 10)=((r.h.toNat/10:Nat):Int):=by
        rw[aau hh2.1,ar (by omega)];omega
       have hmin:fg j4 [.int .i64 ((gq s r.w).length:Int),.int .i64 ((r.h.toNat/10:Nat):Int)]=some (.int .i64 ((min (gq s r.w).length (r.h.toNat/10):Nat):Int)):=by
        rw[u0];congr 2;omega
       obtain⟨u',hsl,hu',hex⟩:=FW hvl (m:=min (gq s r.w).length (r.h.toNat/10)) (by simp;omega) .i64 .i64;rw[← List.map_take] at hu';refine⟨u',?_,hu'⟩
       have hdec:decide (((min (gq s r.w).length (r.h.toNat/10):Nat):Int)<((gq s r.w).length:Int))=decide (min (gq s r.w).length (r.h.toNat/10)<(gq s r.w).length):=by
        apply decide_eq_decide.2;omega
       have hsc:=Lw.sc hu';generalize (gq s r.w).length=FL at *;generalize r.h.toNat/10=q at *;generalize iy (gP cl s) [] ⟨0,r.w⟩=EE at *;generalize min FL q=mn at *;clear hvl;generalize ah (gP cl s) (gW st s) ⟨0,0,.no,false⟩=PC at *;simp only[Sl.dv,Sl.cs,Rc.cs] at hL h446 h307 ⊢;simp at hL;simp[rS,h1,h1',hL,h445,hw,hh,hs,hs2,aF,bE,bN,bM,aH,h446,h307,hln,wq,hmin,hsl,hdec,hex,cY IX,show Bv.dh=true from rfl,cY Iu,show f307.dh=true from rfl]
end
def hdS (s:Sec) (v:Int):List UInt8:=if v=0 then s.h0 else if v=1 then s.h1 else s.h2
def ftS (s:Sec) (v:Int):List UInt8:=if v=0 then s.t0 else if v=1 then s.t1 else s.t2
def cQ (hd ft:List UInt8) (a b:Rc) (va vb:DV) (c:Bool):List DV:=[.str hd,.str ft,.int .i64 a.x,.int .i64 a.y,.int .i64 a.w,.int .i64 a.h,.int .i64 b.x,.int .i64 b.y,.int .i64 b.w,.int .i64 b.h,va,vb,.bool c]
theorem vP {s:Sec} (h:fp s=0) {t:List UInt8} (ht:t∈s.tx):t.length≤100∧t.all aT=true:=by
 unfold fp at h
 cases hb:bF s.bs with
 | some e=>rw[hb] at h;rcases zZ hb with rfl | rfl<;>cases h
 | none=>
   rw[hb] at h;simp only at h;split at h
   · omega
   · unfold txE at h;split at h
     · omega
     · rename_i h2;split at h
       · rename_i h3;refine⟨?_,aaf.1 h3 t ht⟩;exact aaY fun hc=>h2 (List.any_eq_true.2 ⟨t,ht,by simp;omega⟩)
       · omega
theorem yC (s:Sec) (v:Int):hdS s v∈s.tx∧ftS s v∈s.tx:=by
 unfold hdS ftS Sec.tx;split
 · simp
 · split<;>simp
def exV:DV→DV
 | .list t n tk nn xs=>.list t n (lU tk) nn xs
 | v=>v
theorem rV {n:Nat} {xs:List DV} {w:DV} (h:Lw n xs w) (st st':St):aV st st' w=some (exV w):=by
 cases h with
 | list t n' tk nn h1 h2=>exact exl st st' t n' tk nn xs
theorem pK {n:Nat} {xs:List DV} {w:DV} (h:Lw n xs w):Lw n xs (exV w):=by
 cases h with
 | list t n' tk nn h1 h2=>exact .list _ _ _ _ h1 h2
section
variable {st:St} {s:Sec}
theorem E5 {H:List HO} {K:List Nat} {k:Nat} {hd ft:List UInt8} {a b:Rc} {va vb:DV} {c:Bool} (h:rowAt H k=some (.plain,cQ hd ft a b va vb c)) (t:List UInt8) (r:Rc) :
 ∃ v J,(E tab).F 443 [.str t,.agg r.cs,.ptr (st.heap.length+k) 0] (pst st H K)=some (v,pst st (H.set k (.cells .plain (cQ hd ft a b va vb (c||mT t r)))++J) K)∧Lw 7 ((pP t r).map Ln.dv) v:=by
 have hk:=lJ h;obtain⟨v,h416,hv⟩:=Lb (st:=pst st (H++[.cells .plain r.cs]) K) t r;refine⟨v,[.cells .plain r.cs],?_,hv⟩;rw[fq Rw rfl];have h0:=fun X=>jK h X;have hset:∀ o,(H++[HO.cells .plain r.cs]).set k o=H.set k o++[.cells .plain r.cs]:=fun o=>List.set_append_left _ _ hk;simp only[cQ,Rc.cs] at h0 hset h416 ⊢
 cases c with
 | false=>simp[DO,h416,h0,hset]
 | true=>simp[DO,h416,h0,hset]
def lg (s:Sec) (n:Nat) (first:Bool) (va vb:DV):List DV:=
 cQ (bl (bY n) (hdS s (cI s n first))) (bl (bY n) (ftS s (cI s n first))) (eJ s n) (fe s n) va vb (mT (bl (bY n) (hdS s (cI s n first))) (eJ s n)||mT (bl (bY n) (ftS s (cI s n first))) (fe s n))
theorem zN (n:Int) (first:Bool):cI s n first=0∨cI s n first=1∨cI s n first=2:=by
 unfold cI;split
 · exact .inl rfl
 · split<;>simp
theorem Bk (n:Int) (first:Bool) (h:pgE s n 1≠0):(E tab).F 414 [.agg s.cs,.int .i64 n,.bool first] st=some (.tuple [.agg (cQ [] [] ⟨0,0,0,0⟩ ⟨0,0,0,0⟩ (.list 0 0 .no false []) (.list 0 0 .no false []) false),.int .i64 (pgE s n 1)],st):=by
 rw[au Im rfl];have h440:=fun st=>oJ (st:=st) (s:=s) n first;rw[if_neg h] at h440;simp only[Sec.cs] at h440 ⊢;simp[C0,h440,h,cQ]
theorem ME {n:Nat} (first:Bool) (h:pgE s n 1=0):∃ va vb,(E tab).F 414 [.agg s.cs,.int .i64 n,.bool first] st=some (.tuple [.agg (lg s n first va vb),.int .i64 0],st) ∧
 Lw 7 ((pP (bl (bY n) (hdS s (cI s n first))) (eJ s n)).map Ln.dv) va∧Lw 7 ((pP (bl (bY n) (ftS s (cI s n first))) (fe s n)).map Ln.dv) vb:=by
 obtain⟨hok,hs0,hn1,hn2⟩:=uc h;have h440:=fun st=>oJ (st:=st) (s:=s) n first;rw[h,if_pos rfl] at h440;have hv:=zN (s:=s) n first;have hm:=yC s (cI s n first);have h439a:=fun st=>rB (st:=st) (vP hs0 hm.1).1 (n:=n) (by omega);have h439b:=fun st=>rB (st:=st) (vP hs0 hm.2).1 (n:=n) (by omega);have h441:=fun st=>Hw (st:=st) h;have h442:=fun st=>H5 (st:=st) h
 have hha:([s.h0,s.h1,s.h2,s.t0,s.t1,s.t2].map DV.str)[(cI s n first).toNat]? = some (.str (hdS s (cI s n first))):=by
  unfold hdS;rcases hv with e | e | e<;>rw[e]<;>rfl
 have hhb:([s.h0,s.h1,s.h2,s.t0,s.t1,s.t2].map DV.str)[3+(cI s n first).toNat]? = some (.str (ftS s (cI s n first))):=by
  unfold ftS;rcases hv with e | e | e<;>rw[e]<;>rfl
 unfold lg;generalize hA:hdS s (cI s n first)=A at *;generalize hB:ftS s (cI s n first)=B at *;generalize bl (bY n) A=FA at *;generalize bl (bY n) B=FB at *;obtain⟨va,J1,hL1,hva⟩:=E5 (st:=st) (K:=[]) (k:=2) (H:=[.cells .plain s.cs,.cells .plain [.str [],.str [],.int .i64 0,.int .i64 0,.int .i64 0,.int .i64 0,.int .i64 0,.int .i64 0,.int .i64 0,.int .i64 0,.list 0 0 .no false [],.list 0 0 .no false [],.bool false],.cells .plain (cQ FA FB (eJ s n) (fe s n) (.list 0 0 .no false []) (.list 0 0 .no false []) false)]) rfl FA (eJ s n);have hsa:=Lw.sc hva;obtain⟨vb,J2,hL2,hvb⟩:=E5 (st:=st) (K:=[]) (k:=2) (H:=[.cells .plain s.cs,.cells .plain [.str [],.str [],.int .i64 0,.int .i64 0,.int .i64 0,.int .i64 0,.int .i64 0,.int .i64 0,.int .i64 0,.int .i64 0,.list 0 0 .no false [],.list 0 0 .no false [],.bool false],.cells .plain (cQ FA FB (eJ s n) (fe s n) va (.list 0 0 .no false []) (false||mT FA (eJ s n)))]++J1) rfl FB (fe s n);have hsb:=Lw.sc hvb;refine⟨exV va,exV vb,?_,pK hva,pK hvb⟩;have hea:=rV hva;have heb:=rV hvb;rw[au Im rfl];simp only[Sec.cs,Rc.cs,cQ] at h440 h441 h442 hL1 hL2 ⊢;rcases hv with e | e | e
 all_goals
  rw[e] at h440 hha hhb;simp at hha hhb;subst hha hhb;simp at hL1 hL2;simp[C0,dE,h440,aF,bE,bN,bM,aH,h439a,h439b,h441,h442,hL1,hL2,hsa,hsb,hea,heb,cY IJ,show D5.dh=true from rfl]
end
end Go.D.Tab
end
section
namespace Go.D.Tab
theorem QZ:tab 347=some (.code yg):=by kernel_rfl
theorem Iq:tab 328=some (.code yp):=by kernel_rfl
theorem Mz:tab 333=some (.code Bw):=by kernel_rfl
theorem Q2:tab 339=some (.code AD):=by kernel_rfl
theorem Mb:tab 341=some (.code Ff):=by kernel_rfl
theorem Qh:tab 327=some (.code AT):=by kernel_rfl
theorem DS (s:Sl) (st:St):(E tab).F 347 [s.dv] st=some (.bool (hI s),st):=by
 rw[au QZ rfl];unfold hI bm;by_cases h1:0≤s.x
 · by_cases h2:s.x≤4095
   · by_cases h3:0≤s.w
     · simp[yg,Sl.dv,Sl.cs,h1,h2,h3]
     · simp[yg,Sl.dv,Sl.cs,h1,h2,h3]
   · simp[yg,Sl.dv,Sl.cs,h1,h2]
 · simp[yg,Sl.dv,Sl.cs,h1]
section
variable {st:St} {l:List It} {v:DV} {sl:List Sl} {sv:DV} {rest:Sl}
theorem sB (hv:Sls st sl sv) (n:Int):(E tab).F 328 [sv,rest.dv,.int .i64 n] st=some ((aS sl rest n).dv,st):=by
 rw[au Iq rfl];have e0:=fun st'=>tV hv st';unfold aS lV;by_cases h1:n<0
 · simp[yp,Sl.dv,Sl.cs,h1]
 · obtain⟨n,rfl⟩:=aaK (show 0≤n by omega);by_cases h2:n<sl.length
   · have hx:sl[n]? = some sl[n]:=aaa h2;have e1:=fun st'=>Fg hv h2 .i64 st';have e2:=fun H K=>uz hv hx H K;simp only[Sl.dv,Sl.cs] at e2;simp[yp,Sl.dv,Sl.cs,e0,h2,e1,e2]
   · simp[yp,Sl.dv,Sl.cs,e0,h2]
theorem JQ (hv:Sls st sl sv) (hl:sl.length≤256) (y3:DV) (H:List HO) (K:List Nat):∀ (r d:List Sl),sl=d++r →
 ∃ fr,(E tab).C oe [(0,sv),(3,y3),(5,.int .i64 d.length)] (pst st H K) =
   some (if r.all hI then (.exit 0,[(0,sv),(3,y3)]++fr,pst st H K) else (.ret,[(4,.int .i64 2)],pst st H K)):=by
 have e0:=fun st'=>tV hv st';intro r
 induction r with
 | nil=>
   intro d hd;refine⟨[(5,.int .i64 sl.length),(12,.bool false)],?_⟩;rw[af (L:=oe) rfl];simp[s4,e0,hd]
 | cons x r ih=>
   intro d hd;have h0:d.length<sl.length:=by simp[hd]
   have hx:sl[d.length]? = some x:=by simp[hd]
   have e1:=fun st'=>Fg hv h0 .i64 st';have e2:=fun H K=>uz hv hx H K;have hw1:IntKind.i64.wrap ((d.length:Int)+1)=((d++[x]).length:Nat):=by rw[ar (by omega)];simp
   have e3:=fun st=>DS x st;simp only[Sl.dv,Sl.cs] at e2 e3;rw[aa3]
   cases hm:hI x with
   | false=>
     rw[hm] at e3;refine⟨[],?_⟩;rw[af (L:=oe) rfl];simp[s4,e0,h0,e1,e2,e3]
   | true=>
     rw[hm] at e3;obtain⟨fr,hJ⟩:=ih (d++[x]) (by simp[hd]);refine⟨fr,?_⟩;rw[Bool.true_and];generalize r.all hI=b at hJ ⊢;simp only[aah,aam] at hJ hw1;simp at hJ;rw[af (L:=oe) rfl];simp[s4,e0,h0,e1,e2,e3,hw1,hJ]
theorem Fu (hv:Sls st sl sv):(E tab).F 333 [sv,rest.dv] st=some (.int .i64 (c9 sl rest),st):=by
 rw[au Mz rfl];have e0:=fun st'=>tV hv st';unfold c9;by_cases h:256<sl.length
 · have h':(256:Int)<sl.length:=by omega
   simp[Bw,Sl.dv,Sl.cs,e0,h,h']
 have h':¬ (256:Int)<sl.length:=by omega
 obtain⟨fr,hL⟩:=JQ hv (by omega) (.ptr st.heap.length 0) [.cells .plain rest.cs] [] sl [] rfl;have e3:=fun st=>DS rest st;simp only[Sl.dv,Sl.cs] at e3 hL;rw[if_neg h]
 cases hb:sl.all hI with
 | false=>
   rw[hb] at hL;simp at hL;simp[Bw,Sl.dv,Sl.cs,e0,h',hL]
 | true=>
   rw[hb] at hL;simp at hL;cases hm:hI rest<;>rw[hm] at e3<;>simp[Bw,Sl.dv,Sl.cs,e0,h',hL,e3]
theorem Js {l:List It} (hc:bd l=0) {b:Nat} {x:It} (hx:l[b]? = some x) (h3:x.k≠3):x.y=false:=by
 have:l.any fc=false:=by
  unfold bd at hc;split at hc
  · omega
  · split at hc
    · omega
    · rename_i h;simpa using h
 have:=List.any_eq_false.1 this x (aaB hx);simp[fc,jR,h3] at this;exact this.2.1.1.1
theorem Hi (hv:Its st l v) (hc:bd l=0) (A B:Nat) (hAB:A≤B) (hB:B≤l.length) (x:Int) (hx:0≤x∧x≤4095):(E tab).F 339 [v,.int .i64 A,.int .i64 B,.int .i64 x] st=some (Pc.dv ⟨A,B,false,hyI l B,cf l A B x⟩,st):=by
 rw[au Q2 rfl];have e0:=fun st'=>bH hv st';have eN:=xM (hv.inn [.cells .plain [.int .i64 0,.int .i64 0,.bool false,.bool false,.int .i64 0]] []) hc A B hAB hB x hx;by_cases hb:B<l.length
 · have hx:l[B]? = some l[B]:=aaa hb;have e1:=fun st'=>b4 hv hb .i64 st';have e2:=fun st'=>cF hv hx (off:=0) (by omega) st';have e3:=fun H K=>eY hv hx H K;have e4:=fun st'=>cF hv hx (off:=7) (by omega) st';have e5:=fun H K=>I5 hv hx H K;have eh:hyI l B=l[B].y:=by simp[hyI,hx]
   have hp:=Js hc hx;rw[eh];generalize l[B]=q at *;by_cases k3:q.k=3
   · simp[AD,eN,e0,hb,e1,e2,e3,e4,e5,k3,Pc.dv,Pc.cs]
   · have hy:=hp k3;simp[AD,eN,e0,hb,e1,e2,e3,k3,hy,Pc.dv,Pc.cs]
 · have eh:hyI l B=false:=by simp[hyI,hb]
   rw[eh];simp[AD,eN,e0,hb,Pc.dv,Pc.cs]
def pz:Pc:=⟨0,0,false,false,0⟩
def pcO (l:List It) (a:Nat) (X:Int):Option Nat→Pc
 | none=>pz
 | some c=>⟨a,c,false,hyI l c,cf l a c X⟩
theorem JM (hv:Its st l v) (hc:bd l=0) (a:Nat) (s:Sl) (hX:0≤s.x∧s.x≤4095) (K:List Nat):∀ (m i:Nat) (best:Option Nat) (J:List HO),i+m=l.length+1→a<i→∀ b w,kT l a s.x s.w m i best=some (b,w) →
 ∃ J' fr R,((E tab).C j7 [(0,v),(1,.int .i64 a),(5,.ptr st.heap.length 0),(6,.ptr (st.heap.length+1) 0),(7,.bool best.isSome),(8,.ptr (st.heap.length+2) 0),(9,.int .i64 i)] (pst st (.cells .plain s.cs::.cells .plain pz.cs::.cells .plain (pcO l a s.x best).cs::J) K) =
  some (.ret,[(6,.ptr (st.heap.length+1) 0)],pst st (.cells .plain s.cs::.cells .plain (Pc.cs ⟨a,b,w,hyI l b,cf l a b s.x⟩)::R::J') K) ∨
  (E tab).C j7 [(0,v),(1,.int .i64 a),(5,.ptr st.heap.length 0),(6,.ptr (st.heap.length+1) 0),(7,.bool best.isSome),(8,.ptr (st.heap.length+2) 0),(9,.int .i64 i)] (pst st (.cells .plain s.cs::.cells .plain pz.cs::.cells .plain (pcO l a s.x best).cs::J) K) =
   some (.exit 0,[(0,v),(1,.int .i64 a),(5,.ptr st.heap.length 0),(6,.ptr (st.heap.length+1) 0),(7,.bool true),(8,.ptr (st.heap.length+2) 0)]++fr,pst st (.cells .plain s.cs::.cells .plain pz.cs::.cells .plain (Pc.cs ⟨a,b,w,hyI l b,cf l a b s.x⟩)::J') K)):=by
 have e0:=fun st'=>bH hv st';obtain⟨hok,hlen⟩:=dQ hc;intro m
 induction m with
 | zero=>
   intro i best J hi hai b w ho;have h0:¬ i≤l.length:=by omega
   cases best with
   | none=>simp[kT] at ho
   | some c=>
     simp only[kT,abg,aab.injEq,Prod.mk.injEq] at ho;obtain⟨rfl,rfl⟩:=ho;refine⟨J,[(9,.int .i64 i),(16,.bool false)],.gone,.inr ?_⟩;rw[af (L:=j7) rfl];simp[mD,e0,h0,pcO]
 | succ m ih=>
   intro i best J hi hai b w ho;have h0:i≤l.length:=by omega
   have hw1:IntKind.i64.wrap ((i:Int)+1)=((i+1:Nat):Int):=by rw[ar (by omega)];simp
   have hE:=fun H=>F2 (hv.inn H K) i h0 (by omega);unfold kT at ho
   cases he:kl l i with
   | false=>
     rw[he] at hE;rw[he,if_neg (by simp)] at ho;obtain⟨J',fr,R,hJ⟩:=ih (i+1) best J (by omega) (by omega) b w ho;refine⟨J',fr,R,?_⟩;rw[af (L:=j7) rfl];simp at hJ;simp[mD,e0,h0,hE,hw1];exact hJ
   | true=>
     rw[he] at hE;rw[he,if_pos ⟨hai,rfl⟩] at ho;have hL:=fun H=>Hi (hv.inn H K) hc a i (by omega) h0 s.x hX;simp only[Pc.dv,Pc.cs] at hL;by_cases hW:s.w<cf l a i s.x
     · rw[if_pos hW] at ho
       cases best with
       | none=>
         simp only[aab.injEq,Prod.mk.injEq] at ho;obtain⟨rfl,rfl⟩:=ho;refine⟨J++[.cells .plain (Pc.cs ⟨a,i,true,hyI l i,cf l a i s.x⟩)],[],.cells .plain pz.cs,.inl ?_⟩;rw[af (L:=j7) rfl];simp[mD,e0,h0,hE,hL,hW,Sl.cs,Pc.cs,pcO,pz]
       | some c=>
         simp only[aab.injEq,Prod.mk.injEq] at ho;obtain⟨rfl,rfl⟩:=ho;refine⟨J++[.cells .plain (Pc.cs ⟨a,i,false,hyI l i,cf l a i s.x⟩)],[],.cells .plain (Pc.cs ⟨a,c,false,hyI l c,cf l a c s.x⟩),.inl ?_⟩;rw[af (L:=j7) rfl];simp[mD,e0,h0,hE,hL,hW,Sl.cs,Pc.cs,pcO,pz]
     · rw[if_neg hW] at ho;obtain⟨J',fr,R,hJ⟩:=ih (i+1) (some i) (J++[.cells .plain (Pc.cs ⟨a,i,false,hyI l i,cf l a i s.x⟩)]) (by omega) (by omega) b w ho;refine⟨J',fr,R,?_⟩;simp[Pc.cs,pcO,pz,Sl.cs] at hJ;rw[af (L:=j7) rfl];simp[mD,e0,h0,hE,hL,hW,Sl.cs,Pc.cs,pcO,pz,hw1];cases best<;>exact hJ
end
section
variable {st:St} {l:List It} {v:DV} {sl:List Sl} {sv:DV} {rest:Sl}
theorem KA (hv:Its st l v) (hc:bd l=0) (a:Nat) (ha:a<l.length) (s:Sl) (hX:0≤s.x∧s.x≤4095):(E tab).F 341 [v,.int .i64 a,s.dv] st=some ((dg l a s).dv,st):=by
 rw[au Mb rfl];have e0:=fun st'=>bH hv st';obtain⟨hok,hlen⟩:=dQ hc;obtain⟨b,w,ho,hab,hbl⟩:=gy l a s.x s.w ha (l.length+1-a) a none (by omega) (fun _=>by omega) (aai _) (fun c e=>by cases e);have hpc:dg l a s=⟨a,b,w,hyI l b,cf l a b s.x⟩:=by unfold dg;rw[ho]
 rw[show l.length+1-a=(l.length-a)+1 by omega,kT,if_neg (by omega)] at ho;have hw1:IntKind.i64.wrap ((a:Int)+1)=((a+1:Nat):Int):=by rw[ar (by omega)];simp
 obtain⟨J',fr,R,hL⟩:=JM hv hc a s hX [] (l.length-a) (a+1) none [] (by omega) (by omega) b w ho;rw[hpc];simp[pcO,pz,Sl.cs,Pc.cs] at hL;rcases hL with hL|hL
 · simp[Ff,Sl.dv,Sl.cs,Pc.dv,Pc.cs,hw1,hL]
 · simp[Ff,Sl.dv,Sl.cs,Pc.dv,Pc.cs,hw1,hL]
theorem k9 (l:List It) (sl:List Sl) (rest:Sl) (f n:Nat):cO l sl rest f l.length n=[]:=by
 cases f<;>simp[cO]
theorem wQ (l:List It):du l l.length=l.length:=by
 have:=ml l l.length (aai _);omega
theorem JC (hv:Its st l v) (hl:l.length≤140737488355328) (y1 y5:DV) (H:List HO) (K:List Nat):∀ (f i:Nat),l.length≤i+f→i≤l.length →
 ∃ fr,(E tab).C na [(0,v),(1,y1),(5,y5),(7,.int .i64 i)] (pst st H K)=some (.exit 0,[(0,v),(1,y1),(5,y5),(7,.int .i64 (br l f i:Nat))]++fr,pst st H K):=by
 have e0:=fun st'=>bH hv st';intro f
 induction f with
 | zero=>
   intro i h1 h2;obtain rfl:i=l.length:=by omega
   refine⟨[(21,.bool false)],?_⟩;rw[af (L:=na) rfl];simp[o7,e0,br]
 | succ f ih=>
   intro i h1 h2;by_cases h0:i<l.length
   · have hx:l[i]? = some l[i]:=aaa h0;have e1:=fun st'=>b4 hv h0 .i64 st';have e2:=fun st'=>cF hv hx (off:=0) (by omega) st';have e3:=fun H K=>eY hv hx H K;have hw1:IntKind.i64.wrap ((i:Int)+1)=(i+1:Nat):=by rw[ar (by omega)];simp
     by_cases hk:l[i].k=2
     · have eg:br l (f+1) i=br l f (i+1):=by simp[br,hx,hk]
       obtain⟨fr,hJ⟩:=ih (i+1) (by omega) (by omega);rw[eg];refine⟨fr,?_⟩;simp at hJ;rw[af (L:=na) rfl];simp[o7,e0,h0,e1,e2,e3,hk,hw1,hJ]
     · have eg:br l (f+1) i=i:=by simp[br,hx,hk]
       rw[eg];refine⟨[(21,.bool false)],?_⟩;rw[af (L:=na) rfl];simp[o7,e0,h0,e1,e2,e3,hk]
   · have eg:br l (f+1) i=i:=by simp[br,h0]
     rw[eg];refine⟨[(21,.bool false)],?_⟩;rw[af (L:=na) rfl];simp[o7,e0,h0]
theorem J5 (hv:Its st l v) (hs:Sls st sl sv) (hc:bd l=0) (hso:AE sl rest):∀ (f a:Nat) (ps:List Pc) (ov:DV) (J:List HO) (K:List Nat),l.length≤a+f→a≤l.length→ps.length≤a→Acc st K 5 (ps.map Pc.dv) ov →
 ∃ J' K' ov' fr,Acc st K' 5 ((ps++cO l sl rest f a ps.length).map Pc.dv) ov' ∧
   (((E tab).C ey [(0,v),(1,sv),(5,.ptr st.heap.length 0),(7,.int .i64 a),(8,ov)] (pst st (.cells .plain rest.cs::J) K)=some (.ret,[(6,ov')],pst st (.cells .plain rest.cs::J') K')∧ps++cO l sl rest f a ps.length≠[]) ∨
    (E tab).C ey [(0,v),(1,sv),(5,.ptr st.heap.length 0),(7,.int .i64 a),(8,ov)] (pst st (.cells .plain rest.cs::J) K)=some (.exit 2,[(0,v),(1,sv),(5,.ptr st.heap.length 0),(7,.int .i64 l.length),(8,ov')]++fr,pst st (.cells .plain rest.cs::J') K')):=by
 have e0:=fun st'=>bH hv st';obtain⟨hok,hlen⟩:=dQ hc;intro f
 induction f with
 | zero=>
   intro a ps ov J K h1 h2 h3 hA;obtain rfl:a=l.length:=by omega
   refine⟨J,K,ov,[(27,.bool false)],by simpa[cO] using hA,.inr ?_⟩;rw[af (L:=ey) rfl];simp[qb,e0]
 | succ f ih=>
   intro a ps ov J K h1 h2 h3 hA;by_cases h0:a<l.length
   · have hX:=hso ps.length;have hS:=fun H=>sB (rest:=rest) (hs.inn H K) ps.length;have hO:=fun H=>KA (hv.inn H K) hc a h0 (aS sl rest ps.length) ⟨hX.1,hX.2.1⟩;rw[cO,if_pos h0];obtain⟨b,w,ho,hab,hbl⟩:=gy l a (aS sl rest ps.length).x (aS sl rest ps.length).w h0 (l.length+1-a) a none (by omega) (fun _=>by omega) (aai _) (fun c e=>by cases e);have hpc:dg l a (aS sl rest ps.length)=⟨a,b,w,hyI l b,cf l a b (aS sl rest ps.length).x⟩:=by unfold dg;rw[ho]
     rw[hpc] at hO ⊢;generalize aS sl rest ps.length=s at *;have hbe:=ml l b hbl;obtain⟨t,n',tk,nn,rfl⟩:=dM hA;obtain⟨ov1,K1,hap,hA1⟩:=dZ (H:=.cells .plain rest.cs::(J++[.cells .plain (Pc.cs ⟨a,b,w,hyI l b,cf l a b s.x⟩)])) (by_:=32) (ag:=true) (tk:=.tight) (t:=st.cur) (ys:=[Pc.dv ⟨a,b,w,hyI l b,cf l a b s.x⟩]) hA (by omega) (by simp) (by simp[Iw]) (by simp[aD];omega) (by simp[aD];omega);have hBg:=fun H=>FJ (hv.inn H K1) (by omega) b hbl;simp only[abf];by_cases hbl':b=l.length
     · refine⟨J++[.cells .plain (Pc.cs ⟨a,b,w,hyI l b,cf l a b s.x⟩)],K1,ov1,[],?_,.inl ⟨?_,by simp⟩⟩
       · rw[hbl',wQ,k9,← hbl'];simpa using hA1
       · simp only[Sl.cs,Sl.dv,Pc.dv,Pc.cs] at hS hO hap;rw[hbl'] at hO hap hBg ⊢;rw[af (L:=ey) rfl];simp[qb,e0,h0,Sl.cs,hS,hO,aw,aK,chunk,hap,hBg,Pc.cs]
     · obtain⟨J2,K2,ov2,fr,hA2,hJ⟩:=ih (du l b) (ps++[⟨a,b,w,hyI l b,cf l a b s.x⟩]) ov1 (J++[.cells .plain (Pc.cs ⟨a,b,w,hyI l b,cf l a b s.x⟩)]) K1 (by omega) hbe.2 (by simp;omega) (by simpa using hA1);have hb':¬ (b:Int)=l.length:=by omega
       refine⟨J2,K2,ov2,fr,by simpa using hA2,?_⟩;simp only[Sl.cs,Sl.dv,Pc.dv,Pc.cs] at hS hO hap
       have key:(E tab).C ey [(0,v),(1,sv),(5,.ptr st.heap.length 0),(7,.int .i64 a),(8,.list t n' tk nn (ps.map Pc.dv))] (pst st (.cells .plain rest.cs::J) K) =
        (E tab).C ey [(0,v),(1,sv),(5,.ptr st.heap.length 0),(7,.int .i64 (du l b:Nat)),(8,ov1)] (pst st (.cells .plain rest.cs::(J++[.cells .plain (Pc.cs ⟨a,b,w,hyI l b,cf l a b s.x⟩)])) K1):=by
        rw[af (L:=ey) rfl];simp only[qb];simp[e0,h0,Sl.cs,hS,hO,aw,aK,chunk,hap,hBg,Pc.cs,hb',hbl']
        have hk:∀ z S,(E tab).C ey [(0,v),(1,sv),(5,.ptr st.heap.length 0),(7,.int .i64 (du l b:Nat)),(8,ov1),(48,z)] S=(E tab).C ey [(0,v),(1,sv),(5,.ptr st.heap.length 0),(7,.int .i64 (du l b:Nat)),(8,ov1)] S:=by
         intro z S;unfold ey;rw[jW];rfl
        cases hq:(E tab).C ey [(0,v),(1,sv),(5,.ptr st.heap.length 0),(7,.int .i64 (du l b:Nat)),(8,ov1)] (pst st (.cells .plain [.int .i64 rest.x,.int .i64 rest.w]::(J++[.cells .plain [.int .i64 a,.int .i64 b,.bool w,.bool (hyI l b),.int .i64 (cf l a b s.x)]])) K1) with
        | none=>simp[hk,hq]
        | some p=>obtain⟨e,fu1,S1⟩:=p;cases e<;>simp[hk,hq]
       rw[key];rcases hJ with ⟨hJ,hne⟩ | hJ
       · exact .inl ⟨hJ,by simp⟩
       · exact .inr hJ
   · obtain rfl:a=l.length:=by omega
     refine⟨J,K,ov,[(27,.bool false)],by simpa[k9] using hA,.inr ?_⟩;rw[af (L:=ey) rfl];simp[qb,e0]
end
def lZ (l:List It) (sl:List Sl) (rest:Sl):List Pc:=if br l l.length 0=l.length then [⟨l.length,l.length,false,false,0⟩] else cO l sl rest l.length (br l l.length 0) 0
theorem A5 {l:List It} {sl:List Sl} {rest:Sl} {f a n:Nat} (h:a<l.length) (hf:0<f):cO l sl rest f a n≠[]:=by
 cases f with
 | zero=>omega
 | succ f=>rw[cO,if_pos h];simp
section
variable {st:St} {l:List It} {v:DV} {sl:List Sl} {sv:DV} {rest:Sl}
theorem Hv {n:Nat} {xs:List DV} {w:DV} {K:List Nat} {st1 st2:St} (h:Acc st K n xs w):bB st1 st2 w=aV st1 st2 w:=by
 rcases h with ⟨_,t,n',tk,rfl⟩ | ⟨k,s,rfl,_⟩<;>rfl
theorem BY (hv:Its st l v) (hs:Sls st sl sv) (hc:bd l=0) (hso:AE sl rest):∃ w,(E tab).F 327 [v,sv,rest.dv] st=some (w,st)∧Lw 5 ((lZ l sl rest).map Pc.dv) w:=by
 rw[au Qh rfl];have e0:=fun st'=>bH hv st';obtain⟨hok,hlen⟩:=dQ hc;have hg:=iQ l l.length 0 (by omega);obtain⟨fr0,hL0⟩:=JC hv (by omega) sv (.ptr st.heap.length 0) [.cells .plain rest.cs] [] l.length 0 (by omega) (by omega);unfold lZ;generalize br l l.length 0=g at *;obtain⟨J',K',ov',fr,hA,hJ⟩:=J5 (rest:=rest) hv hs hc hso l.length g [] (.list 0 0 .no false []) [] [] (by omega) hg.2 (by simp) (dt st [] 5 0 0 .no);simp only[aaX,aaP] at hA hJ;have hk:∀ (ex:Fr) (S:St),(E tab).C ey (Fr.bG ([(0,v),(1,sv),(5,.ptr st.heap.length 0),(7,.int .i64 g)]++ex) [0,1,5,7,8]) S=(E tab).C ey (Fr.bG ([(0,v),(1,sv),(5,.ptr st.heap.length 0),(7,.int .i64 g)]++ex) [0,1,5,7,8]) S:=fun _ _=>rfl;obtain⟨t,n',tk,nn,hx,hx1,hx2,_⟩:=j6 (st':=pst st (.cells .plain rest.cs::J') K') hA;have hxT:=Hv (st1:=st) (st2:=pst st (.cells .plain rest.cs::J') K') hA;rw[hx] at hxT;obtain⟨t2,n2,tk2,nn2,hov⟩:=dM hA;by_cases hgl:g=l.length
 · rw[if_pos hgl];subst hgl;rw[k9] at hA hJ hov hxT;refine⟨.list st.cur 5 .tight true [Pc.dv ⟨l.length,l.length,false,false,0⟩],?_,.list _ _ _ _ (fun _=>rfl) (fun e=>by cases e)⟩;rcases hJ with ⟨_,hne⟩ | hJ
   · exact absurd rfl hne
   · simp only[Sl.cs,Sl.dv] at hL0 hJ;rw[hov] at hJ;simp at hL0;simp[AT,Sl.cs,Sl.dv,hL0,hJ,e0,aw,aK,chunk,Pc.dv,Pc.cs]
 · rw[if_neg hgl];have hne:=A5 (l:=l) (sl:=sl) (rest:=rest) (f:=l.length) (a:=g) (n:=0) (by omega) (by omega);refine⟨_,?_,.list t n' tk nn (fun h=>hx2 h) (fun h=>hx1 h)⟩;have hlen0:¬ (cO l sl rest l.length g 0).length=0:=fun h=>hne (aaU.1 h);have hlen1:¬ ((cO l sl rest l.length g 0).length:Int)=0:=by omega
   generalize cO l sl rest l.length g 0=L at *;rcases hJ with ⟨hJ,_⟩ | hJ
   · simp only[Sl.cs,Sl.dv] at hL0 hJ hxT;simp at hL0;simp[AT,Sl.cs,Sl.dv,hL0,hJ,hxT]
   · simp only[Sl.cs,Sl.dv] at hL0 hJ hxT;rw[hov] at hJ hxT;simp at hL0;simp[AT,Sl.cs,Sl.dv,hL0,hJ,hlen0,hlen1];simpa using hxT
end
theorem Jc:tab 311=some (.code AL):=by kernel_rfl
theorem OG:tab 323=some (.code E7):=by kernel_rfl
theorem Ro:tab 324=some (.code Hy):=by kernel_rfl
theorem I8:tab 334=some (.code Bm):=by kernel_rfl
theorem ID:tab 348=some (.code Eg):=by kernel_rfl
section
variable {st:St} {p:bh} {w u:LW} {sl:List Sl} {sv:DV} {rest:Sl}
theorem HZ (hl:p.label=[]):(E tab).F 348 [.agg (ah p w u)] st=some (.int .i64 0,st):=by
 rw[au ID rfl];simp[Eg,hl]
theorem tY (h0:ax p=0) (hl:p.label=[]) (hd:p.pr.drop=0) (s:Sl) (hs:0≤s.x∧s.x≤4095∧0≤s.w∧s.w≤4095) (n:Int) (hn:0≤n):(E tab).F 334 [.agg (ah p w u),s.dv,.int .i64 n] st=some ((ew p s n).dv,st):=by
 rw[au I8 rfl];have hm:=gV h0;have h348:=fun st=>HZ (st:=st) (p:=p) (w:=w) (u:=u) hl;have e4:(ah p w u)[6]? = some (.int .i64 p.pr.inn):=rfl;have e3:(ah p w u)[5]? = some (.int .i64 p.pr.first):=rfl;have e5:(ah p w u)[7]? = some (.int .i64 p.pr.out):=rfl;have e14:(ah p w u)[16]? = some (.int .i64 p.pr.drop):=rfl;have hnd:¬ n<p.pr.drop:=by omega
 have hL:nk p n=p.pr.inn+(if n=0 then p.pr.first else 0):=by
  unfold nk;simp only[cp,iF,hl,if_true];rw[if_pos (show p.pr.drop≤n by omega)];by_cases h:n=0
  · rw[if_neg (by omega),if_pos h];omega
  · rw[if_pos (by omega),if_neg h];omega
 unfold ew;rw[hL];by_cases h:n=0
 · subst h;simp only[if_true];have w1:IntKind.i64.wrap (p.pr.inn+p.pr.first)=p.pr.inn+p.pr.first:=ar (by omega);have w2:IntKind.i64.wrap (s.x+(p.pr.inn+p.pr.first))=s.x+(p.pr.inn+p.pr.first):=ar (by omega);have w3:IntKind.i64.wrap (s.w-(p.pr.inn+p.pr.first))=s.w-(p.pr.inn+p.pr.first):=ar (by omega);have w4:IntKind.i64.wrap (s.w-(p.pr.inn+p.pr.first)-p.pr.out)=s.w-(p.pr.inn+p.pr.first)-p.pr.out:=ar (by omega);simp[Bm,aF,bE,bN,bM,aH,h348,e3,e4,e5,e14,hnd,w1,w2,w3,w4,u0,Da,Sl.dv,Sl.cs,cY ID,show Eg.dh=true from rfl]
 · simp only[h,if_false,Int.add_zero];have w2:IntKind.i64.wrap (s.x+p.pr.inn)=s.x+p.pr.inn:=ar (by omega);have w3:IntKind.i64.wrap (s.w-p.pr.inn)=s.w-p.pr.inn:=ar (by omega);have w4:IntKind.i64.wrap (s.w-p.pr.inn-p.pr.out)=s.w-p.pr.inn-p.pr.out:=ar (by omega);simp[Bm,h,e3,e4,e5,e14,hnd,w2,w3,w4,u0,Da,Sl.dv,Sl.cs]
theorem K9 (h0:ax p=0) (hlb:p.label=[]) (hd:p.pr.drop=0) (hs:Sls st sl sv) (hso:AE sl rest) (hl:sl.length≤256) (x2:HO):∀ (k i:Nat) (J:List HO) (K:List Nat) (ov:DV),i+k=manyN p sl →
 Acc st K 2 (((aal i).map (inF p sl rest)).map Sl.dv) ov→∃ ov' K' J' fr,
 (E tab).C sS [(1,sv),(3,.ptr st.heap.length 0),(5,.ptr (st.heap.length+1) 0),(7,.ptr (st.heap.length+2) 0),(8,.int .i64 (manyN p sl)),(9,ov),(10,.int .i64 i)] (pst st (.cells .plain (ah p w u)::.cells .plain rest.cs::x2::J) K) =
  some (.exit 0,(1,sv)::(3,.ptr st.heap.length 0)::(5,.ptr (st.heap.length+1) 0)::(7,.ptr (st.heap.length+2) 0)::(8,.int .i64 (manyN p sl))::(9,ov')::fr,pst st (.cells .plain (ah p w u)::.cells .plain rest.cs::x2::(J++J')) K') ∧
  Acc st K' 2 ((inL p sl rest).map Sl.dv) ov':=by
 have hm:=kn (p:=p) h0 hl;intro k
 induction k with
 | zero=>
   intro i J K ov hi hA;obtain rfl:i=manyN p sl:=by omega
   refine⟨ov,K,[],[(10,.int .i64 (manyN p sl)),(19,.bool false)],?_,hA⟩;rw[af (L:=sS) rfl];simp[xz]
 | succ k ih=>
   intro i J K ov hi hA;have his:(i:Int)<manyN p sl:=by omega
   have his':i<manyN p sl:=by omega
   have hw:IntKind.i64.wrap ((i:Int)+1)=((i+1:Nat):Int):=by rw[ar (by omega)];simp
   have hrange:(aal (i+1)).map (inF p sl rest)=(aal i).map (inF p sl rest)++[inF p sl rest i]:=by rw[List.range_succ];simp
   have h328:=fun H K=>sB (rest:=rest) (hs.inn H K) i;have h334:=fun st=>tY (st:=st) (w:=w) (u:=u) h0 hlb hd (aS sl rest i) (hso i) i (by omega);obtain⟨ov2,K2,hap,hA2⟩:=dZ (H:=.cells .plain (ah p w u)::.cells .plain rest.cs::x2::J) (by_:=16) (ag:=true) (tk:=.tight) (t:=st.cur) (ys:=[(inF p sl rest i).dv]) hA (by omega) (by simp) (by simp[um]) (by simp[aD];omega) (by simp[aD];omega);obtain⟨ov',K',J',fr,hJ,hR⟩:=ih (i+1) J K2 ov2 (by omega) (by rw[hrange];simpa using hA2);refine⟨ov',K',J',fr,?_,hR⟩;rw[af (L:=sS) rfl];rw[show ew p (aS sl rest i) i=inF p sl rest i from rfl] at h334;generalize inF p sl rest i=g at *;generalize aS sl rest i=s at *;simp only[Sl.cs,Sl.dv] at h328 h334 hap hJ ⊢;simp at hap hJ;simp[xz,his,aF,bE,bN,bM,aH,h328,h334,aw,aK,chunk,hap,hw,hJ,cY Iq,show yp.dh=true from rfl,cY I8,show Bm.dh=true from rfl]
theorem A1 (h0:ax p=0) (hlb:p.label=[]) (hd:p.pr.drop=0) (hs:Sls st sl sv) (hc:c9 sl rest=0) :
 ∃ v,(E tab).F 324 [.agg (ah p w u),sv,rest.dv] st=some (.tuple [v,(gh p sl rest).dv],st)∧Lw 2 ((inL p sl rest).map Sl.dv) v:=by
 rw[au Ro rfl];obtain⟨hso,hl⟩:=kx hc;have hm:=kn (p:=p) h0 hl;have e0:=fun st'=>Vw.len hs st';simp only[aaM] at e0;obtain⟨ov,K1,J1,fr1,hJ,hA⟩:=K9 (st:=st) (w:=w) (u:=u) h0 hlb hd hs hso hl (.cells .plain [.int .i64 0,.int .i64 0]) (manyN p sl) 0 [] [] (.list 0 0 .no false []) (by omega) (dt _ _ _ _ _ _)
 have hrest:0≤rest.x∧rest.x≤4095∧0≤rest.w∧rest.w≤4095:=by
  have:=hso sl.length;unfold aS lV at this;rw[if_neg (by omega)] at this;simpa using this
 have h334:=fun st=>tY (st:=st) (w:=w) (u:=u) h0 hlb hd rest hrest 4096 (by omega)
 have eR:ew p rest 4096=gh p sl rest:=by
  unfold gh ew nk;simp only[cp,iF,hlb,hd];rw[if_pos (by omega),if_pos (by omega),if_pos (by omega),if_pos (by omega)]
 obtain⟨t,n,tk,nn,rfl,c1,c2⟩:∃ t n tk nn,ov=.list t n tk nn ((inL p sl rest).map Sl.dv)∧(nn=true→n=2)∧(nn=false→(inL p sl rest).map Sl.dv=[]):=by
  rcases hA with ⟨hx,t,n',tk,rfl⟩ | ⟨k,s,rfl,hk⟩
  · exact⟨_,_,_,_,by rw[hx],(fun h=>by cases h),fun _=>hx⟩
  · exact⟨_,_,_,_,rfl,fun _=>rfl,(fun h=>by cases h)⟩
 refine⟨.list t n (lU tk) nn ((inL p sl rest).map Sl.dv),?_,.list _ _ _ _ c1 c2⟩;have e14:(ah p w u)[16]? = some (.int .i64 p.pr.drop):=rfl;have hmx:=IY .i64 (sl.length:Int) 1 p.pr.drop;rw[← hm.2.2] at hmx;rw[eR] at h334;generalize (inL p sl rest).map Sl.dv=VI at *;generalize gh p sl rest=R at *;generalize manyN p sl=MN at *;simp only[Sl.cs,Sl.dv] at hJ h334 ⊢;simp at hJ;simp[-dG,exl,Hy,e0,e14,hmx,hJ,h334]
theorem C3 (hp:p.small) (hw:w.ok 4 p.aC) (hu:u.ok 1 p.marks) (hs:Sls st sl sv):(E tab).F 323 [.agg (ah p w u),sv,rest.dv] st=some (.int .i64 (iy p sl rest),st):=by
 rw[au OG rfl];have h14:=fun st=>th p hp w u hw hu st;have h333:=Fu (rest:=rest) (hs.inn [.cells .plain (ah p w u),.cells .plain rest.cs] []);unfold iy;by_cases h0:ax p=0
 · simp only[Sl.cs,Sl.dv] at h333 ⊢;simp[E7,h14,h0,h333]
 · simp only[Sl.cs,Sl.dv] at h333 ⊢;simp[E7,h14,h0]
theorem vZ (l:List It) (F:Nat→Sl):∀ f a n,∀ y∈fv l F f a n,0≤y.a∧y.a≤y.b∧y.b≤l.length
 | 0,_,_,y,h=>by simp[fv] at h
 | f+1,a,n,y,h=>by
   simp only[fv] at h;split at h
   · rename_i ha;rcases aav.1 h with rfl | h
     · obtain⟨b,w,ho,h1,h2⟩:=gy l a (F n).x (F n).w ha (l.length+1-a) a none (by omega) (fun _=>by omega) (aai _) (fun c e=>by cases e);have e:dg l a (F n)=⟨a,b,w,hyI l b,cf l a b (F n).x⟩:=by unfold dg;rw[ho]
       rw[e];simp only;omega
     · exact vZ l F f _ _ y h
   · cases h
theorem A2 (l:List It) (F:Nat→Sl):∀ y∈gp l F,0≤y.a∧y.a≤y.b∧y.b≤l.length:=by
 unfold gp;split
 · simp
 · split
   · intro y hy;rw[List.mem_singleton] at hy;subst hy;simp only;omega
   · exact vZ l F _ _ _
theorem Kw {it:List It} {iv:DV} {c1:List DV} (hi:Its st it iv) (hs:Sls st sl sv) (hok:okS it) (hil:it.length≤8192) {P:List Pc} (hP:P.length≤20000) (hPa:∀ y∈P,0≤y.a∧y.a≤y.b∧y.b≤it.length) (hPb:2≤P.length→∀ y∈P,y.a<it.length) {t n:Nat} {tk:Tk} {nn:Bool} (h5:P≠[]→n=5) :
 ∀ (r d:List Pc) (J:List HO) (K:List Nat) (ov:DV) (fr0:Int) (ls:List Ln),P=d++r→ls.length=d.length →
 Acc st K 7 (ls.map Ln.dv) ov→∃ ov' K' J' fr,
 (E tab).C sP [(3,.ptr st.heap.length 0),(9,iv),(11,sv),(12,.ptr (st.heap.length+2) 0),(13,.list t n tk nn (P.map Pc.dv)),(14,.int .i64 0),(15,.bool true),(19,ov),(20,.int .i64 fr0),(21,.int .i64 d.length)] (pst st (.cells .plain (ah p w u)::.cells .plain c1::.cells .plain rest.cs::J) K) =
  some (.exit 0,(3,.ptr st.heap.length 0)::(9,iv)::(11,sv)::(12,.ptr (st.heap.length+2) 0)::(13,.list t n tk nn (P.map Pc.dv))::(14,.int .i64 0)::(15,.bool true)::(19,ov')::fr,pst st (.cells .plain (ah p w u)::.cells .plain c1::.cells .plain rest.cs::(J++J')) K') ∧
  Acc st K' 7 ((ls++kB p.text.length it sl rest d.length fr0 r).map Ln.dv) ov':=by
 intro r
 induction r with
 | nil=>
   intro d J K ov fr0 ls hd hls hA;rw[aaE] at hd;subst hd;refine⟨ov,K,[],[(20,.int .i64 fr0),(21,.int .i64 P.length),(75,.bool false)],?_,by simpa[kB] using hA⟩;rw[af (L:=sP) rfl];simp[mC]
 | cons x r ih=>
   intro d J K ov fr0 ls hd hls hA;have hlt:d.length<P.length:=by simp[hd]
   obtain rfl:=h5 (by intro e;rw[e] at hlt;simp at hlt);have hlt':(d.length:Int)<P.length:=by omega
   have hw:IntKind.i64.wrap ((d.length:Int)+1)=((d++[x]).length:Nat):=by rw[ar (by omega)];simp
   have hVl:(P.map Pc.dv).length=P.length:=by simp
   have l0:d.length<(P.map Pc.dv).length:=by rw[hVl];exact hlt
   have g0:(P.map Pc.dv)[d.length]'l0=x.dv:=by simp[hd]
   have h328:=fun H=>sB (rest:=rest) (hs.inn H K) d.length;obtain⟨q1,q2,q3⟩:=hPa x (by simp[hd]);obtain⟨xa,hxa⟩:=aaK q1;obtain⟨xb,hxb⟩:=aaK (show 0≤x.b by omega)
   obtain⟨g1,g2,hgv⟩:∃ g1 g2,∀ H,(E tab).F 329 [iv,.int .i64 x.a,.int .i64 x.b] (pst st H K)=some (.tuple [.int .i64 g1,.int .i64 g2],pst st H K):=by
    refine⟨eM ((it.drop xa).take (aI it xa xb-xa)),eP ((it.drop xa).take (aI it xa xb-xa)),fun H=>?_⟩;obtain⟨fr,hL⟩:=Lc (st:=pst st H K) (hi.inn H K) hok hil xa xb (by omega) (by omega) [] [] (aI it xa xb-xa) xa (by have:=lE it xa xb (by omega);omega) (aai _);rw[hxa,hxb,au MO rfl];simp[eM,eP] at hL;simp[GN,hL]
   obtain⟨ov2,K2,hap,hA2⟩:=dZ (H:=.cells .plain (ah p w u)::.cells .plain c1::.cells .plain rest.cs::(J++[.cells .plain x.cs,.cells .plain (aS sl rest d.length).cs])) (by_:=56) (ag:=true) (tk:=.tight) (t:=st.cur) (ys:=[(lnP fr0 (toP p.text.length it r) (aS sl rest d.length) x).dv]) hA (by omega) (by simp) (by simp[Ja]) (by simp[aD];omega) (by simp[aD];omega);obtain⟨ov',K',J',fr,hJ,hR⟩:=ih (d++[x]) (J++[.cells .plain x.cs,.cells .plain (aS sl rest d.length).cs]) K2 ov2 (toP p.text.length it r) (ls++[lnP fr0 (toP p.text.length it r) (aS sl rest d.length) x]) (by simp[hd]) (by simp[hls]) (by simpa using hA2)
   refine⟨ov',K',.cells .plain x.cs::.cells .plain (aS sl rest d.length).cs::J',fr,?_,by
    simpa[kB] using hR⟩
   rw[af (L:=sP) rfl];clear hxa hxb
   cases r with
   | nil=>
     have hlen:P.length=d.length+1:=by simp[hd]
     have hlt2:(d.length:Int)<(d.length:Int)+1:=by omega
     generalize P.map Pc.dv=V at *;unfold lnP at hap;simp only[toP] at hap hJ;generalize aS sl rest d.length=s at *;simp only[Sl.dv,Sl.cs,Ln.dv,Ln.cs,Pc.dv,Pc.cs] at h328 hap hJ g0 ⊢;simp at hap hJ
     cases hwd:x.wide with
     | false=>
       rw[hwd] at g0 hap hJ;simp at hap hJ;simp[mC,hlt2,g0,l0,h328,hVl,hlen,hgv,hw,aw,aK,chunk,hap];simpa[hlen] using hJ
     | true=>
       rw[hwd] at g0 hap hJ;simp at hap hJ;simp[mC,hlt2,g0,l0,h328,hVl,hlen,hgv,hw,show IntKind.i64.wrap 1=1 by decide,aw,aK,chunk,hap];simpa[hlen] using hJ
   | cons y r'=>
     have hlen:P.length=d.length+1+1+r'.length:=by simp[hd];omega
     have hlt2:(d.length:Int)<(d.length:Int)+1+1+r'.length:=by omega
     have hge:(0:Int)≤(d.length:Int)+1:=by omega
     have hlt4:d.length<d.length+1+1+r'.length:=by omega
     have hlt5:d.length+1<d.length+1+1+r'.length:=by omega
     have hlt3:(d.length:Int)+1<(d.length:Int)+1+1+r'.length:=by omega
     have l1:d.length+1<(P.map Pc.dv).length:=by rw[hVl,hlen];omega
     have g1':(P.map Pc.dv)[d.length+1]'l1=y.dv:=by simp[hd]
     have hya:=(hPa y (by simp[hd])).1;have hyb:=hPb (by rw[hlen];omega) y (by simp[hd]);obtain⟨ya,hy⟩:∃ ya:Nat,y.a=ya:=⟨y.a.toNat,by omega⟩;have hyl:ya<it.length:=by omega
     have hx:it[ya]? = some (it.getD ya iz0):=by rw[aak,aaa hyl];rfl
     have i1:=fun st'=>b4 hi hyl .i64 st';have i2:=fun st'=>cF hi hx (off:=1) (by omega) st';have i3:=fun H K=>lf hi hx (off:=1) (y:=.int .i64 (it.getD ya iz0).f) rfl H K;have et:toP p.text.length it (y::r')=(it.getD ya iz0).f:=by simp only[toP,hy];rfl
     rw[et] at hap hJ;generalize it.getD ya iz0=q at *;generalize P.map Pc.dv=V at *;unfold lnP at hap;generalize aS sl rest d.length=s at *;simp only[Sl.dv,Sl.cs,Ln.dv,Ln.cs,Pc.dv,Pc.cs] at h328 hap hJ g0 g1' ⊢;simp at hap hJ;have w1:IntKind.i64.wrap ((d.length:Int)+1)=(d.length:Int)+1:=ar (by omega);rw[hy] at g1'
     cases hwd:x.wide with
     | false=>
       rw[hwd] at g0 hap hJ;simp at hap hJ;simp[mC,hlt2,hlt3,hlt4,hlt5,hge,g0,l0,g1',h328,hVl,hlen,hgv,w1,i1,i2,i3,aw,aK,chunk,hap];simpa[hlen] using hJ
     | true=>
       rw[hwd] at g0 hap hJ;simp at hap hJ;simp[mC,hlt2,hlt3,hlt4,hlt5,hge,g0,l0,g1',h328,hVl,hlen,hgv,w1,i1,i2,i3,show IntKind.i64.wrap 1=1 by decide,aw,aK,chunk,hap];simpa[hlen] using hJ
theorem KS (hy:p.pr.a9=0) (hp:p.small) (hw:w.ok 4 p.aC) (hu:u.ok 1 p.marks) (hl1:p.pr.least≠1) (hlb:p.label=[]) (hd:p.pr.drop=0) (hs:Sls st sl sv) (hi0:iy p sl rest=0→bd (bI p)=0) :
 ∃ v,(E tab).F 311 [.agg (ah p w u),sv,rest.dv] st=some (.tuple [v,.int .i64 (iy p sl rest)],st)∧Lw 7 ((if iy p sl rest=0 then jP p sl rest else []).map Ln.dv) v:=by
 rw[au Jc rfl];have h323:=C3 (rest:=rest) hp hw hu (hs.inn [.cells .plain (ah p w u),.cells .plain rest.cs] []);by_cases hE:iy p sl rest=0;rotate_left
 · rw[if_neg hE];refine⟨.list 0 0 .no false [],?_,.list _ _ _ _ (fun h=>by cases h) (fun _=>rfl)⟩;simp only[Sl.dv,Sl.cs] at h323 ⊢;simp[AL,h323,hE]
 rw[if_pos hE];have hci:=hi0 hE;rw[hE] at h323 ⊢
 have h0:ax p=0:=by
  apply aaY;intro h;unfold iy at hE;rw[if_pos h] at hE;exact h hE
 have hc:c9 sl rest=0:=by unfold iy at hE;rw[if_neg (by simp[h0])] at hE;exact hE
 obtain⟨hok,hil⟩:=dQ hci;obtain⟨iv,h238,hiv⟩:=Ds (st:=pst st [.cells .plain (ah p w u),.cells .plain rest.cs] []) hy hp hw hu;rw[h0] at h238;rw[if_pos h0] at hiv;obtain⟨nv,h324,hnv⟩:=A1 (st:=pst st [.cells .plain (ah p w u),.cells .plain rest.cs] []) (w:=w) (u:=u) h0 hlb hd (hs.inn _ _) hc;have hso:=(kx (DG h0 hc)).1;obtain⟨bv,h327,hbv⟩:=BY (st:=pst st [.cells .plain (ah p w u),.cells .plain rest.cs,.cells .plain (gh p sl rest).cs] []) (rest:=gh p sl rest) (Lw.vw hiv:Its _ (bI p) iv) (Lw.vw hnv) hci hso
 have hLA:lZ (bI p) (inL p sl rest) (gh p sl rest)=jr p sl rest:=by
  have hin:=DG h0 hc
  have hEE:eT (bI p) (inL p sl rest) (gh p sl rest)=0:=by
   unfold eT;by_cases h:bd (bI p)=0
   · rw[if_neg (by simp[h]),hin]
   · exact absurd hci h
  unfold jr iD lZ;rw[hEE];simp
 rw[hLA] at hbv;obtain⟨t,n,tk,nn,rfl,c0,_,_⟩:=kR hbv;have hP:=yu h0 hc;obtain⟨q1,q2,q3⟩:=mQ (bI p) (inF p sl rest);have q4:=A2 (bI p) (inF p sl rest);rw[← hP] at q1 q2 q3 q4
 obtain⟨ov,K1,J1,fr1,hJ,hA⟩:=Kw (st:=st) (p:=p) (w:=w) (u:=u) (rest:=gh p sl rest) (c1:=rest.cs) (Lw.vw hiv:Its st (bI p) iv) (Lw.vw hnv) (Ep hci) hil (P:=jr p sl rest) (by omega) q4 q2 (t:=t) (tk:=tk) (nn:=nn) (fun h=>c0 (by
  intro e;rw[List.map_eq_nil_iff] at e;exact h e)) (jr p sl rest) [] [] [] (.list 0 0 .no false []) 0 [] rfl rfl (dt _ _ _ _ _ _)
 obtain⟨t2,n2,tk2,nn2,rfl,c1,c2⟩:∃ t n tk nn,ov=.list t n tk nn ((jP p sl rest).map Ln.dv)∧(nn=true→n=7)∧(nn=false→(jP p sl rest).map Ln.dv=[]):=by
  have hA':Acc st K1 7 ((jP p sl rest).map Ln.dv) ov:=by simpa[jP] using hA
  rcases hA' with ⟨hx,t,n',tk,rfl⟩ | ⟨k,s,rfl,hk⟩
  · exact⟨_,_,_,_,by rw[hx],(fun h=>by cases h),fun _=>hx⟩
  · exact⟨_,_,_,_,rfl,fun _=>rfl,(fun h=>by cases h)⟩
 refine⟨.list t2 n2 (lU tk2) nn2 ((jP p sl rest).map Ln.dv),?_,.list _ _ _ _ c1 c2⟩;have e15:(ah p w u)[15]? = some (.int .i64 p.pr.least):=rfl;have hVl:((jr p sl rest).map Pc.dv).length=(jr p sl rest).length:=by simp
 generalize (jP p sl rest).map Ln.dv=VL at *;generalize gh p sl rest=R2 at *;generalize (jr p sl rest).map Pc.dv=VP at *;simp only[Sl.dv,Sl.cs] at h323 h238 h324 h327 hJ ⊢;simp at h238 h324 h327 hJ;simp[-dG,exl,AL,h323,h238,h324,e15,hl1,h327,hVl,hJ]
end
theorem Mq:tab 651=some (.code Hl):=by kernel_rfl
theorem Po:tab 652=some (.code tW):=by kernel_rfl
theorem IS:tab 654=some (.code Dj):=by kernel_rfl
theorem IE:tab 655=some (.code CE):=by kernel_rfl
theorem Mf:tab 657=some (.code FY):=by kernel_rfl
theorem PK:tab 658=some (.code CA):=by kernel_rfl
theorem Nx:tab 659=some (.code AP):=by kernel_rfl
theorem N4:tab 660=some (.code HK):=by kernel_rfl
theorem NA:tab 662=some (.code Gf):=by kernel_rfl
theorem xe:∀ A B:List Bd,bF (A++B)=match bF A with | some e=>some e | none=>bF B
 | [],B=>rfl
 | a::A,B=>by
   simp only[aaF,bF];split
   · rfl
   · exact xe A B
theorem sT {A:List Bd} (h:bF A=none):∀ b∈A,b.2.1≤b.1∧b.1≤b.2.2.1:=by
 induction A with
 | nil=>intro b hb;cases hb
 | cons x r ih=>
   intro b hb;simp only[bF] at h;split at h
   · cases h
   · rename_i hx;rcases aav.1 hb with rfl | hb
     · omega
     · exact ih h b hb
theorem JU {A:List Bd} (h:∀ b∈A,b.2.1≤b.1∧b.1≤b.2.2.1):bF A=none:=by
 induction A with
 | nil=>rfl
 | cons x r ih=>
   have hx:=h x (aap ..);simp only[bF];rw[if_neg (by omega)];exact ih fun b hb=>h b (aan _ hb)
theorem EH {A:List Bd} {e0:Int} (he:∀ b∈A,b.2.2.2=e0) {e:Int} (h:bF A=some e):e=e0:=by
 induction A with
 | nil=>cases h
 | cons x r ih=>
   simp only[bF] at h;split at h
   · injection h with h;rw[← h];exact he x (aap ..)
   · exact ih (fun b hb=>he b (aan _ hb)) h
def Sec.bs7 (s:Sec):List Bd:=[(s.w,1,4095,5),(s.h,1,4095,5),(s.top,0,4095,5),(s.bot,0,4095,5),(s.inn,0,4095,5),(s.out,0,4095,5),(s.gap,0,4095,5)]
def Sec.bs4 (s:Sec):List Bd:=[(s.aJ,1,8,2),(s.start,0,2,2),(s.bal,0,1,2),(s.mir,0,1,2)]
section
variable {st:St} {s:Sec}
theorem oj (h:bF s.bs7≠none):fp s=5:=by
 have e:s.bs=s.bs7++s.bs4:=rfl;unfold fp;rw[e,xe]
 cases hb:bF s.bs7 with
 | none=>exact absurd hb h
 | some x=>
   simp only;refine EH ?_ hb;intro b hb;simp only[Sec.bs7,aav,aa7,or_false] at hb;rcases hb with rfl | rfl | rfl | rfl | rfl | rfl | rfl<;>rfl
theorem Et (h:bF s.bs7=none) (h4:bF s.bs4≠none):fp s=2:=by
 have e:s.bs=s.bs7++s.bs4:=rfl;unfold fp;rw[e,xe,h]
 cases hb:bF s.bs4 with
 | none=>exact absurd hb h4
 | some x=>
   simp only;refine EH ?_ hb;intro b hb;simp only[Sec.bs4,aav,aa7,or_false] at hb;rcases hb with rfl | rfl | rfl | rfl<;>rfl
theorem qM (hok:eD s) (h:cg s<10∨kG s<20):fp s=5:=by
 unfold fp;rw[Dz hok];simp only;rw[if_pos h]
theorem Bt (hok:eD s) (h:¬ (cg s<10∨kG s<20)):fp s=txE s.tx:=by
 unfold fp;rw[Dz hok];simp only;rw[if_neg h]
theorem Du (hok:eD s):cg s<10↔s.w-s.inn-s.out-s.gap*(s.aJ-1)<10*s.aJ:=by
 have hl:=iw hok;have hc:=hok.aJ;unfold cg;generalize s.w-s.inn-s.out-s.gap*(s.aJ-1)=a at *;generalize s.aJ=c at *;by_cases ha:0≤a
 · rw[aau ha];exact Int.ediv_lt_iff_lt_mul (by omega)
 · have h1:a.tdiv c≤0:=by
    have:=Int.tdiv_nonneg (a:=-a) (b:=c) (by omega) (by omega);rw[Int.neg_tdiv] at this;omega
   constructor
   · intro _;have:0≤10*c:=by omega
     omega
   · intro _;omega
theorem FT (hok:eD s):(E tab).F 657 [.agg s.cs] st=some (.int .i64 (kG s),st):=by
 rw[au Mf rfl];obtain⟨w,hh,top,bot,inn,out,gap,aJ,_,_,_⟩:=hok;have w0:IntKind.i64.wrap (s.h-s.top)=s.h-s.top:=ar (by omega);have w1:IntKind.i64.wrap (s.h-s.top-s.bot)=s.h-s.top-s.bot:=ar (by omega);simp[FY,Sec.cs,w0,w1,kG]
theorem Lo {t:List UInt8} (hl:t.length≤100) (S:St):∀ (r d:List UInt8),t=d++r →
 ∃ fr,(E tab).C s8 [(0,.str t),(3,.int .i64 d.length)] S=some (if r.all aT then (.exit 0,fr,S) else (.ret,[(2,.bool false)],S)):=by
 intro r
 induction r with
 | nil=>
   intro d hd;rw[aaE] at hd;subst hd;refine⟨[(0,.str t),(3,.int .i64 t.length),(7,.bool false)],?_⟩;rw[af (L:=s8) rfl];simp[mY]
 | cons c r ih=>
   intro d hd;have h0:d.length<t.length:=by simp[hd]
   have hg:t[d.length]=c:=by simp[hd]
   have hw:IntKind.i64.wrap ((d.length:Int)+1)=((d++[c]).length:Nat):=by rw[ar (by omega)];simp
   obtain⟨fr,hJ⟩:=ih (d++[c]) (by simp[hd]);refine⟨fr,?_⟩;rw[af (L:=s8) rfl];simp only[aah,aam] at hJ hw;by_cases h3:c=3
   · subst h3;have hb:aT 3=true:=by decide
     simp[mY,h0,hg,hb,hw];simpa using hJ
   have h3':¬ (c.toNat:Int)=3:=by
    intro e;apply h3;have:c.toNat=3:=by omega
    exact abn.1 (by simpa using this)
   have h3'':¬ c.toNat=3:=by omega
   by_cases h1:c.toNat<32
   · have hb:aT c=false:=by simp[aT,fh,h3];omega
     have h1':(c.toNat:Int)<32:=by omega
     simp[mY,h0,hg,h1,h1',hb,h3,h3',h3'']
   · have h1':¬ (c.toNat:Int)<32:=by omega
     by_cases h2:126<c.toNat
     · have hb:aT c=false:=by simp[aT,fh,h3];omega
       have h2':126<(c.toNat:Int):=by omega
       simp[mY,h0,hg,h1,h1',h2,h2',hb,h3,h3',h3'']
     · have hb:aT c=true:=by simp[aT,fh];right;omega
       have h2':¬ 126<(c.toNat:Int):=by omega
       simp[mY,h0,hg,h1,h1',h2,h2',hb,h3,h3',h3'',hw];simpa using hJ
theorem uw {t:List UInt8} (hl:t.length≤100):(E tab).F 658 [.str t] st=some (.bool (t.all aT),st):=by
 rw[au PK rfl];obtain⟨fr,hL⟩:=Lo hl (pst st [] []) t [] rfl
 cases h:t.all aT with
 | true=>rw[h] at hL;simp at hL;simp[CA,hL]
 | false=>rw[h] at hL;simp at hL;simp[CA,hL]
theorem Jo (B:List Int) (hB:B.length≤100) (c1:DV) (S:St) (c0:Nat):∀ (r d:List Int),B=d++r →
 ∃ fr,(E tab).C p6 [(1,c1),(3,.list c0 1 .tight true (B.map (.int .i64))),(4,.int .i64 d.length)] S =
   some (if r.all (fun x=>decide (0≤x∧x≤4095)) then (.exit 0,(1,c1)::fr,S) else (.ret,[(2,.int .i64 5)],S)):=by
 intro r
 induction r with
 | nil=>
   intro d hd;rw[aaE] at hd;subst hd;refine⟨[(3,.list c0 1 .tight true (B.map (.int .i64))),(4,.int .i64 B.length),(21,.bool false)],?_⟩;rw[af (L:=p6) rfl];simp[pG]
 | cons x r ih=>
   intro d hd;have h0:d.length<B.length:=by simp[hd]
   have hg:B[d.length]=x:=by simp[hd]
   have hw:IntKind.i64.wrap ((d.length:Int)+1)=((d++[x]).length:Nat):=by rw[ar (by omega)];simp
   obtain⟨fr,hJ⟩:=ih (d++[x]) (by simp[hd]);refine⟨fr,?_⟩;rw[af (L:=p6) rfl];simp only[aah,aam] at hJ hw;by_cases a:x<0
   · have e:¬ (0≤x∧x≤4095):=by omega
     simp[pG,h0,hg,a,e]
   · by_cases b:4095<x
     · have e:¬ (0≤x∧x≤4095):=by omega
       simp[pG,h0,hg,a,b,e]
     · have e:0≤x∧x≤4095:=by omega
       simp[pG,h0,hg,a,b,e,hw];simpa using hJ
theorem mR {i:Nat} (hi:i<3) {A B:List UInt8} (hA:s.cs[11+i]? = some (.str A)) (hB:s.cs[14+i]? = some (.str B)) (H:List HO) (K:List Nat) :
 (E tab).C kP [(1,.ptr st.heap.length 0),(5,.int .i64 i)] (pst st (.cells .plain s.cs::H) K) =
  if 100<A.length∨100<B.length then some (.ret,[(2,.int .i64 3)],pst st (.cells .plain s.cs::H) K) else (E tab).C kP [(1,.ptr st.heap.length 0),(5,.int .i64 (i+1:Nat))] (pst st (.cells .plain s.cs::H) K):=by
 have hw:IntKind.i64.wrap ((i:Int)+1)=((i+1:Nat):Int):=by rw[ar (by omega)];simp
 have hi':(i:Int)<3:=by omega
 rw[af (L:=kP) rfl];generalize s.cs=R at *;by_cases a:100<A.length
 · have a':(100:Int)<A.length:=by omega
   rw[if_pos (.inl a)];simp[oS,hi,hi',hA,a,a']
 · have a':¬ (100:Int)<A.length:=by omega
   by_cases b:100<B.length
   · have b':(100:Int)<B.length:=by omega
     rw[if_pos (.inr b)];simp[oS,hi,hi',hA,hB,a,a',b,b']
   · have b':¬ (100:Int)<B.length:=by omega
     rw[if_neg (by omega)];simp at hw;simp[oS,hi,hi',hA,hB,a,a',b,b',hw]
theorem mF {i:Nat} (hi:i<3) {A B:List UInt8} (hA:s.cs[11+i]? = some (.str A)) (hB:s.cs[14+i]? = some (.str B)) (la:A.length≤100) (lb:B.length≤100) (H:List HO) (K:List Nat) :
 (E tab).C kO [(1,.ptr st.heap.length 0),(6,.int .i64 i)] (pst st (.cells .plain s.cs::H) K) =
  if A.all aT&&B.all aT then (E tab).C kO [(1,.ptr st.heap.length 0),(6,.int .i64 (i+1:Nat))] (pst st (.cells .plain s.cs::H) K) else some (.ret,[(2,.int .i64 4)],pst st (.cells .plain s.cs::H) K):=by
 have hw:IntKind.i64.wrap ((i:Int)+1)=((i+1:Nat):Int):=by rw[ar (by omega)];simp
 have hi':(i:Int)<3:=by omega
 have ha:=fun st=>uw (st:=st) la;have hb:=fun st=>uw (st:=st) lb;rw[af (L:=kO) rfl];generalize s.cs=R at *
 cases a:A.all aT with
 | false=>
   rw[a] at ha;simp[pB,hi,hi',hA,ha]
 | true=>
   rw[a] at ha
   cases b:B.all aT with
   | false=>
     rw[b] at hb;simp[pB,hi,hi',hA,hB,ha,hb]
   | true=>
     rw[b] at hb;simp at hw;simp[pB,hi,hi',hA,hB,ha,hb,hw]
theorem BV (H:List HO) (K:List Nat):(E tab).C kP [(1,.ptr st.heap.length 0),(5,.int .i64 (3:Nat))] (pst st H K)=some (.exit 2,[(1,.ptr st.heap.length 0),(5,.int .i64 3),(117,.bool false)],pst st H K):=by
 rw[af (L:=kP) rfl];simp[oS]
theorem B8 (H:List HO) (K:List Nat):(E tab).C kO [(1,.ptr st.heap.length 0),(6,.int .i64 (3:Nat))] (pst st H K)=some (.exit 4,[(1,.ptr st.heap.length 0),(6,.int .i64 3),(135,.bool false)],pst st H K):=by
 rw[af (L:=kO) rfl];simp[pB]
theorem K5:s.tx.any (fun t=>decide (100<t.length))=(decide (100<s.h0.length∨100<s.t0.length)||decide (100<s.h1.length∨100<s.t1.length)||decide (100<s.h2.length∨100<s.t2.length)):=by
 rw[aaW];simp only[Sec.tx,abq,List.any_nil,Bool.or_false,Bool.or_eq_true,decide_eq_true_eq];omega
theorem Jl:s.tx.all (fun t=>t.all aT)=((s.h0.all aT&&s.t0.all aT)&&(s.h1.all aT&&s.t1.all aT)&&(s.h2.all aT&&s.t2.all aT)):=by
 simp only[Sec.tx,aa3,List.all_nil,Bool.and_true];cases s.h0.all aT<;>cases s.h1.all aT<;>cases s.h2.all aT<;>cases s.t0.all aT<;>cases s.t1.all aT<;>cases s.t2.all aT<;>rfl
def C13:RC:=(.seq (.seq (.region zX [1,5]) (.block 2 kP)) (.seq (.seq (.region Af [1,6]) (.block 4 kO)) (.seq (.region zm [2]) .ret)))
theorem GM (ex:Fr) (H:List HO) (K:List Nat):∃ fr,(E tab).C C13 ((1,.ptr st.heap.length 0)::ex) (pst st (.cells .plain s.cs::H) K)=some (.ret,(2,.int .i64 (txE s.tx))::fr,pst st (.cells .plain s.cs::H) K):=by
 have a0:=mR (st:=st) (s:=s) (i:=0) (by omega) (A:=s.h0) (B:=s.t0) rfl rfl H K;have a1:=mR (st:=st) (s:=s) (i:=1) (by omega) (A:=s.h1) (B:=s.t1) rfl rfl H K;have a2:=mR (st:=st) (s:=s) (i:=2) (by omega) (A:=s.h2) (B:=s.t2) rfl rfl H K;have a3:=BV (st:=st) (.cells .plain s.cs::H) K;have b3:=B8 (st:=st) (.cells .plain s.cs::H) K;unfold txE;rw[K5,Jl];generalize hS:pst st (.cells .plain s.cs::H) K=S at *;by_cases c0:100<s.h0.length∨100<s.t0.length
 · rw[if_pos c0] at a0;simp at a0;exact⟨[],by simp[C13,a0,c0]⟩
 rw[if_neg c0] at a0;by_cases c1:100<s.h1.length∨100<s.t1.length
 · rw[if_pos c1] at a1;rw[a1] at a0;simp at a0;exact⟨[],by simp[C13,a0,c0,c1]⟩
 rw[if_neg c1] at a1;by_cases c2:100<s.h2.length∨100<s.t2.length
 · rw[if_pos c2] at a2;rw[a1,a2] at a0;simp at a0;exact⟨[],by simp[C13,a0,c0,c1,c2]⟩
 rw[if_neg c2] at a2;rw[a1,a2,a3] at a0;simp at a0;have b0:=mF (st:=st) (s:=s) (i:=0) (by omega) (A:=s.h0) (B:=s.t0) rfl rfl (by omega) (by omega) H K;have b1:=mF (st:=st) (s:=s) (i:=1) (by omega) (A:=s.h1) (B:=s.t1) rfl rfl (by omega) (by omega) H K;have b2:=mF (st:=st) (s:=s) (i:=2) (by omega) (A:=s.h2) (B:=s.t2) rfl rfl (by omega) (by omega) H K;simp only[hS] at b0 b1 b2
 cases d0:s.h0.all aT&&s.t0.all aT with
 | false=>
   rw[d0] at b0;simp at b0;exact⟨[],by simp[C13,a0,b0,c0,c1,c2]⟩
 | true=>
 rw[d0,if_pos rfl] at b0
 cases d1:s.h1.all aT&&s.t1.all aT with
 | false=>
   rw[d1] at b1;rw[b1] at b0;simp at b0;exact⟨[],by simp[C13,a0,b0,c0,c1,c2]⟩
 | true=>
 rw[d1,if_pos rfl] at b1
 cases d2:s.h2.all aT&&s.t2.all aT with
 | false=>
   rw[d2] at b2;rw[b1,b2] at b0;simp at b0;exact⟨[],by simp[C13,a0,b0,c0,c1,c2]⟩
 | true=>
 rw[d2,if_pos rfl] at b2;rw[b1,b2,b3] at b0;simp at b0;exact⟨[],by simp[C13,a0,b0,c0,c1,c2]⟩
theorem Q5:Hl=⟨[.t 2],(.seq (.region FK [1]) (.seq (.region C5 [1,3]) (.seq (.seq (.region Cq [1,3,4]) (.block 0 p6)) (.seq (.seq (.region Cu [1,53]) (.cond (.t 53) (.seq (.region CF [2]) .ret) .skip)) (.seq (.seq (.region B6 [1,91]) (.cond (.t 91) (.seq (.region zO [2]) .ret) .skip)) (.seq (.seq (.region zu [1,115]) (.cond (.t 115) (.seq (.region As [2]) .ret) .skip)) C13)))))),true⟩:=rfl
theorem u7:(E tab).F 651 [.agg s.cs] st=some (.int .i64 (fp s),st):=by
 rw[au Mq rfl,Q5];obtain⟨fr,hL⟩:=Jo [s.top,s.bot,s.inn,s.out,s.gap] (by simp) (.ptr st.heap.length 0) (pst st [.cells .plain s.cs] []) st.cur [s.top,s.bot,s.inn,s.out,s.gap] [] rfl
 cases ha:[s.top,s.bot,s.inn,s.out,s.gap].all (fun x=>decide (0≤x∧x≤4095)) with
 | false=>
   rw[ha] at hL
   have hE:fp s=5:=oj fun h=>by
    have hb:=sT h;have a:=hb (s.top,0,4095,5) (by simp[Sec.bs7]);have b:=hb (s.bot,0,4095,5) (by simp[Sec.bs7]);have c:=hb (s.inn,0,4095,5) (by simp[Sec.bs7]);have d:=hb (s.out,0,4095,5) (by simp[Sec.bs7]);have e:=hb (s.gap,0,4095,5) (by simp[Sec.bs7]);simp at a b c d e;simp at ha;omega
   rw[hE];simp[Sec.cs] at hL;simp[Sec.cs,aw,aK,chunk,hL]
 | true=>
   rw[ha] at hL
   have hr:(0≤s.top∧s.top≤4095)∧(0≤s.bot∧s.bot≤4095)∧(0≤s.inn∧s.inn≤4095)∧(0≤s.out∧s.out≤4095)∧(0≤s.gap∧s.gap≤4095):=by
    simp at ha;omega
   obtain⟨r1,r2,r3,r4,r5⟩:=hr;by_cases hwh:(1≤s.w∧s.w≤4095)∧(1≤s.h∧s.h≤4095);rotate_left
   · have hE:fp s=5:=oj fun h=>by
      have hb:=sT h;have a:=hb (s.w,1,4095,5) (by simp[Sec.bs7]);have b:=hb (s.h,1,4095,5) (by simp[Sec.bs7]);simp at a b;exact hwh ⟨a,b⟩
     rw[hE];simp[Sec.cs] at hL;by_cases c1:s.w<1
     · simp[Sec.cs,aw,aK,chunk,hL,c1]
     by_cases c2:4095<s.w
     · simp[Sec.cs,aw,aK,chunk,hL,c1,c2]
     by_cases c3:s.h<1
     · simp[Sec.cs,aw,aK,chunk,hL,c1,c2,c3]
     have c4:4095<s.h:=by omega
     simp[Sec.cs,aw,aK,chunk,hL,c1,c2,c3,c4]
   obtain⟨r6,r7⟩:=hwh
   have h7:bF s.bs7=none:=JU fun b hb=>by
    simp only[Sec.bs7,aav,aa7,or_false] at hb;rcases hb with rfl | rfl | rfl | rfl | rfl | rfl | rfl<;>assumption
   have c1:¬ s.w<1:=by omega
   have c2:¬ 4095<s.w:=by omega
   have c3:¬ s.h<1:=by omega
   have c4:¬ 4095<s.h:=by omega
   by_cases h4:(1≤s.aJ∧s.aJ≤8)∧(0≤s.start∧s.start≤2)∧(0≤s.bal∧s.bal≤1)∧(0≤s.mir∧s.mir≤1);rotate_left
   · have hE:fp s=2:=Et h7 fun h=>by
      have hb:=sT h;have a:=hb (s.aJ,1,8,2) (by simp[Sec.bs4]);have b:=hb (s.start,0,2,2) (by simp[Sec.bs4]);have c:=hb (s.bal,0,1,2) (by simp[Sec.bs4]);have d:=hb (s.mir,0,1,2) (by simp[Sec.bs4]);simp at a b c d;exact h4 ⟨a,b,c,d⟩
     rw[hE];simp[Sec.cs] at hL;by_cases d1:s.aJ<1
     · simp[Sec.cs,aw,aK,chunk,hL,c1,c2,c3,c4,d1]
     by_cases d2:8<s.aJ
     · simp[Sec.cs,aw,aK,chunk,hL,c1,c2,c3,c4,d1,d2]
     by_cases d3:s.start<0
     · simp[Sec.cs,aw,aK,chunk,hL,c1,c2,c3,c4,d1,d2,d3]
     by_cases d4:2<s.start
     · simp[Sec.cs,aw,aK,chunk,hL,c1,c2,c3,c4,d1,d2,d3,d4]
     by_cases d5:s.bal<0
     · simp[Sec.cs,aw,aK,chunk,hL,c1,c2,c3,c4,d1,d2,d3,d4,d5]
     by_cases d6:1<s.bal
     · simp[Sec.cs,aw,aK,chunk,hL,c1,c2,c3,c4,d1,d2,d3,d4,d5,d6]
     by_cases d7:s.mir<0
     · simp[Sec.cs,aw,aK,chunk,hL,c1,c2,c3,c4,d1,d2,d3,d4,d5,d6,d7]
     have d8:1<s.mir:=by omega
     simp[Sec.cs,aw,aK,chunk,hL,c1,c2,c3,c4,d1,d2,d3,d4,d5,d6,d7,d8]
   obtain⟨q1,q2,q3,q4⟩:=h4;have hok:eD s:=⟨r6,r7,r1,r2,r3,r4,r5,q1,q2,q3,q4⟩;have hwl:=iw hok;have hwi:=Du hok;have d1:¬ s.aJ<1:=by omega
   have d2:¬ 8<s.aJ:=by omega
   have d3:¬ s.start<0:=by omega
   have d4:¬ 2<s.start:=by omega
   have d5:¬ s.bal<0:=by omega
   have d6:¬ 1<s.bal:=by omega
   have d7:¬ s.mir<0:=by omega
   have d8:¬ 1<s.mir:=by omega
   have hcm:(s.aJ-1)*s.gap=s.gap*(s.aJ-1):=Int.mul_comm _ _;have w0:IntKind.i64.wrap (s.w-s.inn)=s.w-s.inn:=ar (by omega);have w1:IntKind.i64.wrap (s.w-s.inn-s.out)=s.w-s.inn-s.out:=ar (by omega);have w2:IntKind.i64.wrap (s.aJ-1)=s.aJ-1:=ar (by omega);have w3:IntKind.i64.wrap (s.gap*(s.aJ-1))=s.gap*(s.aJ-1):=ar (by omega);have w4:IntKind.i64.wrap (s.w-s.inn-s.out-s.gap*(s.aJ-1))=s.w-s.inn-s.out-s.gap*(s.aJ-1):=ar (by omega);have w5:IntKind.i64.wrap (10*s.aJ)=10*s.aJ:=ar (by omega);have h657:=fun st=>FT (st:=st) hok;simp only[Sec.cs] at h657;by_cases e1:s.w-s.inn-s.out-s.gap*(s.aJ-1)<10*s.aJ
   · rw[qM hok (.inl (hwi.2 e1))];simp[Sec.cs] at hL;simp[Sec.cs,aw,aK,chunk,hL,c1,c2,c3,c4,d1,d2,d3,d4,d5,d6,d7,d8,hcm,w0,w1,w2,w3,w4,w5,e1]
   by_cases e2:kG s<20
   · rw[qM hok (.inr e2)];simp[Sec.cs] at hL;simp[Sec.cs,aw,aK,chunk,hL,c1,c2,c3,c4,d1,d2,d3,d4,d5,d6,d7,d8,hcm,w0,w1,w2,w3,w4,w5,e1,h657,e2]
   have hE:=Bt hok (fun h=>by
    rcases h with h|h
    · exact e1 (hwi.1 h)
    · exact e2 h)
   obtain⟨fr2,hR⟩:=GM (st:=st) (s:=s) [(115,.bool false)] [] [];rw[hE];simp[Sec.cs] at hL hR;simp[Sec.cs,aw,aK,chunk,hL,c1,c2,c3,c4,d1,d2,d3,d4,d5,d6,d7,d8,hcm,w0,w1,w2,w3,w4,w5,e1,h657,e2,hR]
theorem yc (n:Int) (first:Bool):(E tab).F 652 [.agg s.cs,.int .i64 n,.bool first] st=some (.int .i64 (cI s n first),st):=by
 rw[au Po rfl];unfold cI
 cases first with
 | false=>
   by_cases c3:n.tmod 2=1
   · simp[tW,Sec.cs,c3]
   · simp[tW,Sec.cs,c3]
 | true=>
   by_cases c1:s.h0=[]
   · by_cases c2:s.t0=[]
     · by_cases c3:n.tmod 2=1
       · simp[tW,Sec.cs,c1,c2,c3]
       · simp[tW,Sec.cs,c1,c2,c3]
     · have c2':s.t0.isEmpty=false:=by simpa using c2
       simp[tW,Sec.cs,c1,c2,c2']
   · have c1':s.h0.isEmpty=false:=by simpa using c1
     simp[tW,Sec.cs,c1,c1']
theorem yB (n:Int):(E tab).F 659 [.agg s.cs,.int .i64 n] st=some (.int .i64 (oQ s n),st):=by
 rw[au Nx rfl];unfold oQ;by_cases c:s.mir=1
 · by_cases c2:n.tmod 2=0
   · simp[AP,Sec.cs,c,c2]
   · simp[AP,Sec.cs,c,c2]
 · simp[AP,Sec.cs,c]
theorem E6 (h:eD s):(E tab).F 662 [.agg s.cs] st=some (.int .i64 (cg s),st):=by
 rw[au NA rfl];have hl:=iw h;obtain⟨w,hh,top,bot,inn,out,gap,aJ,_,_,_⟩:=h;have hcm:(s.aJ-1)*s.gap=s.gap*(s.aJ-1):=Int.mul_comm _ _;have w0:IntKind.i64.wrap (s.w-s.inn)=s.w-s.inn:=ar (by omega);have w1:IntKind.i64.wrap (s.w-s.inn-s.out)=s.w-s.inn-s.out:=ar (by omega);have w2:IntKind.i64.wrap (s.aJ-1)=s.aJ-1:=ar (by omega);have w3:IntKind.i64.wrap (s.gap*(s.aJ-1))=s.gap*(s.aJ-1):=ar (by omega);have w4:IntKind.i64.wrap (s.w-s.inn-s.out-s.gap*(s.aJ-1))=s.w-s.inn-s.out-s.gap*(s.aJ-1):=ar (by omega);have w5:IntKind.i64.wrap ((s.w-s.inn-s.out-s.gap*(s.aJ-1)).tdiv s.aJ)=cg s:=ar (by unfold cg at hl;omega);have hc:¬ s.aJ=0:=by omega
 simp[Gf,Sec.cs,hcm,w0,w1,w2,w3,w4,w5,hc]
theorem zL (h:eD s):(E tab).F 660 [.agg s.cs] st=some (.int .i64 (ma s),st):=by
 rw[au N4 rfl];have hl:=iw h;have hsp:=ze h;have h662:=fun st=>E6 (st:=st) h;obtain⟨w,hh,top,bot,inn,out,gap,aJ,_,_,_⟩:=h;have hcm:(s.aJ-1)*s.gap=s.gap*(s.aJ-1):=Int.mul_comm _ _;have hcm2:s.aJ*cg s=cg s*s.aJ:=Int.mul_comm _ _;have w1:IntKind.i64.wrap (cg s*s.aJ)=cg s*s.aJ:=ar (by omega);have w2:IntKind.i64.wrap (s.aJ-1)=s.aJ-1:=ar (by omega);have w3:IntKind.i64.wrap (s.gap*(s.aJ-1))=s.gap*(s.aJ-1):=ar (by omega);have w4:IntKind.i64.wrap (cg s*s.aJ+s.gap*(s.aJ-1))=ma s:=ar (by omega);simp only[Sec.cs] at h662 ⊢;simp[HK,aF,bE,bN,bM,aH,h662,hcm,hcm2,w1,w2,w3,w4]
theorem H8 (hok:eD s) (n:Int):(E tab).F 654 [.agg s.cs,.int .i64 n] st=some (.agg (eJ s n).cs,st):=by
 rw[au IS rfl];have h659:=fun st=>yB (st:=st) (s:=s) n;have h660:=fun st=>zL (st:=st) hok;obtain⟨w,hh,top,bot,inn,out,gap,aJ,_,_,_⟩:=hok;have ht:0≤s.top.tdiv 2∧s.top.tdiv 2≤s.top:=by rw[aau top.1];omega
 have w1:IntKind.i64.wrap (s.top.tdiv 2)=s.top.tdiv 2:=ar (by omega);have w2:IntKind.i64.wrap (s.top-s.top.tdiv 2)=s.top-s.top.tdiv 2:=ar (by omega);simp only[Sec.cs] at h659 h660 ⊢;simp[Dj,aF,bE,bN,bM,aH,h659,h660,w1,w2,eJ,Rc.cs]
theorem G9 (hok:eD s) (n:Int):(E tab).F 655 [.agg s.cs,.int .i64 n] st=some (.agg (fe s n).cs,st):=by
 rw[au IE rfl];have h659:=fun st=>yB (st:=st) (s:=s) n;have h660:=fun st=>zL (st:=st) hok;obtain⟨w,hh,top,bot,inn,out,gap,aJ,_,_,_⟩:=hok;have ht:0≤s.bot.tdiv 2∧s.bot.tdiv 2≤s.bot:=by rw[aau bot.1];omega
 have w1:IntKind.i64.wrap (s.bot.tdiv 2)=s.bot.tdiv 2:=ar (by omega);have w2:IntKind.i64.wrap (s.h-s.bot)=s.h-s.bot:=ar (by omega);simp only[Sec.cs] at h659 h660 ⊢;simp[CE,aF,bE,bN,bM,aH,h659,h660,w1,w2,fe,Rc.cs]
end
theorem I9:tab 375=some (.code DN):=by kernel_rfl
theorem NR:tab 370=some (.code Ic):=by kernel_rfl
theorem Iv:tab 653=some (.code Fi):=by kernel_rfl
theorem I1:tab 661=some (.code AQ):=by kernel_rfl
theorem Qd:tab 656=some (.code E8):=by kernel_rfl
theorem Bg:∀ n:Nat,n<10→(([48,49,50,51,52,53,54,55,56,57]:List UInt8).drop n).take 1=[aa2 (48+n)]:=by decide
theorem AZ {n:Nat} (h:n<10):bS true 1 (.str [48,49,50,51,52,53,54,55,56,57]) (some (.int .i64 (n:Int))) (some (.int .i64 ((n:Int)+1))) none=some (.str [aa2 (48+n)]):=by
 rw[wx (by omega) (by omega) (by simp;omega)];have e:((n:Int)+1).toNat-(n:Int).toNat=1:=by omega
 rw[e,abf,Bg n h]
theorem El {n:Nat} {xs:List DV} {u:DV} (h:Lw n xs u) {m:Nat} (hm:m≤xs.length) (k:IntKind):∃ u',bS false n u none (some (.int k m)) none=some u'∧Lw n (xs.take m) u':=by
 cases h with
 | list t n' tk nn h1 h2=>
   refine⟨_,Ho h1 (by omega) (by omega),?_⟩;simp only[abf];exact .list _ _ _ _ h1 fun e=>by rw[h2 e];simp
theorem KZ {n:Nat} {xs:List DV} {w:DV} (h:Lw n xs w) (st st':St):bP st st' w=some (exV w):=by
 cases h with
 | list t n' tk nn h1 h2=>exact exl st st' t n' tk nn xs
section
variable {st:St}
theorem wH:∀ (f n:Nat) (st:St),n<10 ^ (f+1)→(f≤10)→(E tab).F 375 [.int .i64 n] st=some (.str (iT (f+1) n),st)
 | f,n,st,h,hf=>by
   have hb:(10:Nat) ^ (f+1)≤10 ^ 11:=Nat.pow_le_pow_right (by omega) (by omega);by_cases h10:n<10
   · have h10':(n:Int)<10:=by omega
     have w1:IntKind.i64.wrap ((n:Int)+1)=(n:Int)+1:=ar (by omega);have hs:=AZ h10;have e:iT (f+1) n=[aa2 (48+n)]:=by simp only[iT];rw[if_pos h10]
     rw[au I9 rfl,e];simp[DN,h10,h10',w1,hs]
   · have h10':¬ (n:Int)<10:=by omega
     cases f with
     | zero=>simp at h;omega
     | succ f=>
       have a:=fun st=>wH f (n/10) st (by rw[Nat.pow_succ] at h;omega) (by omega);have b:=fun st=>wH 0 (n%10) st (by simp;omega) (by omega);have hm:n%10<10:=Nat.mod_lt _ (by omega);have e1:iT (0+1) (n%10)=[aa2 (48+n%10)]:=by simp only[iT];rw[if_pos hm]
       have e:iT (f+1+1) n=iT (f+1) (n/10)++[aa2 (48+n%10)]:=by rw[iT,if_neg h10]
       have q1:IntKind.i64.wrap ((n:Int)/10)=(n:Int)/10:=ar (by omega);have q3:(n:Int).tmod 10=(n:Int)%10:=Int.tmod_eq_emod_of_nonneg (by omega);have hX:(iT (f+1) (n/10)).length≤4611686018427387903:=by have:=oZ (f+1) (n/10);omega
       rw[e1] at b;rw[au I9 rfl,e];generalize iT (f+1) (n/10)=X at *;generalize aa2 (48+n%10)=D at *;simp at a b;simp[DN,h10,h10',q1,q3,a,b,hX]
theorem Ih {n:Nat} (h1:1≤n) (h2:n≤99999):(E tab).F 370 [.int .i64 n] st=some (.tuple [.str (bY n),.int .i64 0],st):=by
 have a:¬ (n:Int)<1:=by omega
 have b:¬ (99999:Int)<n:=by omega
 have c:=fun st=>wH 4 n st (by omega) (by omega);rw[show iT (4+1) n=bY n from rfl] at c;have d:¬ n=0:=by omega
 have e:¬ 99999<n:=by omega
 rw[au NR rfl];simp[Ic,a,b,c,d,e]
theorem KV {s:List UInt8} (hs:s.length≤100) {n:Nat} (S:St):∀ (r d:List UInt8),s=d++r →
 ∃ fr,(E tab).C sw [(0,.str s),(5,.str (bY n)),(7,.str (bl (bY n) d)),(8,.int .i64 d.length)] S =
   some (.exit 0,(0,.str s)::(5,.str (bY n))::(7,.str (bl (bY n) s))::fr,S):=by
 intro r
 induction r with
 | nil=>
   intro d hd;rw[aaE] at hd;subst hd;refine⟨[(8,.int .i64 s.length),(17,.bool false)],?_⟩;rw[af (L:=sw) rfl];simp[s6]
 | cons c r ih=>
   intro d hd;have h0:d.length<s.length:=by simp[hd]
   have hg:s[d.length]=c:=by simp[hd]
   have hw:IntKind.i64.wrap ((d.length:Int)+1)=((d++[c]).length:Nat):=by rw[ar (by omega)];simp
   have hsl:bS true 1 (.str s) (some (.int .i64 (d.length:Int))) (some (.int .i64 ((d.length:Int)+1))) none=some (.str [c]):=by
    rw[wx (by omega) (by omega) (by omega)];have e:((d.length:Int)+1).toNat-(d.length:Int).toNat=1:=by omega
    rw[e,abf,hd];simp
   obtain⟨fr,hJ⟩:=ih (d++[c]) (by simp[hd]);refine⟨fr,?_⟩;rw[af (L:=sw) rfl];rw[kq] at hJ;simp only[aah,aam] at hJ hw;by_cases h3:c=3
   · subst h3;simp only[bl,if_true,aaE] at hJ;have hx:=gA (fU n) d;have hx2:=fU n;generalize bl (bY n) d=X at *;generalize bl (bY n) s=Y at *;generalize bY n=D at *;have hXD:X.length+D.length≤4611686018427387904:=by omega
     simp at hJ hw;simp[s6,h0,hg,hw,hXD];simpa using hJ
   · have h3':¬ (c.toNat:Int)=3:=by
      intro e;apply h3;have:c.toNat=3:=by omega
      exact abn.1 (by simpa using this)
     have h3'':¬ c.toNat=3:=by omega
     simp only[bl,if_neg h3,aaE] at hJ;have hx:=gA (fU n) d;have hx2:=fU n;generalize bl (bY n) d=X at *;generalize bl (bY n) s=Y at *;generalize bY n=D at *;have hX1:X.length≤4611686018427387903:=by omega
     have w2:IntKind.i64.wrap ((d.length:Int)+1)=(d.length:Int)+1:=ar (by omega);simp at hJ hsl;simp[s6,h0,hg,w2,h3,h3',h3'',hsl,hX1];simpa using hJ
theorem rP {s:List UInt8} (hs:s.length≤100) {n:Nat} (h1:1≤n) (h2:n≤99999):(E tab).F 653 [.str s,.int .i64 n] st=some (.str (bl (bY n) s),st):=by
 rw[au Iv rfl];obtain⟨fr,hL⟩:=KV hs (n:=n) (pst st [] []) s [] rfl;have hm:=fun st=>Ih (st:=st) h1 h2;rw[show bl (bY n) []=[] from rfl] at hL;generalize bl (bY n) s=Y at *;generalize bY n=D at *;simp at hL;simp[Fi,hm,hL]
theorem H4 (s:List UInt8):(E tab).F 661 [.str s] st=some (.agg (ah (gP cl s) (gW st s) ⟨0,0,.no,false⟩),st):=by
 rw[au I1 rfl];by_cases h:s=[]
 · subst h;simp[AQ,ah,gP,gW,cl,bC.cs,LW.dv]
 · have h2:0<s.length:=aaZ.2 h;simp[AQ,h,h2,ah,gP,gW,cl,bC.cs,LW.dv,Span.dv,Span.cs,aw,aK,chunk]
theorem ub {s:List UInt8} {r:Rc} (hl:s.length≤500) (hE:jI s r=0):∃ v,(E tab).F 656 [.str s,.agg r.cs] st=some (.tuple [v,.bool (mT s r)],st)∧Lw 7 ((pP s r).map Ln.dv) v:=by
 rw[au Qd rfl];unfold mT pP;by_cases hs:s=[]
 · subst hs;refine⟨.list 0 0 .no false [],?_,by simpa using kK⟩;simp[E8,Rc.cs]
 have hh:pF r.h=true∧pF r.w=true:=by
  unfold jI at hE;split at hE
  · omega
  · split at hE
    · split at hE
      · rename_i h;simp only[aac] at h;exact⟨h.2,h.1⟩
      · omega
    · omega
 have hs2:s.isEmpty=false:=by simpa using hs
 rw[if_pos ⟨hE,hs⟩,if_pos ⟨hE,hs⟩];have h661:=H4 (st:=pst st [.cells .plain r.cs] []) s;rw[show gW (pst st [.cells .plain r.cs] []) s=gW st s from rfl] at h661
 obtain⟨vl,h311,hvl⟩:=KS (st:=pst st [.cells .plain r.cs] []) (p:=gP cl s) (w:=gW st s) (u:=⟨0,0,.no,false⟩) (sl:=[]) (sv:=.list 0 0 .no false []) (rest:=⟨0,r.w⟩) rfl (wc _ _) (I4 _ _ _) (Ik _ _) (by simp[gP,cl]) rfl rfl (.list _ _ _ _ (fun h=>by cases h) (fun _=>rfl)) (fun h=>by
  have h0:ax (gP cl s)=0:=by
   apply aaY;intro h2;unfold iy at h;rw[if_pos h2] at h;exact h2 h
  exact uR h0 rfl (TG _ _) hl)
 rw[show (if iy (gP cl s) [] ⟨0,r.w⟩=0 then jP (gP cl s) [] ⟨0,r.w⟩ else [])=gq s r.w from rfl] at hvl;have hlen:=pH s r.w;have hln:=fun st'=>(hvl.vw (st:=st) (ag:=true)).len st';simp only[aaM] at hln;have hh2:0≤r.h∧r.h≤4095:=by simpa[pF] using hh.1
 have wq:IntKind.i64.wrap (r.h.tdiv 10)=((r.h.toNat/10:Nat):Int):=by
  rw[aau hh2.1,ar (by omega)];omega
 have hmin:fg j4 [.int .i64 ((gq s r.w).length:Int),.int .i64 ((r.h.toNat/10:Nat):Int)]=some (.int .i64 ((min (gq s r.w).length (r.h.toNat/10):Nat):Int)):=by
  rw[u0];congr 2;omega
 obtain⟨u',hsl,hu'⟩:=El hvl (m:=min (gq s r.w).length (r.h.toNat/10)) (by simp;omega) .i64;rw[← List.map_take] at hu';refine⟨exV u',?_,pK hu'⟩;have hex:=fun st st'=>KZ hu' st st'
 have hdec:decide (((min (gq s r.w).length (r.h.toNat/10):Nat):Int)<((gq s r.w).length:Int))=decide (min (gq s r.w).length (r.h.toNat/10)<(gq s r.w).length):=by
  apply decide_eq_decide.2;omega
 have hsc:=Lw.sc hu';generalize (gq s r.w).length=FL at *;generalize r.h.toNat/10=q at *;generalize iy (gP cl s) [] ⟨0,r.w⟩=EE at *;generalize min FL q=mn at *;clear hvl;generalize ah (gP cl s) (gW st s) ⟨0,0,.no,false⟩=PC at *;simp only[Sl.dv,Sl.cs,Rc.cs] at h661 h311 ⊢;simp[E8,hs,hs2,aF,bE,bN,bM,aH,h661,h311,hln,wq,hmin,hsl,hdec,hex,cY I1,show AQ.dh=true from rfl,cY Jc,show AL.dh=true from rfl]
end
theorem IV:tab 647=some (.code yb):=by kernel_rfl
theorem N8:tab 648=some (.code GC):=by kernel_rfl
theorem wy:∀ n:Nat,n<10→fh (aa2 (48+n))=true:=by decide
theorem oD:∀ (f n:Nat),(iT f n).all fh=true
 | 0,_=>rfl
 | f+1,n=>by
   simp only[iT];split
   · rename_i h;simp only[aa3,List.all_nil,Bool.and_true];exact wy n h
   · rw[List.all_append,oD f (n/10)];simp only[aa3,List.all_nil,Bool.and_true,Bool.true_and];exact wy (n%10) (Nat.mod_lt _ (by omega))
theorem pb {d:List UInt8} (hd:d.all fh=true):∀ {s:List UInt8},s.all aT=true→(bl d s).all fh=true
 | [],_=>rfl
 | c::r,h=>by
   simp only[aa3,aac] at h;simp only[bl,List.all_append,pb hd h.2,Bool.and_true];split
   · exact hd
   · rename_i hc;have:=h.1;simp only[aT,decide_eq_false hc,Bool.false_or] at this;simp[this]
theorem CZ {s:Sec} (h:fp s=0) (hok:eD s):10≤cg s∧20≤kG s:=by
 unfold fp at h;rw[Dz hok] at h;simp only at h;split at h
 · omega
 · omega
theorem Hz {s:Sec} (h:fp s=0) (hok:eD s):0≤ma s∧ma s≤4095:=by
 have hw:=(CZ h hok).1;have hl:=iw hok;obtain⟨w,hh,top,bot,inn,out,gap,aJ,_,_,_⟩:=hok;unfold ma;have h1:0≤cg s*s.aJ:=Int.mul_nonneg (by omega) (by omega)
 have h2:cg s*s.aJ≤s.w-s.inn-s.out-s.gap*(s.aJ-1):=by
  have hx:0≤s.w-s.inn-s.out-s.gap*(s.aJ-1):=by
   apply aaY;intro hc;have h3:0≤(-(s.w-s.inn-s.out-s.gap*(s.aJ-1))).tdiv s.aJ:=Int.tdiv_nonneg (by omega) (by omega);rw[Int.neg_tdiv] at h3;unfold cg at hw;omega
  unfold cg;rw[aau hx];exact Int.ediv_mul_le _ (by omega)
 omega
theorem ua {s:Sec} (h:fp s=0) (hok:eD s) {t:List UInt8} (ht:t∈s.tx) (n:Nat):jI (bl (bY n) t) (eJ s n)=0∧jI (bl (bY n) t) (fe s n)=0∧(bl (bY n) t).length≤500:=by
 obtain⟨h1,h2⟩:=vP h ht;have hl:=gA (fU n) t;have hb:=pb (oD 5 n) h2;have hsp:=Hz h hok;obtain⟨w,hh,top,bot,inn,out,gap,aJ,_,_,_⟩:=hok;have t1:0≤s.top.tdiv 2∧s.top.tdiv 2≤s.top:=by rw[aau top.1];omega
 have b1:0≤s.bot.tdiv 2∧s.bot.tdiv 2≤s.bot:=by rw[aau bot.1];omega
 have hb':(bl (bY n) t).all fh=true:=hb
 have e:∀ r:Rc,0≤r.w∧r.w≤4095→0≤r.h∧r.h≤4095→jI (bl (bY n) t) r=0:=by
  intro r hw hh;unfold jI;rw[if_neg (by omega),if_pos hb'];simp[pF,hw,hh]
 refine⟨e _ hsp ?_,e _ hsp ?_,by omega⟩
 · simp only[eJ];omega
 · simp only[fe];omega
section
variable {st:St} {s:Sec}
theorem BI (n:Int) (first:Bool) (h:pgE s n 1≠0):(E tab).F 647 [.agg s.cs,.int .i64 n,.bool first] st=some (.tuple [.agg (cQ [] [] ⟨0,0,0,0⟩ ⟨0,0,0,0⟩ (.list 0 0 .no false []) (.list 0 0 .no false []) false),.int .i64 (pgE s n 1)],st):=by
 rw[au IV rfl];have hc:=fun st=>u7 (st:=st) (s:=s);unfold pgE at h ⊢;simp only[Sec.cs] at hc ⊢;by_cases h0:fp s=0
 · rw[if_neg (by simp[h0])] at h ⊢;by_cases h1:n<1
   · rw[if_pos (.inl h1)];simp[yb,hc,h0,h1,cQ]
   · by_cases h2:4096<n
     · rw[if_pos (.inr h2)];simp[yb,hc,h0,h1,h2,cQ]
     · rw[if_neg (by omega)] at h;exact absurd rfl h
 · rw[if_pos h0];simp[yb,hc,h0,cQ]
theorem Pe {n:Nat} (first:Bool) (h:pgE s n 1=0):∃ va vb,(E tab).F 647 [.agg s.cs,.int .i64 n,.bool first] st=some (.tuple [.agg (lg s n first va vb),.int .i64 0],st) ∧
 Lw 7 ((pP (bl (bY n) (hdS s (cI s n first))) (eJ s n)).map Ln.dv) va∧Lw 7 ((pP (bl (bY n) (ftS s (cI s n first))) (fe s n)).map Ln.dv) vb:=by
 obtain⟨hok,hs0,hn1,hn2⟩:=uc h;have hc:=fun st=>u7 (st:=st) (s:=s);rw[hs0] at hc;have h652:=fun st=>yc (st:=st) (s:=s) n first;have hv:=zN (s:=s) n first;have hm:=yC s (cI s n first);have g1:=ua hs0 hok hm.1 n;have g2:=ua hs0 hok hm.2 n;have h653a:=fun st=>rP (st:=st) (vP hs0 hm.1).1 (n:=n) (by omega) (by omega);have h653b:=fun st=>rP (st:=st) (vP hs0 hm.2).1 (n:=n) (by omega) (by omega);have h654:=fun st=>H8 (st:=st) hok n;have h655:=fun st=>G9 (st:=st) hok n
 have hha:([s.h0,s.h1,s.h2,s.t0,s.t1,s.t2].map DV.str)[(cI s n first).toNat]? = some (.str (hdS s (cI s n first))):=by
  unfold hdS;rcases hv with e | e | e<;>rw[e]<;>rfl
 have hhb:([s.h0,s.h1,s.h2,s.t0,s.t1,s.t2].map DV.str)[3+(cI s n first).toNat]? = some (.str (ftS s (cI s n first))):=by
  unfold ftS;rcases hv with e | e | e<;>rw[e]<;>rfl
 unfold lg;generalize hA:hdS s (cI s n first)=A at *;generalize hB:ftS s (cI s n first)=B at *;generalize bl (bY n) A=FA at *;generalize bl (bY n) B=FB at *;obtain⟨va,hL1,hva⟩:=ub (st:=pst st [.cells .plain s.cs,.cells .plain [.str [],.str [],.int .i64 0,.int .i64 0,.int .i64 0,.int .i64 0,.int .i64 0,.int .i64 0,.int .i64 0,.int .i64 0,.list 0 0 .no false [],.list 0 0 .no false [],.bool false],.cells .plain (cQ FA FB (eJ s n) (fe s n) (.list 0 0 .no false []) (.list 0 0 .no false []) false)] []) g1.2.2 g1.1;have hsa:=Lw.sc hva;obtain⟨vb,hL2,hvb⟩:=ub (st:=pst st [.cells .plain s.cs,.cells .plain [.str [],.str [],.int .i64 0,.int .i64 0,.int .i64 0,.int .i64 0,.int .i64 0,.int .i64 0,.int .i64 0,.int .i64 0,.list 0 0 .no false [],.list 0 0 .no false [],.bool false],.cells .plain (cQ FA FB (eJ s n) (fe s n) va (.list 0 0 .no false []) false)] []) g2.2.2 g2.2.1;have hsb:=Lw.sc hvb;refine⟨exV va,exV vb,?_,pK hva,pK hvb⟩;have hea:=rV hva;have heb:=rV hvb;have n1:¬ n=0:=by omega
 have n2:¬ (n:Int)<1:=by omega
 have n3:¬ (4096:Int)<n:=by omega
 have n4:¬ 4096<n:=by omega
 rw[au IV rfl];simp only[Sec.cs,Rc.cs,cQ] at hc h652 h654 h655 hL1 hL2 ⊢;clear g1 g2 hva hvb;rcases hv with e | e | e
 all_goals
  rw[e] at h652 hha hhb;simp at hha hhb;subst hha hhb
  try simp at hL1 hL2
  cases hcA:mT FA (eJ s n)<;>simp[yb,dE,hcA,hc,n1,n2,n3,n4,h652,aF,bE,bN,bM,aH,h653a,h653b,h654,h655,hL1,hL2,hsa,hsb,hea,heb,cY Iv,show Fi.dh=true from rfl,cY IS,show Dj.dh=true from rfl,cY IE,show CE.dh=true from rfl]
theorem Ab (hd ft:List UInt8) (a b:Rc) {LA LB:List Ln} (hla:LA.length≤100000) (hlb:LB.length≤100000) {va vb vc vd:DV} (hva:Lw 7 (LA.map Ln.dv) va) (hvb:Lw 7 (LB.map Ln.dv) vb) (hvc:Lw 7 (LA.map Ln.dv) vc) (hvd:Lw 7 (LB.map Ln.dv) vd) (c:Bool) :
 (E tab).F 648 [.agg (cQ hd ft a b va vb c),.agg (cQ hd ft a b vc vd c)] st=some (.bool true,st):=by
 obtain⟨t1,m1,k1,q1,rfl,r1,_,_⟩:=kR hva;obtain⟨t2,m2,k2,q2,rfl,r2,_,_⟩:=kR hvb;obtain⟨t3,m3,k3,q3,rfl,r3,_,_⟩:=kR hvc;obtain⟨t4,m4,k4,q4,rfl,r4,_,_⟩:=kR hvd;have e1:=fun st=>An LA hla ⟨t1,m1,k1,q1⟩ ⟨t3,m3,k3,q3⟩ (fun h=>r1 (by simpa using h)) (fun h=>r3 (by simpa using h)) st;have e2:=fun st=>An LB hlb ⟨t2,m2,k2,q2⟩ ⟨t4,m4,k4,q4⟩ (fun h=>r2 (by simpa using h)) (fun h=>r4 (by simpa using h)) st;rw[au N8 rfl];simp only at e1 e2;generalize LA.map Ln.dv=VA at *;generalize LB.map Ln.dv=VB at *;cases c<;>simp[GC,cQ,e1,e2,eqD,bk,gQ]
theorem zw (s:List UInt8) (r:Rc):(pP s r).length≤100000:=by
 unfold pP;split
 · have:=pH s r.w;simp;omega
 · simp
theorem HA {vs:List DV} (h:Fits [.int .i64,.int .i64,.int .i64,.int .i64,.int .i64,.int .i64,.int .i64,.int .i64,.int .i64,.int .i64,.int .i64,.str,.str,.str,.str,.str,.str] vs):∃ s:Sec,vs=s.cs:=by
 obtain⟨_,_,rfl,⟨a,rfl,_⟩,_,_,rfl,⟨b,rfl,_⟩,_,_,rfl,⟨c,rfl,_⟩,_,_,rfl,⟨d,rfl,_⟩,_,_,rfl,⟨e,rfl,_⟩,_,_,rfl,⟨f,rfl,_⟩,_,_,rfl,⟨g,rfl,_⟩,_,_,rfl,⟨h,rfl,_⟩,_,_,rfl,⟨i,rfl,_⟩,_,_,rfl,⟨j,rfl,_⟩,_,_,rfl,⟨k,rfl,_⟩,_,_,rfl,⟨l,rfl,_⟩,_,_,rfl,⟨m,rfl,_⟩,_,_,rfl,⟨n,rfl,_⟩,_,_,rfl,⟨o,rfl,_⟩,_,_,rfl,⟨p,rfl,_⟩,_,_,rfl,⟨q,rfl,_⟩,rfl⟩:=h;exact⟨⟨a,b,c,d,e,f,g,h,i,j,k,l,m,n,o,p,q⟩,rfl⟩
end
theorem Ip:tab 645=some (.code CJ):=by kernel_rfl
def IN:List (Bool×List Sh):=[(true,[.int .i64,.int .i64,.int .i64,.int .i64,.int .i64,.int .i64,.int .i64,.int .i64,.int .i64,.int .i64,.int .i64,.str,.str,.str,.str,.str,.str]),(false,[.int .i64]),(false,[.bool])]
theorem GV (us:List DV) (hf:sZ IN us):∃ st',(E tab).F 645 us st0=some (.bool true,st'):=by
 obtain⟨_,_,rfl,hs,_,_,rfl,⟨_,_,rfl,⟨page,rfl,_⟩,rfl⟩,_,_,rfl,⟨_,_,rfl,⟨first,rfl⟩,rfl⟩,rfl⟩:=hf;obtain⟨s,rfl⟩:=HA hs;refine⟨st0,?_⟩;rw[au Ip rfl];simp only[elemOf,List.headD_cons,aaq,if_false,if_true];have hk:=xl;by_cases h1:pgE s page 1=0
 · obtain⟨_,hs0,hn1,hn2⟩:=uc h1;obtain⟨n,rfl⟩:=aaK (show 0≤page by omega);obtain⟨va,vb,e1,hva,hvb⟩:=ME (st:=pst st0 [.cells .plain s.cs] []) first h1;have ha:=Lw.sc hva;have hb:=Lw.sc hvb;obtain⟨vc,vd,e2,hvc,hvd⟩:=Pe (st:=pst st0 [.cells .plain s.cs,.cells .plain (lg s n first va vb)] []) first h1;have hc:=Lw.sc hvc;have hd:=Lw.sc hvd;have hsm:=fun st=>Ab (st:=st) (bl (bY n) (hdS s (cI s n first))) (bl (bY n) (ftS s (cI s n first))) (eJ s n) (fe s n) (zw _ _) (zw _ _) hva hvb hvc hvd (mT (bl (bY n) (hdS s (cI s n first))) (eJ s n)||mT (bl (bY n) (ftS s (cI s n first))) (fe s n));unfold lg at e1 e2;clear hva hvb hvc hvd;generalize bl (bY n) (hdS s (cI s n first))=FA at *;generalize bl (bY n) (ftS s (cI s n first))=FB at *;generalize (mT FA (eJ s n)||mT FB (fe s n))=C at *;simp only[lg,cQ,Sec.cs] at e1 e2 hsm ⊢
   try simp at e1
   try simp at e2
   simp[CJ,hk,e1,e2,ha,hb,hc,hd,hsm]
 · have e1:=fun st=>Bk (st:=st) page first h1;have e2:=fun st=>BI (st:=st) page first h1;have hsm:=fun st=>Ab (st:=st) [] [] ⟨0,0,0,0⟩ ⟨0,0,0,0⟩ (LA:=[]) (LB:=[]) (by simp) (by simp) kK kK kK kK false;simp only[cQ,Sec.cs] at e1 e2 hsm ⊢;simp[CJ,hk,e1,e2,hsm]
end Go.D.Tab
end
section
namespace Go.D
open Go.RowKit
variable {P:Program}
theorem vO {w:World}:∀ (l:List (String×DataW Unit)) (ps:List MemPlace),DataW.LaidVars P w l ps→∀ x∈l,∃ g t cs fuel p,P.globalNamed x.1=some g∧(P.globals[g]?).map (·.type)=some t∧w.var? P x.1=some cs ∧
 DataW.trod (fun _=>()) P w 0 (fun _=>true) false fuel t cs.toList=some (x.2,p)
 | [],_,_,x,hx=>by simp at hx
 | y::l,ps,h,x,hx=>by
   obtain⟨g,t,cs,fuel,p,q,h1,h2,h3,h4,h5,h6⟩:=h;rcases aav.1 hx with rfl|hx
   · exact⟨g,t,cs,fuel,p,h1,h2,h3,h4⟩
   · exact vO l _ h5 x hx
theorem ud {laid:List (String×DataW Unit)} {w:World} {name:String} {k:IntKind} {tab:List Nat} {g n:Nat} {t e:TypeId} (hg:P.globalNamed name=some g) (hty:(P.globals[g]?).map (·.type)=some t) (ht:P.underlying t=some (.array n e))
 (he:P.underlying e=some (.int k)) (hce:P.cellsOf e=1) (hct:P.cellsOf t=n) (hx:(name,Lib.tabData k (tab.map abs))∈laid) (h:laidMet P laid w):∀ i (h:i<tab.length),w.cell? ⟨g,i,none⟩=some (.int k (abs tab[i])):=by
 obtain⟨ps,h1,_⟩:=h;obtain⟨g',t',cs,fuel,p,hg',ht',hvar,hd⟩:=vO laid ps h1 _ hx;obtain rfl:=aab.inj (hg.symm.trans hg');obtain rfl:=aab.inj (hty.symm.trans ht');have hcs:=Lib.cells_of_tab ht he hce hct hd;intro i hi;rw[World.var?_cell hg hvar i,← abt,hcs];simp[hi]
end Go.D
end
