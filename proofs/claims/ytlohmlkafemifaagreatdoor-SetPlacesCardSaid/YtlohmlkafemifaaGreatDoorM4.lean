import Derived.Test.YtlohmlkafemifaaGreatDoorM3
/-! Texts 4 of this claim, joined. -/
set_option linter.unnecessarySimpa false
set_option linter.unusedSimpArgs false
set_option linter.unusedVariables false
open _root_.Bool renaming and_eq_false_iff → aby, and_eq_true → aac, eq_iff_iff → aaQ, false_and → aaY, false_eq_true → aao, false_or → abJ, not_eq_true → abw, not_eq_true' → abn, or_eq_true → aa6, true_and → aaB, true_eq_false → abk
open _root_.Int renaming tdiv_eq_ediv_of_nonneg → aaI
open _root_.List renaming all_eq_true → aae, any_cons → abx, any_eq_true → abf, append_assoc → aau, append_inj' → abO, append_nil → aaE, cons_append → aaS, drop_eq_nil_of_le → aa8, ext_getElem? → aa4, getD_eq_getElem?_getD → aaf, getElem?_append_left → aak, getElem?_append_right → aaz, getElem?_cons_zero → aav, getElem?_eq_getElem → aaa, getElem?_eq_none → aaU, getElem?_eq_some_iff → aad, getElem?_map → aaG, getElem?_set_ne → aam, getElem?_set_self → aaq, length_append → aag, length_drop → aa2, length_eq_zero_iff → aa3, length_filter_le → aaO, length_map → aaP, length_nil → abp, length_pos_iff → aaR, length_singleton → aal, map_append → abr, map_cons → aaH, map_nil → abD, mem_append → aaA, mem_append_left → abK, mem_cons → aas, mem_cons_of_mem → aaC, mem_flatMap → aaM, mem_map → aay, mem_of_getElem? → aat, mem_of_mem_drop → aaD, mem_range → abF, mem_singleton → aaw, nil_append → aaF, range → aan, replicate → aap, set_append_right → abb, set_set → abH, take_append_drop → aa9, take_of_length_le → aa7
open _root_.Nat renaming add_assoc → abE, add_zero → abe, le_refl → aai, le_trans → abl, lt_of_lt_of_le → abj, zero_add → aar, zero_le → abB
open _root_.Option renaming some → aab
section
namespace Go.D.Tab
theorem Hw {st:St} {H:List HO} {K:List Nat} {n by_:Nat} {ag:Bool} {xs ys:List DV} {v w:DV} (h:Acc st K n xs v) (hw:Vw (pst st H K) n ag ys w) (hn:0<n) (hy:ys≠[]) (he:∀ y∈ys,dX n ag y)
 (hr:(xs.length+ys.length)*by_≤aB) (hr2:xs.length+ys.length≤aB) :
 ∃ v' K',aZ (pst st H K) n ag by_ v w=some (v',pst st H K')∧Acc st K' n (xs++ys) v':=by
 obtain⟨v',K',h1,h2⟩:=cR (H:=H) (t:=0) (tk:=.no) h hn hy he hr hr2;refine⟨v',K',?_,h2⟩;rw[← h1];have e1:=hw.news;have e2:bU (pst st H K) n (.list 0 n .no true ys)=some (ys.length,flat ys):=by simp[bU]
 unfold aZ;rw[e1,e2]
def isS (c:UInt8):Bool:=decide (97≤c.toNat)&&decide (c.toNat≤122)
def isD (c:UInt8):Bool:=decide (48≤c.toNat)&&decide (c.toNat≤57)
def u8 (c:UInt8):DV:=.int .u8 c.toNat
def d8 (d:Nat):DV:=.int .u8 d
theorem QG:tab 161=some (.code f161):=by kernel_rfl
theorem Q0:tab 163=some (.code f163):=by kernel_rfl
theorem RW:tab 199=some (.code f199):=by kernel_rfl
theorem Tm:tab 200=some (.code f200):=by kernel_rfl
theorem Db:tab 156=some (.code f156):=by kernel_rfl
theorem rU (c:UInt8) (st:St):(E tab).F 161 [.int .u8 c.toNat] st=some (.bool (isS c),st):=by
 rw[aK QG rfl];by_cases h:97≤c.toNat
 · have h':(97:Int)≤c.toNat:=by omega
   simp[f161,isS,h,h'];omega
 · have h':¬ (97:Int)≤c.toNat:=by omega
   simp[f161,isS,h,h']
theorem G6 (c:UInt8) (st:St):(E tab).F 163 [.int .u8 c.toNat] st=some (.bool (isD c),st):=by
 rw[aK Q0 rfl];by_cases h:48≤c.toNat
 · have h':(48:Int)≤c.toNat:=by omega
   simp[f163,isD,h,h'];omega
 · have h':¬ (48:Int)≤c.toNat:=by omega
   simp[f163,isD,h,h']
theorem nG (c:UInt8) (st:St):(E tab).F 200 [.int .u8 c.toNat] st=some (.bool (isD c),st):=by
 rw[aK Tm rfl];by_cases h:48≤c.toNat
 · have h':(48:Int)≤c.toNat:=by omega
   simp[f200,isD,h,h'];omega
 · have h':¬ (48:Int)≤c.toNat:=by omega
   simp[f200,isD,h,h']
theorem rJ (c:UInt8) (st:St):(E tab).F 199 [.int .u8 c.toNat] st=some (.bool (isS c),st):=by
 rw[aK RW rfl];by_cases h:97≤c.toNat
 · have h':(97:Int)≤c.toNat:=by omega
   simp[f199,isS,h,h'];omega
 · have h':¬ (97:Int)≤c.toNat:=by omega
   simp[f199,isS,h,h']
def aX (s:List UInt8):List UInt8:=s.filter fun c => !isD c
def cT:Nat→List UInt8→List Nat
 | d,[]=>[d]
 | d,c::r=>if isD c then cT (c.toNat-48) r else d::cT 0 r
theorem jk:∀ (s:List UInt8) (d:Nat),(cT d s).length=(aX s).length+1
 | [],_=>rfl
 | c::r,d=>by
   have ih:=jk r;by_cases h:isD c=true
   · simp[cT,aX,h] at ih ⊢;exact ih _
   · simp[cT,aX,h] at ih ⊢;exact ih _
theorem rY:∀ (s:List UInt8) (d:Nat) (c:UInt8),isD c=true→cT d (s++[c])=(cT d s).set (aX s).length (c.toNat-48)
 | [],d,c,h=>by simp[cT,aX,h]
 | x::r,d,c,h=>by
   have ih:=rY r;by_cases hx:isD x=true
   · simp[cT,aX,hx] at ih ⊢;exact ih _ _ h
   · simp[cT,aX,hx] at ih ⊢;exact ih _ _ h
theorem nT:∀ (s:List UInt8) (d:Nat) (c:UInt8),isD c=false→cT d (s++[c])=cT d s++[0]
 | [],d,c,h=>by simp[cT,h]
 | x::r,d,c,h=>by
   have ih:=nT r;by_cases hx:isD x=true
   · simp[cT,hx] at ih ⊢;exact ih _ _ h
   · simp[cT,hx] at ih ⊢;exact ih _ _ h
theorem vk (s:List UInt8) (c:UInt8) (h:isD c=true):aX (s++[c])=aX s:=by simp[aX,h]
theorem qR (s:List UInt8) (c:UInt8) (h:isD c=false):aX (s++[c])=aX s++[c]:=by simp[aX,h]
def scan (n:Nat):Nat→Bool→Bool→List UInt8→Option Bool
 | _,sm,_,[]=>some sm
 | i,sm,rd,c::r=>
   if c.toNat=46 then if i≠0∧i+1≠n then none else scan n (i+1) sm true r
   else if isS c then scan n (i+1) true true r
   else if isD c&&rd then scan n (i+1) sm false r
   else none
inductive DgR (st:St) (H:List HO) (D:List Nat):DV→Prop
 | one (k:Nat) (h1:k≠1) (hr:rowAt H k=some (.plain,D.map d8)) (hl:D.length=1):DgR st H D (.hsl 1 false (st.heap.length+k) 0 D.length (some D.length))
 | more (k:Nat) (h1:k≠1) (hr:rowAt H k=some (.grown,D.map d8)):DgR st H D (.hsl 1 false (st.heap.length+k) 0 D.length none)
theorem DgR.len {st:St} {H:List HO} {D:List Nat} {v:DV} (h:DgR st H D v) (st':St):rr st' .slice v=some (.int .i64 D.length,st'):=by cases h<;>rfl
theorem DgR.app {st:St} {H:List HO} {D:List Nat} {v:DV} (h:DgR st H D v) (X:List HO):DgR st (H++X) D v:=by
 cases h with
 | one k h1 hr hl=>exact .one k h1 (by rw[eX (bz hr)];exact hr) hl
 | more k h1 hr=>exact .more k h1 (by rw[eX (bz hr)];exact hr)
theorem DgR.V8 {st:St} {H:List HO} {K:List Nat} {D:List Nat} {v w:DV} {g:CK} {vs:List DV} (h:DgR st H D v) (hD:D.length≤1000) (h2:rowAt H 1=some (g,vs)) (hw:bU (pst st H K) 1 w=some (1,[d8 0])) :
 ∃ v' H',aZ (pst st H K) 1 false 1 v w=some (v',pst st H' K)∧DgR st H' (D++[0]) v'∧rowAt H' 1=some (g,vs):=by
 have hlen:=bz h2
 cases h with
 | one k h1 hr hl=>
   refine⟨.hsl 1 false (st.heap.length+H.length) 0 (D++[0]).length none,H++[.cells .grown ((D++[0]).map d8)],?_,.more _ (by omega) ?_,?_⟩
   · have hc:=iH st H K k;rw[hr] at hc;have e:(D.map d8).take 1=D.map d8:=aa7 (by simp[hl]);have e2:¬ (1+1≤1):=by omega
     simp only[aZ,hw,hl];simp[hc,aB,e,hl];simp[pst]
   · have:=gI (H:=H) (X:=[.cells .grown ((D++[0]).map d8)]) 0;simpa using this
   · rw[eX hlen];exact h2
 | more k h1 hr=>
   refine⟨.hsl 1 false (st.heap.length+H.length) 0 (D++[0]).length none,H.set k .gone++[.cells .grown ((D++[0]).map d8)],?_,.more _ (by omega) ?_,?_⟩
   · have hc:=iH st H K k;rw[hr] at hc;have h3:D.length+1≤140737488355328:=by omega
     simp only[aZ,hw];simp[hc,aB,h3];simp[pst,abb]
   · have:=gI (H:=H.set k .gone) (X:=[.cells .grown ((D++[0]).map d8)]) 0;simpa using this
   · rw[eX (by simpa using hlen)];unfold rowAt at h2 ⊢;rw[aam h1];exact h2
theorem DgR.store {st:St} {H:List HO} {K:List Nat} {D:List Nat} {v:DV} {g:CK} {vs:List DV} (h:DgR st H D v) {j:Nat} (hj:j<D.length) (h2:rowAt H 1=some (g,vs)) (x:Nat) :
 ∃ p H',(∀ st',pj st' 1 v (.int .i64 j)=some (p,st'))∧ly (pst st H K) 1 p (d8 x)=some (pst st H' K)∧DgR st H' (D.set j x) v∧rowAt H' 1=some (g,vs):=by
 have hlen:=bz h2
 have hs:∀ k g',k≠1→rowAt (H.set k (.cells g' ((D.set j x).map d8))) 1=some (g,vs):=by
  intro k g' h1;unfold rowAt at h2 ⊢;rw[aam h1];exact h2
 have hsp:=eZ (x:=d8 x) (vs:=D.map d8) (i:=j) (by simpa using hj)
 cases h with
 | one k h1 hr hl=>
   refine⟨.ptr (st.heap.length+k) (0+j*1),H.set k (.cells .plain ((D.set j x).map d8)),fun st'=>by simp[hj],?_,?_,hs _ _ h1⟩
   · rw[pn,hr];simp only[aar,Nat.mul_one];rw[show (d8 x).leaves=[d8 x] from rfl,hsp,if_pos ⟨rfl,rfl,by simp;omega,rfl⟩,List.map_set]
   · have:=DgR.one (st:=st) (D:=D.set j x) k h1 (dO (bz hr) .plain ((D.set j x).map d8)) (by simpa using hl);simpa using this
 | more k h1 hr=>
   refine⟨.ptr (st.heap.length+k) (0+j*1),H.set k (.cells .grown ((D.set j x).map d8)),fun st'=>by simp[hj],?_,?_,hs _ _ h1⟩
   · rw[pn,hr];simp only[aar,Nat.mul_one];rw[show (d8 x).leaves=[d8 x] from rfl,hsp,if_pos ⟨rfl,rfl,by simp;omega,rfl⟩,List.map_set]
   · have:=DgR.more (st:=st) (D:=D.set j x) k h1 (dO (bz hr) .grown ((D.set j x).map d8));simpa using this
section
variable {st:St} {s:List UInt8}
theorem Ov {C:List DV} (hC:C=s.map u8) (hs:s.length≤16):∀ (r d:List UInt8) (sm rd:Bool) (H:List HO) (K:List Nat) (v vd:DV),s=d++r→Acc st K 1 ((aX d).map u8) v→DgR st H (cT 0 d) vd→rowAt H 1=some (.grown,C) →
 (∀ b,scan s.length d.length sm rd r=some b→∃ H' K' v' vd' rd',(E tab).C eV [(0,.str s),(5,v),(6,vd),(7,.bool sm),(8,.bool rd),(21,.hsl 1 false (st.heap.length+1) 0 s.length none),(22,.int .i64 s.length),(23,.int .i64 d.length)] (pst st H K) =
  some (.exit 0,[(0,.str s),(5,v'),(6,vd'),(7,.bool b),(8,.bool rd'),(21,.hsl 1 false (st.heap.length+1) 0 s.length none),(22,.int .i64 s.length),(23,.int .i64 s.length),(24,.bool false)],pst st H' K')∧Acc st K' 1 ((aX s).map u8) v'∧DgR st H' (cT 0 s) vd') ∧
 (scan s.length d.length sm rd r=none→∃ H' K',(E tab).C eV [(0,.str s),(5,v),(6,vd),(7,.bool sm),(8,.bool rd),(21,.hsl 1 false (st.heap.length+1) 0 s.length none),(22,.int .i64 s.length),(23,.int .i64 d.length)] (pst st H K) =
  some (.ret,[(2,.str []),(3,.list 0 0 .no false []),(4,.bool false)],pst st H' K')):=by
 intro r
 induction r with
 | nil=>
   intro d sm rd H K v vd hd hv hvd h1;obtain rfl:s=d:=by simpa using hd
   refine⟨fun b hb=>?_,fun hb=>by simp[scan] at hb⟩;simp only[scan,aab.injEq] at hb;subst hb;refine⟨H,K,v,vd,rd,?_,hv,hvd⟩;rw[ae (L:=eV) rfl];simp[kH]
 | cons c r ih=>
   intro d sm rd H K v vd hd hv hvd h1;have h0:d.length<s.length:=by simp[hd]
   have hx:C[d.length]? = some (.int .u8 c.toNat):=by simp[hC,hd,u8]
   have hw1:IntKind.i64.wrap ((d.length:Int)+1)=((d++[c]).length:Nat):=by rw[ay (by omega)];simp
   have hwm:IntKind.i64.wrap ((s.length:Int)-1)=(s.length:Int)-1:=ay (by omega);have hd':s=(d++[c])++r:=by simp[hd]
   have hll:(aX d).length≤d.length:=aaO _ _;have hdl:=jk d 0;have sm1:=rU c;have dg1:=G6 c
   have hlet:isD c=false→∃ v' K' vd' H',aZ (pst st (H++[.cells .plain [.int .u8 c.toNat]]) K) 1 false 1 v (.hsl 1 false (st.heap.length+H.length) 0 1 (some 1))=some (v',pst st (H++[.cells .plain [.int .u8 c.toNat]]) K') ∧
    aZ (pst st (H++[.cells .plain [.int .u8 c.toNat],.cells .plain [.int .u8 0]]) K') 1 false 1 vd (.hsl 1 false (st.heap.length+(H.length+1)) 0 1 (some 1))=some (vd',pst st H' K') ∧
    Acc st K' 1 ((aX (d++[c])).map u8) v'∧DgR st H' (cT 0 (d++[c])) vd'∧rowAt H' 1=some (.grown,C):=by
    intro hc
    have hvw:Vw (pst st (H++[.cells .plain [.int .u8 c.toNat]]) K) 1 false [u8 c] (.hsl 1 false (st.heap.length+H.length) 0 1 (some 1)):=by
     have hcell:(pst st (H++[.cells .plain [.int .u8 c.toNat]]) K).cells (st.heap.length+H.length)=some (.plain,[.int .u8 c.toNat]):=by rw[iH];simp
     exact Vw.hsl (xs:=[u8 c]) _ 0 1 _ _ hcell (by simp) (by simp[flat,u8,DV.leaves]) (by simp)
    obtain⟨v',K',e1,e2⟩:=Hw (by_:=1) hv hvw (by omega) (by simp) (fun y hy=>by simp at hy;subst hy;exact⟨rfl,rfl,rfl⟩) (by simp[aB];omega) (by simp[aB];omega);have hr2:rowAt (H++[.cells .plain [.int .u8 c.toNat],.cells .plain [.int .u8 0]]) 1=some (.grown,C):=by rw[eX (bz h1)];exact h1
    have hnw:bU (pst st (H++[.cells .plain [.int .u8 c.toNat],.cells .plain [.int .u8 0]]) K') 1 (.hsl 1 false (st.heap.length+(H.length+1)) 0 1 (some 1))=some (1,[d8 0]):=by
     have hcell:(pst st (H++[.cells .plain [.int .u8 c.toNat],.cells .plain [.int .u8 0]]) K').cells (st.heap.length+(H.length+1))=some (.plain,[.int .u8 0]):=by
      rw[iH];have:=gI (H:=H) (X:=[.cells .plain [.int .u8 c.toNat],.cells .plain [.int .u8 0]]) 1;simpa using this
     simp[bU,hcell,d8]
    obtain⟨vd',H',e3,e4,e5⟩:=(hvd.app [.cells .plain [.int .u8 c.toNat],.cells .plain [.int .u8 0]]).V8 (by omega) hr2 hnw;refine⟨v',K',vd',H',e1,e3,?_,?_,e5⟩
    · rw[qR _ _ hc];simpa using e2
    · rw[nT _ _ _ hc];exact e4
   simp only[aag,aal] at hw1;by_cases hdot:c.toNat=46
   · have hdi:((c.toNat:Int)=46)=True:=eq_true (by omega);have hcD:isD c=false:=by simp[isD,hdot]
     by_cases hbad:d.length≠0∧d.length+1≠s.length
     · have hsc:scan s.length d.length sm rd (c::r)=none:=by simp only[scan,if_pos hdot,if_pos hbad]
       refine⟨fun b hb=>(by rw[hsc] at hb;cases hb),fun _=>⟨H,K,?_⟩⟩;have b1:¬ ((d.length:Int)=0):=by omega
       have b2:¬ ((d.length:Int)=(s.length:Int)-1):=by omega
       have b3:¬ d=[]:=fun e=>hbad.1 (by simp[e]);rw[ae (L:=eV) rfl];simp[kH,h0,h1,hx,hdi,hwm,b1,b2,b3]
     · have hsc:scan s.length d.length sm rd (c::r)=scan s.length (d++[c]).length sm true r:=by rw[aag];simp only[scan,if_pos hdot,if_neg hbad,aal]
       obtain⟨v',K',vd',H',a1,a2,a3,a4,a5⟩:=hlet hcD;obtain⟨j1,j2⟩:=ih (d++[c]) sm true H' K' v' vd' hd' a3 a4 a5;rw[hsc];simp only[aag,aal] at j1 j2 ⊢
       have fin:∀ X,(E tab).C eV [(0,.str s),(5,v'),(6,vd'),(7,.bool sm),(8,.bool true),(21,.hsl 1 false (st.heap.length+1) 0 s.length none),(22,.int .i64 s.length),(23,.int .i64 (d.length+1:Nat))] (pst st H' K')=X →
        (E tab).C eV [(0,.str s),(5,v),(6,vd),(7,.bool sm),(8,.bool rd),(21,.hsl 1 false (st.heap.length+1) 0 s.length none),(22,.int .i64 s.length),(23,.int .i64 d.length)] (pst st H K)=X:=by
        intro X hX;simp at hX;rw[ae (L:=eV) rfl];by_cases hz:d=[]
        · subst hz;simp at a1 a2 hX hx h0;have w1:IntKind.i64.wrap 1=1:=ay (by omega);simp[kH,h0,h1,hx,hdi,w1,oa,aO,dw,bj,a1,a2,hw1,hX]
        · have hz':¬ d.length=0:=by simpa using hz
          have b2:((d.length:Int) != (s.length:Int)-1)=false:=by rw[bne_eq_false_iff_eq];omega
          simp at hw1;simp[kH,h0,h1,hx,hdi,hwm,hz,b2,oa,aO,dw,bj,a1,a2,hw1,hX]
       refine⟨fun b hb=>?_,fun hb=>?_⟩
       · obtain⟨H2,K2,v2,vd2,rd2,hJ,q⟩:=j1 b hb;exact⟨H2,K2,v2,vd2,rd2,fin _ hJ,q⟩
       · obtain⟨H2,K2,hJ⟩:=j2 hb;exact⟨H2,K2,fin _ hJ⟩
   have hdi:((c.toNat:Int)=46)=False:=eq_false (by omega);by_cases hS:isS c=true
   · have hcD:isD c=false:=by simp[isS,isD] at hS ⊢;omega
     have hsc:scan s.length d.length sm rd (c::r)=scan s.length (d++[c]).length true true r:=by rw[aag];simp only[scan,if_neg hdot,if_pos hS,aal]
     obtain⟨v',K',vd',H',a1,a2,a3,a4,a5⟩:=hlet hcD;obtain⟨j1,j2⟩:=ih (d++[c]) true true H' K' v' vd' hd' a3 a4 a5;rw[hsc];simp only[aag,aal] at j1 j2 ⊢;rw[hS] at sm1
     have fin:∀ X,(E tab).C eV [(0,.str s),(5,v'),(6,vd'),(7,.bool true),(8,.bool true),(21,.hsl 1 false (st.heap.length+1) 0 s.length none),(22,.int .i64 s.length),(23,.int .i64 (d.length+1:Nat))] (pst st H' K')=X →
      (E tab).C eV [(0,.str s),(5,v),(6,vd),(7,.bool sm),(8,.bool rd),(21,.hsl 1 false (st.heap.length+1) 0 s.length none),(22,.int .i64 s.length),(23,.int .i64 d.length)] (pst st H K)=X:=by
      intro X hX;simp at hX hw1;rw[ae (L:=eV) rfl];simp[kH,h0,h1,hx,hdi,sm1,oa,aO,dw,bj,a1,a2,hw1,hX]
     refine⟨fun b hb=>?_,fun hb=>?_⟩
     · obtain⟨H2,K2,v2,vd2,rd2,hJ,q⟩:=j1 b hb;exact⟨H2,K2,v2,vd2,rd2,fin _ hJ,q⟩
     · obtain⟨H2,K2,hJ⟩:=j2 hb;exact⟨H2,K2,fin _ hJ⟩
   have hS':isS c=false:=by simpa using hS
   rw[hS'] at sm1;by_cases hD:isD c=true∧rd=true
   · obtain⟨hcD,rfl⟩:=hD;have hsc:scan s.length d.length sm true (c::r)=scan s.length (d++[c]).length sm false r:=by rw[aag];simp only[scan,if_neg hdot,if_neg hS,hcD,Bool.and_self,if_true,aal]
     obtain⟨p,H',a1,a2,a3,a4⟩:=hvd.store (K:=K) (j:=(aX d).length) (by omega) h1 (c.toNat-48);have hlen:=hvd.len;rw[← rY _ _ _ hcD] at a3;obtain⟨j1,j2⟩:=ih (d++[c]) sm false H' K v vd hd' (by rw[vk _ _ hcD];exact hv) a3 a4;rw[hsc];simp only[aag,aal] at j1 j2 ⊢;rw[hcD] at dg1;have hl2:IntKind.i64.wrap (((cT 0 d).length:Int)-1)=((aX d).length:Int):=by rw[ay (by omega)];omega
     have hu8:IntKind.u8.wrap ((c.toNat:Int)-48)=((c.toNat-48:Nat):Int):=by
      have h8:c.toNat<256:=c.toNat_lt;have h48:48≤c.toNat:=by simp[isD] at hcD;omega
      rw[IntWalk.u8_in _ ⟨by omega,by omega⟩];omega
     simp only[d8] at a2
     have fin:∀ X,(E tab).C eV [(0,.str s),(5,v),(6,vd),(7,.bool sm),(8,.bool false),(21,.hsl 1 false (st.heap.length+1) 0 s.length none),(22,.int .i64 s.length),(23,.int .i64 (d.length+1:Nat))] (pst st H' K)=X →
      (E tab).C eV [(0,.str s),(5,v),(6,vd),(7,.bool sm),(8,.bool true),(21,.hsl 1 false (st.heap.length+1) 0 s.length none),(22,.int .i64 s.length),(23,.int .i64 d.length)] (pst st H K)=X:=by
      intro X hX;simp at hX hw1;rw[ae (L:=eV) rfl];simp[kH,h0,h1,hx,hdi,sm1,dg1,hlen,hl2,hu8,a1,a2,hw1,hX]
     refine⟨fun b hb=>?_,fun hb=>?_⟩
     · obtain⟨H2,K2,v2,vd2,rd2,hJ,q⟩:=j1 b hb;exact⟨H2,K2,v2,vd2,rd2,fin _ hJ,q⟩
     · obtain⟨H2,K2,hJ⟩:=j2 hb;exact⟨H2,K2,fin _ hJ⟩
   · have hsc:scan s.length d.length sm rd (c::r)=none:=by
      have:¬ (isD c&&rd)=true:=by simpa using hD
      simp only[scan,if_neg hdot,if_neg hS,if_neg this]
     refine⟨fun b hb=>(by rw[hsc] at hb;cases hb),fun _=>⟨H,K,?_⟩⟩;rw[ae (L:=eV) rfl];by_cases hcD:isD c=true
     · rw[hcD] at dg1;have hrd:rd=false:=by cases rd<;>simp_all
       simp[kH,h0,h1,hx,hdi,sm1,dg1,hrd]
     · have hcD':isD c=false:=by simpa using hcD
       rw[hcD'] at dg1;simp[kH,h0,h1,hx,hdi,sm1,dg1]
theorem lB:∀ l:List UInt8,fv (l.map u8)=some l
 | []=>rfl
 | c::r=>by
   have:=lB r;show (fv (r.map u8)).map (fun l=>UInt8.ofNat ((c.toNat:Int)).toNat::l)=_;rw[this];simp
theorem vp {st:St} {K:List Nat} {l:List UInt8} {v:DV} (h:Acc st K 1 (l.map u8) v) (st':St):bU st' 1 v=some (l.length,l.map u8)∧∀ s,v≠.str s:=by
 rcases h with ⟨hl,t,n',tk,rfl⟩ | ⟨k,s,rfl,hk⟩
 · have:l=[]:=by simpa using hl
   subst this;exact⟨rfl,fun s e=>by cases e⟩
 · refine⟨?_,fun s e=>by cases e⟩;have:flat (l.map u8)=l.map u8:=gu _ (by intro y hy;obtain⟨c,_,rfl⟩:=aay.1 hy;exact⟨rfl,rfl,rfl⟩);simp[bU,this]
def okP (s:List UInt8):Bool:=decide (1≤s.length)&&decide (s.length≤16)&&(scan s.length 0 false true s==some true)
theorem AK (s:List UInt8) (st:St):(okP s=true→∃ t tk,(E tab).F 156 [.str s] st=some (.tuple [.str (aX s),.list t 1 tk true ((cT 0 s).map d8),.bool true],st)) ∧
 (okP s=false→∃ l v,(E tab).F 156 [.str s] st=some (.tuple [.str l,v,.bool false],st)):=by
 by_cases h1:s.length<1
 · have h1':(s.length:Int)<1:=by omega
   have hz:s=[]:=by simpa using h1
   refine⟨fun h=>by simp[okP,hz] at h,fun _=>⟨[],.list 0 0 .no false [],?_⟩⟩;rw[aK Db rfl];subst hz;simp[f156]
 by_cases h2:16<s.length
 · have h2':(16:Int)<s.length:=by omega
   have h1':¬ (s.length:Int)<1:=by omega
   refine⟨fun h=>by simp[okP] at h;omega,fun _=>⟨[],.list 0 0 .no false [],?_⟩⟩;rw[aK Db rfl];simp[f156,h1',h2']
 have h1':¬ (s.length:Int)<1:=by omega
 have h2':¬ (16:Int)<s.length:=by omega
 obtain⟨j1,j2⟩:=Ov (st:=st) (s:=s) rfl (by omega) s [] false true [.cells .plain [d8 0],.cells .grown (s.map u8)] [] (.list 0 0 .no false []) (.hsl 1 false (st.heap.length+0) 0 1 (some 1)) rfl (dU ..) (DgR.one (D:=[0]) 0 (by omega) rfl rfl) rfl;simp only[d8] at j1 j2;have hu:(fun b:UInt8=>DV.int .u8 (b.toNat:Int))=u8:=rfl
 have hok:okP s=(scan s.length 0 false true s==some true):=by
  simp only[okP];rw[decide_eq_true (by omega:1≤s.length),decide_eq_true (by omega:s.length≤16)];simp
 cases hsc:scan s.length 0 false true s with
 | none=>
   obtain⟨H',K',hL⟩:=j2 hsc;refine⟨fun h=>(by rw[hok,hsc] at h;cases h),fun _=>⟨[],.list 0 0 .no false [],?_⟩⟩;simp at hL;rw[aK Db rfl];simp[f156,h1',h2',oa,aO,dw,bj,hu,hL]
 | some b=>
   obtain⟨H',K',v',vd',rd',hL,a1,a2⟩:=j1 b hsc;obtain⟨b1,b2⟩:=vp a1 (pst st H' K');have b3:=lB (aX s)
   have hex:∃ t tk,cj st (pst st H' K') vd'=some (.list t 1 tk true ((cT 0 s).map d8)):=by
    have hel:∀ y∈(cT 0 s).map d8,dX 1 false y:=by intro y hy;obtain⟨c,_,rfl⟩:=aay.1 hy;exact⟨rfl,rfl,rfl⟩
    have hfl:=gu _ hel
    cases a2 with
    | one k q1 hr hl=>
      have:=rf (st:=st) (K:=K') (cap:=some (cT 0 s).length) (n:=1) (ag:=false) (ys:=(cT 0 s).map d8) (by rw[hfl];exact hr) (by omega) (.inr rfl) hel;simp only[aaP] at this;exact⟨_,_,this⟩
    | more k q1 hr=>
      have:=rf (st:=st) (K:=K') (cap:=none) (n:=1) (ag:=false) (ys:=(cT 0 s).map d8) (by rw[hfl];exact hr) (by omega) (.inr rfl) hel;simp only[aaP] at this;exact⟨_,_,this⟩
   obtain⟨t,tk,hex⟩:=hex;simp at hL
   have hrun:(E tab).F 156 [.str s] st=some (.tuple [.str (aX s),.list t 1 tk true ((cT 0 s).map d8),.bool b],st):=by
    rw[aK Db rfl];simp[f156,h1',h2',oa,aO,dw,bj,hu,hL,ny,b1,b3,hex]
   refine⟨fun h=>?_,fun h=>?_⟩
   · rw[hok,hsc] at h;obtain rfl:b=true:=by simpa using h
     exact⟨t,tk,hrun⟩
   · rw[hok,hsc] at h;obtain rfl:b=false:=by cases b with | false=>rfl | true=>simp at h
     exact⟨_,_,hrun⟩
end
theorem R4:tab 201=some (.code f201):=by kernel_rfl
theorem QJ:tab 195=some (.code f195):=by kernel_rfl
theorem TX:tab 194=some (.code f194):=by kernel_rfl
theorem P5:tab 196=some (.code f196):=by kernel_rfl
section
variable {s:List UInt8} {st:St}
theorem Dx {d r:List UInt8} {c:UInt8} (hd:s=d++c::r) (k k':IntKind):cb true 1 (.str s) (some (.int k d.length)) (some (.int k' (d.length+1:Nat))) none=some (.str [c]):=by
 rw[s5 (by omega) (by omega) (by rw[hd];simp;omega)];simp[hd]
theorem Ot (hs:s.length≤1000000) (H:List HO) (K:List Nat):∀ (r d:List UInt8),s=d++r →
 (E tab).C tj [(0,.str s),(3,.str (aX d)),(4,.int .i64 d.length)] (pst st H K)=some (.exit 0,[(0,.str s),(3,.str (aX s)),(4,.int .i64 s.length),(8,.bool false)],pst st H K):=by
 intro r
 induction r with
 | nil=>
   intro d hd;obtain rfl:s=d:=by simpa using hd
   rw[ae (L:=tj) rfl];simp[ve]
 | cons c r ih=>
   intro d hd;have h0:d.length<s.length:=by simp[hd]
   have hx:s[d.length]? = some c:=by simp[hd]
   have hge:s[d.length]'h0=c:=by have:=hx;rw[aaa h0] at this;exact aab.inj this
   have hw1:IntKind.i64.wrap ((d.length:Int)+1)=((d.length+1:Nat):Int):=by rw[ay (by omega)];simp
   have hJ:=ih (d++[c]) (by simp[hd]);have hc:=Dx hd .i64 .i64;have dg:=nG c;by_cases hD:isD c=true
   · rw[hD] at dg;rw[vk _ _ hD] at hJ;simp at hJ hw1;rw[ae (L:=tj) rfl];simp[ve,h0,hx,hge,dg,hw1,hJ]
   · have hD':isD c=false:=by simpa using hD
     rw[hD'] at dg;rw[qR _ _ hD'] at hJ;have hlb:(aX d).length≤4611686018427387903:=by have:=aaO (fun c => !isD c) d;unfold aX;omega
     simp at hJ hw1 hc;rw[ae (L:=tj) rfl];simp[ve,h0,hx,hge,dg,hw1,hc,hlb,hJ]
theorem zJ (hs:s.length≤1000000):(E tab).F 201 [.str s] st=some (.str (aX s),st):=by
 rw[aK R4 rfl];have hL:=Ot (st:=st) hs [] [] s [] rfl;simp[aX] at hL;simp[f201,hL,aX]
def aD (s:List UInt8):List UInt8:=s.filter fun c=>decide (c.toNat≠45)
theorem M3 (hs:s.length≤1000000) (H:List HO) (K:List Nat):∀ (r d:List UInt8),s=d++r →
 (E tab).C sN [(0,.str s),(3,.str (aD d)),(4,.int .i64 d.length)] (pst st H K)=some (.exit 0,[(0,.str s),(3,.str (aD s)),(4,.int .i64 s.length),(8,.bool false)],pst st H K):=by
 intro r
 induction r with
 | nil=>
   intro d hd;obtain rfl:s=d:=by simpa using hd
   rw[ae (L:=sN) rfl];simp[vq]
 | cons c r ih=>
   intro d hd;have h0:d.length<s.length:=by simp[hd]
   have hx:s[d.length]? = some c:=by simp[hd]
   have hge:s[d.length]'h0=c:=by have:=hx;rw[aaa h0] at this;exact aab.inj this
   have hw1:IntKind.i64.wrap ((d.length:Int)+1)=((d.length+1:Nat):Int):=by rw[ay (by omega)];simp
   have hJ:=ih (d++[c]) (by simp[hd]);have hc:=Dx hd .i64 .i64;by_cases hD:c.toNat=45
   · have hD2:((c.toNat:Int)=45)=True:=eq_true (by omega);have hD3:((c.toNat:Int) != 45)=false:=by rw[bne_eq_false_iff_eq];omega
     have e:aD (d++[c])=aD d:=by simp[aD,hD]
     rw[e] at hJ;simp at hJ hw1;rw[ae (L:=sN) rfl];simp[vq,h0,hx,hge,hD2,hD3,hw1,hJ]
   · have hD2:((c.toNat:Int)=45)=False:=eq_false (by omega);have hD3:((c.toNat:Int) != 45)=true:=by rw[bne_iff_ne];omega
     have e:aD (d++[c])=aD d++[c]:=by simp[aD,hD]
     have hlb:(aD d).length≤4611686018427387903:=by have:=aaO (fun c:UInt8=>decide (c.toNat≠45)) d;unfold aD;omega
     rw[e] at hJ;simp at hJ hw1 hc;rw[ae (L:=sN) rfl];simp[vq,h0,hx,hge,hD2,hD3,hw1,hc,hlb,hJ]
theorem qH (hs:s.length≤1000000):(E tab).F 195 [.str s] st=some (.str (aD s),st):=by
 rw[aK QJ rfl];have hL:=M3 (st:=st) hs [] [] s [] rfl;simp[aD] at hL;simp[f195,hL,aD]
def cM (c:UInt8):UInt8:=if 65≤c.toNat∧c.toNat≤90 then UInt8.ofNat (c.toNat+32) else c
theorem Bt {c:UInt8} (h:65≤c.toNat∧c.toNat≤90):(cM c).toNat=c.toNat+32:=by
 unfold cM;rw[if_pos h];show (c.toNat+32)%256=_;omega
theorem BB {c:UInt8} (h:¬ (65≤c.toNat∧c.toNat≤90)):cM c=c:=by unfold cM;rw[if_neg h]
def mh (s:List UInt8):Bool:=s.all fun c=>isS (cM c)
theorem Mh (hs:s.length≤4611686018427387903) (H:List HO) (K:List Nat):∀ (r d:List UInt8),s=d++r →
 (mh r=true→(E tab).C jG [(0,.str s),(4,.str (d.map cM)),(5,.int .i64 d.length)] (pst st H K)=some (.exit 0,[(0,.str s),(4,.str (s.map cM)),(5,.int .i64 s.length),(10,.bool false)],pst st H K)) ∧
 (mh r=false→(E tab).C jG [(0,.str s),(4,.str (d.map cM)),(5,.int .i64 d.length)] (pst st H K)=some (.ret,[(2,.str []),(3,.bool false)],pst st H K)):=by
 intro r
 induction r with
 | nil=>
   intro d hd;obtain rfl:s=d:=by simpa using hd
   refine⟨fun _=>?_,fun h=>by cases h⟩;rw[ae (L:=jG) rfl];simp[kj]
 | cons c r ih=>
   intro d hd;have h0:d.length<s.length:=by simp[hd]
   have hx:s[d.length]? = some c:=by simp[hd]
   have hge:s[d.length]'h0=c:=by have:=hx;rw[aaa h0] at this;exact aab.inj this
   have hw1:IntKind.i64.wrap ((d.length:Int)+1)=(d.length:Int)+1:=by rw[ay (by omega)]
   obtain⟨j1,j2⟩:=ih (d++[c]) (by simp[hd]);have hlb:d.length≤4611686018427387903:=by omega
   have sm:=rJ (cM c)
   have hb:∀ t st',opE tab (.b2s (.t 29)) ((29,.list t 1 .tight true [.int .u8 (cM c).toNat])::[(28,.int .u8 (cM c).toNat),(27,.str (d.map cM)),(0,.str s),(4,.str (d.map cM)),(5,.int .i64 d.length),(6,.int .u8 (cM c).toNat),(26,.bool false)]) st'=some (.str [cM c],st'):=by
    intro t st';simp[ny,bU,flat,fv,DV.leaves]
   have hall:mh (c::r)=(isS (cM c)&&mh r):=rfl;simp only[aag,aal,abr,aaH,abD] at j1 j2;simp at j1 j2;by_cases hA:65≤c.toNat∧c.toNat≤90
   · have a1:(65:Int)≤c.toNat:=by omega
     have a2:(c.toNat:Int)≤90:=by omega
     have a3:IntKind.u8.wrap ((c.toNat:Int)+32)=((cM c).toNat:Int):=by rw[IntWalk.u8_in _ ⟨by omega,by omega⟩,Bt hA];simp
     by_cases hS:isS (cM c)=true
     · rw[hS] at sm;rw[hall,hS,aaB];refine⟨fun h=>?_,fun h=>?_⟩
       · rw[ae (L:=jG) rfl];simp[kj,h0,hx,hge,a1,a2,hA.1,hA.2,a3,sm,aC,aO,dw,bj,chunk,hb,hlb,hw1,j1 h]
       · rw[ae (L:=jG) rfl];simp[kj,h0,hx,hge,a1,a2,hA.1,hA.2,a3,sm,aC,aO,dw,bj,chunk,hb,hlb,hw1,j2 h]
     · have hS':isS (cM c)=false:=by simpa using hS
       rw[hS'] at sm;rw[hall,hS',aaY];refine⟨fun h=>(by cases h),fun _=>?_⟩;rw[ae (L:=jG) rfl];simp[kj,h0,hx,hge,a1,a2,hA.1,hA.2,a3,sm]
   · have hl:=BB hA;rw[hl] at sm hb hall j1 j2
     have hgd:(decide ((65:Int)≤c.toNat)&&decide ((c.toNat:Int)≤90))=false:=by
      rw[Bool.eq_false_iff];intro e;simp at e;exact hA ⟨by omega,by omega⟩
     by_cases hS:isS c=true
     · rw[hS] at sm;rw[hall,hS,aaB];have a1:(65:Int)≤c.toNat:=by simp[isS] at hS;omega
       have a2:¬ (c.toNat:Int)≤90:=by omega
       refine⟨fun h=>?_,fun h=>?_⟩
       · rw[ae (L:=jG) rfl];simp[kj,h0,hx,hge,a1,a2,sm,aC,aO,dw,bj,chunk,hb,hlb,hw1,j1 h]
       · rw[ae (L:=jG) rfl];simp[kj,h0,hx,hge,a1,a2,sm,aC,aO,dw,bj,chunk,hb,hlb,hw1,j2 h]
     · have hS':isS c=false:=by simpa using hS
       rw[hS'] at sm;rw[hall,hS',aaY];refine⟨fun h=>(by cases h),fun _=>?_⟩;rw[ae (L:=jG) rfl];by_cases a1:(65:Int)≤c.toNat
       · have a2:¬ (c.toNat:Int)≤90:=by omega
         simp[kj,h0,hx,hge,a1,a2,sm]
       · simp[kj,h0,hx,hge,a1,sm]
theorem Hc (hs:s.length≤4611686018427387903):(E tab).F 194 [.str s] st=some (if mh s then .tuple [.str (s.map cM),.bool (decide (1≤s.length)&&decide (s.length≤64))] else .tuple [.str [],.bool false],st):=by
 rw[aK TX rfl];obtain⟨j1,j2⟩:=Mh (st:=st) hs [] [] s [] rfl;simp at j1 j2;by_cases h:mh s=true
 · have hL:=j1 h;by_cases h1:1≤s.length
   · have h1':(1:Int)≤s.length:=by omega
     simp[f194,hL,h,h1,h1'];omega
   · have h1':¬ (1:Int)≤s.length:=by omega
     simp[f194,hL,h,h1,h1']
 · have h':mh s=false:=by simpa using h
   simp[f194,j2 h',h']
end
theorem Ss:tab 149=some (.code f149):=by kernel_rfl
section
variable {s:List UInt8} {st:St}
theorem Oe (hs:s.length≤64) (K:List Nat):∀ (r d:List UInt8) (X:List DV),s=d++r→X=(d.map cM++r).map u8 →
 (mh r=true→(E tab).C jH [(4,.hsl 1 false st.heap.length 0 s.length none),(17,.hsl 1 false st.heap.length 0 s.length none),(18,.int .i64 s.length),(19,.int .i64 d.length)] (pst st [.cells .grown X] K) =
  some (.exit 0,[(4,.hsl 1 false st.heap.length 0 s.length none),(17,.hsl 1 false st.heap.length 0 s.length none),(18,.int .i64 s.length),(19,.int .i64 s.length),(20,.bool false)],pst st [.cells .grown ((s.map cM).map u8)] K)) ∧
 (mh r=false→∃ X',(E tab).C jH [(4,.hsl 1 false st.heap.length 0 s.length none),(17,.hsl 1 false st.heap.length 0 s.length none),(18,.int .i64 s.length),(19,.int .i64 d.length)] (pst st [.cells .grown X] K) =
  some (.ret,[(2,.str []),(3,.bool false)],pst st [.cells .grown X'] K)):=by
 intro r
 induction r with
 | nil=>
   intro d X hd hX;obtain rfl:s=d:=by simpa using hd
   refine⟨fun _=>?_,fun h=>by cases h⟩;rw[ae (L:=jH) rfl];simp[kF,hX]
 | cons c r ih=>
   intro d X hd hX;have h0:d.length<s.length:=by simp[hd]
   have hx:X[d.length]? = some (.int .u8 c.toNat):=by simp[hX,u8]
   have hlX:X.length=s.length:=by simp[hX,hd]
   have hlt:d.length<X.length:=by omega
   have hge:X[d.length]'hlt=.int .u8 c.toNat:=by have:=hx;rw[aaa hlt] at this;exact aab.inj this
   have hw1:IntKind.i64.wrap ((d.length:Int)+1)=(d.length:Int)+1:=by rw[ay (by omega)]
   have hsp:=eZ (x:=.int .u8 (cM c).toNat) (vs:=X) hlt
   have hset:X.set d.length (.int .u8 (cM c).toNat)=((d++[c]).map cM++r).map u8:=by
    rw[hX];simp[u8,abb]
   have sm:=rU (cM c);have hall:mh (c::r)=(isS (cM c)&&mh r):=rfl;by_cases hA:65≤c.toNat∧c.toNat≤90
   · have a1:(65:Int)≤c.toNat:=by omega
     have a2:(c.toNat:Int)≤90:=by omega
     have a4:IntKind.u8.wrap ((c.toNat:Int)+97)=(c.toNat:Int)+97:=IntWalk.u8_in _ ⟨by omega,by omega⟩;have a3:IntKind.u8.wrap ((c.toNat:Int)+97-65)=((cM c).toNat:Int):=by rw[IntWalk.u8_in _ ⟨by omega,by omega⟩,Bt hA];omega
     have hlt2:d.length<(X.set d.length (.int .u8 (cM c).toNat)).length:=by simpa using hlt
     have hx2:(X.set d.length (.int .u8 (cM c).toNat))[d.length]? = some (.int .u8 (cM c).toNat):=aaq hlt;obtain⟨j1,j2⟩:=ih (d++[c]) (X.set d.length (.int .u8 (cM c).toNat)) (by simp[hd]) hset;generalize X.set d.length (.int .u8 (cM c).toNat)=Y at *;have hge2:Y[d.length]'hlt2=.int .u8 (cM c).toNat:=by have:=hx2;rw[aaa hlt2] at this;exact aab.inj this
     simp only[aag,aal] at j1 j2;simp at j1 j2;simp only[bj,aal] at hsp;simp at hsp;have hle:d.length+1≤X.length:=by omega
     by_cases hS:isS (cM c)=true
     · rw[hS] at sm;rw[hall,hS,aaB];refine⟨fun h=>?_,fun h=>?_⟩
       · rw[ae (L:=jH) rfl];simp[kF,h0,hx,hge,hlt,hle,a1,a2,a3,a4,hsp,hx2,hge2,hlt2,sm,hw1,j1 h]
       · obtain⟨X',hL⟩:=j2 h;refine⟨X',?_⟩;rw[ae (L:=jH) rfl];simp[kF,h0,hx,hge,hlt,hle,a1,a2,a3,a4,hsp,hx2,hge2,hlt2,sm,hw1,hL]
     · have hS':isS (cM c)=false:=by simpa using hS
       rw[hS'] at sm;rw[hall,hS',aaY];refine⟨fun h=>(by cases h),fun _=>⟨Y,?_⟩⟩;rw[ae (L:=jH) rfl];simp[kF,h0,hx,hge,hlt,hle,a1,a2,a3,a4,hsp,hx2,hge2,hlt2,sm]
   · have hl:=BB hA;rw[hl] at sm hall;obtain⟨j1,j2⟩:=ih (d++[c]) X (by simp[hd]) (by rw[hX];simp[hl]);simp only[aag,aal] at j1 j2;simp at j1 j2;by_cases hS:isS c=true
     · rw[hS] at sm;rw[hall,hS,aaB];have a1:(65:Int)≤c.toNat:=by simp[isS] at hS;omega
       have a2:¬ (c.toNat:Int)≤90:=by omega
       refine⟨fun h=>?_,fun h=>?_⟩
       · rw[ae (L:=jH) rfl];simp[kF,h0,hx,hge,hlt,a1,a2,sm,hw1,j1 h]
       · obtain⟨X',hL⟩:=j2 h;refine⟨X',?_⟩;rw[ae (L:=jH) rfl];simp[kF,h0,hx,hge,hlt,a1,a2,sm,hw1,hL]
     · have hS':isS c=false:=by simpa using hS
       rw[hS'] at sm;rw[hall,hS',aaY];refine⟨fun h=>(by cases h),fun _=>⟨X,?_⟩⟩;rw[ae (L:=jH) rfl];by_cases a1:(65:Int)≤c.toNat
       · have a2:¬ (c.toNat:Int)≤90:=by omega
         simp[kF,h0,hx,hge,hlt,a1,a2,sm]
       · simp[kF,h0,hx,hge,hlt,a1,sm]
def jm (s:List UInt8):Bool:=mh s&&(decide (1≤s.length)&&decide (s.length≤64))
theorem Jg:(E tab).F 149 [.str s] st=some (if jm s then .tuple [.str (s.map cM),.bool true] else .tuple [.str [],.bool false],st):=by
 rw[aK Ss rfl];by_cases h1:s.length<1
 · have h1':(s.length:Int)<1:=by omega
   have hz:s=[]:=by simpa using h1
   subst hz;simp[f149,jm]
 have h1':¬ (s.length:Int)<1:=by omega
 by_cases h2:64<s.length
 · have h2':(64:Int)<s.length:=by omega
   have:jm s=false:=by simp[jm];omega
   simp[f149,h1',h2',this]
 have h2':¬ (64:Int)<s.length:=by omega
 have hok:jm s=mh s:=by simp[jm];omega
 have hu:(fun b:UInt8=>DV.int .u8 (b.toNat:Int))=u8:=rfl;obtain⟨j1,j2⟩:=Oe (st:=st) (s:=s) (by omega) [] s [] (s.map u8) rfl (by simp);simp at j1 j2;rw[hok];by_cases h:mh s=true
 · have hL:=j1 h;have hb:=lB (s.map cM);simp at hb;have ht:List.take s.length (List.map (u8∘cM) s)=List.map (u8∘cM) s:=aa7 (by simp);simp[f149,h1',h2',hu,hL,h,ny,bU,ht,hb]
 · have h':mh s=false:=by simpa using h
   obtain⟨X',hL⟩:=j2 h';simp[f149,h1',h2',hu,hL,h']
end
section
variable {s:List UInt8} {st:St}
def okB (s:List UInt8) (i:Nat) (c:UInt8):Bool:=
 (isS c||isD c||(decide (c.toNat=46)&&(decide (i=0)||decide (i+1=s.length)))) &&
 !(isD c&&((decide (0<i)&&isD (s.getD (i-1) 0))||(decide (i+1=s.length)&&decide (0<i)&&decide ((s.getD (i-1) 0).toNat=46))||(decide (i=0)&&decide (1<s.length)&&decide ((s.getD 1 0).toNat=46))))
def gG (s:List UInt8):Nat→List UInt8→Bool
 | _,[]=>true
 | i,c::r=>okB s i c&&gG s (i+1) r
def lP (s:List UInt8):Nat:=(s.filter isS).length
set_option maxHeartbeats 2000000 in
theorem MX (hs:s.length≤16) (H:List HO) (K:List Nat):∀ (r d:List UInt8),s=d++r →
 (gG s d.length r=true→(E tab).C cZ [(0,.str s),(3,.int .i64 (lP d)),(4,.int .i64 d.length)] (pst st H K)=some (.exit 0,[(0,.str s),(3,.int .i64 (lP s)),(4,.int .i64 s.length),(19,.bool false)],pst st H K)) ∧
 (gG s d.length r=false→(E tab).C cZ [(0,.str s),(3,.int .i64 (lP d)),(4,.int .i64 d.length)] (pst st H K)=some (.ret,[(2,.bool false)],pst st H K)):=by
 intro r
 induction r with
 | nil=>
   intro d hd;obtain rfl:s=d:=by simpa using hd
   refine⟨fun _=>?_,fun h=>by cases h⟩;rw[ae (L:=cZ) rfl];simp[dt]
 | cons c r ih=>
   intro d hd;have h0:d.length<s.length:=by simp[hd]
   have hx:s[d.length]? = some c:=by simp[hd]
   have hge:s[d.length]'h0=c:=by have:=hx;rw[aaa h0] at this;exact aab.inj this
   have hw1:IntKind.i64.wrap ((d.length:Int)+1)=(d.length:Int)+1:=by rw[ay (by omega)]
   have hwm:IntKind.i64.wrap ((s.length:Int)-1)=(s.length:Int)-1:=ay (by omega);have hcd:lP d≤d.length:=aaO _ _;have hw2:IntKind.i64.wrap ((lP d:Int)+1)=(lP d:Int)+1:=by rw[ay (by omega)]
   have sm:=rJ c;have dg:=nG c;obtain⟨j1,j2⟩:=ih (d++[c]) (by simp[hd]);have hof:gG s d.length (c::r)=(okB s d.length c&&gG s (d.length+1) r):=rfl
   have hlast:decide ((d.length:Int)=(s.length:Int)-1)=decide (d.length+1=s.length):=by
    apply decide_eq_decide.2;omega
   rw[aag,aal] at j1 j2;rw[hof];by_cases hS:isS c=true
   · have hD:isD c=false:=by simp[isS,isD] at hS ⊢;omega
     have hB:okB s d.length c=true:=by simp[okB,hS,hD]
     have hcs:lP (d++[c])=lP d+1:=by simp[lP,hS]
     rw[hS] at sm;rw[hD] at dg;rw[hB,aaB];rw[hcs] at j1 j2;simp at j1 j2;refine⟨fun h=>?_,fun h=>?_⟩
     · rw[ae (L:=cZ) rfl];simp[dt,h0,hx,hge,sm,dg,hw1,hw2,hwm,j1 h]
     · rw[ae (L:=cZ) rfl];simp[dt,h0,hx,hge,sm,dg,hw1,hw2,hwm,j2 h]
   have hS':isS c=false:=by simpa using hS
   have hcs:lP (d++[c])=lP d:=by simp[lP,hS']
   rw[hS'] at sm;rw[hcs] at j1 j2;simp at j1 j2;have hb0t:d.length=0→((d.length:Int)==0)=true:=fun h=>by simp;simpa using h
   have hb0f:d.length≠0→((d.length:Int)==0)=false:=fun h=>by rw[beq_eq_false_iff_ne];omega
   have hblt:d.length+1=s.length→((d.length:Int)==(s.length:Int)-1)=true:=fun h=>by rw[beq_iff_eq];omega
   have hblf:d.length+1≠s.length→((d.length:Int)==(s.length:Int)-1)=false:=fun h=>by rw[beq_eq_false_iff_ne];omega
   by_cases hD:isD c=true
   · rw[hD] at dg;have hB:okB s d.length c = !((decide (0<d.length)&&isD (s.getD (d.length-1) 0))||(decide (d.length+1=s.length)&&decide (0<d.length)&&decide ((s.getD (d.length-1) 0).toNat=46))||(decide (d.length=0)&&decide (1<s.length)&&decide ((s.getD 1 0).toNat=46))):=by simp[okB,hS',hD]
     by_cases hz:d.length=0
     · have b0:=hb0t hz;have hnil:(d=[])=True:=eq_true (aa3.1 hz);have hnp:¬ 0<d.length:=by omega
       by_cases h1:1<s.length
       · have h1':(1:Int)<s.length:=by omega
         obtain⟨q,hq⟩:∃ q,s[1]? = some q:=⟨s[1],aaa h1⟩;have hqe:s[1]'h1=q:=by have:=hq;rw[aaa h1] at this;exact aab.inj this
         have hqd:s.getD 1 0=q:=by simp[hq]
         have b2:=hblf (by omega);by_cases hd46:q.toNat=46
         · have hdi:((q.toNat:Int)==46)=true:=by rw[beq_iff_eq];omega
           have hB2:okB s d.length c=false:=by rw[hB,hqd];simp[hd46,h1,hz]
           rw[hB2,aaY];refine⟨fun h=>(by cases h),fun h=>?_⟩;rw[ae (L:=cZ) rfl];simp[dt,h0,hx,hge,sm,dg,hdi,hwm,b0,b2,hnil,hnp,h1,h1',hq,hqe]
         · have hdi:((q.toNat:Int)==46)=false:=by rw[beq_eq_false_iff_ne];omega
           have hB2:okB s d.length c=true:=by rw[hB,hqd];simp[hd46,hnp]
           rw[hB2,aaB];refine⟨fun h=>?_,fun h=>?_⟩
           · rw[ae (L:=cZ) rfl];simp[dt,h0,hx,hge,sm,dg,hdi,hwm,b0,b2,hnil,hnp,h1,h1',hq,hqe,hw1,j1 h]
           · rw[ae (L:=cZ) rfl];simp[dt,h0,hx,hge,sm,dg,hdi,hwm,b0,b2,hnil,hnp,h1,h1',hq,hqe,hw1,j2 h]
       · have h1':¬ (1:Int)<s.length:=by omega
         have b2:=hblt (by omega);have hB2:okB s d.length c=true:=by rw[hB];simp[h1,hnp]
         rw[hB2,aaB];refine⟨fun h=>?_,fun h=>?_⟩
         · rw[ae (L:=cZ) rfl];simp[dt,h0,hx,hge,sm,dg,hwm,b0,b2,hnil,hnp,h1,h1',hw1,j1 h]
         · rw[ae (L:=cZ) rfl];simp[dt,h0,hx,hge,sm,dg,hwm,b0,b2,hnil,hnp,h1,h1',hw1,j2 h]
     · have b0:=hb0f hz;have hnil:(d=[])=False:=eq_false (fun e=>hz (by simp[e]));have hlt:d.length-1<s.length:=by omega
       have hwp:IntKind.i64.wrap ((d.length:Int)-1)=((d.length-1:Nat):Int):=by rw[ay (by omega)];omega
       obtain⟨q,hq⟩:∃ q,s[d.length-1]? = some q:=⟨s[d.length-1],aaa hlt⟩;have hqe:s[d.length-1]'hlt=q:=by have:=hq;rw[aaa hlt] at this;exact aab.inj this
       have hqd:s.getD (d.length-1) 0=q:=by simp[hq]
       have hdq:=nG q;rw[hqd] at hB;have hp:0<d.length:=by omega
       by_cases hqD:isD q=true
       · rw[hqD] at hdq;have hB2:okB s d.length c=false:=by rw[hB];simp[hqD,hp]
         rw[hB2,aaY];refine⟨fun h=>(by cases h),fun h=>?_⟩;rw[ae (L:=cZ) rfl];simp[dt,h0,hx,hge,sm,dg,hwm,b0,hnil,hp,hwp,hq,hqe,hlt,hdq]
       · have hqD':isD q=false:=by simpa using hqD
         rw[hqD'] at hdq;by_cases hl:d.length+1=s.length
         · have b2:=hblt hl;by_cases hd46:q.toNat=46
           · have hdi:((q.toNat:Int)==46)=true:=by rw[beq_iff_eq];omega
             have hB2:okB s d.length c=false:=by rw[hB];simp[hd46,hl,hp]
             rw[hB2,aaY];refine⟨fun h=>(by cases h),fun h=>?_⟩;rw[ae (L:=cZ) rfl];simp[dt,h0,hx,hge,sm,dg,hwm,b0,b2,hnil,hp,hwp,hq,hqe,hlt,hdq,hdi]
           · have hdi:((q.toNat:Int)==46)=false:=by rw[beq_eq_false_iff_ne];omega
             have hB2:okB s d.length c=true:=by rw[hB];simp[hd46,hqD',hz]
             rw[hB2,aaB];refine⟨fun h=>?_,fun h=>?_⟩
             · rw[ae (L:=cZ) rfl];simp[dt,h0,hx,hge,sm,dg,hwm,b0,b2,hnil,hp,hwp,hq,hqe,hlt,hdq,hdi,hw1,j1 h]
             · rw[ae (L:=cZ) rfl];simp[dt,h0,hx,hge,sm,dg,hwm,b0,b2,hnil,hp,hwp,hq,hqe,hlt,hdq,hdi,hw1,j2 h]
         · have b2:=hblf hl;have hB2:okB s d.length c=true:=by rw[hB];simp[hl,hqD',hz]
           rw[hB2,aaB];refine⟨fun h=>?_,fun h=>?_⟩
           · rw[ae (L:=cZ) rfl];simp[dt,h0,hx,hge,sm,dg,hwm,b0,b2,hnil,hp,hwp,hq,hqe,hlt,hdq,hw1,j1 h]
           · rw[ae (L:=cZ) rfl];simp[dt,h0,hx,hge,sm,dg,hwm,b0,b2,hnil,hp,hwp,hq,hqe,hlt,hdq,hw1,j2 h]
   · have hD':isD c=false:=by simpa using hD
     rw[hD'] at dg;have hB:okB s d.length c=(decide (c.toNat=46)&&(decide (d.length=0)||decide (d.length+1=s.length))):=by simp[okB,hS',hD']
     by_cases hdot:c.toNat=46
     · have hdi:((c.toNat:Int)==46)=true:=by rw[beq_iff_eq];omega
       by_cases hz:d.length=0
       · have hB2:okB s d.length c=true:=by rw[hB];simp[hdot,hz]
         have b0:=hb0t hz;rw[hB2,aaB];generalize ((d.length:Int)==(s.length:Int)-1)=z at *;refine⟨fun h=>?_,fun h=>?_⟩
         · rw[ae (L:=cZ) rfl];simp[dt,h0,hx,hge,sm,dg,hdi,hwm,b0,hw1,j1 h]
         · rw[ae (L:=cZ) rfl];simp[dt,h0,hx,hge,sm,dg,hdi,hwm,b0,hw1,j2 h]
       · have b0:=hb0f hz;by_cases hl:d.length+1=s.length
         · have hB2:okB s d.length c=true:=by rw[hB];simp[hdot,hl]
           have b2:=hblt hl;rw[hB2,aaB];refine⟨fun h=>?_,fun h=>?_⟩
           · rw[ae (L:=cZ) rfl];simp[dt,h0,hx,hge,sm,dg,hdi,hwm,b0,b2,hw1,j1 h]
           · rw[ae (L:=cZ) rfl];simp[dt,h0,hx,hge,sm,dg,hdi,hwm,b0,b2,hw1,j2 h]
         · have hB2:okB s d.length c=false:=by rw[hB];simp[hdot,hl,hz]
           have b2:=hblf hl;rw[hB2,aaY];refine⟨fun h=>(by cases h),fun h=>?_⟩;rw[ae (L:=cZ) rfl];simp[dt,h0,hx,hge,sm,dg,hdi,hwm,b0,b2]
     · have hdi:((c.toNat:Int)==46)=false:=by rw[beq_eq_false_iff_ne];omega
       have hB2:okB s d.length c=false:=by rw[hB];simp[hdot]
       rw[hB2,aaY];refine⟨fun h=>(by cases h),fun h=>?_⟩;rw[ae (L:=cZ) rfl];simp[dt,h0,hx,hge,sm,dg,hdi,hwm]
end
section
variable {s:List UInt8} {st:St}
def cG (f:Nat→UInt8→Bool):Nat→List UInt8→Bool
 | _,[]=>true
 | i,c::r=>f i c&&cG f (i+1) r
theorem qa (s:List UInt8):∀ (r:List UInt8) (i:Nat),gG s i r=cG (okB s) i r
 | [],_=>rfl
 | c::r,i=>by simp only[gG,cG,qa s r]
theorem gi (f:Nat→UInt8→Bool):∀ (r:List UInt8) (i:Nat),cG f i r=true↔∀ j (h:j<r.length),f (i+j) (r[j])=true
 | [],i=>by simp[cG]
 | c::r,i=>by
   have ih:=gi f r (i+1);simp only[cG,aac,ih];constructor
   · rintro⟨h1,h2⟩ j hj
     cases j with
     | zero=>simpa using h1
     | succ j=>have:=h2 j (by simpa using hj);simpa[abE,Nat.add_comm 1 j] using this
   · intro h;refine⟨by have:=h 0 (by simp);rw[abe] at this;exact this,fun j hj=>?_⟩;have:=h (j+1) (by simpa using hj);simpa[abE,Nat.add_comm 1 j] using this
def iP (s:List UInt8) (i:Nat) (c:UInt8):Bool:=
 (isS c||isD c||(decide (c.toNat=46)&&(decide (i=0)||decide (i+1=s.length)))) && !(isD c&&(decide (0<i)&&isD (s.getD (i-1) 0)))
theorem BW:∀ (r d:List UInt8) (sm:Bool),s=d++r→scan s.length d.length sm (!(decide (0<d.length)&&isD (s.getD (d.length-1) 0))) r=cond (cG (iP s) d.length r) (some (sm||r.any isS)) none
 | [],d,sm,hd=>by simp[scan,cG]
 | c::r,d,sm,hd=>by
   have hc:s.getD d.length 0=c:=by simp[hd]
   have ih:=fun sm=>BW r (d++[c]) sm (by simp[hd]);simp only[aag,aal,Nat.add_sub_cancel,hc,show 0<d.length+1 by omega,decide_true,aaB] at ih;simp only[scan,cG,abx];by_cases hdot:c.toNat=46
   · have hS:isS c=false:=by simp[isS,hdot]
     have hD:isD c=false:=by simp[isD,hdot]
     rw[if_pos hdot];by_cases hbad:d.length≠0∧d.length+1≠s.length
     · have hB:iP s d.length c=false:=by have q1:=hbad.1;have q2:=hbad.2;simp only[iP,hS,hD,hdot,decide_eq_false q1,decide_eq_false q2];rfl
       rw[if_pos hbad,hB];rfl
     · have hB:iP s d.length c=true:=by
        by_cases z:d.length=0
        · simp[iP,hS,hD,hdot,z]
        · have e:d.length+1=s.length:=by omega
          simp[iP,hS,hD,hdot,e]
       have:=ih sm;rw[hD] at this;rw[if_neg hbad,hB,hS];simpa using this
   · rw[if_neg hdot];by_cases hS:isS c=true
     · have hD:isD c=false:=by simp[isS,isD] at hS ⊢;omega
       have hB:iP s d.length c=true:=by simp[iP,hS,hD]
       have:=ih true;rw[hD] at this;rw[if_pos hS,hB,hS];simpa using this
     · have hS':isS c=false:=by simpa using hS
       rw[if_neg hS];by_cases hD:isD c=true
       · have hB:iP s d.length c = !(decide (0<d.length)&&isD (s.getD (d.length-1) 0)):=by simp only[iP,hS',hD,abJ,Bool.true_or,aaB]
         rw[hB,hD,hS'];have:=ih sm;rw[hD] at this
         cases (!(decide (0<d.length)&&isD (s.getD (d.length-1) 0))) with
         | true=>simpa using this
         | false=>rfl
       · have hD':isD c=false:=by simpa using hD
         have hB:iP s d.length c=false:=by simp[iP,hS',hD',hdot]
         rw[hB,hD'];rfl
theorem Il (s:List UInt8):scan s.length 0 false true s=cond (cG (iP s) 0 s) (some (s.any isS)) none:=by
 have:=BW (s:=s) s [] false rfl;simpa using this
def okR (s:List UInt8):Bool:=decide (1≤s.length)&&decide (s.length≤16)&&(gG s 0 s&&decide (0<lP s))
theorem Kl (s:List UInt8):decide (0<lP s)=s.any isS:=by
 rw[aaQ];simp[lP,aaR,abf]
theorem KH (h:s.any isS=true):cG (okB s) 0 s=cG (iP s) 0 s:=by
 rw[aaQ,gi,gi];constructor
 · intro H j hj;have:=H j hj;simp only[okB,iP,aac,abn,aar] at this ⊢;refine⟨this.1,?_⟩;have h2:=this.2
   cases hD:isD s[j] with
   | false=>rfl
   | true=>rw[hD] at h2;simp only[aaB,Bool.or_eq_false_iff] at h2 ⊢;exact h2.1.1
 · intro H j hj;have hj0:=H j hj;simp only[okB,iP,aac,abn,aar] at hj0 ⊢;refine⟨hj0.1,?_⟩;have h2:=hj0.2
   cases hD:isD s[j] with
   | false=>rfl
   | true=>
     rw[hD] at h2;simp only[aaB,Bool.or_eq_false_iff] at h2 ⊢;refine⟨⟨h2,?_⟩,?_⟩
     · rw[Bool.eq_false_iff];intro e;simp only[aac,decide_eq_true_eq] at e;obtain⟨⟨e1,e2⟩,e3⟩:=e;have hp:s[j-1]? = some s[j-1]:=aaa (by omega);have hpd:s.getD (j-1) 0=s[j-1]:=by simp[hp]
       rw[hpd] at e3;have:=H (j-1) (by omega);have hS:isS s[j-1]=false:=by simp[isS,e3]
       have hDD:isD s[j-1]=false:=by simp[isD,e3]
       simp[iP,hS,hDD,e3] at this;have hn:s.length=2:=by omega
       have hj1:j=1:=by omega
       subst hj1
       have hs:s=[s[0],s[1]]:=by
        apply List.ext_getElem
        · simpa using hn
        · intro i a b
          match i,a with
          | 0,_=>rfl
          | 1,_=>rfl
          | i+2,a=>omega
       rw[hs] at h;simp at h hS hD;have hS1:isS s[1]=false:=by simp[isS,isD] at hD ⊢;omega
       rw[hS,hS1] at h;simp at h
     · rw[Bool.eq_false_iff];intro e;simp only[aac,decide_eq_true_eq] at e;obtain⟨⟨e1,e2⟩,e3⟩:=e;subst e1;have hpd:s.getD 1 0=s[1]:=by simp[aaa e2]
       rw[hpd] at e3;have:=H 1 e2;have hS:isS s[1]=false:=by simp[isS,e3]
       have hDD:isD s[1]=false:=by simp[isD,e3]
       simp[iP,hS,hDD,e3] at this;have hn:s.length=2:=by omega
       have hs:s=[s[0],s[1]]:=by
        apply List.ext_getElem
        · simpa using hn
        · intro i a b
          match i,a with
          | 0,_=>rfl
          | 1,_=>rfl
          | i+2,a=>omega
       rw[hs] at h;have hS1:isS s[0]=false:=by simp[isS,isD] at hD ⊢;omega
       simp[hS,hS1] at h
theorem JK (s:List UInt8):okR s=okP s:=by
 unfold okR okP
 congr 1
 rw[qa,Kl,Il]
 cases h:s.any isS with
 | false=>cases cG (iP s) 0 s<;>simp
 | true=>rw[KH h];cases cG (iP s) 0 s<;>simp
theorem AP:(E tab).F 196 [.str s] st=some (.bool (okP s),st):=by
 rw[← JK,aK P5 rfl];by_cases h1:s.length<1
 · have h1':(s.length:Int)<1:=by omega
   have hz:s=[]:=by simpa using h1
   subst hz;simp[f196,okR]
 have h1':¬ (s.length:Int)<1:=by omega
 by_cases h2:16<s.length
 · have h2':(16:Int)<s.length:=by omega
   have:okR s=false:=by simp[okR];omega
   simp[f196,h1',h2',this]
 have h2':¬ (16:Int)<s.length:=by omega
 have hok:okR s=(gG s 0 s&&decide (0<lP s)):=by
  simp only[okR];rw[decide_eq_true (by omega:1≤s.length),decide_eq_true (by omega:s.length≤16)];simp
 obtain⟨j1,j2⟩:=MX (st:=st) (s:=s) (by omega) [] [] s [] rfl;have hc0:lP []=0:=rfl;rw[hc0] at j1 j2;simp at j1 j2;rw[hok]
 cases h:gG s 0 s with
 | true=>
   have hL:=j1 h;simp[f196,h1',h2',hL]
 | false=>
   have hL:=j2 h;simp[f196,h1',h2',hL]
end
theorem LF:tab 158=some (.code f158):=by kernel_rfl
theorem Pp:tab 197=some (.code f197):=by kernel_rfl
def i6 (k:Nat):DV:=.int .i64 k
def plc:Nat→List UInt8→List Nat
 | _,[]=>[]
 | k,c::r=>if c.toNat=45 then k::plc k r else plc (k+1) r
theorem lj:∀ (d:List UInt8) (k:Nat) (c:UInt8),c.toNat=45→plc k (d++[c])=plc k d++[k+(aD d).length]
 | [],k,c,h=>by simp[plc,aD,h]
 | x::r,k,c,h=>by
   by_cases hx:x.toNat=45
   · have:=lj r k c h;simp[plc,aD,hx] at this ⊢;exact this
   · have:=lj r (k+1) c h;simp[plc,aD,hx] at this ⊢;rw[this];simp;omega
theorem oy:∀ (d:List UInt8) (k:Nat) (c:UInt8),c.toNat≠45→plc k (d++[c])=plc k d
 | [],k,c,h=>by simp[plc,h]
 | x::r,k,c,h=>by
   by_cases hx:x.toNat=45
   · have:=oy r k c h;simp[plc,hx] at this ⊢;exact this
   · have:=oy r (k+1) c h;simp[plc,hx] at this ⊢;exact this
theorem lY:∀ (d:List UInt8) (k:Nat),(plc k d).length≤d.length
 | [],k=>by simp[plc]
 | x::r,k=>by
   by_cases hx:x.toNat=45
   · have:=lY r k;simp[plc,hx];omega
   · have:=lY r (k+1);simp[plc,hx];omega
theorem oQ (d:List UInt8):(aD d).length≤d.length:=aaO _ _
theorem pK (d:List UInt8) (c:UInt8) (h:c.toNat=45):aD (d++[c])=aD d:=by simp[aD,h]
theorem sc (d:List UInt8) (c:UInt8) (h:c.toNat≠45):aD (d++[c])=aD d++[c]:=by simp[aD,h]
def fG (s:List UInt8) (i:Nat) (c:UInt8):Bool:=isS c||(decide (c.toNat=45)&&decide (0<i)&&decide (i+1<s.length)&&decide ((s.getD (i-1) 0).toNat≠45))
section
variable {s:List UInt8} {st:St}
set_option maxHeartbeats 2000000 in
theorem NQ {C:List DV} (hC:C=s.map u8) (hs:s.length≤1000) (H:List HO):∀ (r d:List UInt8) (K:List Nat) (v1 v2:DV) (o1 o2:Option Nat),s=d++r→Ac st K 1 ((aD d).map u8) v1 o1→Ac st K 1 ((plc 0 d).map i6) v2 o2→(∀ k,o1=some k→o2≠some k) →
 (cG (fG s) d.length r=true→∃ K' w1 w2,(E tab).C gV [(0,.str s),(5,v1),(6,v2),(10,.list st.cur 1 .no true C),(11,.int .i64 s.length),(12,.int .i64 d.length)] (pst st H K) =
  some (.exit 0,[(0,.str s),(5,w1),(6,w2),(10,.list st.cur 1 .no true C),(11,.int .i64 s.length),(12,.int .i64 s.length),(13,.bool false)],pst st H K')∧(∃ p1,Ac st K' 1 ((aD s).map u8) w1 p1)∧∃ p2,Ac st K' 1 ((plc 0 s).map i6) w2 p2) ∧
 (cG (fG s) d.length r=false→∃ K',(E tab).C gV [(0,.str s),(5,v1),(6,v2),(10,.list st.cur 1 .no true C),(11,.int .i64 s.length),(12,.int .i64 d.length)] (pst st H K) =
  some (.ret,[(2,.str []),(3,.list 0 0 .no false []),(4,.bool false)],pst st H K')):=by
 intro r
 induction r with
 | nil=>
   intro d K v1 v2 o1 o2 hd h1 h2 hdis;obtain rfl:s=d:=by simpa using hd
   refine⟨fun _=>⟨K,v1,v2,?_,⟨o1,h1⟩,⟨o2,h2⟩⟩,fun h=>by cases h⟩;rw[ae (L:=gV) rfl];simp[jN]
 | cons c r ih=>
   intro d K v1 v2 o1 o2 hd h1 h2 hdis;have h0:d.length<s.length:=by simp[hd]
   have hx:C[d.length]? = some (.int .u8 c.toNat):=by simp[hC,hd,u8]
   have hlC:C.length=s.length:=by simp[hC]
   have hltC:d.length<C.length:=by omega
   have hgeC:C[d.length]'hltC=.int .u8 c.toNat:=by have:=hx;rw[aaa hltC] at this;exact aab.inj this
   have hw1:IntKind.i64.wrap ((d.length:Int)+1)=(d.length:Int)+1:=by rw[ay (by omega)]
   have hwm:IntKind.i64.wrap ((s.length:Int)-1)=(s.length:Int)-1:=ay (by omega);have hbl:=oQ d;have hpl:=lY d 0;have sm:=rU c;have hof:cG (fG s) d.length (c::r)=(fG s d.length c&&cG (fG s) (d.length+1) r):=rfl;obtain⟨t1,n1,k1,m1,hv1⟩:=bK h1.acc;rw[hof];by_cases hS:isS c=true
   · have hc45:c.toNat≠45:=by simp[isS] at hS;omega
     have hB:fG s d.length c=true:=by simp[fG,hS]
     rw[hS] at sm;obtain⟨w1,K',k,a1,a2,a3,a4⟩:=wE (H:=H) (by_:=1) (ag:=false) (ys:=[u8 c]) (w:=.list st.cur 1 .tight true [u8 c]) h1 (.list _ _ _ _ (fun _=>rfl) (fun e=>by cases e)) (by omega) (by simp) (fun y hy=>by simp at hy;subst hy;exact⟨rfl,rfl,rfl⟩) (by simp[aB];omega) (by simp[aB];omega)
     have hne:o2≠some k:=by
      rcases a3 with h|⟨_,rfl⟩
      · exact hdis k h
      · intro e;rw[e] at h2;obtain⟨_,_,q⟩:=h2;have:=(aad.1 q).1;omega
     obtain⟨j1,j2⟩:=ih (d++[c]) K' w1 v2 (some k) o2 (by simp[hd]) (by rw[sc _ _ hc45];simpa using a2) (by rw[oy _ _ _ hc45];exact h2.stay hne a4) (fun k' e=>by cases e;exact hne);rw[hB,aaB];simp only[aag,aal] at j1 j2;simp[u8] at j1 j2 a1;refine⟨fun h=>?_,fun h=>?_⟩
     · obtain⟨K2,x1,x2,hJ,q⟩:=j1 h;refine⟨K2,x1,x2,?_,q⟩;rw[ae (L:=gV) rfl];simp[jN,h0,hx,hgeC,hltC,sm,aC,aO,dw,bj,chunk,a1,hw1,hJ]
     · obtain⟨K2,hJ⟩:=j2 h;refine⟨K2,?_⟩;rw[ae (L:=gV) rfl];simp[jN,h0,hx,hgeC,hltC,sm,aC,aO,dw,bj,chunk,a1,hw1,hJ]
   have hS':isS c=false:=by simpa using hS
   rw[hS'] at sm;by_cases hc:c.toNat=45
   · have hci:((c.toNat:Int)==45)=true:=by rw[beq_iff_eq];omega
     by_cases hz:d.length=0
     · have hB:fG s d.length c=false:=by simp[fG,hS',hz]
       have hnp:¬ 0<d.length:=by omega
       rw[hB,aaY];refine⟨fun h=>(by cases h),fun h=>⟨K,?_⟩⟩;rw[ae (L:=gV) rfl];simp[jN,h0,hx,hgeC,hltC,sm,hci,hnp]
     have hp:0<d.length:=by omega
     by_cases hl:d.length+1<s.length
     · have hl':(d.length:Int)<(s.length:Int)-1:=by omega
       have hlt:d.length-1<s.length:=by omega
       have hwp:IntKind.i64.wrap ((d.length:Int)-1)=((d.length-1:Nat):Int):=by rw[ay (by omega)];omega
       obtain⟨q,hq⟩:∃ q,s[d.length-1]? = some q:=⟨s[d.length-1],aaa hlt⟩;have hqe:s[d.length-1]'hlt=q:=by have:=hq;rw[aaa hlt] at this;exact aab.inj this
       have hqd:s.getD (d.length-1) 0=q:=by simp[hq]
       have hB:fG s d.length c=decide (q.toNat≠45):=by simp[fG,hS',hc,hp,hl,hq]
       by_cases hq45:q.toNat=45
       · have hqi:((q.toNat:Int)==45)=true:=by rw[beq_iff_eq];omega
         have hqb:((q.toNat:Int) != 45)=false:=by rw[bne_eq_false_iff_eq];omega
         rw[hB,decide_eq_false (by simpa using hq45),aaY];refine⟨fun h=>(by cases h),fun h=>⟨K,?_⟩⟩;rw[ae (L:=gV) rfl];simp[jN,h0,hx,hgeC,hltC,sm,hci,hp,hl',hwm,hwp,hlt,hq,hqe,hqi,hqb]
       · have hqi:((q.toNat:Int)==45)=false:=by rw[beq_eq_false_iff_ne];omega
         have hqb:((q.toNat:Int) != 45)=true:=by rw[bne_iff_ne];omega
         obtain⟨w2,K',k,a1,a2,a3,a4⟩:=wE (H:=H) (by_:=8) (ag:=false) (ys:=[i6 (aD d).length]) (w:=.list st.cur 1 .tight true [i6 (aD d).length]) h2 (.list _ _ _ _ (fun _=>rfl) (fun e=>by cases e)) (by omega) (by simp) (fun y hy=>by simp at hy;subst hy;exact⟨rfl,rfl,rfl⟩) (by simp[aB];omega) (by simp[aB];omega)
         have hne:o1≠some k:=by
          intro e;rcases a3 with h | ⟨_,rfl⟩
          · exact hdis k e h
          · rw[e] at h1;obtain⟨_,_,q⟩:=h1;have:=(aad.1 q).1;omega
         obtain⟨j1,j2⟩:=ih (d++[c]) K' v1 w2 o1 (some k) (by simp[hd]) (by rw[pK _ _ hc];exact h1.stay hne a4) (by rw[lj _ _ _ hc];simpa using a2) (fun k' e e2=>by cases e2;exact hne e)
         have hlen:∀ st',rr st' .slice v1=some (.int .i64 (aD d).length,st'):=by
          intro st';rw[hv1];simp
         rw[hB,decide_eq_true (by simpa using hq45),aaB];simp only[aag,aal] at j1 j2;simp[i6] at j1 j2 a1;refine⟨fun h=>?_,fun h=>?_⟩
         · obtain⟨K2,x1,x2,hJ,q⟩:=j1 h;refine⟨K2,x1,x2,?_,q⟩;rw[ae (L:=gV) rfl];simp[jN,h0,hx,hgeC,hltC,sm,hci,hp,hl',hwm,hwp,hlt,hq,hqe,hqi,hqb,hlen,aC,aO,dw,bj,chunk,a1,hw1,hJ]
         · obtain⟨K2,hJ⟩:=j2 h;refine⟨K2,?_⟩;rw[ae (L:=gV) rfl];simp[jN,h0,hx,hgeC,hltC,sm,hci,hp,hl',hwm,hwp,hlt,hq,hqe,hqi,hqb,hlen,aC,aO,dw,bj,chunk,a1,hw1,hJ]
     · have hl':¬ (d.length:Int)<(s.length:Int)-1:=by omega
       have hB:fG s d.length c=false:=by simp[fG,hS'];intro _ _ h;omega
       rw[hB,aaY];refine⟨fun h=>(by cases h),fun h=>⟨K,?_⟩⟩;rw[ae (L:=gV) rfl];simp[jN,h0,hx,hgeC,hltC,sm,hci,hp,hl',hwm]
   · have hci:((c.toNat:Int)==45)=false:=by rw[beq_eq_false_iff_ne];omega
     have hB:fG s d.length c=false:=by simp[fG,hS',hc]
     rw[hB,aaY];refine⟨fun h=>(by cases h),fun h=>⟨K,?_⟩⟩;rw[ae (L:=gV) rfl];simp[jN,h0,hx,hgeC,hltC,sm,hci]
theorem Sw {st st':St} {K:List Nat} {n:Nat} {xs:List DV} {v:DV} {o:Option Nat} (h:Ac st K n xs v o):∃ w,cj st st' v=some w∧Lw n xs w:=by
 cases o with
 | none=>
   obtain⟨rfl,t,n',tk,rfl⟩:=h;exact⟨_,rfl,.list _ _ _ _ (fun e=>by cases e) (fun _=>rfl)⟩
 | some k=>
   obtain⟨s,rfl,_⟩:=h;exact⟨_,rfl,.list _ _ _ _ (fun _=>rfl) (fun e=>by cases e)⟩
def okE (s:List UInt8):Bool:=cG (fG s) 0 s&&(decide (2≤(aD s).length)&&decide ((aD s).length≤64))
theorem wo (hs:s.length≤1000):∃ l v,(E tab).F 158 [.str s] st=some (.tuple [.str l,v,.bool (okE s)],st)∧(okE s=true→l=aD s∧Lw 1 ((plc 0 s).map i6) v):=by
 have hu:(fun b:UInt8=>DV.int .u8 (b.toNat:Int))=u8:=rfl;obtain⟨j1,j2⟩:=NQ (st:=st) (s:=s) rfl hs [] s [] [] (.list 0 0 .no false []) (.list 0 0 .no false []) none none rfl ⟨rfl,0,0,.no,rfl⟩ ⟨rfl,0,0,.no,rfl⟩ (fun k e=>by cases e)
 cases h:cG (fG s) 0 s with
 | false=>
   have ho:okE s=false:=by simp[okE,h]
   obtain⟨K',hL⟩:=j2 h;simp at hL;refine⟨[],.list 0 0 .no false [],?_,fun e=>by rw[ho] at e;cases e⟩;rw[ho,aK LF rfl];simp[f158,hu,hL]
 | true=>
   have ho:okE s=(decide (2≤(aD s).length)&&decide ((aD s).length≤64)):=by simp[okE,h]
   obtain⟨K',w1,w2,hL,⟨p1,g1⟩,⟨p2,g2⟩⟩:=j1 h;simp at hL;obtain⟨b1,b2⟩:=vp g1.acc (pst st [] K');have b3:=lB (aD s);obtain⟨w,e1,e2⟩:=Sw (st':=pst st [] K') g2;obtain⟨t1,n1,k1,m1,hv1⟩:=bK g1.acc
   have hlen:∀ st',rr st' .slice w1=some (.int .i64 (aD s).length,st'):=by
    intro st';rw[hv1];simp
   refine⟨aD s,w,?_,fun _=>⟨rfl,e2⟩⟩;rw[ho,aK LF rfl];by_cases h2:2≤(aD s).length
   · have h2':(2:Int)≤(aD s).length:=by omega
     simp[f158,hu,hL,ny,b1,b3,hlen,e1,h2,h2'];omega
   · have h2':¬ (2:Int)≤(aD s).length:=by omega
     simp[f158,hu,hL,ny,b1,b3,hlen,e1,h2,h2']
end
section
variable {s:List UInt8} {st:St}
def lg (s:List UInt8) (i:Nat) (c:UInt8):Bool:=(isS c||decide (c.toNat=45)) && !(decide (0<i)&&decide (c.toNat=45)&&decide ((s.getD (i-1) 0).toNat=45))
set_option maxHeartbeats 2000000 in
theorem N3 (hs:s.length≤1000) (H:List HO) (K:List Nat):∀ (r d:List UInt8),s=d++r →
 (cG (lg s) d.length r=true→(E tab).C fC [(0,.str s),(4,.int .i64 d.length)] (pst st H K)=some (.exit 0,[(0,.str s),(4,.int .i64 s.length),(35,.bool false)],pst st H K)) ∧
 (cG (lg s) d.length r=false→(E tab).C fC [(0,.str s),(4,.int .i64 d.length)] (pst st H K)=some (.ret,[(2,.bool false)],pst st H K)):=by
 intro r
 induction r with
 | nil=>
   intro d hd;obtain rfl:s=d:=by simpa using hd
   refine⟨fun _=>?_,fun h=>by cases h⟩;rw[ae (L:=fC) rfl];simp[gU]
 | cons c r ih=>
   intro d hd;have h0:d.length<s.length:=by simp[hd]
   have hx:s[d.length]? = some c:=by simp[hd]
   have hge:s[d.length]'h0=c:=by have:=hx;rw[aaa h0] at this;exact aab.inj this
   have hw1:IntKind.i64.wrap ((d.length:Int)+1)=(d.length:Int)+1:=by rw[ay (by omega)]
   have sm:=rJ c;have hof:cG (lg s) d.length (c::r)=(lg s d.length c&&cG (lg s) (d.length+1) r):=rfl;obtain⟨j1,j2⟩:=ih (d++[c]) (by simp[hd]);simp only[aag,aal] at j1 j2;simp at j1 j2;rw[hof];by_cases hS:isS c=true
   · have hc45:c.toNat≠45:=by simp[isS] at hS;omega
     have hci:((c.toNat:Int)==45)=false:=by rw[beq_eq_false_iff_ne];omega
     have hB:lg s d.length c=true:=by simp[lg,hS,hc45]
     rw[hS] at sm;rw[hB,aaB];by_cases hz:d.length=0
     · have hnp:¬ 0<d.length:=by omega
       refine⟨fun h=>?_,fun h=>?_⟩
       · rw[ae (L:=fC) rfl];simp[gU,h0,hx,hge,sm,hci,hnp,hw1,j1 h]
       · rw[ae (L:=fC) rfl];simp[gU,h0,hx,hge,sm,hci,hnp,hw1,j2 h]
     · have hp:0<d.length:=by omega
       refine⟨fun h=>?_,fun h=>?_⟩
       · rw[ae (L:=fC) rfl];simp[gU,h0,hx,hge,sm,hci,hp,hw1,j1 h]
       · rw[ae (L:=fC) rfl];simp[gU,h0,hx,hge,sm,hci,hp,hw1,j2 h]
   have hS':isS c=false:=by simpa using hS
   rw[hS'] at sm;by_cases hc:c.toNat=45
   · have hci:((c.toNat:Int)==45)=true:=by rw[beq_iff_eq];omega
     have hcb:((c.toNat:Int) != 45)=false:=by rw[bne_eq_false_iff_eq];omega
     by_cases hz:d.length=0
     · have hnp:¬ 0<d.length:=by omega
       have hB:lg s d.length c=true:=by simp[lg,hS',hc,hz]
       rw[hB,aaB];refine⟨fun h=>?_,fun h=>?_⟩
       · rw[ae (L:=fC) rfl];simp[gU,h0,hx,hge,sm,hci,hcb,hnp,hw1,j1 h]
       · rw[ae (L:=fC) rfl];simp[gU,h0,hx,hge,sm,hci,hcb,hnp,hw1,j2 h]
     · have hp:0<d.length:=by omega
       have hlt:d.length-1<s.length:=by omega
       have hwp:IntKind.i64.wrap ((d.length:Int)-1)=((d.length-1:Nat):Int):=by rw[ay (by omega)];omega
       obtain⟨q,hq⟩:∃ q,s[d.length-1]? = some q:=⟨s[d.length-1],aaa hlt⟩;have hqe:s[d.length-1]'hlt=q:=by have:=hq;rw[aaa hlt] at this;exact aab.inj this
       have hB:lg s d.length c = !decide (q.toNat=45):=by simp[lg,hS',hc,hp,hq]
       by_cases hq45:q.toNat=45
       · have hqi:((q.toNat:Int)==45)=true:=by rw[beq_iff_eq];omega
         rw[hB,decide_eq_true hq45,Bool.not_true,aaY];refine⟨fun h=>(by cases h),fun h=>?_⟩;rw[ae (L:=fC) rfl];simp[gU,h0,hx,hge,sm,hci,hcb,hp,hwp,hlt,hq,hqe,hqi]
       · have hqi:((q.toNat:Int)==45)=false:=by rw[beq_eq_false_iff_ne];omega
         rw[hB,decide_eq_false hq45,Bool.not_false,aaB];refine⟨fun h=>?_,fun h=>?_⟩
         · rw[ae (L:=fC) rfl];simp[gU,h0,hx,hge,sm,hci,hcb,hp,hwp,hlt,hq,hqe,hqi,hw1,j1 h]
         · rw[ae (L:=fC) rfl];simp[gU,h0,hx,hge,sm,hci,hcb,hp,hwp,hlt,hq,hqe,hqi,hw1,j2 h]
   · have hcb:((c.toNat:Int) != 45)=true:=by rw[bne_iff_ne];omega
     have hB:lg s d.length c=false:=by simp[lg,hS',hc]
     rw[hB,aaY];refine⟨fun h=>(by cases h),fun h=>?_⟩;rw[ae (L:=fC) rfl];simp[gU,h0,hx,hge,sm,hcb]
def okX (s:List UInt8):Bool:=decide (2≤(aD s).length)&&(decide ((aD s).length≤64)&&(decide (s.length≤128)&&(decide ((s.getD 0 0).toNat≠45)&&(decide ((s.getD (s.length-1) 0).toNat≠45)&&cG (lg s) 0 s))))
theorem Bo (hs:s.length≤1000):(E tab).F 197 [.str s] st=some (.bool (okX s),st):=by
 rw[aK Pp rfl];have hb:=qH (s:=s) (st:=pst st [] []) (by omega);have hbl:=oQ s;obtain⟨j1,j2⟩:=N3 (st:=st) (s:=s) hs [] [] s [] rfl;simp at j1 j2;by_cases h1:(aD s).length<2
 · have h1':((aD s).length:Int)<2:=by omega
   have:okX s=false:=by simp[okX];omega
   simp[f197,hb,h1',this]
 have h1':¬ ((aD s).length:Int)<2:=by omega
 by_cases h2:64<(aD s).length
 · have h2':(64:Int)<(aD s).length:=by omega
   have:okX s=false:=by simp[okX];omega
   simp[f197,hb,h1',h2',this]
 have h2':¬ (64:Int)<(aD s).length:=by omega
 by_cases h3:128<s.length
 · have h3':(128:Int)<s.length:=by omega
   have:okX s=false:=by simp[okX];omega
   simp[f197,hb,h1',h2',h3',this]
 have h3':¬ (128:Int)<s.length:=by omega
 have hp:0<s.length:=by omega
 have hq0:s[0]? = some s[0]:=aaa hp;have hpl:s.length-1<s.length:=by omega
 have hq1:s[s.length-1]? = some s[s.length-1]:=aaa hpl;have hd0:s.getD 0 0=s[0]:=by simp[hq0]
 have hd1:s.getD (s.length-1) 0=s[s.length-1]:=by simp[hq1]
 have hwp:IntKind.i64.wrap ((s.length:Int)-1)=((s.length-1:Nat):Int):=by rw[ay (by omega)];omega
 have hok:okX s=(decide ((s[0]).toNat≠45)&&(decide ((s[s.length-1]).toNat≠45)&&cG (lg s) 0 s)):=by
  rw[okX,hd0,hd1,decide_eq_true (by omega:2≤(aD s).length),decide_eq_true (by omega:(aD s).length≤64),decide_eq_true (by omega:s.length≤128)];simp
 rw[hok];generalize hA:s[0]=a at *;generalize hB:s[s.length-1]=b at *;by_cases ha:a.toNat=45
 · have hai:((a.toNat:Int)==45)=true:=by rw[beq_iff_eq];omega
   simp[f197,hb,h1',h2',h3',hp,hq0,hA,hai,ha]
 have hai:((a.toNat:Int)==45)=false:=by rw[beq_eq_false_iff_ne];omega
 by_cases hbb:b.toNat=45
 · have hbi:((b.toNat:Int)==45)=true:=by rw[beq_iff_eq];omega
   simp[f197,hb,h1',h2',h3',hp,hq0,hA,hai,ha,hwp,hpl,hq1,hB,hbi,hbb]
 have hbi:((b.toNat:Int)==45)=false:=by rw[beq_eq_false_iff_ne];omega
 cases h:cG (lg s) 0 s with
 | true=>simp[f197,hb,h1',h2',h3',hp,hq0,hA,hai,ha,hwp,hpl,hq1,hB,hbi,hbb,j1 h]
 | false=>simp[f197,hb,h1',h2',h3',hp,hq0,hA,hai,ha,hwp,hpl,hq1,hB,hbi,hbb,j2 h]
end
theorem sg (s:List UInt8):∀ (r d:List UInt8),s=d++r→cG (fG s) d.length r=true→r.length≤2*(aD r).length+(if (r.getD 0 0).toNat=45 then 1 else 0)
 | [],d,_,_=>by simp
 | c::r,d,hd,h=>by
   have hof:cG (fG s) d.length (c::r)=(fG s d.length c&&cG (fG s) (d.length+1) r):=rfl;rw[hof,aac] at h;have ih:=sg s r (d++[c]) (by simp[hd]) (by rw[aag];exact h.2);by_cases hc:c.toNat=45
   · have e:aD (c::r)=aD r:=by simp[aD,hc]
     have hr:¬ (r.getD 0 0).toNat=45:=by
      intro hx
      cases r with
      | nil=>simp at hx
      | cons x t=>
        have h2:=h.2;have:cG (fG s) (d.length+1) (x::t)=(fG s (d.length+1) x&&cG (fG s) (d.length+1+1) t):=rfl;rw[this,aac] at h2;have h3:=h2.1;simp at hx;have hS:isS x=false:=by simp[isS,hx]
        have hp:s.getD d.length 0=c:=by simp[hd]
        simp[fG,hS] at h3;simp at hp;rw[hp] at h3;exact h3.2 hc
     rw[if_neg hr] at ih;simp[e,hc];omega
   · have e:aD (c::r)=c::aD r:=by simp[aD,hc]
     simp[e,hc];split at ih<;>omega
theorem Kx (s:List UInt8):okX s=okE s:=by
 rw[aaQ];simp only[okX,okE,aac,decide_eq_true_eq];have hbl:=oQ s;constructor
 · rintro⟨h1,h2,h3,h4,h5,h6⟩;refine⟨?_,h1,h2⟩;rw[gi] at h6 ⊢;intro j hj;have:=h6 j hj;simp only[aar] at this ⊢;simp only[lg,fG,aac,aa6,decide_eq_true_eq,abn,aby,decide_eq_false_iff_not] at this ⊢;obtain⟨a1,a2⟩:=this;rcases a1 with a1|a1
   · exact .inl a1
   · refine .inr ⟨⟨⟨a1,?_⟩,?_⟩,?_⟩
     · apply Nat.pos_of_ne_zero;rintro rfl;apply h4;simp[aaa hj,a1]
     · apply Nat.lt_of_le_of_ne (by omega);intro e;apply h5;have:s.length-1=j:=by omega
       rw[this];simp[aaa hj,a1]
     · rcases a2 with (a2|a2) | a2
       · intro _;have:j=0:=by omega
         subst this;apply h4;simp[aaa hj,a1]
       · exact absurd a1 a2
       · exact a2
 · rintro⟨h6,h1,h2⟩;have hcnt:=sg s s [] rfl h6;rw[gi] at h6;have hn:0<s.length:=by omega
   have g0:(s.getD 0 0).toNat≠45:=by
    intro e;have:=h6 0 hn;have e2:s.getD 0 0=s[0]:=by simp[aaa hn]
    rw[e2] at e;have hS:isS s[0]=false:=by simp[isS,e]
    simp[fG,hS] at this
   have g1:(s.getD (s.length-1) 0).toNat≠45:=by
    intro e;have hl:s.length-1<s.length:=by omega
    have:=h6 (s.length-1) hl;have e2:s.getD (s.length-1) 0=s[s.length-1]:=by simp[aaa hl]
    rw[e2] at e;have hS:isS s[s.length-1]=false:=by simp[isS,e]
    simp[fG,hS] at this;omega
   rw[if_neg g0] at hcnt;refine⟨h1,h2,by omega,g0,g1,?_⟩;rw[gi];intro j hj;have:=h6 j hj;simp only[aar] at this ⊢;simp only[lg,fG,aac,aa6,decide_eq_true_eq,abn,aby,decide_eq_false_iff_not] at this ⊢;rcases this with a | ⟨⟨⟨a1,a2⟩,a3⟩,a4⟩
   · refine⟨.inl a,.inl (.inr ?_)⟩;intro e;simp[isS,e] at a
   · exact⟨.inr a1,.inr a4⟩
theorem xe {s:List UInt8} {st:St} (hs:s.length≤1000):(E tab).F 197 [.str s] st=some (.bool (okE s),st):=by rw[Bo hs,Kx]
theorem Rn:tab 152=some (.code f152):=by kernel_rfl
theorem LB (x y:Nat):ig lQ [.int .u8 x,.int .u8 y]=some (.int .u8 (max x y:Nat)):=by
 rcases Nat.lt_or_ge x y with h|h
 · have e:max x y=y:=by omega
   simp[ig,lQ,h,e]
 · have e:max x y=x:=by omega
   have h':¬ x<y:=by omega
   simp[ig,lQ,h',e]
def ia:List Nat→Nat→List Nat→List Nat
 | V,_,[]=>V
 | V,a,d::r=>ia (V.set a (max (V.getD a 0) d)) (a+1) r
theorem jW:∀ (D V:List Nat) (a:Nat),(ia V a D).length=V.length
 | [],V,a=>rfl
 | d::r,V,a=>by simp[ia,jW r]
section
variable {st:St}
theorem Nk {K:List Nat} {k kd n a:Nat} {D:List Nat} (hkd:kd≠k) (hn:n≤1000) (ha:a+D.length≤n):∀ (r d:List Nat) (V:List Nat) (H:List HO),D=d++r→V.length=n→rowAt H k=some (.plain,V.map d8)→rowAt H kd=some (.grown,D.map d8) →
 ∃ fr,(E tab).C vX [(0,.hsl 1 false (st.heap.length+k) 0 n (some n)),(1,.int .i64 a),(8,.hsl 1 false (st.heap.length+kd) 0 D.length none),(9,.int .i64 D.length),(10,.int .i64 d.length)] (pst st H K) =
   some (.exit 0,fr,pst st (H.set k (.cells .plain ((ia V (a+d.length) r).map d8))) K):=by
 intro r
 induction r with
 | nil=>
   intro d V H hd hV h1 h2;obtain rfl:D=d:=by simpa using hd
   have hset:H.set k (.cells .plain ((ia V (a+D.length) []).map d8))=H:=by
    have hk:=bz h1;apply aa4;intro j;by_cases hj:j=k
    · subst hj;rw[aaq hk];unfold rowAt at h1;split at h1
      · rename_i e;simp only[aab.injEq,Prod.mk.injEq] at h1;rw[e,h1.1,h1.2];rfl
      · cases h1
    · rw[aam (fun e=>hj e.symm)]
   rw[hset];refine⟨[(0,.hsl 1 false (st.heap.length+k) 0 n (some n)),(1,.int .i64 a),(8,.hsl 1 false (st.heap.length+kd) 0 D.length none),(9,.int .i64 D.length),(10,.int .i64 D.length),(11,.bool false)],?_⟩;rw[ae (L:=vX) rfl];simp[AV]
 | cons x r ih=>
   intro d V H hd hV h1 h2;have hk:=bz h1;have hkd':=bz h2;have h0:d.length<D.length:=by simp[hd]
   have hw1:IntKind.i64.wrap ((d.length:Int)+1)=(d.length:Int)+1:=by rw[ay (by omega)]
   have hwa:IntKind.i64.wrap ((a:Int)+d.length)=((a+d.length:Nat):Int):=by rw[ay (by omega)];simp
   have had:a+d.length<n:=by omega
   generalize hp:a+d.length=p at *;generalize hDm:D.map d8=DM at *;have hx:DM[d.length]? = some (.int .u8 x):=by rw[← hDm];simp[hd,d8]
   have hlt:d.length<DM.length:=(aad.1 hx).1;have hge:DM[d.length]'hlt=.int .u8 x:=by have:=hx;rw[aaa hlt] at this;exact aab.inj this
   obtain⟨y,hy⟩:∃ y,V[p]? = some y:=⟨V[p],aaa (by omega)⟩;have hyd:V.getD p 0=y:=by simp[hy]
   generalize hVm:V.map d8=VM at *;have hvx:VM[p]? = some (.int .u8 y):=by rw[← hVm];simp[hy,d8]
   have hvl:VM.length=n:=by rw[← hVm];simpa using hV
   have hvlt:p<VM.length:=by omega
   have hvge:VM[p]'hvlt=.int .u8 y:=by have:=hvx;rw[aaa hvlt] at this;exact aab.inj this
   have hmx:=LB y x;have hsp:=eZ (x:=.int .u8 (max y x:Nat)) (vs:=VM) hvlt;have hset:VM.set p (.int .u8 (max y x:Nat))=(V.set p (max y x)).map d8:=by rw[← hVm,List.map_set];rfl
   rw[hset] at hsp
   obtain⟨fr,hJ⟩:=ih (d++[x]) (V.set p (max y x)) (H.set k (.cells .plain ((V.set p (max y x)).map d8))) (by simp[hd]) (by simpa using hV) (dO hk _ _) (by
    unfold rowAt at h2 ⊢;rw[aam (fun e=>hkd e.symm)];exact h2)
   refine⟨fr,?_⟩;have e1:a+(d++[x]).length=p+1:=by simp;omega
   rw[e1,abH] at hJ;simp only[aag,aal] at hJ;have e2:ia V p (x::r)=ia (V.set p (max y x)) (p+1) r:=by simp only[ia,hyd]
   rw[e2];generalize (ia (V.set p (max y x)) (p+1) r).map d8=W at *;generalize (V.set p (max y x)).map d8=VN at *;simp only[bj,aal] at hsp;simp at hJ hsp;have hle:p+1≤VM.length:=by omega
   rw[ae (L:=vX) rfl];simp[AV,h0,h1,h2,hx,hge,hlt,hwa,had,hvx,hvge,hvlt,hmx,hle,hsp,hw1,hJ]
theorem NS {K:List Nat} {k kd n a:Nat} {D V:List Nat} {H:List HO} (hkd:kd≠k) (hn:n≤1000) (ha:a+D.length≤n) (hV:V.length=n) (h1:rowAt H k=some (.plain,V.map d8)) (h2:rowAt H kd=some (.grown,D.map d8)) :
 (E tab).F 152 [.hsl 1 false (st.heap.length+k) 0 n (some n),.int .i64 a,.hsl 1 false (st.heap.length+kd) 0 D.length none] (pst st H K)=some (.tuple [],pst st (H.set k (.cells .plain ((ia V a D).map d8))) K):=by
 rw[iz Rn rfl];obtain⟨fr,hL⟩:=Nk (st:=st) (K:=K) hkd hn ha D [] V H rfl hV h1 h2;simp at hL;simp[f152,hL]
end
abbrev Path:=List UInt8
def mn (st:St):Option (Nat×List (UInt8×Nat))→DV
 | none=>.aS
 | some (m,_)=>.map (st.heap.length+m)
def o9 (st:St):Option (Nat×List Nat)→DV
 | none=>.list 0 0 .no false []
 | some (k,D)=>.hsl 1 false (st.heap.length+k) 0 D.length none
def po (st:St) (x:UInt8×Nat):DV×DV:=(.int .u8 x.1.toNat,.ptr (st.heap.length+x.2) 0)
def fY:List (UInt8×Nat)→UInt8→Option Nat
 | [],_=>none
 | (a,k)::r,c=>if c=a then some k else fY r c
structure Trie (st:St) (H:List HO) (root:Nat) (N:Path→Option Nat) (es:Path→Option (Nat×List (UInt8×Nat))) (dg:Path→Option (Nat×List Nat)):Prop where
 top:N []=some root
 vZ:∀ {p q k},N p=some k→N q=some k→p=q
 row:∀ {p k},N p=some k→rowAt H k=some (.plain,[mn st (es p),o9 st (dg p)])
 pq:∀ {p m l},es p=some (m,l)→H[m]? = some (.map (l.map (po st)))
 tF:∀ {p q m l l'},es p=some (m,l)→es q=some (m,l')→p=q
 kid:∀ {p k} (c:UInt8),N p=some k→N (p++[c])=match es p with | some (_,l)=>fY l c | none=>none
 Kv:∀ {p k D},dg p=some (k,D)→rowAt H k=some (.grown,D.map d8)
 tP:∀ {p q k D D'},dg p=some (k,D)→dg q=some (k,D')→p=q
 tO:∀ {p k D},dg p=some (k,D)→D.length=p.length+1
 off:∀ {p},N p=none→es p=none∧dg p=none∧∀ c,N (p++[c])=none
theorem Oi (a c:UInt8):((c.toNat:Int)=(a.toNat:Int))↔c=a:=by
 constructor
 · intro h;exact UInt8.toNat_inj.1 (by omega)
 · rintro rfl;rfl
theorem oX (st:St):∀ (l:List (UInt8×Nat)) (c:UInt8) (i:Nat),∃ j,findD [.int] (.int .u8 c.toNat) (l.map (po st)) i=some ((fY l c).map fun k=>(j,.ptr (st.heap.length+k) 0))
 | [],c,i=>⟨0,rfl⟩
 | (a,k)::r,c,i=>by
   obtain⟨j,hj⟩:=oX st r c (i+1);have h8:=Oi a c;by_cases h:c=a
   · refine⟨i,?_⟩;subst h;simp[findD,po,jh,cA,fY]
   · refine⟨j,?_⟩;have h':¬ ((c.toNat:Int)=(a.toNat:Int)):=fun e=>h (h8.1 e);have hn:¬ (c.toNat=a.toNat):=fun e=>h' (by omega);simp only[aaH,po,fY,if_neg h];have hb:((c.toNat:Int)==(a.toNat:Int))=false:=by rw[beq_eq_false_iff_ne];exact h'
     simp[findD,jh,cA,hb];exact hj
def qu (st:St):Option Nat→DV
 | some k=>.ptr (st.heap.length+k) 0
 | none=>.bp
section
variable {st:St} {H:List HO} {root:Nat} {N:Path→Option Nat} {es:Path→Option (Nat×List (UInt8×Nat))} {dg:Path→Option (Nat×List Nat)}
theorem Trie.look (h:Trie st H root N es dg) {p:Path} {k:Nat} (hp:N p=some k) (c:UInt8) (K:List Nat):db (pst st H K) [.int] .bp (mn st (es p)) (.int .u8 c.toNat) false=some (qu st (N (p++[c]))):=by
 rw[h.kid c hp]
 cases he:es p with
 | none=>simp[mn,db,findD,qu]
 | some x=>
   obtain⟨m,l⟩:=x;obtain⟨j,hj⟩:=oX st l c 0;have hm:=h.pq he;simp only[mn,db,cL,hm,hj];cases fY l c<;>simp[qu]
theorem Trie.Rz (h:Trie st H root N es dg) {kv:Nat} {V W:List Nat} (hv:rowAt H kv=some (.plain,V.map d8)):Trie st (H.set kv (.cells .plain (W.map d8))) root N es dg:=by
 have hrow:∀ {k g vs},rowAt H k=some (g,vs)→k≠kv→rowAt (H.set kv (.cells .plain (W.map d8))) k=some (g,vs):=by
  intro k g vs h1 h2;unfold rowAt at h1 ⊢;rw[aam (fun e=>h2 e.symm)];exact h1
 refine⟨h.top,h.vZ,?_,?_,h.tF,h.kid,?_,h.tP,h.tO,h.off⟩
 · intro p k hp;have h1:=h.row hp;refine hrow h1 ?_;rintro rfl;rw[hv] at h1;simp only[aab.injEq,Prod.mk.injEq,true_and] at h1
   cases V with
   | nil=>simp at h1
   | cons x r=>
     simp only[aaH,List.cons.injEq] at h1;have h2:d8 x=mn st (es p):=h1.1;generalize es p=y at h2;rcases y with _ | ⟨m,l⟩<;>simp[d8,mn] at h2
 · intro p m l he;have h1:=h.pq he;rw[aam]
   · exact h1
   · rintro rfl;unfold rowAt at hv;rw[h1] at hv;cases hv
 · intro p k D hd;have h1:=h.Kv hd;refine hrow h1 ?_;rintro rfl;rw[hv] at h1;cases h1
theorem Py:tab 151=some (.code f151):=by kernel_rfl
def ic (N:Path→Option Nat) (dg:Path→Option (Nat×List Nat)) (a:Nat):Path→List UInt8→List Nat→List Nat
 | _,[],V=>V
 | p,c::r,V=>if N (p++[c])=none then V else ic N dg a (p++[c]) r (match dg (p++[c]) with | some (_,D)=>ia V a D | none=>V)
end
section
variable {st:St} {root:Nat} {N:Path→Option Nat} {es:Path→Option (Nat×List (UInt8×Nat))} {dg:Path→Option (Nat×List Nat)}
theorem Nb {K:List Nat} {hp':DV} {text tx:List UInt8} {a kv nV:Nat} {C:List DV} (hC:C=tx.map u8) (htl:tx.length≤1000) (hnV:nV≤1000) (hfit:a+tx.length+1≤nV):∀ (r d:List UInt8) (V:List Nat) (k:Nat) (H:List HO),tx=d++r→Trie st H root N es dg→N d=some k→rowAt H kv=some (.plain,V.map d8)→V.length=nV →
 ∃ x7 x24 tl,(E tab).C pd [(0,hp'),(1,.str text),(2,.fn 152 [.hsl 1 false (st.heap.length+kv) 0 nV (some nV)] []),(6,.int .i64 a),(7,.ptr (st.heap.length+k) 0),(11,.int .i64 text.length),(12,.int .i64 a),(22,.list st.cur 1 .no true C),(23,.int .i64 tx.length),(24,.int .i64 d.length)] (pst st H K) =
   some (.exit 2,[(0,hp'),(1,.str text),(2,.fn 152 [.hsl 1 false (st.heap.length+kv) 0 nV (some nV)] []),(6,.int .i64 a),(7,x7),(11,.int .i64 text.length),(12,.int .i64 a),(22,.list st.cur 1 .no true C),(23,.int .i64 tx.length),(24,x24),tl],pst st (H.set kv (.cells .plain ((ic N dg a d r V).map d8))) K):=by
 intro r
 induction r with
 | nil=>
   intro d V k H hd hT hN hv hV;obtain rfl:tx=d:=by simpa using hd
   have hset:H.set kv (.cells .plain ((ic N dg a tx [] V).map d8))=H:=by
    have hk:=bz hv;apply aa4;intro j;by_cases hj:j=kv
    · subst hj;rw[aaq hk];unfold rowAt at hv;split at hv
      · rename_i e;simp only[aab.injEq,Prod.mk.injEq] at hv;rw[e,hv.1,hv.2];rfl
      · cases hv
    · rw[aam (fun e=>hj e.symm)]
   rw[hset];refine⟨.ptr (st.heap.length+k) 0,.int .i64 tx.length,(25,.bool false),?_⟩;rw[ae (L:=pd) rfl];simp[sC]
 | cons c r ih=>
   intro d V k H hd hT hN hv hV;have h0:d.length<tx.length:=by simp[hd]
   have hx:C[d.length]? = some (.int .u8 c.toNat):=by simp[hC,hd,u8]
   have hlt:d.length<C.length:=(aad.1 hx).1;have hge:C[d.length]'hlt=.int .u8 c.toNat:=by have:=hx;rw[aaa hlt] at this;exact aab.inj this
   have hw1:IntKind.i64.wrap ((d.length:Int)+1)=(d.length:Int)+1:=by rw[ay (by omega)]
   have hrow:=hT.row hN;have hlk:=hT.look hN c K;have hkf:gX [.int] (.int .u8 c.toNat)=true:=rfl
   cases hn:N (d++[c]) with
   | none=>
     rw[hn] at hlk;have e:ic N dg a d (c::r) V=V:=by simp only[ic,hn,if_true]
     have hset:H.set kv (.cells .plain (V.map d8))=H:=by
      have hk:=bz hv;apply aa4;intro j;by_cases hj:j=kv
      · subst hj;rw[aaq hk];unfold rowAt at hv;split at hv
        · rename_i e;simp only[aab.injEq,Prod.mk.injEq] at hv;rw[e,hv.1,hv.2]
        · cases hv
      · rw[aam (fun e=>hj e.symm)]
     rw[e,hset];simp only[qu] at hlk;refine⟨.bp,.int .i64 d.length,(35,.bool true),?_⟩;rw[ae (L:=pd) rfl];simp[sC,h0,hx,hge,hlt,hrow,hlk,hkf,eqD]
   | some k2=>
     rw[hn] at hlk;simp only[qu] at hlk;have hrow2:=hT.row hn
     cases hdg:dg (d++[c]) with
     | none=>
       have e:ic N dg a d (c::r) V=ic N dg a (d++[c]) r V:=by simp[ic,hn,hdg]
       rw[e];rw[hdg] at hrow2;simp only[o9] at hrow2;obtain⟨x7,x24,tl,hJ⟩:=ih (d++[c]) V k2 H (by simp[hd]) hT hn hv hV;refine⟨x7,x24,tl,?_⟩;simp at hJ;rw[ae (L:=pd) rfl];simp[sC,h0,hx,hge,hlt,hrow,hrow2,hlk,hkf,eqD,hw1,hJ]
     | some y=>
       obtain⟨kd,D⟩:=y;have hD:=hT.tO hdg;have hdr:=hT.Kv hdg;have hne:kd≠kv:=by rintro rfl;rw[hv] at hdr;cases hdr
       have e:ic N dg a d (c::r) V=ic N dg a (d++[c]) r (ia V a D):=by simp[ic,hn,hdg]
       rw[e];rw[hdg] at hrow2;simp only[o9] at hrow2;simp at hD;have hly:=NS (st:=st) (K:=K) (a:=a) (n:=nV) hne hnV (by omega) hV hv hdr;obtain⟨x7,x24,tl,hJ⟩:=ih (d++[c]) (ia V a D) k2 (H.set kv (.cells .plain ((ia V a D).map d8))) (by simp[hd]) (hT.Rz hv) hn (dO (bz hv) _ _) (by rw[jW];exact hV);refine⟨x7,x24,tl,?_⟩;rw[abH] at hJ;simp at hJ;rw[ae (L:=pd) rfl];simp[sC,h0,hx,hge,hlt,hrow,hrow2,hlk,hkf,eqD,eE,hly,hw1,hJ]
def dF (N:Path→Option Nat) (dg:Path→Option (Nat×List Nat)):Nat→List UInt8→List Nat→List Nat
 | _,[],V=>V
 | a,c::r,V=>dF N dg (a+1) r (ic N dg a [] (c::r) V)
theorem nO (N:Path→Option Nat) (dg:Path→Option (Nat×List Nat)) (a:Nat):∀ (r p:List UInt8) (V:List Nat),(ic N dg a p r V).length=V.length
 | [],p,V=>rfl
 | c::r,p,V=>by
   simp only[ic];split
   · rfl
   · rw[nO N dg a r];split
     · rw[jW]
     · rfl
theorem N6 {K:List Nat} {text:List UInt8} {kh kv nV:Nat} {hx:DV} (htl:text.length≤900) (hnV:nV≤1000) (hfit:text.length+1≤nV) (hne:kh≠kv):∀ (r d:List UInt8) (V:List Nat) (H:List HO),text=d++r→Trie st H root N es dg→rowAt H kh=some (.plain,[.ptr (st.heap.length+root) 0,hx])→rowAt H kv=some (.plain,V.map d8)→V.length=nV →
 ∃ fr,(E tab).C v5 [(0,.ptr (st.heap.length+kh) 0),(1,.str text),(2,.fn 152 [.hsl 1 false (st.heap.length+kv) 0 nV (some nV)] []),(11,.int .i64 text.length),(12,.int .i64 d.length)] (pst st H K) =
   some (.exit 0,fr,pst st (H.set kv (.cells .plain ((dF N dg d.length r V).map d8))) K):=by
 intro r
 induction r with
 | nil=>
   intro d V H hd hT hh hv hV;obtain rfl:text=d:=by simpa using hd
   have hset:H.set kv (.cells .plain ((dF N dg text.length [] V).map d8))=H:=by
    have hk:=bz hv;apply aa4;intro j;by_cases hj:j=kv
    · subst hj;rw[aaq hk];unfold rowAt at hv;split at hv
      · rename_i e;simp only[aab.injEq,Prod.mk.injEq] at hv;rw[e,hv.1,hv.2];rfl
      · cases hv
    · rw[aam (fun e=>hj e.symm)]
   rw[hset];refine⟨[(0,.ptr (st.heap.length+kh) 0),(1,.str text),(2,.fn 152 [.hsl 1 false (st.heap.length+kv) 0 nV (some nV)] []),(11,.int .i64 text.length),(12,.int .i64 text.length),(13,.bool false)],?_⟩;rw[ae (L:=v5) rfl];simp[AG]
 | cons c r ih=>
   intro d V H hd hT hh hv hV;have h0:d.length<text.length:=by simp[hd]
   have hw1:IntKind.i64.wrap ((d.length:Int)+1)=(d.length:Int)+1:=by rw[ay (by omega)]
   have hlen:text.length=d.length+(c::r).length:=by simp[hd]
   have hsl:cb true 1 (.str text) (some (.int .i64 d.length)) none none=some (.str (c::r)):=by
    rw[JG (by omega) (by omega)];simp[hd]
   have hu:(fun b:UInt8=>DV.int .u8 (b.toNat:Int))=u8:=rfl;obtain⟨x7,x24,tl,hI⟩:=Nb (K:=K) (hp':=.ptr (st.heap.length+kh) 0) (text:=text) (a:=d.length) (kv:=kv) (nV:=nV) (tx:=c::r) rfl (by omega) hnV (by omega) (c::r) [] V root H rfl hT hT.top hv hV;have hT2:=hT.Rz (W:=ic N dg d.length [] (c::r) V) hv
   have hh2:rowAt (H.set kv (.cells .plain ((ic N dg d.length [] (c::r) V).map d8))) kh=some (.plain,[.ptr (st.heap.length+root) 0,hx]):=by
    unfold rowAt at hh ⊢;rw[aam (fun e=>hne e.symm)];exact hh
   obtain⟨fr,hJ⟩:=ih (d++[c]) (ic N dg d.length [] (c::r) V) (H.set kv (.cells .plain ((ic N dg d.length [] (c::r) V).map d8))) (by simp[hd]) hT2 hh2 (dO (bz hv) _ _) (by rw[nO];exact hV);refine⟨fr,?_⟩;have e:dF N dg d.length (c::r) V=dF N dg (d++[c]).length r (ic N dg d.length [] (c::r) V):=by simp[dF]
   rw[e];rw[abH] at hJ;generalize (dF N dg (d++[c]).length r (ic N dg d.length [] (c::r) V)).map d8=W at *;generalize (ic N dg d.length [] (c::r) V).map d8=W1 at *;simp at hJ hI;rw[ae (L:=v5) rfl];simp[AG,h0,hh,hsl,hu,hI,hw1,hJ]
theorem FH {K:List Nat} {text:List UInt8} {kh kv nV:Nat} {hx:DV} {V:List Nat} {H:List HO} (htl:text.length≤900) (hnV:nV≤1000) (hfit:text.length+1≤nV) (hne:kh≠kv) (hT:Trie st H root N es dg) (hh:rowAt H kh=some (.plain,[.ptr (st.heap.length+root) 0,hx])) (hv:rowAt H kv=some (.plain,V.map d8)) (hV:V.length=nV) :
 (E tab).F 151 [.ptr (st.heap.length+kh) 0,.str text,.fn 152 [.hsl 1 false (st.heap.length+kv) 0 nV (some nV)] []] (pst st H K)=some (.tuple [],pst st (H.set kv (.cells .plain ((dF N dg 0 text V).map d8))) K):=by
 rw[iz Py rfl];obtain⟨fr,hL⟩:=N6 (K:=K) htl hnV hfit hne text [] V H rfl hT hh hv hV;simp at hL;simp[f151,hL]
end
theorem Qa:tab 164=some (.code f164):=by kernel_rfl
theorem Rl:tab 157=some (.code f157):=by kernel_rfl
section
variable {st:St} {H:List HO} {K:List Nat}
theorem Fs {t:Nat} {tk:Tk} {D:List Nat} (hD:D≠[]) (hl:D.length≤1000):(E tab).F 164 [.list t 1 tk true (D.map d8)] (pst st H K)=some (.hsl 1 false (st.heap.length+H.length) 0 D.length none,pst st (H++[.cells .grown (D.map d8)]) K):=by
 rw[iz Qa rfl];have hel:∀ y∈D.map d8,dX 1 false y:=by intro y hy;obtain⟨c,_,rfl⟩:=aay.1 hy;exact⟨rfl,rfl,rfl⟩
 have hfl:=gu _ hel;have hlen:D.length≠0:=fun e=>hD (aa3.1 e);have hr:D.length≤140737488355328:=by omega
 have hn:bU (pst st H K) 1 (.list t 1 tk true (D.map d8))=some (D.length,D.map d8):=by simp[bU,hfl]
 have ha:∀ c,lC (pst st H K) 1 false 1 (.list c 1 .tight true []) (.list t 1 tk true (D.map d8))=some (.hsl 1 false (st.heap.length+H.length) 0 D.length none,pst st (H++[.cells .grown (D.map d8)]) K):=by
  intro c;simp only[lC,hn,if_neg hlen];rw[if_pos ⟨⟨by omega,trivial⟩,by simp[aB];omega,by simp[aB];omega⟩];simp[pst]
 simp[f164,eqD,aC,aO,chunk,ha]
end
structure TS where
 N:Path→Option Nat
 es:Path→Option (Nat×List (UInt8×Nat))
 dg:Path→Option (Nat×List Nat)
abbrev TS.ok (st:St) (H:List HO) (root:Nat) (t:TS):Prop:=Trie st H root t.N t.es t.dg
def TS.own (t:TS) (j:Nat):Prop:=(∃ p,t.N p=some j)∨(∃ p l,t.es p=some (j,l))∨(∃ p D,t.dg p=some (j,D))
structure jg (H:List HO) (t:TS) (H':List HO) (t':TS):Prop where
 len:H.length≤H'.length
 fr:∀ j,j<H.length→¬ t.own j→H'[j]? = H[j]?
 own:∀ j,t'.own j→t.own j∨H.length≤j
theorem jg.refl (H:List HO) (t:TS):jg H t H t:=⟨aai _,fun _ _ _=>rfl,fun _ h=>.inl h⟩
theorem jg.trans {H H' H'':List HO} {t t' t'':TS} (a:jg H t H' t') (b:jg H' t' H'' t''):jg H t H'' t'':=by
 refine⟨abl a.len b.len,?_,?_⟩
 · intro j hj ho;rw[b.fr j (abj hj a.len) (fun h=>(a.own j h).elim ho (fun h=>by omega)),a.fr j hj ho]
 · intro j h;rcases b.own j h with h | h
   · exact a.own j h
   · exact .inr (abl a.len h)
def upd {α β:Type} [DecidableEq α] (f:α→β) (a:α) (b:β):α→β:=fun x=>if x=a then b else f x
@[simp] theorem a0 {α β:Type} [DecidableEq α] (f:α→β) (a:α) (b:β):upd f a b a=b:=by simp[upd]
theorem aW {α β:Type} [DecidableEq α] (f:α→β) {a x:α} (b:β) (h:x≠a):upd f a b x=f x:=by simp[upd,h]
theorem aN {H:List HO} {k:Nat} {g:CK} {vs:List DV}:rowAt H k=some (g,vs)↔H[k]? = some (.cells g vs):=by
 unfold rowAt;constructor
 · intro h;split at h
   · rename_i e;simp only[aab.injEq,Prod.mk.injEq] at h;rw[e,h.1,h.2]
   · cases h
 · intro h;rw[h]
theorem fM {H X:List HO} {j:Nat} {o:HO} (h:H[j]? = some o):(H++X)[j]? = some o:=by
 rw[aak (aad.1 h).1];exact h
theorem cC {H:List HO} {j k:Nat} {o x:HO} (h:H[j]? = some o) (hk:j≠k):(H.set k x)[j]? = some o:=by
 rw[aam (fun e=>hk e.symm)];exact h
section
variable {st:St} {H:List HO} {root:Nat} {t:TS}
theorem Trie.wI (h:t.ok st H root) {p:Path} {k:Nat} (hp:t.N p=some k):H[k]? = some (.cells .plain [mn st (t.es p),o9 st (t.dg p)]):=aN.1 (h.row hp)
theorem Trie.nJ (h:t.ok st H root) {p:Path} {k:Nat} {D:List Nat} (hp:t.dg p=some (k,D)):H[k]? = some (.cells .grown (D.map d8)):=aN.1 (h.Kv hp)
theorem Trie.Fx (h:t.ok st H root) {p:Path} {k:Nat} (hp:t.N p=some k):k<H.length:=(aad.1 (h.wI hp)).1
theorem Trie.Ks (h:t.ok st H root) {p:Path} {m:Nat} {l:List (UInt8×Nat)} (hp:t.es p=some (m,l)):m<H.length:=(aad.1 (h.pq hp)).1
theorem Trie.Jz (h:t.ok st H root) {p:Path} {k:Nat} {D:List Nat} (hp:t.dg p=some (k,D)):k<H.length:=(aad.1 (h.nJ hp)).1
theorem Trie.nm (h:t.ok st H root) {p q:Path} {k m:Nat} {l:List (UInt8×Nat)} (hp:t.N p=some k) (hq:t.es q=some (m,l)):k≠m:=by
 rintro rfl;have h1:=h.wI hp;rw[h.pq hq] at h1;cases h1
theorem Trie.nd (h:t.ok st H root) {p q:Path} {k m:Nat} {D:List Nat} (hp:t.N p=some k) (hq:t.dg q=some (m,D)):k≠m:=by
 rintro rfl;have h1:=h.wI hp;rw[h.nJ hq] at h1;cases h1
theorem Trie.md (h:t.ok st H root) {p q:Path} {k m:Nat} {l:List (UInt8×Nat)} {D:List Nat} (hp:t.es p=some (k,l)) (hq:t.dg q=some (m,D)):k≠m:=by
 rintro rfl;have h1:=h.pq hp;rw[h.nJ hq] at h1;cases h1
theorem Trie.grow (h:t.ok st H root) (X:List HO):t.ok st (H++X) root:=
 ⟨h.top,h.vZ,fun hp=>aN.2 (fM (h.wI hp)),fun hp=>fM (h.pq hp),h.tF,h.kid,fun hp=>aN.2 (fM (h.nJ hp)),h.tP,h.tO,h.off⟩
theorem Trie.mkm (h:t.ok st H root) {p:Path} {k:Nat} (hp:t.N p=some k) (he:t.es p=none) :
 TS.ok st ((H++[HO.map []]).set k (HO.cells .plain [.map (st.heap.length+H.length),o9 st (t.dg p)])) root ⟨t.N,upd t.es p (some (H.length,[])),t.dg⟩ ∧
 jg H t ((H++[HO.map []]).set k (HO.cells .plain [.map (st.heap.length+H.length),o9 st (t.dg p)])) ⟨t.N,upd t.es p (some (H.length,[])),t.dg⟩:=by
 have hk:=h.Fx hp;have hnew:(H++[HO.map []])[H.length]? = some (.map []):=by simp
 refine⟨⟨h.top,h.vZ,?_,?_,?_,?_,?_,h.tP,h.tO,?_⟩,⟨by simp,?_,?_⟩⟩
 · intro q j hq;rw[aN];by_cases hqp:q=p
   · subst hqp;have:j=k:=by rw[hp] at hq;exact(aab.inj hq).symm
     subst this;rw[aaq (by simp;omega)];simp[mn]
   · have hne:j≠k:=by rintro rfl;exact hqp (h.vZ hq hp)
     rw[cC (fM (h.wI hq)) hne];simp only[aW _ _ hqp]
 · intro q m l hq;by_cases hqp:q=p
   · subst hqp;simp only[a0,aab.injEq,Prod.mk.injEq] at hq;obtain⟨rfl,rfl⟩:=hq;rw[cC hnew (Nat.ne_of_gt (by assumption))];rfl
   · simp only[aW _ _ hqp] at hq;exact cC (fM (h.pq hq)) (fun e=>h.nm hp hq e.symm)
 · intro q q' m l l' hq hq';by_cases hqp:q=p<;>by_cases hqp':q'=p
   · rw[hqp,hqp']
   · exfalso;subst hqp;simp only[a0,aW _ _ hqp',aab.injEq,Prod.mk.injEq] at hq hq';have:=h.Ks hq';omega
   · exfalso;subst hqp';simp only[a0,aW _ _ hqp,aab.injEq,Prod.mk.injEq] at hq hq';have:=h.Ks hq;omega
   · simp only[aW _ _ hqp,aW _ _ hqp'] at hq hq';exact h.tF hq hq'
 · intro q j c hq;by_cases hqp:q=p
   · subst hqp;simp only[a0,fY];have:=h.kid c hq;rw[he] at this;exact this
   · simp only[aW _ _ hqp];exact h.kid c hq
 · intro q j D hq;rw[aN];exact cC (fM (h.nJ hq)) (fun e=>h.nd hp hq e.symm)
 · intro q hq;have hqp:q≠p:=by rintro rfl;simp only at hq;rw[hp] at hq;cases hq
   obtain⟨a,b,c⟩:=h.off hq;exact⟨by simp only[aW _ _ hqp];exact a,b,c⟩
 · intro j hj ho;have:j≠k:=by rintro rfl;exact ho (.inl ⟨p,hp⟩)
   rw[aam (fun e=>this e.symm),aak hj]
 · intro j hj;rcases hj with ⟨q,hq⟩ | ⟨q,l,hq⟩ | ⟨q,D,hq⟩
   · exact .inl (.inl ⟨q,hq⟩)
   · by_cases hqp:q=p
     · subst hqp;simp only[a0,aab.injEq,Prod.mk.injEq] at hq;right;omega
     · simp only[aW _ _ hqp] at hq;exact .inl (.inr (.inl ⟨q,l,hq⟩))
   · exact .inl (.inr (.inr ⟨q,D,hq⟩))
theorem uP:∀ (l:List (UInt8×Nat)) (c d:UInt8) (x:Nat),fY l c=none→fY (l++[(c,x)]) d=if d=c then some x else fY l d
 | [],c,d,x,_=>rfl
 | (a,k)::r,c,d,x,h=>by
   have hca:c≠a:=by rintro rfl;simp[fY] at h
   simp only[fY,if_neg hca] at h;have ih:=uP r c d x h;simp only[aaS,fY,ih];by_cases hda:d=a
   · subst hda;rw[if_pos rfl,if_neg (fun e=>hca e.symm),if_pos rfl]
   · rw[if_neg hda];by_cases hdc:d=c
     · rw[if_pos hdc,if_pos hdc]
     · rw[if_neg hdc,if_neg hdc,if_neg hda]
theorem Trie.QR (h:t.ok st H root) {p:Path} {k m:Nat} {l:List (UInt8×Nat)} {c:UInt8} (hp:t.N p=some k) (he:t.es p=some (m,l)) (hc:fY l c=none) :
 TS.ok st ((H++[HO.cells .plain [.aS,.list 0 0 .no false []]]).set m (HO.map ((l++[(c,H.length)]).map (po st)))) root ⟨upd t.N (p++[c]) (some H.length),upd t.es p (some (m,l++[(c,H.length)])),t.dg⟩ ∧
 jg H t ((H++[HO.cells .plain [.aS,.list 0 0 .no false []]]).set m (HO.map ((l++[(c,H.length)]).map (po st)))) ⟨upd t.N (p++[c]) (some H.length),upd t.es p (some (m,l++[(c,H.length)])),t.dg⟩:=by
 have hm:=h.Ks he;have hN0:t.N (p++[c])=none:=by rw[h.kid c hp,he];exact hc
 obtain⟨o1,o2,o3⟩:=h.off hN0;have hpp:p++[c]≠p:=by intro e;have:=congrArg List.length e;simp at this
 have hnp:[]≠p++[c]:=by simp
 have hnew:(H++[HO.cells .plain [.aS,.list 0 0 .no false []]])[H.length]? = some (.cells .plain [.aS,.list 0 0 .no false []]):=by simp
 refine⟨⟨?_,?_,?_,?_,?_,?_,?_,h.tP,h.tO,?_⟩,⟨by simp,?_,?_⟩⟩
 · simp only[aW _ _ hnp];exact h.top
 · intro q q' j hq hq';by_cases a:q=p++[c]<;>by_cases b:q'=p++[c]
   · rw[a,b]
   · exfalso;subst a;simp only[a0,aW _ _ b,aab.injEq] at hq hq';have:=h.Fx hq';omega
   · exfalso;subst b;simp only[a0,aW _ _ a,aab.injEq] at hq hq';have:=h.Fx hq;omega
   · simp only[aW _ _ a,aW _ _ b] at hq hq';exact h.vZ hq hq'
 · intro q j hq;rw[aN];by_cases a:q=p++[c]
   · subst a;simp only[a0,aab.injEq] at hq;subst hq;rw[cC hnew (Nat.ne_of_gt (by assumption))];simp only[aW _ _ hpp,o1,o2,mn,o9]
   · simp only[aW _ _ a] at hq;rw[cC (fM (h.wI hq)) (h.nm hq he)];by_cases b:q=p
     · subst b;simp only[a0,he,mn]
     · simp only[aW _ _ b]
 · intro q m' l' hq;by_cases b:q=p
   · subst b;simp only[a0,aab.injEq,Prod.mk.injEq] at hq;obtain⟨rfl,rfl⟩:=hq;rw[aaq (by simp;omega)]
   · simp only[aW _ _ b] at hq;exact cC (fM (h.pq hq)) (by rintro rfl;exact b (h.tF hq he))
 · intro q q' m' l' l'' hq hq';by_cases a:q=p<;>by_cases b:q'=p
   · rw[a,b]
   · subst a;simp only[a0,aW _ _ b,aab.injEq,Prod.mk.injEq] at hq hq';obtain⟨rfl,_⟩:=hq;exact h.tF he hq'
   · subst b;simp only[a0,aW _ _ a,aab.injEq,Prod.mk.injEq] at hq hq';obtain⟨rfl,_⟩:=hq';exact h.tF hq he
   · simp only[aW _ _ a,aW _ _ b] at hq hq';exact h.tF hq hq'
 · intro q j d hq;by_cases a:q=p++[c]
   · subst a;have:(p++[c])++[d]≠p++[c]:=by intro e;have:=congrArg List.length e;simp at this
     simp only[aW _ _ this,aW _ _ hpp,o1,o3 d]
   · simp only[aW _ _ a] at hq;have hk:=h.kid d hq;by_cases b:q=p
     · subst b;rw[he] at hk;simp only at hk;simp only[a0,uP l c d _ hc];by_cases hd:d=c
       · subst hd;simp
       · have:q++[d]≠q++[c]:=by simpa using hd
         rw[if_neg hd,← hk];simp only[aW _ _ this]
     · have:q++[d]≠p++[c]:=by intro e;exact b (List.append_inj_left' e rfl)
       simp only[aW _ _ this,aW _ _ b];exact hk
 · intro q j D hq;rw[aN];exact cC (fM (h.nJ hq)) (fun e=>h.md he hq e.symm)
 · intro q hq;by_cases a:q=p++[c]
   · subst a;simp only[a0] at hq;cases hq
   · simp only[aW _ _ a] at hq;obtain⟨x,y,z⟩:=h.off hq;have b:q≠p:=by rintro rfl;rw[hp] at hq;cases hq
     refine⟨by simp only[aW _ _ b];exact x,y,fun d=>?_⟩;have:q++[d]≠p++[c]:=by intro e;exact b (List.append_inj_left' e rfl)
     simp only[aW _ _ this];exact z d
 · intro j hj ho;have:j≠m:=by rintro rfl;exact ho (.inr (.inl ⟨p,l,he⟩))
   rw[aam (fun e=>this e.symm),aak hj]
 · intro j hj;rcases hj with ⟨q,hq⟩ | ⟨q,l',hq⟩ | ⟨q,D,hq⟩
   · by_cases a:q=p++[c]
     · subst a;simp only[a0,aab.injEq] at hq;right;omega
     · simp only[aW _ _ a] at hq;exact .inl (.inl ⟨q,hq⟩)
   · by_cases b:q=p
     · subst b;simp only[a0,aab.injEq,Prod.mk.injEq] at hq;obtain⟨rfl,_⟩:=hq;exact .inl (.inr (.inl ⟨q,l,he⟩))
     · simp only[aW _ _ b] at hq;exact .inl (.inr (.inl ⟨q,l',hq⟩))
   · exact .inl (.inr (.inr ⟨q,D,hq⟩))
theorem Trie.Wh (h:t.ok st H root) {p:Path} {k:Nat} {D:List Nat} (hp:t.N p=some k) (he:t.dg p=none) (hD:D.length=p.length+1) :
 TS.ok st ((H++[HO.cells .grown (D.map d8)]).set k (HO.cells .plain [mn st (t.es p),.hsl 1 false (st.heap.length+H.length) 0 D.length none])) root ⟨t.N,t.es,upd t.dg p (some (H.length,D))⟩ ∧
 jg H t ((H++[HO.cells .grown (D.map d8)]).set k (HO.cells .plain [mn st (t.es p),.hsl 1 false (st.heap.length+H.length) 0 D.length none])) ⟨t.N,t.es,upd t.dg p (some (H.length,D))⟩:=by
 have hk:=h.Fx hp;have hnew:(H++[HO.cells .grown (D.map d8)])[H.length]? = some (.cells .grown (D.map d8)):=by simp
 refine⟨⟨h.top,h.vZ,?_,?_,h.tF,h.kid,?_,?_,?_,?_⟩,⟨by simp,?_,?_⟩⟩
 · intro q j hq;rw[aN];by_cases hqp:q=p
   · subst hqp;have:j=k:=by rw[hp] at hq;exact(aab.inj hq).symm
     subst this;rw[aaq (by simp;omega)];simp[o9]
   · have hne:j≠k:=by rintro rfl;exact hqp (h.vZ hq hp)
     rw[cC (fM (h.wI hq)) hne];simp only[aW _ _ hqp]
 · intro q m l hq;exact cC (fM (h.pq hq)) (fun e=>h.nm hp hq e.symm)
 · intro q j D' hq;rw[aN];by_cases hqp:q=p
   · subst hqp;simp only[a0,aab.injEq,Prod.mk.injEq] at hq;obtain⟨rfl,rfl⟩:=hq;exact cC hnew (Nat.ne_of_gt (by assumption))
   · simp only[aW _ _ hqp] at hq;exact cC (fM (h.nJ hq)) (fun e=>h.nd hp hq e.symm)
 · intro q q' m D1 D2 hq hq';by_cases hqp:q=p<;>by_cases hqp':q'=p
   · rw[hqp,hqp']
   · exfalso;subst hqp;simp only[a0,aW _ _ hqp',aab.injEq,Prod.mk.injEq] at hq hq';have:=h.Jz hq';omega
   · exfalso;subst hqp';simp only[a0,aW _ _ hqp,aab.injEq,Prod.mk.injEq] at hq hq';have:=h.Jz hq;omega
   · simp only[aW _ _ hqp,aW _ _ hqp'] at hq hq';exact h.tP hq hq'
 · intro q j D' hq;by_cases hqp:q=p
   · subst hqp;simp only[a0,aab.injEq,Prod.mk.injEq] at hq;rw[← hq.2];exact hD
   · simp only[aW _ _ hqp] at hq;exact h.tO hq
 · intro q hq;have hqp:q≠p:=by rintro rfl;simp only at hq;rw[hp] at hq;cases hq
   obtain⟨a,b,c⟩:=h.off hq;exact⟨a,by simp only[aW _ _ hqp];exact b,c⟩
 · intro j hj ho;have:j≠k:=by rintro rfl;exact ho (.inl ⟨p,hp⟩)
   rw[aam (fun e=>this e.symm),aak hj]
 · intro j hj;rcases hj with ⟨q,hq⟩ | ⟨q,l,hq⟩ | ⟨q,D',hq⟩
   · exact .inl (.inl ⟨q,hq⟩)
   · exact .inl (.inr (.inl ⟨q,l,hq⟩))
   · by_cases hqp:q=p
     · subst hqp;simp only[a0,aab.injEq,Prod.mk.injEq] at hq;right;omega
     · simp only[aW _ _ hqp] at hq;exact .inl (.inr (.inr ⟨q,D',hq⟩))
theorem Trie.WR (h:t.ok st H root) {p:Path} {kd:Nat} {D D':List Nat} (hd:t.dg p=some (kd,D)) (hl:D'.length=D.length) :
 TS.ok st (H.set kd (HO.cells .grown (D'.map d8))) root ⟨t.N,t.es,upd t.dg p (some (kd,D'))⟩∧jg H t (H.set kd (HO.cells .grown (D'.map d8))) ⟨t.N,t.es,upd t.dg p (some (kd,D'))⟩:=by
 have hk:=h.Jz hd;refine⟨⟨h.top,h.vZ,?_,?_,h.tF,h.kid,?_,?_,?_,?_⟩,⟨by simp,?_,?_⟩⟩
 · intro q j hq;rw[aN,cC (h.wI hq) (h.nd hq hd)];by_cases hqp:q=p
   · subst hqp;simp only[a0,hd,o9,hl]
   · simp only[aW _ _ hqp]
 · intro q m l hq;exact cC (h.pq hq) (h.md hq hd)
 · intro q j D1 hq;rw[aN];by_cases hqp:q=p
   · subst hqp;simp only[a0,aab.injEq,Prod.mk.injEq] at hq;obtain⟨rfl,rfl⟩:=hq;rw[aaq hk]
   · simp only[aW _ _ hqp] at hq;exact cC (h.nJ hq) (by rintro rfl;exact hqp (h.tP hq hd))
 · intro q q' m D1 D2 hq hq';by_cases hqp:q=p<;>by_cases hqp':q'=p
   · rw[hqp,hqp']
   · subst hqp;simp only[a0,aW _ _ hqp',aab.injEq,Prod.mk.injEq] at hq hq';obtain⟨rfl,_⟩:=hq;exact h.tP hd hq'
   · subst hqp';simp only[a0,aW _ _ hqp,aab.injEq,Prod.mk.injEq] at hq hq';obtain⟨rfl,_⟩:=hq';exact h.tP hq hd
   · simp only[aW _ _ hqp,aW _ _ hqp'] at hq hq';exact h.tP hq hq'
 · intro q j D1 hq;by_cases hqp:q=p
   · subst hqp;simp only[a0,aab.injEq,Prod.mk.injEq] at hq;rw[← hq.2,hl];exact h.tO hd
   · simp only[aW _ _ hqp] at hq;exact h.tO hq
 · intro q hq;obtain⟨a,b,c⟩:=h.off hq;have hqp:q≠p:=by rintro rfl;rw[hd] at b;cases b
   exact⟨a,by simp only[aW _ _ hqp];exact b,c⟩
 · intro j hj ho;have:j≠kd:=by rintro rfl;exact ho (.inr (.inr ⟨p,D,hd⟩))
   rw[aam (fun e=>this e.symm)]
 · intro j hj;rcases hj with ⟨q,hq⟩ | ⟨q,l,hq⟩ | ⟨q,D1,hq⟩
   · exact .inl (.inl ⟨q,hq⟩)
   · exact .inl (.inr (.inl ⟨q,l,hq⟩))
   · by_cases hqp:q=p
     · subst hqp;simp only[a0,aab.injEq,Prod.mk.injEq] at hq;obtain⟨rfl,_⟩:=hq;exact .inl (.inr (.inr ⟨q,D,hd⟩))
     · simp only[aW _ _ hqp] at hq;exact .inl (.inr (.inr ⟨q,D1,hq⟩))
end
theorem kI {st:St} {H:List HO} {K:List Nat} {ks:List LK} {m:Nat} {es:List (DV×DV)} {key v:DV} (h:H[m]? = some (.map es)) (hf:findD ks key es 0=some none) :
 gF (pst st H K) ks (.map (st.heap.length+m)) key v=some (pst st (H.set m (.map (es++[(key,v)]))) K):=by
 have hb:(pst st H K).base≤st.heap.length+m:=by simp
 simp only[gF,cL,h,hf,hb,if_true];simp[pst,abb]
theorem Trie.letter {st:St} {H:List HO} {root:Nat} {t:TS} (h:t.ok st H root) {p:Path} {k:Nat} {c:UInt8} (hp:t.N p=some k) :
 (∃ m l k2,t.es p=some (m,l)∧fY l c=some k2∧t.N (p++[c])=some k2) ∨
 (∃ m l,t.es p=some (m,l)∧fY l c=none)∨t.es p=none:=by
 cases he:t.es p with
 | none=>exact .inr (.inr rfl)
 | some x=>
   obtain⟨m,l⟩:=x
   cases hc:fY l c with
   | none=>exact .inr (.inl ⟨m,l,rfl,hc⟩)
   | some k2=>
     refine .inl ⟨m,l,k2,rfl,hc,?_⟩;have:=h.kid c hp;rw[he] at this;simp only at this;rw[this,hc]
theorem Bh (st:St) {l:List (UInt8×Nat)} {c:UInt8} (h:fY l c=none):findD [.int] (.int .u8 c.toNat) (l.map (po st)) 0=some none:=by
 obtain⟨j,hj⟩:=oX st l c 0;rw[hj,h];rfl
section
variable {st:St} {root:Nat}
theorem Ml {K:List Nat} {dv:DV} {L:List UInt8} {C:List DV} (hC:C=L.map u8) (hl:L.length≤1000):∀ (r d:List UInt8) (k:Nat) (H:List HO) (t:TS),L=d++r→t.ok st H root→t.N d=some k →
 ∃ tl k' H' t',(E tab).C pU [(0,.ptr (st.heap.length+k) 0),(2,dv),(11,.list st.cur 1 .no true C),(12,.int .i64 L.length),(13,.int .i64 d.length)] (pst st H K) =
   some (.exit 0,(0,.ptr (st.heap.length+k') 0)::(2,dv)::tl,pst st H' K)∧t'.ok st H' root∧t'.N L=some k'∧jg H t H' t'∧t'.dg=t.dg:=by
 intro r
 induction r with
 | nil=>
   intro d k H t hd hT hN;obtain rfl:L=d:=by simpa using hd
   refine⟨[(11,.list st.cur 1 .no true C),(12,.int .i64 L.length),(13,.int .i64 L.length),(14,.bool false)],k,H,t,?_,hT,hN,jg.refl _ _,rfl⟩;rw[ae (L:=pU) rfl];simp[rV]
 | cons c r ih=>
   intro d k H t hd hT hN;have h0:d.length<L.length:=by simp[hd]
   have hx:C[d.length]? = some (.int .u8 c.toNat):=by simp[hC,hd,u8]
   have hlt:d.length<C.length:=(aad.1 hx).1;have hge:C[d.length]'hlt=.int .u8 c.toNat:=by have:=hx;rw[aaa hlt] at this;exact aab.inj this
   have hw1:IntKind.i64.wrap ((d.length:Int)+1)=(d.length:Int)+1:=by rw[ay (by omega)]
   have hrow:=hT.row hN;have hlk:=hT.look hN c K;have hkf:gX [.int] (.int .u8 c.toNat)=true:=rfl;rcases hT.letter (c:=c) hN with ⟨m,l,k2,he,hk,hn⟩ | ⟨m,l,he,hk⟩ | he
   · rw[hn] at hlk;rw[he] at hlk hrow;obtain⟨tl,k',H',t',hJ,a1,a2,a3,a4⟩:=ih (d++[c]) k2 H t (by simp[hd]) hT hn;refine⟨tl,k',H',t',?_,a1,a2,a3,a4⟩;simp only[mn,qu] at hlk hrow;simp at hJ;rw[ae (L:=pU) rfl];simp[rV,h0,hx,hge,hlt,hrow,hlk,hkf,eqD,hw1,hJ]
   · obtain⟨hT1,hG1⟩:=hT.QR hN he hk;have hm:=hT.pq he;have hnone:t.N (d++[c])=none:=by rw[hT.kid c hN,he];exact hk
     rw[hnone,he] at hlk;rw[he] at hrow
     have hN1:(upd t.N (d++[c]) (some H.length)) d=some k:=by
      rw[aW _ _ (by intro e;have:=congrArg List.length e;simp at this)];exact hN
     have hN2:(upd t.N (d++[c]) (some H.length)) (d++[c])=some H.length:=a0 _ _ _;have hrow1:=hT1.row hN1;have hlk1:=hT1.look hN1 c K;simp only[a0] at hrow1 hlk1
     have hms:gF (pst st (H++[HO.cells .plain [.aS,.list 0 0 .no false []]]) K) [.int] (.map (st.heap.length+m)) (.int .u8 c.toNat) (.ptr (st.heap.length+H.length) 0) =
      some (pst st ((H++[HO.cells .plain [.aS,.list 0 0 .no false []]]).set m (HO.map ((l++[(c,H.length)]).map (po st)))) K):=by
      rw[kI (fM hm) (Bh st hk)];simp[po]
     obtain⟨tl,k',H',t',hJ,a1,a2,a3,a4⟩:=ih (d++[c]) H.length _ ⟨upd t.N (d++[c]) (some H.length),upd t.es d (some (m,l++[(c,H.length)])),t.dg⟩ (by simp[hd]) hT1 hN2;refine⟨tl,k',H',t',?_,a1,a2,hG1.trans a3,a4⟩;generalize hH1:(H++[HO.cells .plain [.aS,.list 0 0 .no false []]]).set m (HO.map ((l++[(c,H.length)]).map (po st)))=H1 at *;simp only[mn,qu] at hlk hrow hrow1 hlk1;simp at hJ;rw[ae (L:=pU) rfl];simp[rV,h0,hx,hge,hlt,hrow,hlk,hkf,eqD,hw1,hms,hrow1,hlk1,hJ]
   · obtain⟨hT1,hG1⟩:=hT.mkm hN he;obtain⟨hT2,hG2⟩:=hT1.QR (c:=c) hN (a0 _ _ _) rfl;have hnone:t.N (d++[c])=none:=by rw[hT.kid c hN,he]
     rw[hnone,he] at hlk;rw[he] at hrow;have hrow1:=hT1.row hN;have hlk1:=hT1.look hN c K;have hm1:=hT1.pq (a0 t.es d (some (H.length,[])));simp only[a0] at hrow1 hlk1;rw[hnone] at hlk1;generalize hH1:(H++[HO.map []]).set k (HO.cells .plain [.map (st.heap.length+H.length),o9 st (t.dg d)])=H1 at *
     have hN1:(upd t.N (d++[c]) (some H1.length)) d=some k:=by
      rw[aW _ _ (by intro e;have:=congrArg List.length e;simp at this)];exact hN
     have hN2:(upd t.N (d++[c]) (some H1.length)) (d++[c])=some H1.length:=a0 _ _ _;have hrow2:=hT2.row hN1;have hlk2:=hT2.look hN1 c K;simp only[a0] at hrow2 hlk2
     have hms:gF (pst st (H1++[HO.cells .plain [.aS,.list 0 0 .no false []]]) K) [.int] (.map (st.heap.length+H.length)) (.int .u8 c.toNat) (.ptr (st.heap.length+H1.length) 0) =
      some (pst st ((H1++[HO.cells .plain [.aS,.list 0 0 .no false []]]).set H.length (HO.map (([]++[(c,H1.length)]).map (po st)))) K):=by
      rw[kI (fM hm1) rfl];simp[po]
     obtain⟨tl,k',H',t',hJ,a1,a2,a3,a4⟩:=ih (d++[c]) H1.length _ ⟨upd t.N (d++[c]) (some H1.length),upd (upd t.es d (some (H.length,[]))) d (some (H.length,[]++[(c,H1.length)])),t.dg⟩ (by simp[hd]) hT2 hN2;refine⟨tl,k',H',t',?_,a1,a2,(hG1.trans hG2).trans a3,a4⟩;generalize hH2:(H1++[HO.cells .plain [.aS,.list 0 0 .no false []]]).set H.length (HO.map (([]++[(c,H1.length)]).map (po st)))=H2 at *;simp only[mn,qu] at hlk hrow hrow1 hlk1 hrow2 hlk2;simp at hJ;have hroww:rowAt (H++[HO.map []]) k=some (.plain,[.aS,o9 st (t.dg d)]):=fq hrow _;rw[ae (L:=pU) rfl];simp[rV,h0,hx,hge,hlt,hrow,hroww,hlk,hkf,eqD,hw1,hH1,hms,hrow1,hlk1,hrow2,hlk2,hJ]
end
section
variable {st:St} {root:Nat}
theorem MC {K:List Nat} {k kd n t:Nat} {tk:Tk} {mv:DV} {D:List Nat} (hkd:kd≠k) (hn:n≤1000) (ha:D.length≤n):∀ (r d:List Nat) (V:List Nat) (H:List HO),D=d++r→V.length=n →
 rowAt H k=some (.plain,[mv,.hsl 1 false (st.heap.length+kd) 0 n none])→rowAt H kd=some (.grown,V.map d8) →
 ∃ fr,(E tab).C vV [(0,.ptr (st.heap.length+k) 0),(57,.list t 1 tk true (D.map d8)),(58,.int .i64 D.length),(59,.int .i64 d.length)] (pst st H K) =
   some (.exit 2,fr,pst st (H.set kd (.cells .grown ((ia V d.length r).map d8))) K):=by
 intro r
 induction r with
 | nil=>
   intro d V H hd hV h1 h2;obtain rfl:D=d:=by simpa using hd
   have hset:H.set kd (.cells .grown ((ia V D.length []).map d8))=H:=by
    have hk:=bz h2;apply aa4;intro j;by_cases hj:j=kd
    · subst hj;rw[aaq hk,aN.1 h2];rfl
    · rw[aam (fun e=>hj e.symm)]
   rw[hset];refine⟨[(0,.ptr (st.heap.length+k) 0),(57,.list t 1 tk true (D.map d8)),(58,.int .i64 D.length),(59,.int .i64 D.length),(60,.bool false)],?_⟩;rw[ae (L:=vV) rfl];simp[Aq]
 | cons x r ih=>
   intro d V H hd hV h1 h2;have hk:=bz h2;have h0:d.length<D.length:=by simp[hd]
   have hw1:IntKind.i64.wrap ((d.length:Int)+1)=(d.length:Int)+1:=by rw[ay (by omega)]
   have had:d.length<n:=by omega
   generalize hDm:D.map d8=DM at *;have hx:DM[d.length]? = some (.int .u8 x):=by rw[← hDm];simp[hd,d8]
   have hlt:d.length<DM.length:=(aad.1 hx).1;have hge:DM[d.length]'hlt=.int .u8 x:=by have:=hx;rw[aaa hlt] at this;exact aab.inj this
   obtain⟨y,hy⟩:∃ y,V[d.length]? = some y:=⟨V[d.length],aaa (by omega)⟩;have hyd:V.getD d.length 0=y:=by simp[hy]
   generalize hVm:V.map d8=VM at *;have hvx:VM[d.length]? = some (.int .u8 y):=by rw[← hVm];simp[hy,d8]
   have hvl:VM.length=n:=by rw[← hVm];simpa using hV
   have hvlt:d.length<VM.length:=by omega
   have hvge:VM[d.length]'hvlt=.int .u8 y:=by have:=hvx;rw[aaa hvlt] at this;exact aab.inj this
   have hmx:=LB y x;have hsp:=eZ (x:=.int .u8 (max y x:Nat)) (vs:=VM) hvlt;have hset:VM.set d.length (.int .u8 (max y x:Nat))=(V.set d.length (max y x)).map d8:=by rw[← hVm,List.map_set];rfl
   rw[hset] at hsp
   obtain⟨fr,hJ⟩:=ih (d++[x]) (V.set d.length (max y x)) (H.set kd (.cells .grown ((V.set d.length (max y x)).map d8))) (by simp[hd]) (by simpa using hV) (by
    unfold rowAt at h1 ⊢;rw[aam hkd];exact h1) (dO hk _ _)
   refine⟨fr,?_⟩;have e1:(d++[x]).length=d.length+1:=by simp
   rw[e1,abH] at hJ;have e2:ia V d.length (x::r)=ia (V.set d.length (max y x)) (d.length+1) r:=by simp only[ia,hyd]
   rw[e2];generalize (ia (V.set d.length (max y x)) (d.length+1) r).map d8=W at *;generalize (V.set d.length (max y x)).map d8=VN at *;simp only[bj,aal] at hsp;simp at hJ hsp;have hle:d.length+1≤VM.length:=by omega
   rw[ae (L:=vV) rfl];simp[Aq,h0,h1,h2,hx,hge,hlt,had,hvx,hvge,hvlt,hmx,hle,hsp,hw1,hJ]
def SF (t:TS) (L:List UInt8) (D:List Nat) (t':TS):Prop:=
 (∀ q,q≠L→t'.dg q=t.dg q)∧∃ kd,t'.dg L=some (kd,match t.dg L with | some (_,D0)=>ia D0 0 D | none=>D)
theorem Ow {K:List Nat} {H:List HO} {t:TS} {L:List UInt8} {D:List Nat} {tg:Nat} {tk:Tk} (hl:L.length≤900) (hD:D.length=L.length+1) (hT:t.ok st H root) :
 ∃ H' t',(E tab).F 157 [.ptr (st.heap.length+root) 0,.str L,.list tg 1 tk true (D.map d8)] (pst st H K)=some (.tuple [],pst st H' K)∧t'.ok st H' root∧jg H t H' t'∧SF t L D t':=by
 rw[iz Rl rfl];obtain⟨tl,k,H1,t1,hL,hT1,hN1,hG1,hd1⟩:=Ml (K:=K) (dv:=.list tg 1 tk true (D.map d8)) (L:=L) rfl (by omega) L [] root H t rfl hT hT.top;simp at hL;have hu:(fun b:UInt8=>DV.int .u8 (b.toNat:Int))=u8:=rfl;have hrow:=hT1.row hN1
 cases hdg:t1.dg L with
 | none=>
   obtain⟨hT2,hG2⟩:=hT1.Wh hN1 hdg hD;refine⟨_,_,?_,hT2,hG1.trans hG2,?_⟩
   · rw[hdg] at hrow;simp only[o9] at hrow;have hcl:=Fs (st:=st) (H:=H1) (K:=K) (t:=tg) (tk:=tk) (D:=D) (by intro e;simp[e] at hD) (by omega);have hrow2:rowAt (H1++[HO.cells .grown (D.map d8)]) k=_:=fq hrow _;simp[f157,hu,hL,hrow,eqD,hcl,hrow2]
   · refine⟨fun q hq=>by simp only[aW _ _ hq,hd1],H1.length,?_⟩;rw[← hd1,hdg];simp
 | some x=>
   obtain⟨kd,D0⟩:=x;have hlen:=hT1.tO hdg;have hlay:(ia D0 0 D).length=D0.length:=jW _ _ _;obtain⟨hT2,hG2⟩:=hT1.WR hdg hlay;refine⟨_,_,?_,hT2,hG1.trans hG2,?_⟩
   · rw[hdg] at hrow;simp only[o9] at hrow;obtain⟨fr,hL2⟩:=MC (st:=st) (K:=K) (k:=k) (kd:=kd) (t:=tg) (tk:=tk) (mv:=mn st (t1.es L)) (D:=D) (n:=D0.length) (fun e=>hT1.nd hN1 hdg e.symm) (by omega) (by omega) D [] D0 H1 rfl rfl hrow (hT1.Kv hdg);simp at hL2;simp[f157,hu,hL,hrow,eqD,hL2]
   · refine⟨fun q hq=>by simp only[aW _ _ hq,hd1],kd,?_⟩;rw[← hd1,hdg];simp
end
theorem vu (x:Nat):∀ (D V:List Nat) (a m:Nat),m<V.length→((ia V a D).getD m 0≤x↔V.getD m 0≤x∧(a≤m→D.getD (m-a) 0≤x))
 | [],V,a,m,hm=>by simp[ia]
 | d::r,V,a,m,hm=>by
   rw[ia,vu x r _ (a+1) m (by simpa using hm)];by_cases h:a=m
   · subst h;have e:(V.set a (max (V.getD a 0) d)).getD a 0=max (V.getD a 0) d:=by simp[aaf,hm]
     rw[e];have h1:¬ (a+1≤a):=by omega
     simp only[h1,false_implies,and_true,aai,Nat.sub_self,true_implies];simp;omega
   · have e:(V.set a (max (V.getD a 0) d)).getD m 0=V.getD m 0:=by simp[aaf,aam h]
     rw[e];by_cases h2:a≤m
     · have h3:a+1≤m:=by omega
       have e2:m-a=(m-(a+1))+1:=by omega
       simp only[h2,h3,true_implies,e2];simp
     · have h3:¬ (a+1≤m):=by omega
       simp only[h2,h3,false_implies]
def Sem (t:TS) (ps:List (List UInt8)):Prop:=
 ∀ q,match t.dg q with
   | none=>∀ s∈ps,aX s≠q
   | some (_,D)=>D.length=q.length+1∧∀ m,m<q.length+1→∀ x,(D.getD m 0≤x↔∀ s∈ps,aX s=q→(cT 0 s).getD m 0≤x)
theorem Sem.add {t t':TS} {ps:List (List UInt8)} {s:List UInt8} (h:Sem t ps) (ha:SF t (aX s) (cT 0 s) t'):Sem t' (ps++[s]):=by
 intro q;obtain⟨h1,kd,h2⟩:=ha;have hl:=jk s 0;have hq:=h q;by_cases e:q=aX s
 · subst e;rw[h2];simp only
   cases hd:t.dg (aX s) with
   | none=>
     rw[hd] at hq;refine⟨hl,fun m hm x=>?_⟩;simp only[aaA,aaw];constructor
     · rintro a s' (hs|rfl) e
       · exact absurd e (hq s' hs)
       · exact a
     · intro a;exact a s (.inr rfl) rfl
   | some y=>
     obtain⟨k0,D0⟩:=y;rw[hd] at hq;obtain⟨hq1,hq2⟩:=hq;refine⟨by simp only[jW];exact hq1,fun m hm x=>?_⟩;simp only;rw[vu x _ _ 0 m (by omega),hq2 m hm x];simp only[aaA,aaw,abB,true_implies,Nat.sub_zero];constructor
     · rintro⟨a,b⟩ s' (hs|rfl) e
       · exact a s' hs e
       · exact b
     · intro a;exact⟨fun s' hs e=>a s' (.inl hs) e,a s (.inr rfl) rfl⟩
 · rw[h1 q e]
   cases hd:t.dg q with
   | none=>
     rw[hd] at hq;intro s' hs;rcases aaA.1 hs with hs | hs
     · exact hq s' hs
     · simp only[aaw] at hs;subst hs;exact fun e'=>e e'.symm
   | some y=>
     obtain⟨k0,D0⟩:=y;rw[hd] at hq;obtain⟨hq1,hq2⟩:=hq;refine⟨hq1,fun m hm x=>?_⟩;rw[hq2 m hm x];simp only[aaA,aaw];constructor
     · rintro a s' (hs|rfl) e'
       · exact a s' hs e'
       · exact absurd e'.symm e
     · intro a s' hs e';exact a s' (.inl hs) e'
theorem jg.split {H X H':List HO} {t t':TS} (h:jg (H++X) t H' t') (ho:∀ j,t.own j→H.length≤j):∃ X',H'=H++X'∧(∀ j,t'.own j→H.length≤j)∧X.length≤X'.length:=by
 have hl:=h.len;rw[aag] at hl
 have e:H'.take H.length=H:=by
  apply aa4;intro j;by_cases hj:j<H.length
  · rw[List.getElem?_take_of_lt hj,h.fr j (by simp;omega) (fun hh=>by have:=ho j hh;omega),aak hj]
  · rw[aaU (by simp;omega),aaU (by omega)]
 refine⟨H'.drop H.length,?_,?_,by simp;omega⟩
 · conv=>lhs;rw[← aa9 H.length H',e]
 · intro j hj;rcases h.own j hj with h1 | h1
   · exact ho j h1
   · rw[aag] at h1;omega
theorem Trie.same {st:St} {H H':List HO} {root:Nat} {t:TS} (h:t.ok st H root) (hs:∀ j,t.own j→H'[j]? = H[j]?):t.ok st H' root:=
 ⟨h.top,h.vZ,fun hp=>aN.2 (by rw[hs _ (.inl ⟨_,hp⟩)];exact h.wI hp),fun hp=>by rw[hs _ (.inr (.inl ⟨_,_,hp⟩))];exact h.pq hp,h.tF,h.kid,
  fun hp=>aN.2 (by rw[hs _ (.inr (.inr ⟨_,_,hp⟩))];exact h.nJ hp),h.tP,h.tO,h.off⟩
def t0 (root:Nat):TS:=⟨fun p=>if p=[] then some root else none,fun _=>none,fun _=>none⟩
theorem Ty {st:St} {H:List HO} {root:Nat} (h:H[root]? = some (.cells .plain [.aS,.list 0 0 .no false []])):(t0 root).ok st H root:=by
 refine⟨by simp[t0],?_,?_,?_,?_,?_,?_,?_,?_,?_⟩
 · intro p q k hp hq;simp only[t0] at hp hq;split at hp
   · split at hq
     · rename_i a b;rw[a,b]
     · cases hq
   · cases hp
 · intro p k hp;simp only[t0] at hp;split at hp
   · cases hp;rw[aN,h];rfl
   · cases hp
 · intro p m l hp;cases hp
 · intro p q m l l' hp;cases hp
 · intro p k c hp;simp[t0]
 · intro p k D hp;cases hp
 · intro p q k D D' hp;cases hp
 · intro p k D hp;cases hp
 · intro p hp;exact⟨rfl,rfl,fun c=>by simp[t0]⟩
theorem Mb (root:Nat):Sem (t0 root) []:=by intro q;simp[t0]
theorem Ay {root j:Nat} (h:(t0 root).own j):j=root:=by
 rcases h with ⟨p,hp⟩ | ⟨p,l,hp⟩ | ⟨p,D,hp⟩
 · simp only[t0] at hp;split at hp
   · exact(aab.inj hp).symm
   · cases hp
 · cases hp
 · cases hp
theorem PT:tab 147=some (.code f147):=by kernel_rfl
theorem Gj {ps:List (List UInt8)}:∀ y∈ps.map DV.str,dX 1 false y:=by
 intro y hy;obtain⟨c,_,rfl⟩:=aay.1 hy;exact⟨rfl,rfl,rfl⟩
section
variable {st:St} {K:List Nat}
theorem MB {H:List HO} {v w:DV} {ps:List (List UInt8)} (hps:ps.length≤256) (hv:Vw (pst st H K) 1 false (ps.map DV.str) v) {kh me root:Nat} {hx:DV} (hkh:H.length≤kh) (hme:H.length≤me) (hroot:H.length≤root) :
 ∀ (r d:List (List UInt8)) (X:List HO) (t:TS),ps=d++r→t.ok st (H++X) root→Sem t d→(∀ j,t.own j→H.length≤j)→¬ t.own kh→¬ t.own me→kh<(H++X).length→me<(H++X).length →
   rowAt (H++X) kh=some (.plain,[.ptr (st.heap.length+root) 0,hx]) →
 ∃ e fr X' t',(E tab).C sB [(1,w),(6,.ptr (st.heap.length+kh) 0),(33,v),(34,.int .i64 ps.length),(35,.int .i64 d.length)] (pst st (H++X) K)=some (e,fr,pst st (H++X') K) ∧
   t'.ok st (H++X') root∧(∀ j,t'.own j→H.length≤j)∧¬ t'.own kh∧¬ t'.own me∧X.length≤X'.length∧(H++X')[me]? = (H++X)[me]? ∧ (H++X')[kh]? = (H++X)[kh]? ∧
   if r.all okP=true then e=.exit 0∧Sem t' ps∧∃ tl,fr=(1,w)::(6,.ptr (st.heap.length+kh) 0)::tl
   else e=.ret∧fr=[(4,.bp),(5,.int .i64 4)]:=by
 intro r
 induction r with
 | nil=>
   intro d X t hd hT hS ho hk hm hkl hml hrow;obtain rfl:ps=d:=by simpa using hd
   refine⟨.exit 0,[(1,w),(6,.ptr (st.heap.length+kh) 0),(33,v),(34,.int .i64 ps.length),(35,.int .i64 ps.length),(36,.bool false)],X,t,?_,hT,ho,hk,hm,aai _,rfl,rfl,?_⟩
   · rw[ae (L:=sB) rfl];simp[u9]
   · simp[hS]
 | cons s r ih=>
   intro d X t hd hT hS ho hk hm hkl hml hrow;have h0:d.length<ps.length:=by simp[hd]
   have hw1:IntKind.i64.wrap ((d.length:Int)+1)=(d.length:Int)+1:=by rw[ay (by omega)]
   have hxs:(ps.map DV.str)[d.length]? = some (.str s):=by simp[hd]
   have hv':=hv.app X K;have hia:=hv'.bC (i:=d.length) (by simpa using h0) .i64 (pst st (H++X) K);have hld:=hv'.nU Gj hxs;obtain⟨hp1,hp2⟩:=AK s (pst st (H++X) K);by_cases hok:okP s=true
   · obtain⟨tg,tk,hpat⟩:=hp1 hok;have hsl:s.length≤16:=by simp only[okP,aac,decide_eq_true_eq] at hok;exact hok.1.2
     have hll:(aX s).length≤s.length:=aaO _ _;obtain⟨H2,t2,hadd,hT2,hG2,hA2⟩:=Ow (K:=K) (tg:=tg) (tk:=tk) (by omega) (jk s 0) hT;obtain⟨X2,rfl,ho2,hx2⟩:=hG2.split ho;have hS2:=hS.add hA2;have hk2:¬ t2.own kh:=fun h=>(hG2.own kh h).elim hk (fun h=>by omega);have hm2:¬ t2.own me:=fun h=>(hG2.own me h).elim hm (fun h=>by omega);have ek:=hG2.fr kh hkl hk;have em:=hG2.fr me hml hm;have hrow2:rowAt (H++X2) kh=some (.plain,[.ptr (st.heap.length+root) 0,hx]):=by rw[aN,ek];exact aN.1 hrow
     obtain⟨e,fr,X',t',hJ,a1,a2,a3,a4,a5,a6,a7,a8⟩:=ih (d++[s]) X2 t2 (by simp[hd]) hT2 hS2 ho2 hk2 hm2 (by have:=bz hrow2;exact this) (by have:=hG2.len;omega) hrow2;refine⟨e,fr,X',t',?_,a1,a2,a3,a4,by omega,by rw[a6,em],by rw[a7,ek],?_⟩
     · simp at hJ;rw[ae (L:=sB) rfl];simp[u9,h0,hia,hld,hpat,hrow,hadd,hw1,hJ]
     · simpa[hok] using a8
   · simp only[abw] at hok;obtain⟨l,w',hpat⟩:=hp2 hok;refine⟨.ret,[(4,.bp),(5,.int .i64 4)],X,t,?_,hT,ho,hk,hm,aai _,rfl,rfl,?_⟩
     · rw[ae (L:=sB) rfl];simp[u9,h0,hia,hld,hpat]
     · simp[hok]
end
def exV (x:List UInt8×DV):DV×DV:=(.str x.1,x.2)
theorem K6 (w:List UInt8):∀ (EE:List (List UInt8×DV)) (i:Nat),((∀ x∈EE,x.1≠w)∧findD [.str] (.str w) (EE.map exV) i=some none) ∨
 ∃ j v,EE[j]? = some (w,v)∧(∀ k x,k<j→EE[k]? = some x→x.1≠w)∧findD [.str] (.str w) (EE.map exV) i=some (some (i+j,v))
 | [],i=>.inl ⟨by simp,rfl⟩
 | (a,v)::r,i=>by
   by_cases h:w=a
   · subst h;exact .inr ⟨0,v,rfl,by intro k x hk;omega,by simp[findD,exV,jh,cA]⟩
   · have hb:(w==a)=false:=by rw[beq_eq_false_iff_ne];exact h
     have e:∀ r,findD [.str] (.str w) (exV (a,v)::r) i=findD [.str] (.str w) r (i+1):=by
      intro r;simp[findD,exV,jh,cA,hb]
     rcases K6 w r (i+1) with ⟨h1,h2⟩ | ⟨j,v',h1,h2,h3⟩
     · refine .inl ⟨?_,by rw[aaH,e];exact h2⟩;intro x hx;rcases aas.1 hx with rfl | hx
       · exact fun e=>h e.symm
       · exact h1 x hx
     · refine .inr ⟨j+1,v',h1,?_,by rw[aaH,e,h3];congr 3;omega⟩;intro k x hk hx
       cases k with
       | zero=>simp only[aav,aab.injEq] at hx;rw[← hx];exact fun e=>h e.symm
       | succ k=>exact h2 k x (by omega) hx
theorem qb {st:St} {H:List HO} {K:List Nat} {ks:List LK} {m i:Nat} {es:List (DV×DV)} {key v v0:DV} (h:H[m]? = some (.map es)) (hf:findD ks key es 0=some (some (i,v0))) :
 gF (pst st H K) ks (.map (st.heap.length+m)) key v=some (pst st (H.set m (.map (es.modify i fun _=>(key,v)))) K):=by
 have hb:(pst st H K).base≤st.heap.length+m:=by simp
 simp only[gF,cL,h,hf,hb,if_true];simp[pst,abb]
theorem Co (w:List UInt8) (v:DV):∀ (EE:List (List UInt8×DV)) (i:Nat),(EE.map exV).modify i (fun _=>(.str w,v))=(EE.modify i fun _=>(w,v)).map exV
 | [],i=>by simp
 | x::r,0=>rfl
 | x::r,i+1=>by simp[List.modify_succ_cons,Co w v r i]
inductive F2 {α β:Type} (R:α→β→Prop):List α→List β→Prop
 | nil:F2 R [] []
 | cons {a:α} {b:β} {l:List α} {m:List β} (h:R a b) (t:F2 R l m):F2 R (a::l) (b::m)
structure ExI (d:List (List UInt8)) (EE:List (List UInt8×DV)) (tw:Bool):Prop where
 mem:∀ w,(∃ x∈EE,x.1=w)↔∃ s∈d,aD s=w
 tws:tw=true↔¬ (d.map aD).Nodup
 all:tw=false→F2 (fun s x=>x.1=aD s∧Lw 1 ((plc 0 s).map i6) x.2) d EE
theorem ExI.nil:ExI [] [] false:=⟨by simp,by simp,fun _=>.nil⟩
theorem nc (l:List (List UInt8)) (a:List UInt8):(l++[a]).Nodup↔l.Nodup∧a∉l:=by
 rw[List.nodup_append];constructor
 · rintro⟨h1,_,h2⟩;exact⟨h1,fun h=>h2 a h a (by simp) rfl⟩
 · rintro⟨h1,h2⟩;refine⟨h1,by simp,?_⟩;intro x hx y hy e;simp only[aaw] at hy;subst hy;subst e;exact h2 hx
theorem oe {α β:Type} {R:α→β→Prop}:∀ {l:List α} {m:List β} {a:α} {b:β},F2 R l m→R a b→F2 R (l++[a]) (m++[b])
 | [],[],_,_,.nil,h=>.cons h .nil
 | _::_,_::_,_,_,.cons h1 h2,h=>.cons h1 (oe h2 h)
theorem ExI.new {d:List (List UInt8)} {EE:List (List UInt8×DV)} {tw:Bool} (h:ExI d EE tw) {s:List UInt8} {v:DV} (hn:∀ x∈EE,x.1≠aD s) (hv:Lw 1 ((plc 0 s).map i6) v):ExI (d++[s]) (EE++[(aD s,v)]) tw:=by
 have hnd:aD s∉d.map aD:=by
  intro hm;obtain⟨s',h1,h2⟩:=aay.1 hm;obtain⟨x,hx,e⟩:=(h.mem (aD s)).2 ⟨s',h1,h2⟩;exact hn x hx e
 refine⟨?_,?_,fun e=>oe (h.all e) ⟨rfl,hv⟩⟩
 · intro w;have:=h.mem w;constructor
   · rintro⟨x,hx,e⟩;rcases aaA.1 hx with hx|hx
     · obtain⟨s',h1,h2⟩:=this.1 ⟨x,hx,e⟩;exact⟨s',abK _ h1,h2⟩
     · simp only[aaw] at hx;subst hx;exact⟨s,by simp,e⟩
   · rintro⟨s',hs,e⟩;rcases aaA.1 hs with hs|hs
     · obtain⟨x,hx,e⟩:=this.2 ⟨s',hs,e⟩;exact⟨x,abK _ hx,e⟩
     · simp only[aaw] at hs;subst hs;exact⟨(aD s',v),List.mem_append_right _ (by simp),e⟩
 · rw[h.tws,abr,List.map_singleton,nc];simp[hnd]
theorem ExI.old {d:List (List UInt8)} {EE:List (List UInt8×DV)} {tw:Bool} (h:ExI d EE tw) {s:List UInt8} {v v0:DV} {j:Nat} (hj:EE[j]? = some (aD s,v0)):ExI (d++[s]) (EE.modify j fun _=>(aD s,v)) true:=by
 have hnd:aD s∈d.map aD:=by
  obtain⟨s',h1,h2⟩:=(h.mem (aD s)).1 ⟨_,aat hj,rfl⟩;exact aay.2 ⟨s',h1,h2⟩
 have hf:∀ w,(∃ x∈EE.modify j (fun _=>(aD s,v)),x.1=w)↔∃ x∈EE,x.1=w:=by
  intro w
  have e:(EE.modify j (fun _=>(aD s,v))).map Prod.fst=EE.map Prod.fst:=by
   apply aa4;intro k;rw[aaG,aaG,List.getElem?_modify];by_cases hk:j=k
   · subst hk;rw[hj];simp
   · simp[hk]
  have e2:∀ l:List (List UInt8×DV),(∃ x∈l,x.1=w)↔w∈l.map Prod.fst:=by intro l;simp
  rw[e2,e2,e]
 refine⟨?_,?_,fun e=>by cases e⟩
 · intro w;rw[hf w,h.mem w];constructor
   · rintro⟨s',hs,e⟩;exact⟨s',abK _ hs,e⟩
   · rintro⟨s',hs,e⟩;rcases aaA.1 hs with hs|hs
     · exact⟨s',hs,e⟩
     · simp only[aaw] at hs;subst hs;subst e;obtain⟨s',h1,h2⟩:=aay.1 hnd;exact⟨s',h1,h2⟩
 · rw[abr,List.map_singleton,nc];simp only[true_iff];exact fun h=>h.2 hnd
section
variable {st:St} {K:List Nat}
theorem N2 {H:List HO} {w:DV} {es:List (List UInt8)} (hes:es.length≤256) (hsl:∀ s∈es,s.length≤1000) (hv:Vw (pst st H K) 1 false (es.map DV.str) w) {a b:Nat} {np:DV} (hab:a≠b) :
 ∀ (r d:List (List UInt8)) (X:List HO) (EE:List (List UInt8×DV)) (tw:Bool),es=d++r→X[b]? = some (.map (EE.map exV))→rowAt X a=some (.plain,[np,.map (st.heap.length+(H.length+b))])→ExI d EE tw →
 ∃ e fr EE',(E tab).C oW [(6,.ptr (st.heap.length+(H.length+a)) 0),(12,.bool tw),(55,w),(56,.int .i64 es.length),(57,.int .i64 d.length)] (pst st (H++X) K)=some (e,fr,pst st (H++X.set b (.map (EE'.map exV))) K) ∧
   if r.all okE=true then e=.exit 2∧∃ tw' tl,fr=(6,.ptr (st.heap.length+(H.length+a)) 0)::(12,.bool tw')::tl∧ExI es EE' tw'
   else e=.ret∧fr=[(4,.bp),(5,.int .i64 4)]:=by
 intro r
 induction r with
 | nil=>
   intro d X EE tw hd hb ha hI;obtain rfl:es=d:=by simpa using hd
   have hset:X.set b (.map (EE.map exV))=X:=by
    apply aa4;intro j;by_cases hj:j=b
    · subst hj;rw[aaq (aad.1 hb).1,hb]
    · rw[aam (fun e=>hj e.symm)]
   refine⟨.exit 2,[(6,.ptr (st.heap.length+(H.length+a)) 0),(12,.bool tw),(55,w),(56,.int .i64 es.length),(57,.int .i64 es.length),(58,.bool false)],EE,?_,?_⟩
   · rw[hset,ae (L:=oW) rfl];simp[rI]
   · simp[hI]
 | cons s r ih=>
   intro d X EE tw hd hb ha hI;have h0:d.length<es.length:=by simp[hd]
   have hw1:IntKind.i64.wrap ((d.length:Int)+1)=(d.length:Int)+1:=by rw[ay (by omega)]
   have hxs:(es.map DV.str)[d.length]? = some (.str s):=by simp[hd]
   have hv':=hv.app X K;have hia:=hv'.bC (i:=d.length) (by simpa using h0) .i64 (pst st (H++X) K);have hld:=hv'.nU Gj hxs;obtain⟨l,pv,hexc,hok1⟩:=wo (s:=s) (st:=pst st (H++X) K) (hsl s (by simp[hd]));have hbl:=(aad.1 hb).1;have hra:rowAt (H++X) (H.length+a)=some (.plain,[np,.map (st.heap.length+(H.length+b))]):=by rw[gI];exact ha
   have hkf:∀ s,gX [.str] (.str s)=true:=fun _=>rfl;by_cases hok:okE s=true
   · obtain⟨rfl,hlw⟩:=hok1 hok;have hHb:(H++X)[H.length+b]? = some (.map (EE.map exV)):=by rw[jO];exact hb
     have hset2:∀ o o',(X.set b o).set b o'=X.set b o':=fun o o'=>abH ..;rw[hok] at hexc;rcases K6 (aD s) EE 0 with ⟨h1,h2⟩ | ⟨j,v0,h1,_,h2⟩
     · have hlk:db (pst st (H++X) K) [.str] (.list 0 0 .no false []) (.map (st.heap.length+(H.length+b))) (.str (aD s)) true=some (.tuple [.list 0 0 .no false [],.bool false]):=by
        simp only[db,cL,hHb,h2];rfl
       have hms:=kI (st:=st) (K:=K) (v:=pv) hHb h2;have e1:EE.map exV++[(.str (aD s),pv)]=(EE++[(aD s,pv)]).map exV:=by simp[exV]
       rw[e1,py] at hms
       obtain⟨e,fr,EE',hJ,hR⟩:=ih (d++[s]) (X.set b (.map ((EE++[(aD s,pv)]).map exV))) (EE++[(aD s,pv)]) tw (by simp[hd]) (by rw[aaq hbl]) (by
        rw[aN,aam (fun e=>hab e.symm)];exact aN.1 ha) (hI.new h1 hlw)
       refine⟨e,fr,EE',?_,by simpa[hok] using hR⟩;rw[abH] at hJ;generalize (EE++[(aD s,pv)]).map exV=Y at *;generalize EE'.map exV=Y' at *;simp at hJ;rw[ae (L:=oW) rfl];cases tw<;>simp[rI,h0,hia,hld,hexc,hra,hlk,hkf,hms,hw1,hJ]
     · have hlk:db (pst st (H++X) K) [.str] (.list 0 0 .no false []) (.map (st.heap.length+(H.length+b))) (.str (aD s)) true=some (.tuple [v0,.bool true]):=by
        simp only[db,cL,hHb,h2];rfl
       have hms:=qb (st:=st) (K:=K) (v:=pv) hHb h2;rw[aar,Co,py] at hms
       obtain⟨e,fr,EE',hJ,hR⟩:=ih (d++[s]) (X.set b (.map ((EE.modify j fun _=>(aD s,pv)).map exV))) (EE.modify j fun _=>(aD s,pv)) true (by simp[hd]) (by rw[aaq hbl]) (by
        rw[aN,aam (fun e=>hab e.symm)];exact aN.1 ha) (hI.old h1)
       refine⟨e,fr,EE',?_,by simpa[hok] using hR⟩;rw[abH] at hJ;generalize (EE.modify j fun _=>(aD s,pv)).map exV=Y at *;generalize EE'.map exV=Y' at *;simp at hJ;rw[ae (L:=oW) rfl];cases tw<;>simp[rI,h0,hia,hld,hexc,hra,hlk,hkf,hms,hw1,hJ]
   · simp only[abw] at hok;rw[hok] at hexc
     have hset:X.set b (.map (EE.map exV))=X:=by
      apply aa4;intro j;by_cases hj:j=b
      · subst hj;rw[aaq hbl,hb]
      · rw[aam (fun e=>hj e.symm)]
     refine⟨.ret,[(4,.bp),(5,.int .i64 4)],EE,?_,?_⟩
     · rw[hset,ae (L:=oW) rfl];simp[rI,h0,hia,hld,hexc]
     · simp[hok]
end
def eF (ps es:List (List UInt8)):Nat:=if 256<ps.length∨64<es.length then 3 else if ps.all okP=true∧es.all okE=true then (if (es.map aD).Nodup then 0 else 7) else 4
def ru (st:St) (G:List HO) (b:Nat) (ps es:List (List UInt8)):Prop:=
 ∃ t EE,t.ok st G b∧Sem t ps∧(∀ j,t.own j→b≤j)∧ExI es EE false∧G[b+1]? = some (.map (EE.map exV))∧rowAt G (b+2)=some (.plain,[.ptr (st.heap.length+b) 0,.map (st.heap.length+(b+1))])
theorem ru.same {st:St} {G G':List HO} {b:Nat} {ps es:List (List UInt8)} (h:ru st G b ps es) (hs:∀ j,b≤j→j<G.length→G'[j]? = G[j]?):ru st G' b ps es:=by
 obtain⟨t,EE,h1,h2,h3,h4,h5,h6⟩:=h;refine⟨t,EE,h1.same fun j hj=>?_,h2,h3,h4,?_,?_⟩
 · refine hs j (h3 j hj) ?_;rcases hj with ⟨p,hp⟩ | ⟨p,l,hp⟩ | ⟨p,D,hp⟩
   · exact h1.Fx hp
   · exact h1.Ks hp
   · exact h1.Jz hp
 · rw[hs _ (by omega) (aad.1 h5).1];exact h5
 · rw[aN,hs _ (by omega) (bz h6)];exact aN.1 h6
section
variable {st:St} {K:List Nat}
theorem N1 {H:List HO} {v w:DV} {ps es:List (List UInt8)} (hsl:∀ s∈es,s.length≤1000) (hv:Vw (pst st H K) 1 false (ps.map DV.str) v) (hw:Vw (pst st H K) 1 false (es.map DV.str) w) :
 ∃ X hp,(E tab).F 147 [v,w] (pst st H K)=some (.tuple [hp,.int .i64 (eF ps es:Nat)],pst st (H++X) K)∧(eF ps es=0→hp=.ptr (st.heap.length+(H.length+2)) 0∧ru st (H++X) H.length ps es)∧(eF ps es≠0→hp=.bp):=by
 rw[iz PT rfl];have hlv:=hv.len;have hlw:=hw.len;simp only[aaP] at hlv hlw;by_cases h1:256<ps.length
 · have h1':(256:Int)<ps.length:=by omega
   have he:eF ps es=3:=by simp[eF,h1]
   refine⟨[],.bp,?_,by simp[he],fun _=>rfl⟩;rw[he];simp[f147,hlv,h1']
 by_cases h2:64<es.length
 · have h1':¬ (256:Int)<ps.length:=by omega
   have h2':(64:Int)<es.length:=by omega
   have he:eF ps es=3:=by simp[eF,h2]
   refine⟨[],.bp,?_,by simp[he],fun _=>rfl⟩;rw[he];simp[f147,hlv,hlw,h1',h2']
 have h1':¬ (256:Int)<ps.length:=by omega
 have h2':¬ (64:Int)<es.length:=by omega
 have hX0:H++[HO.cells .plain [.aS,.list 0 0 .no false []],.map [],.cells .plain [.ptr (st.heap.length+H.length) 0,.map (st.heap.length+(H.length+1))]] =
  H++[HO.cells .plain [.aS,.list 0 0 .no false []],.map [],.cells .plain [.ptr (st.heap.length+H.length) 0,.map (st.heap.length+(H.length+1))]]:=rfl
 have hg:∀ j,(H++[HO.cells .plain [.aS,.list 0 0 .no false []],.map [],.cells .plain [.ptr (st.heap.length+H.length) 0,.map (st.heap.length+(H.length+1))]])[H.length+j]? =
  [HO.cells .plain [.aS,.list 0 0 .no false []],.map [],.cells .plain [.ptr (st.heap.length+H.length) 0,.map (st.heap.length+(H.length+1))]][j]?:=fun j=>jO _ _ j
 have hT0:(t0 H.length).ok st (H++[HO.cells .plain [.aS,.list 0 0 .no false []],.map [],.cells .plain [.ptr (st.heap.length+H.length) 0,.map (st.heap.length+(H.length+1))]]) H.length:=Ty (hg 0)
 obtain⟨e,fr,X1,t1,hL,a1,a2,a3,a4,a5,a6,a7,a8⟩:=MB (K:=K) (H:=H) (v:=v) (w:=w) (ps:=ps) (by omega) hv (kh:=H.length+2) (me:=H.length+1) (root:=H.length) (by omega) (by omega) (aai _) ps [] _ (t0 H.length) rfl hT0 (Mb _)
  (fun j hj=>by rw[Ay hj];exact aai _) (fun h=>by have:=Ay h;omega) (fun h=>by have:=Ay h;omega) (by simp) (by simp) (by rw[aN];exact hg 2)
 rw[hg 1] at a6;rw[hg 2] at a7;simp at hL;by_cases hp:ps.all okP=true
 · rw[if_pos hp] at a8;obtain⟨rfl,hS,tl,rfl⟩:=a8;have b1:X1[1]? = some (.map (([]:List (List UInt8×DV)).map exV)):=by rw[← jO H X1];exact a6
   have b2:rowAt X1 2=some (.plain,[.ptr (st.heap.length+H.length) 0,.map (st.heap.length+(H.length+1))]):=by rw[aN,← jO H X1];exact a7
   obtain⟨e,fr,EE,hL2,c⟩:=N2 (K:=K) (H:=H) (w:=w) (es:=es) (by omega) hsl hw (a:=2) (b:=1) (by omega) es [] X1 [] false rfl b1 b2 ExI.nil;simp at hL2;by_cases hq:es.all okE=true
   · rw[if_pos hq] at c;obtain⟨rfl,tw,tl2,rfl,hI⟩:=c
     cases tw with
     | true=>
       have hn:=hI.tws.1 rfl;have he:eF ps es=7:=by simp only[eF,if_neg (show ¬ (256<ps.length∨64<es.length) by omega),hp,hq,and_self,if_true,if_neg hn]
       refine⟨X1.set 1 (.map (EE.map exV)),.bp,?_,by simp[he],fun _=>rfl⟩;rw[he];simp[f147,hlv,hlw,h1',h2',hL,hL2]
     | false=>
       have hn:(es.map aD).Nodup:=by
        by_cases h:(es.map aD).Nodup
        · exact h
        · have:=hI.tws.2 h;cases this
       have he:eF ps es=0:=by simp only[eF,if_neg (show ¬ (256<ps.length∨64<es.length) by omega),hp,hq,and_self,if_true,if_pos hn]
       refine⟨X1.set 1 (.map (EE.map exV)),.ptr (st.heap.length+(H.length+2)) 0,?_,fun _=>⟨rfl,t1,EE,?_,hS,a2,hI,?_,?_⟩,by simp[he]⟩
       · rw[he];simp[f147,hlv,hlw,h1',h2',hL,hL2]
       · refine a1.same fun j hj=>?_;rw[← py,aam (by rintro rfl;exact a4 hj)]
       · rw[jO,aaq (aad.1 b1).1]
       · rw[aN,jO,aam (by omega)];exact aN.1 b2
   · rw[if_neg hq] at c;obtain⟨rfl,rfl⟩:=c;have he:eF ps es=4:=by rw[eF,if_neg (show ¬ (256<ps.length∨64<es.length) by omega),if_neg (fun h=>hq h.2)]
     refine⟨X1.set 1 (.map (EE.map exV)),.bp,?_,by simp[he],fun _=>rfl⟩;rw[he];simp[f147,hlv,hlw,h1',h2',hL,hL2]
 · rw[if_neg hp] at a8;obtain⟨rfl,rfl⟩:=a8;have he:eF ps es=4:=by rw[eF,if_neg (show ¬ (256<ps.length∨64<es.length) by omega),if_neg (fun h=>hp h.1)]
   refine⟨X1,.bp,?_,by simp[he],fun _=>rfl⟩;rw[he];simp[f147,hlv,hlw,h1',h2',hL]
end
def Con (ps:List (List UInt8)) (text:List UInt8) (m x:Nat):Prop:=∀ s∈ps,∀ i,aX s≠[]→aX s <+: text.drop i→i≤m→(cT 0 s).getD (m-i) 0≤x
def JV (text:List UInt8) (m:Nat) (s:List UInt8) (i:Nat):Nat:=if aX s≠[]∧(aX s).isPrefixOf (text.drop i)=true∧i≤m then (cT 0 s).getD (m-i) 0 else 0
def zQ (ps:List (List UInt8)) (text:List UInt8) (m:Nat):Nat:=(ps.flatMap fun s=>(aan (text.length+1)).map (JV text m s)).foldr max 0
theorem nQ (x:Nat):∀ l:List Nat,l.foldr max 0≤x↔∀ y∈l,y≤x
 | []=>by simp
 | a::r=>by simp only[List.foldr_cons,aas,forall_eq_or_imp,← nQ x r];omega
theorem BG (ps:List (List UInt8)) (text:List UInt8) (m x:Nat):zQ ps text m≤x↔Con ps text m x:=by
 unfold zQ;rw[nQ];constructor
 · intro h s hs i h1 h2 h3
   have hi:i<text.length+1:=by
    apply Nat.lt_succ_of_le;apply Nat.le_of_not_lt;intro hlt;rw[aa8 (by omega)] at h2;exact h1 (List.prefix_nil.1 h2)
   have:=h (JV text m s i) (aaM.2 ⟨s,hs,aay.2 ⟨i,abF.2 hi,rfl⟩⟩);unfold JV at this;rw[if_pos ⟨h1,List.isPrefixOf_iff_prefix.2 h2,h3⟩] at this;exact this
 · intro h y hy;obtain⟨s,hs,hy⟩:=aaM.1 hy;obtain⟨i,_,rfl⟩:=aay.1 hy;unfold JV;split
   · rename_i h1;exact h s hs i h1.1 (List.isPrefixOf_iff_prefix.1 h1.2.1) h1.2.2
   · exact abB _
theorem zy {a b:Nat} (h:∀ x,a≤x↔b≤x):a=b:=Nat.le_antisymm ((h b).2 (aai _)) ((h a).1 (aai _))
section
variable {st:St} {H:List HO} {root:Nat} {t:TS}
theorem Trie.Xf (h:t.ok st H root) {p:Path} (hp:t.N p=none):∀ u,t.N (p++u)=none:=by
 intro u
 induction u generalizing p with
 | nil=>simpa using hp
 | cons c r ih=>have:=ih ((h.off hp).2.2 c);simpa using this
theorem BP (h:t.ok st H root) {ps:List (List UInt8)} (hS:Sem t ps) (a m x:Nat):∀ (r p:List UInt8) (V:List Nat),m<V.length →
 ((ic t.N t.dg a p r V).getD m 0≤x↔V.getD m 0≤x∧∀ s∈ps,∀ u,u≠[]→u <+: r→aX s=p++u→a≤m→(cT 0 s).getD (m-a) 0≤x)
 | [],p,V,hm=>by
   simp only[ic];constructor
   · intro h1;exact⟨h1,fun s _ u hu hp=>absurd (List.prefix_nil.1 hp) hu⟩
   · intro h1;exact h1.1
 | c::r,p,V,hm=>by
   simp only[ic];split
   · rename_i hn;constructor
     · intro h1;refine⟨h1,fun s hs u hu hp e=>?_⟩;exfalso
       cases u with
       | nil=>exact hu rfl
       | cons c' u=>
         obtain⟨rfl,_⟩:=List.cons_prefix_cons.1 hp;have h2:=h.Xf hn u;have h3:p++[c']++u=aX s:=by rw[e];simp
         rw[h3] at h2;have h4:=hS (aX s);rw[(h.off h2).2.1] at h4;exact h4 s hs rfl
     · intro h1;exact h1.1
   · have hq:=hS (p++[c])
     have key:∀ W:List Nat,m<W.length→(W.getD m 0≤x↔V.getD m 0≤x∧∀ s∈ps,aX s=p++[c]→a≤m→(cT 0 s).getD (m-a) 0≤x) →
      ((ic t.N t.dg a (p++[c]) r W).getD m 0≤x↔V.getD m 0≤x∧∀ s∈ps,∀ u,u≠[]→u <+: c::r→aX s=p++u→a≤m→(cT 0 s).getD (m-a) 0≤x):=by
      intro W hW hk;rw[BP h hS a m x r (p++[c]) W hW,hk];constructor
      · rintro⟨⟨h1,h2⟩,h3⟩;refine⟨h1,fun s hs u hu hp e ham=>?_⟩
        cases u with
        | nil=>exact absurd rfl hu
        | cons c' u=>
          obtain⟨rfl,hp'⟩:=List.cons_prefix_cons.1 hp
          cases u with
          | nil=>exact h2 s hs e ham
          | cons d u=>exact h3 s hs (d::u) (by simp) hp' (by rw[e];simp) ham
      · rintro⟨h1,h2⟩;refine⟨⟨h1,fun s hs e ham=>h2 s hs [c] (by simp) (by simp) e ham⟩,fun s hs u hu hp e ham=>?_⟩;exact h2 s hs (c::u) (by simp) (List.cons_prefix_cons.2 ⟨rfl,hp⟩) (by rw[e];simp) ham
     cases hd:t.dg (p++[c]) with
     | none=>
       rw[hd] at hq;simp only;refine key V hm ⟨fun h1=>⟨h1,fun s hs e=>absurd e (hq s hs)⟩,fun h1=>h1.1⟩
     | some y=>
       obtain⟨kd,D⟩:=y;rw[hd] at hq;simp only;obtain⟨hq1,hq2⟩:=hq;refine key _ (by rw[jW];exact hm) ?_;rw[vu x _ _ a m hm]
       have e:(a≤m→D.getD (m-a) 0≤x)↔∀ s∈ps,aX s=p++[c]→a≤m→(cT 0 s).getD (m-a) 0≤x:=by
        by_cases hma:m-a<(p++[c]).length+1
        · have:=hq2 (m-a) hma x;constructor
          · intro h1 s hs e ham;exact this.1 (h1 ham) s hs e
          · intro h1 ham;exact this.2 fun s hs e=>h1 s hs e ham
        · constructor
          · intro _ s hs e ham;have hl:=jk s 0;rw[e] at hl;simp[aaf,aaU (show (cT 0 s).length≤m-a by omega)]
          · intro _ ham;simp[aaf,aaU (show D.length≤m-a by omega)]
       rw[e]
theorem ue (h:t.ok st H root) {ps:List (List UInt8)} (hS:Sem t ps) (m x:Nat):∀ (r:List UInt8) (a:Nat) (V:List Nat),m<V.length →
 ((dF t.N t.dg a r V).getD m 0≤x↔V.getD m 0≤x∧∀ s∈ps,∀ i,aX s≠[]→aX s <+: r.drop i→a+i≤m→(cT 0 s).getD (m-(a+i)) 0≤x)
 | [],a,V,hm=>by
   simp only[dF];constructor
   · intro h1;exact⟨h1,fun s _ i hn hp=>absurd (List.prefix_nil.1 (by simpa using hp)) hn⟩
   · intro h1;exact h1.1
 | c::r,a,V,hm=>by
   simp only[dF];rw[ue h hS m x r (a+1) _ (by rw[nO];exact hm),BP h hS a m x (c::r) [] V hm];constructor
   · rintro⟨⟨h1,h2⟩,h3⟩;refine⟨h1,fun s hs i hn hp ham=>?_⟩
     cases i with
     | zero=>exact h2 s hs (aX s) hn (by simpa using hp) (by simp) (by omega)
     | succ i=>
       have:=h3 s hs i hn (by simpa using hp) (by omega);have e:a+1+i=a+(i+1):=by omega
       rw[e] at this;exact this
   · rintro⟨h1,h2⟩;refine⟨⟨h1,fun s hs u hu hp e ham=>?_⟩,fun s hs i hn hp ham=>?_⟩
     · have e':aX s=u:=by simpa using e
       subst e';exact h2 s hs 0 hu (by simpa using hp) (by omega)
     · have:=h2 s hs (i+1) hn (by simpa using hp) (by omega);have e:a+1+i=a+(i+1):=by omega
       rw[e];exact this
theorem Fa (h:t.ok st H root) {ps:List (List UInt8)} (hS:Sem t ps) (text:List UInt8) (n m:Nat) (hm:m<n):(dF t.N t.dg 0 text (aap n 0)).getD m 0=zQ ps text m:=by
 apply zy;intro x;rw[ue h hS m x text 0 _ (by simpa using hm),BG];have e:(aap n 0).getD m 0=0:=by simp[aaf,hm]
 rw[e];simp only[abB,true_and,aar];rfl
theorem sk (N:Path→Option Nat) (dg:Path→Option (Nat×List Nat)):∀ (r:List UInt8) (a:Nat) (V:List Nat),(dF N dg a r V).length=V.length
 | [],a,V=>rfl
 | c::r,a,V=>by rw[dF,sk N dg r,nO]
end
def zG (ps:List (List UInt8)) (w:List UInt8):List Nat:=(List.range' 2 (w.length-4)).filter fun k=>zQ ps (46::(w++[46])) (k+1)%2==1
def points (ps es:List (List UInt8)) (w:List UInt8):List Nat:=match es.find? (fun s=>aD s==w) with | some s=>plc 0 s | none=>zG ps w
theorem Ph:tab 150=some (.code f150):=by kernel_rfl
theorem TJ:tab 144=some (.code f144):=by kernel_rfl
theorem Ch {ys:List Nat}:∀ y∈ys.map i6,dX 1 false y:=by
 intro y hy;obtain⟨c,_,rfl⟩:=aay.1 hy;exact⟨rfl,rfl,rfl⟩
theorem Hl {st:St} {ys:List Nat} {v:DV} (h:Lw 1 (ys.map i6) v) (hl:ys.length≤100000):∃ v',(E tab).F 150 [v] st=some (v',st)∧Lw 1 (ys.map i6) v':=by
 rw[aK Ph rfl]
 cases h with
 | list t n' tk nn h1 h2=>
   cases nn with
   | false=>
     refine⟨.list 0 0 .no false [],?_,by rw[h2 rfl];exact .list _ _ _ _ (fun h=>by cases h) (fun _=>rfl)⟩;simp[f150,eqD]
   | true=>
     obtain rfl:=h1 rfl;by_cases hy:ys.map i6=[]
     · refine⟨.list st.cur 1 .tight true [],?_,by rw[hy];exact .list _ _ _ _ (by simp) (by simp)⟩
       have ha:∀ K,aZ (pst st [] K) 1 false 8 (.list st.cur 1 .tight true []) (.list t 1 tk true (ys.map i6))=some (.list st.cur 1 .tight true [],pst st [] K):=by
        intro K;refine rG ?_;rw[hy];simp[bU,flat]
       simp[f150,eqD,aC,aO,chunk,ha]
     · have ha:=l8 (st:=st) (H:=[]) (K:=[]) (t:=st.cur) (n':=1) (tk:=.tight) (nn:=true) (xs:=[]) (t':=t) (tk':=tk) (by_:=8) (.inr ⟨rfl,rfl,rfl⟩) (by omega) hy Ch (by simp[aB];omega) (by simp[aB];omega);refine⟨.list st.cur 1 .no true (ys.map i6),?_,.list _ _ _ _ (by simp) (by simp)⟩;simp at ha;simp[f150,eqD,aC,aO,chunk,ha]
theorem Bg {st:St} {K:List Nat} {n:Nat} {xs:List DV} {v:DV} (h:Acc st K n xs v):Lw n xs v:=by
 rcases h with ⟨rfl,t,n',tk,rfl⟩ | ⟨k,s,rfl,_⟩
 · exact .list _ _ _ _ (fun h=>by cases h) (fun _=>rfl)
 · exact .list _ _ _ _ (fun _=>rfl) (fun h=>by cases h)
theorem Nq {w:List UInt8}:∀ {es:List (List UInt8)} {EE:List (List UInt8×DV)},F2 (fun s x=>x.1=aD s∧Lw 1 ((plc 0 s).map i6) x.2) es EE→∀ i,
 (es.find? (fun s=>aD s==w)=none∧findD [.str] (.str w) (EE.map exV) i=some none) ∨
 ∃ s j v,es.find? (fun s=>aD s==w)=some s∧s∈es∧findD [.str] (.str w) (EE.map exV) i=some (some (j,v))∧Lw 1 ((plc 0 s).map i6) v:=by
 intro es EE h
 induction h with
 | nil=>intro i;exact .inl ⟨rfl,rfl⟩
 | @cons s x l m hx h ih=>
   intro i;obtain⟨a,v⟩:=x;obtain⟨rfl,hx2⟩:=hx;by_cases e:aD s=w
   · refine .inr ⟨s,i,v,by simp[e],by simp,?_,hx2⟩;simp[findD,exV,jh,cA,e]
   · have hb:(w==aD s)=false:=by rw[beq_eq_false_iff_ne];exact fun h=>e h.symm
     have hb2:(aD s==w)=false:=by rw[beq_eq_false_iff_ne];exact e
     have e2:∀ r,findD [.str] (.str w) (exV (aD s,v)::r) i=findD [.str] (.str w) r (i+1):=by
      intro r;simp[findD,exV,jh,cA,hb]
     rcases ih (i+1) with ⟨h1,h2⟩ | ⟨s',j,v',h1,h1',h2,h3⟩
     · exact .inl ⟨by rw[List.find?_cons,hb2];exact h1,by rw[aaH,e2];exact h2⟩
     · exact .inr ⟨s',j,v',by rw[List.find?_cons,hb2];exact h1,aaC _ h1',by rw[aaH,e2];exact h2,h3⟩
section
variable {st:St}
theorem Nj {G:List HO} {kv n:Nat} {w:List UInt8} {V:List Nat} (hw:w.length=n) (hn:n≤64) (hV:V.length=n+3) (hr:rowAt G kv=some (.plain,V.map d8)):∀ (j k:Nat) (xs:List Nat) (v:DV) (K:List Nat),2≤k→k+j=n-4+2→xs.length+j≤100→Acc st K 1 (xs.map i6) v →
 ∃ v' K' tl,(E tab).C sv [(6,.str w),(10,.hsl 1 false (st.heap.length+kv) 0 (n+3) (some (n+3))),(11,v),(12,.int .i64 k)] (pst st G K) =
   some (.exit 0,(6,.str w)::(10,.hsl 1 false (st.heap.length+kv) 0 (n+3) (some (n+3)))::(11,v')::tl,pst st G K')∧Acc st K' 1 ((xs++(List.range' k j).filter fun k=>V.getD (k+1) 0%2==1).map i6) v':=by
 intro j
 induction j with
 | zero=>
   intro k xs v K hk hj hx ha;have hc:¬ ((k:Int)≤IntKind.i64.wrap ((n:Int)-3)):=by rw[ay (by omega)];omega
   refine⟨v,K,[(12,.int .i64 k),(56,.bool false)],?_,by simpa using ha⟩;rw[ae (L:=sv) rfl];simp[vJ,hw,hc]
 | succ j ih=>
   intro k xs v K hk hj hx ha;have hc:(k:Int)≤IntKind.i64.wrap ((n:Int)-3):=by rw[ay (by omega)];omega
   have hw1:IntKind.i64.wrap ((k:Int)+1)=((k+1:Nat):Int):=by rw[ay (by omega)];simp
   obtain⟨y,hy⟩:∃ y,V[k+1]? = some y:=⟨V[k+1],aaa (by omega)⟩;have hyd:V.getD (k+1) 0=y:=by simp[hy]
   have hvx:(V.map d8)[k+1]? = some (.int .u8 y):=by simp[hy,d8]
   have h01:(0:Int)≤(k:Int)+1:=by omega
   have h02:(k:Int)+1<(n:Int)+3:=by omega
   have htm:(y:Int).tmod 2=((y%2:Nat):Int):=rfl;generalize V.map d8=VM at *;rw[List.range'_succ,List.filter_cons,hyd];by_cases hodd:y%2=1
   · have hdec:(y:Int)%2=1:=by omega
     obtain⟨v',K',hap,ha'⟩:=cR (st:=st) (H:=G) (by_:=8) (ag:=false) (ys:=[i6 k]) (t:=st.cur) (tk:=.tight) ha (by omega) (by simp) (by intro z hz;simp only[aaw] at hz;subst hz;exact⟨rfl,rfl,rfl⟩) (by simp[aB];omega) (by simp[aB];omega);obtain⟨v2,K2,tl,hJ,hA⟩:=ih (k+1) (xs++[k]) v' K' (by omega) (by omega) (by simp;omega) (by simpa using ha');refine⟨v2,K2,tl,?_,by simpa[hodd] using hA⟩;simp at hJ;simp only[i6] at hap;rw[ae (L:=sv) rfl];simp[vJ,hw,hc,hw1,hr,h01,h02,hvx,htm,hdec,aC,aO,chunk,hap,hJ]
   · have hdec:¬ (y:Int)%2=1:=by omega
     obtain⟨v2,K2,tl,hJ,hA⟩:=ih (k+1) xs v K (by omega) (by omega) (by omega) ha;refine⟨v2,K2,tl,?_,by simpa[hodd] using hA⟩;simp at hJ;rw[ae (L:=sv) rfl];simp[vJ,hw,hc,hw1,hr,h01,h02,hvx,htm,hdec,hJ]
theorem DU {G:List HO} {K:List Nat} {b:Nat} {ps es:List (List UInt8)} (h:ru st G b ps es) (hes:∀ s∈es,s.length≤1000) (w:List UInt8) :
 ∃ v X K',(E tab).F 144 [.ptr (st.heap.length+(b+2)) 0,.str w] (pst st G K)=some (.tuple [v,.int .i64 (if jm w then 0 else 4:Nat)],pst st (G++X) K')∧Lw 1 ((if jm w then points ps es (w.map cM) else []).map i6) v:=by
 rw[iz TJ rfl];obtain⟨t,EE,hT,hS,hown,hI,hmap,hrow⟩:=h;have hwd:=Jg (s:=w) (st:=pst st G K)
 cases hok:jm w with
 | false=>
   rw[hok] at hwd;refine⟨.list 0 0 .no false [],[],K,?_,by simpa using Lw.list 0 0 .no false (fun h=>by cases h) (fun _=>rfl)⟩;simp at hwd;simp[f144,hrow,eqD,hwd]
 | true=>
   rw[hok] at hwd;have hwl:w.length≤64:=by simp only[jm,aac,decide_eq_true_eq] at hok;exact hok.2.2
   simp only[if_true] at hwd ⊢;generalize hu:w.map cM=u at *;have hul:u.length≤64:=by rw[← hu];simpa using hwl
   have hkf:∀ s,gX [.str] (.str s)=true:=fun _=>rfl;rcases Nq (w:=u) (hI.all rfl) 0 with ⟨h1,h2⟩ | ⟨s,j,v,h1,hs,h2,h3⟩
   · have hlk:db (pst st G K) [.str] (.list 0 0 .no false []) (.map (st.heap.length+(b+1))) (.str u) true=some (.tuple [.list 0 0 .no false [],.bool false]):=by
      simp only[db,cL,hmap,h2];rfl
     have hv0:rowAt (G++[HO.cells .plain ((aap (u.length+3) 0).map d8)]) G.length=some (.plain,(aap (u.length+3) 0).map d8):=pL _ _ _ _
     have hfd:=FH (K:=K) (text:=46::(u++[46])) (kh:=b+2) (kv:=G.length) (nV:=u.length+3) (hx:=.map (st.heap.length+(b+1))) (V:=aap (u.length+3) 0) (H:=G++[HO.cells .plain ((aap (u.length+3) 0).map d8)])
      (by simp;omega) (by omega) (by simp) (by have:=bz hrow;omega) (hT.grow _) (fq hrow _) hv0 (by simp)
     have hset:(G++[HO.cells .plain ((aap (u.length+3) 0).map d8)]).set G.length (.cells .plain ((dF t.N t.dg 0 (46::(u++[46])) (aap (u.length+3) 0)).map d8))=G++[.cells .plain ((dF t.N t.dg 0 (46::(u++[46])) (aap (u.length+3) 0)).map d8)]:=by simp
     rw[hset] at hfd;have hval:∀ m,m<u.length+3→(dF t.N t.dg 0 (46::(u++[46])) (aap (u.length+3) 0)).getD m 0=zQ ps (46::(u++[46])) m:=fun m hm=>Fa hT hS _ _ _ hm;have hfl:(dF t.N t.dg 0 (46::(u++[46])) (aap (u.length+3) 0)).length=u.length+3:=by rw[sk];simp
     generalize dF t.N t.dg 0 (46::(u++[46])) (aap (u.length+3) 0)=V at *;have hr1:rowAt (G++[HO.cells .plain (V.map d8)]) G.length=some (.plain,V.map d8):=pL _ _ _ _;obtain⟨v',K',tl,hL,hA⟩:=Nj (st:=st) rfl hul hfl hr1 (u.length-4) 2 [] (.list 0 0 .no false []) K (by omega) (by omega) (by simp;omega) (.inl ⟨rfl,0,0,.no,rfl⟩);refine⟨v',[HO.cells .plain (V.map d8)],K',?_,?_⟩
     · have hrep:aO [DV.int .u8 0] (u.length+3)=(aap (u.length+3) 0).map d8:=by rw[lr,List.map_replicate];rfl
       have hwl3:IntKind.i64.wrap ((u.length:Int)+3)=((u.length+3:Nat):Int):=by rw[ay (by omega)];simp
       have hroom:((u.length:Int)+3)≤140737488355328:=by omega
       have hroom2:u.length+3≤140737488355328:=by omega
       have hpos:(0:Int)≤(u.length:Int)+3:=by omega
       have hstr:u.length≤4611686018427387903:=by omega
       have hstr1:1+u.length≤4611686018427387904:=by omega
       have hstr2:u.length+1+1≤4611686018427387904:=by omega
       have htn:((u.length:Int)+3).toNat=u.length+3:=by omega
       generalize (aap (u.length+3) 0).map d8=Z at *;generalize V.map d8=VM at *;simp at hwd hfd hL;simp[f144,hrow,eqD,hwd,hkf,hlk,hwl3,aB,hroom,hroom2,hpos,htn,hrep,hstr,hstr1,hstr2,hfd,hL]
     · have e:points ps es u=zG ps u:=by simp only[points,h1]
       rw[e]
       have e2:(List.range' 2 (u.length-4)).filter (fun k=>V.getD (k+1) 0%2==1)=zG ps u:=by
        unfold zG;apply List.filter_congr;intro k hk;rw[List.mem_range'_1] at hk;rw[hval (k+1) (by omega)]
       rw[aaF,e2] at hA;exact Bg hA
   · have hlk:db (pst st G K) [.str] (.list 0 0 .no false []) (.map (st.heap.length+(b+1))) (.str u) true=some (.tuple [v,.bool true]):=by
      simp only[db,cL,hmap,h2];rfl
     have hpl:(plc 0 s).length≤100000:=by have:=lY s 0;have:=hes s hs;omega
     obtain⟨v',hcl,hv'⟩:=Hl (st:=pst st G K) h3 hpl;have e:points ps es u=plc 0 s:=by simp only[points,h1]
     refine⟨v',[],K,?_,by rw[e];exact hv'⟩;simp[f144,hrow,eqD,hwd,hkf,hlk,hcl]
end
theorem Vh:tab 50=some (.code f50):=by kernel_rfl
theorem uV {l:List (List UInt8)}:∀ y∈l.map DV.str,dX 1 false y:=by
 intro y hy;obtain⟨c,_,rfl⟩:=aay.1 hy;exact⟨rfl,rfl,rfl⟩
abbrev Txs (st:St) (l:List (List UInt8)) (v:DV):Prop:=Vw st 1 false (l.map DV.str) v
section
variable {st:St} {l:List (List UInt8)} {v:DV} {H:List HO} {K:List Nat}
theorem mb (h:Txs st l v) (st':St):rr st' .slice v=some (.int .i64 l.length,st'):=by simpa using Vw.len h st'
theorem pb (h:Txs st l v) {i:Nat} (hi:i<l.length) (k:IntKind) (st':St):pj st' 1 v (.int k i)=some (elP 1 v i,st'):=Vw.bC h (by simpa using hi) k st'
theorem zj (h:Txs st l v) {i:Nat} {x:List UInt8} (hx:l[i]? = some x) (H:List HO) (K:List Nat):gL (pst st H K) 1 false (elP 1 v i)=some (.str x):=Vw.nU (Vw.inn h H K) uV (by simp[hx])
end
theorem QL:tab 198=some (.code f198):=by kernel_rfl
theorem Te (x y:Nat):ig lQ [.int .i64 x,.int .i64 y]=some (.int .i64 (max x y:Nat)):=by
 rcases Nat.lt_or_ge x y with h|h
 · have e:max x y=y:=by omega
   simp[ig,lQ,h,e]
 · have e:max x y=x:=by omega
   have h':¬ x<y:=by omega
   simp[ig,lQ,h',e]
def NC (s:List UInt8):Prop:=∀ a c c' b,s=a++c::c'::b→isD c=true→isD c'=true→False
theorem Tf (s:List UInt8) (h:okP s=true):NC s:=by
 intro a c c' b hs h1 h2;simp only[okP,aac,decide_eq_true_eq,beq_iff_eq] at h;have h3:=h.2;rw[Il] at h3
 cases hk:cG (iP s) 0 s with
 | false=>rw[hk] at h3;cases h3
 | true=>
   have hlt:a.length+1<s.length:=by simp[hs]
   have h4:=(gi _ _ _).1 hk (a.length+1) hlt
   have e1:s[a.length+1]=c':=by
    have:s[a.length+1]? = some c':=by simp[hs]
    rw[aaa hlt] at this;exact aab.inj this
   have e2:s.getD a.length 0=c:=by simp[hs]
   rw[e1] at h4;simp[iP,h1,h2] at h4;rw[aaf] at e2;rw[e2,h1] at h4;simp at h4
theorem xF {α:Type} {P:List α→Prop} (h0:P []) (h1:∀ l a,P l→P (l++[a])):∀ l,P l:=by
 intro l
 have:∀ r:List α,P r.reverse:=by
  intro r
  induction r with
  | nil=>exact h0
  | cons a r ih=>rw[List.reverse_cons];exact h1 _ _ ih
 have:=this l.reverse
 rwa [List.reverse_reverse] at this
theorem NC.pre {s:List UInt8} {c:UInt8} (h:NC (s++[c])):NC s:=fun a x y b hs=>h a x y (b++[c]) (by rw[hs];simp)
theorem FB:∀ s:List UInt8,(∀ a c,s=a++[c]→isD c=false)→(cT 0 s).getD (aX s).length 0=0:=by
 apply xF
 · intro _;rfl
 · intro s c _ h;have hc:=h s c rfl;have hl:=jk s 0;rw[nT s 0 c hc,qR s c hc,aag,aal,aaf,aaz (by omega)];simp[hl]
theorem CA (x:Nat):∀ s:List UInt8,NC s→∀ m,((cT 0 s).getD m 0≤x↔∀ d c r,s=d++c::r→isD c=true→(aX d).length=m→c.toNat-48≤x):=by
 apply xF
 · intro _ m;constructor
   · intro _ d c r h;simp at h
   · intro _;cases m<;>simp[cT]
 · intro s c ih hN m;have ih:=ih hN.pre;have hl:=jk s 0
   cases hc:isD c with
   | false=>
     rw[nT s 0 c hc];constructor
     · intro h d c' r hs h1 h2;rcases List.eq_nil_or_concat r with rfl | ⟨r',y,rfl⟩
       · have:=abO hs rfl;simp only[List.cons.injEq,and_true] at this;rw[this.2,h1] at hc;cases hc
       · have hs':s++[c]=(d++c'::r')++[y]:=by rw[hs];simp
         have:=abO hs' rfl;refine(ih m).1 ?_ d c' r' this.1 h1 h2
         have hm:m<(cT 0 s).length:=by
          rw[hl,← h2,this.1];simp[aX,List.filter_append];omega
         rw[aaf,aak hm,← aaf] at h;exact h
     · intro h;by_cases hm:m<(cT 0 s).length
       · rw[aaf,aak hm,← aaf];exact(ih m).2 fun d c' r hs=>h d c' (r++[c]) (by rw[hs];simp)
       · rw[aaf,aaz (by omega)];cases m-(cT 0 s).length<;>simp
   | true=>
     rw[rY s 0 c hc]
     have he:(cT 0 s).getD (aX s).length 0=0:=by
      apply FB;intro a c' hs
      cases h:isD c' with
      | false=>rfl
      | true=>exact(hN a c' c [] (by rw[hs];simp) h hc).elim
     by_cases hm:m=(aX s).length
     · subst hm
       have e:((cT 0 s).set (aX s).length (c.toNat-48)).getD (aX s).length 0=c.toNat-48:=by
        rw[aaf,aaq (by omega)];rfl
       rw[e];constructor
       · intro h d c' r hs h1 h2;rcases List.eq_nil_or_concat r with rfl | ⟨r',y,rfl⟩
         · have:=abO hs rfl;simp only[List.cons.injEq,and_true] at this;rw[← this.2];exact h
         · have hs':s++[c]=(d++c'::r')++[y]:=by rw[hs];simp
           have:=abO hs' rfl;exact(ih _).1 (by rw[he];exact abB _) d c' r' this.1 h1 h2
       · intro h;exact h s c [] rfl hc rfl
     · have e:((cT 0 s).set (aX s).length (c.toNat-48)).getD m 0=(cT 0 s).getD m 0:=by
        rw[aaf,aam (fun e=>hm e.symm),← aaf]
       rw[e,ih m];constructor
       · intro h d c' r hs h1 h2;rcases List.eq_nil_or_concat r with rfl | ⟨r',y,rfl⟩
         · have:=abO hs rfl;rw[this.1] at hm;exact absurd h2.symm hm
         · have hs':s++[c]=(d++c'::r')++[y]:=by rw[hs];simp
           have:=abO hs' rfl;exact h d c' r' this.1 h1 h2
       · intro h d c' r hs;exact h d c' (r++[c]) (by rw[hs];simp)
section
variable {st:St}
theorem L3 {K:List Nat} {p:DV} {ps:List (List UInt8)} {s w all l:List UInt8} {i a:Nat} (hp:Txs st ps p) (hi:ps[i]? = some s) (hs:s.length≤16) (hw:w.length≤64) (ha:a≤100):∀ (r d:List UInt8) (V:List Nat),s=d++r→V.length=w.length+1 →
 ∃ (V':List Nat) (x10 x11:DV) (tl:Fr),(E tab).C oV [(0,p),(1,.str w),(5,.hsl 1 false st.heap.length 0 (w.length+1) (some (w.length+1))),(6,.str all),(7,.int .i64 i),(8,.str l),(9,.int .i64 a),(10,.int .i64 ((a:Int)-1+(aX d).length)),(11,.int .i64 d.length)] (pst st [.cells .plain (V.map i6)] K) =
   some (.exit 4,[(0,p),(1,.str w),(5,.hsl 1 false st.heap.length 0 (w.length+1) (some (w.length+1))),(6,.str all),(7,.int .i64 i),(8,.str l),(9,.int .i64 a)]++(10,x10)::(11,x11)::tl,pst st [.cells .plain (V'.map i6)] K)∧V'.length=w.length+1 ∧
   ∀ k x,k<w.length+1→(V'.getD k 0≤x↔V.getD k 0≤x∧∀ d' c r',r=d'++c::r'→isD c=true→a+(aX (d++d')).length=k+1→c.toNat-48≤x):=by
 have hil:=(aad.1 hi).1;have e1:=fun st'=>pb hp hil .i64 st';have e2:=fun H K=>zj hp hi H K;intro r
 induction r with
 | nil=>
   intro d V hd hV;obtain rfl:s=d:=by simpa using hd
   refine⟨V,.int .i64 ((a:Int)-1+(aX s).length),.int .i64 s.length,[(57,.bool false)],?_,hV,?_⟩
   · rw[ae (L:=oV) rfl];simp[pT,e1,e2]
   · intro k x hk;constructor
     · intro h;exact⟨h,fun d' c r' h'=>by simp at h'⟩
     · intro h;exact h.1
 | cons c r ih=>
   intro d V hd hV;have h0:d.length<s.length:=by simp[hd]
   have hc:s[d.length]? = some c:=by simp[hd]
   have hw1:IntKind.i64.wrap ((d.length:Int)+1)=(d.length:Int)+1:=by rw[ay (by omega)]
   have hdl:(aX d).length≤d.length:=aaO _ _;have hdg:=nG c;have hge:s[d.length]'h0=c:=by have:=hc;rw[aaa h0] at this;exact aab.inj this
   cases hD:isD c with
   | false=>
     have hll:(aX (d++[c])).length=(aX d).length+1:=by rw[qR d c hD];simp
     have hw2:IntKind.i64.wrap ((a:Int)-1+(aX d).length+1)=(a:Int)-1+((aX (d++[c])).length:Nat):=by rw[hll,ay (by omega)];omega
     obtain⟨V',x10,x11,tl,hJ,h1,h2⟩:=ih (d++[c]) V (by simp[hd]) hV;refine⟨V',x10,x11,tl,?_,h1,?_⟩
     · rw[hD] at hdg;simp only[aag,aal] at hJ;generalize (aX (d++[c])).length=z at *;simp at hJ;rw[ae (L:=oV) rfl];simp[pT,e1,e2,h0,hc,hge,hdg,hw2,hw1,hJ]
     · intro k x hk;rw[h2 k x hk];constructor
       · rintro⟨g1,g2⟩;refine⟨g1,fun d' c' r' e g3 g4=>?_⟩
         cases d' with
         | nil=>simp only[aaF,List.cons.injEq] at e;rw[← e.1,hD] at g3;cases g3
         | cons y d'=>
           simp only[aaS,List.cons.injEq] at e;obtain⟨rfl,e⟩:=e;exact g2 d' c' r' e g3 (by rw[aau];exact g4)
       · rintro⟨g1,g2⟩;refine⟨g1,fun d' c' r' e g3 g4=>?_⟩;exact g2 (c::d') c' r' (by rw[e];rfl) g3 (by rw[aau] at g4;exact g4)
   | true=>
     have hll:aX (d++[c])=aX d:=vk d c hD;have hcn:48≤c.toNat∧c.toNat≤57:=by simpa[isD] using hD
     have hu8:IntKind.u8.wrap ((c.toNat:Int)-48)=((c.toNat-48:Nat):Int):=by
      have:((c.toNat:Int)-48)=((c.toNat-48:Nat):Int):=by omega
      rw[this,IntWalk.u8_in _ (by omega)]
     have hi8:IntKind.i64.wrap ((c.toNat-48:Nat):Int)=((c.toNat-48:Nat):Int):=ay (by omega)
     have fin:∀ W:List Nat,W.length=w.length+1→(∀ k x,k<w.length+1→(W.getD k 0≤x↔V.getD k 0≤x∧(a+(aX d).length=k+1→c.toNat-48≤x))) →
      ∀ V':List Nat,V'.length=w.length+1→(∀ k x,k<w.length+1→(V'.getD k 0≤x↔W.getD k 0≤x∧∀ d' c' r',r=d'++c'::r'→isD c'=true→a+(aX (d++[c]++d')).length=k+1→c'.toNat-48≤x)) →
      ∀ k x,k<w.length+1→(V'.getD k 0≤x↔V.getD k 0≤x∧∀ d' c' r',c::r=d'++c'::r'→isD c'=true→a+(aX (d++d')).length=k+1→c'.toNat-48≤x):=by
      intro W hW h1 V' hV' h2 k x hk;rw[h2 k x hk,h1 k x hk];constructor
      · rintro⟨⟨g1,g2⟩,g3⟩;refine⟨g1,fun d' c' r' e g4 g5=>?_⟩
        cases d' with
        | nil=>
          simp only[aaF,List.cons.injEq] at e;rw[← e.1];rw[aaE] at g5;exact g2 g5
        | cons y d'=>
          simp only[aaS,List.cons.injEq] at e;obtain⟨rfl,e⟩:=e;exact g3 d' c' r' e g4 (by rw[aau];exact g5)
      · rintro⟨g1,g2⟩;refine⟨⟨g1,fun g5=>g2 [] c r rfl hD (by rw[aaE];exact g5)⟩,fun d' c' r' e g4 g5=>?_⟩;exact g2 (c::d') c' r' (by rw[e];rfl) g4 (by rw[aau] at g5;exact g5)
     by_cases hz:1≤a+(aX d).length∧a+(aX d).length≤w.length+1
     · obtain⟨kk,hkk⟩:∃ kk:Nat,a+(aX d).length=kk+1:=⟨a+(aX d).length-1,by omega⟩;have hzk:(a:Int)-1+(aX d).length=(kk:Int):=by omega
       have hkw:kk<w.length+1:=by omega
       have hkw':kk≤w.length:=by omega
       have hkw2:(kk:Int)<(w.length:Int)+1:=by omega
       obtain⟨y,hy⟩:∃ y,V[kk]? = some y:=⟨V[kk],aaa (by omega)⟩;have hvi:(V.map i6)[kk]? = some (.int .i64 y):=by simp[hy,i6]
       have hmx:=Te y (c.toNat-48);have hvlt:kk<(V.map i6).length:=by simp;omega
       have hsp:=eZ (x:=.int .i64 (max y (c.toNat-48):Nat)) hvlt;have hset:(V.map i6).set kk (.int .i64 (max y (c.toNat-48):Nat))=(V.set kk (max y (c.toNat-48))).map i6:=by rw[List.map_set];rfl
       rw[hset] at hsp;have hle:kk+1≤(V.map i6).length:=by omega
       obtain⟨V',x10,x11,tl,hJ,h1,h2⟩:=ih (d++[c]) (V.set kk (max y (c.toNat-48))) (by simp[hd]) (by simpa using hV);refine⟨V',x10,x11,tl,?_,h1,fin _ (by simpa using hV) ?_ V' h1 h2⟩
       · rw[hD] at hdg;rw[hll] at hJ;rw[hzk] at hJ ⊢;simp only[aag,aal] at hJ;generalize (V.set kk (max y (c.toNat-48))).map i6=W at *;generalize V.map i6=VM at *;generalize c.toNat-48=cc at *;simp only[bj] at hsp;simp at hJ hsp;have hge2:VM[kk]=.int .i64 y:=by rw[aaa hvlt] at hvi;exact aab.inj hvi
         rw[ae (L:=oV) rfl];simp[pT,e1,e2,h0,hc,hge,hdg,hkw,hkw',hkw2,hu8,hi8,hvi,hge2,hvlt,hmx,hle,hsp,hw1,hJ]
       · intro k x hk;by_cases hkk2:k=kk
         · subst hkk2;have e:(V.set k (max y (c.toNat-48))).getD k 0=max y (c.toNat-48):=by rw[aaf,aaq (by omega)];rfl
           have e':V.getD k 0=y:=by rw[aaf,hy];rfl
           rw[e,e'];constructor
           · intro h;exact⟨by omega,fun _=>by omega⟩
           · rintro⟨g1,g2⟩;have:=g2 hkk;omega
         · have e:(V.set kk (max y (c.toNat-48))).getD k 0=V.getD k 0:=by rw[aaf,aam (fun e=>hkk2 e.symm),← aaf]
           rw[e];constructor
           · intro h;exact⟨h,fun h'=>by omega⟩
           · intro h;exact h.1
     · obtain⟨V',x10,x11,tl,hJ,h1,h2⟩:=ih (d++[c]) V (by simp[hd]) hV;refine⟨V',x10,x11,tl,?_,h1,fin V hV ?_ V' h1 h2⟩
       · rw[hD] at hdg;rw[hll] at hJ;simp only[aag,aal] at hJ;generalize hzz:(a:Int)-1+(aX d).length=z at *;simp at hJ;rw[ae (L:=oV) rfl];by_cases h1:0≤z
         · have h2:¬ z≤(w.length:Int):=by omega
           simp[pT,e1,e2,h0,hc,hge,hdg,h1,h2,hw1,hJ]
         · simp[pT,e1,e2,h0,hc,hge,hdg,h1,hw1,hJ]
       · intro k x hk;constructor
         · intro h;exact⟨h,fun h'=>by omega⟩
         · intro h;exact h.1
end
theorem xS {l L:List UInt8}:l <+: L↔L.take l.length=l:=by rw[List.prefix_iff_eq_take];exact eq_comm
section
variable {st:St}
theorem Mi {K:List Nat} {p:DV} {ps:List (List UInt8)} {s w all:List UInt8} {i:Nat} (hp:Txs st ps p) (hi:ps[i]? = some s) (hok:okP s=true) (hw:w.length≤64) (hall:all.length=w.length+2) (hne:aX s≠[]):∀ (n a:Nat) (V:List Nat),a+n=w.length+3-(aX s).length→(aX s).length≤16→(n=0→w.length+2<a+(aX s).length)→V.length=w.length+1 →
 ∃ (V':List Nat) (tl:Fr),(E tab).C qW [(0,p),(1,.str w),(5,.hsl 1 false st.heap.length 0 (w.length+1) (some (w.length+1))),(6,.str all),(7,.int .i64 i),(8,.str (aX s)),(9,.int .i64 a)] (pst st [.cells .plain (V.map i6)] K) =
   some (.exit 2,[(0,p),(1,.str w),(5,.hsl 1 false st.heap.length 0 (w.length+1) (some (w.length+1))),(6,.str all),(7,.int .i64 i)]++tl,pst st [.cells .plain (V'.map i6)] K)∧V'.length=w.length+1 ∧
   ∀ k x,k<w.length+1→(V'.getD k 0≤x↔V.getD k 0≤x∧∀ a',a≤a'→aX s <+: all.drop a'→a'≤k+1→(cT 0 s).getD (k+1-a') 0≤x):=by
 have hsl:s.length≤16:=by simp only[okP,aac,decide_eq_true_eq] at hok;exact hok.1.2
 have hlp:0<(aX s).length:=aaR.2 hne;intro n
 induction n with
 | zero=>
   intro a V ha hl16 h0 hV;have hgt:=h0 rfl;have hwz:IntKind.i64.wrap ((a:Int)+(aX s).length)=((a+(aX s).length:Nat):Int):=by rw[ay (by omega)];simp
   have hc:¬ (a:Int)+(aX s).length≤all.length:=by omega
   have hc':¬ a+(aX s).length≤all.length:=by omega
   refine⟨V,[(8,.str (aX s)),(9,.int .i64 a),(37,.bool false)],?_,hV,?_⟩
   · rw[ae (L:=qW) rfl];simp at hwz;simp[wh,hwz,hc,hc']
   · intro k x hk;constructor
     · intro h;refine⟨h,fun a' h1 h2 h3=>?_⟩;have:=h2.length_le;rw[aa2] at this;omega
     · intro h;exact h.1
 | succ n ih=>
   intro a V ha hl16 h0 hV;have hwz:IntKind.i64.wrap ((a:Int)+(aX s).length)=((a+(aX s).length:Nat):Int):=by rw[ay (by omega)];simp
   have hc':a+(aX s).length≤all.length:=by omega
   have hc:(a:Int)+(aX s).length≤all.length:=by omega
   have hw1:IntKind.i64.wrap ((a:Int)+1)=((a+1:Nat):Int):=by rw[ay (by omega)];simp
   have hwm:IntKind.i64.wrap ((a:Int)-1)=(a:Int)-1:=by rw[ay (by omega)]
   have hslice:cb true 1 (.str all) (some (.int .i64 a)) (some (.int .i64 ((a:Int)+(aX s).length))) none=some (.str ((all.drop a).take (aX s).length)):=by
    rw[s5 (by omega) (by omega) (by omega)]
    congr 3
    omega
   by_cases hpre:aX s <+: all.drop a
   · have ht:=xS.1 hpre;obtain⟨V1,x10,x11,tl1,hI,g1,g2⟩:=L3 (K:=K) (all:=all) (l:=aX s) (a:=a) hp hi hsl hw (by omega) s [] V rfl hV;obtain⟨V',tl,hJ,h1,h2⟩:=ih (a+1) V1 (by omega) hl16 (fun e=>by omega) g1;refine⟨V',tl,?_,h1,?_⟩
     · rw[ht] at hslice;simp[aX] at hI;simp only[aX] at hwz hc hslice hJ ⊢;generalize (s.filter fun c => !isD c)=L at *;generalize V1.map i6=W1 at *;simp at hwz hJ hw1;rw[ae (L:=qW) rfl];simp[wh,hwz,hc,hslice,hwm,hI,hw1,hJ]
     · intro k x hk;rw[h2 k x hk,g2 k x hk];have hN:=Tf s hok;constructor
       · rintro⟨⟨q1,q2⟩,q3⟩;refine⟨q1,fun a' h3 h4 h5=>?_⟩;by_cases e:a'=a
         · subst e;rw[CA x s hN];intro d c r hs hd hm;exact q2 d c r hs hd (by simp only[aaF];omega)
         · exact q3 a' (by omega) h4 h5
       · rintro⟨q1,q2⟩;refine⟨⟨q1,fun d c r hs hd hm=>?_⟩,fun a' h3 h4 h5=>q2 a' (by omega) h4 h5⟩;simp only[aaF] at hm;exact(CA x s hN _).1 (q2 a (aai _) hpre (by omega)) d c r hs hd (by omega)
   · have ht:(all.drop a).take (aX s).length≠aX s:=fun e=>hpre (xS.2 e);obtain⟨V',tl,hJ,h1,h2⟩:=ih (a+1) V (by omega) hl16 (fun e=>by omega) hV;refine⟨V',tl,?_,h1,?_⟩
     · generalize (all.drop a).take (aX s).length=T at *;generalize aX s=L at *;have htb:(T==L)=false:=by rw[beq_eq_false_iff_ne];exact ht
       simp at hwz hJ hw1;rw[ae (L:=qW) rfl];simp[wh,hwz,hc,hslice,htb,hw1,hJ]
     · intro k x hk;rw[h2 k x hk];constructor
       · rintro⟨q1,q2⟩;refine⟨q1,fun a' h3 h4 h5=>?_⟩;by_cases e:a'=a
         · subst e;exact absurd h4 hpre
         · exact q2 a' (by omega) h4 h5
       · rintro⟨q1,q2⟩;exact⟨q1,fun a' h3 h4 h5=>q2 a' (by omega) h4 h5⟩
theorem BT {s:List UInt8} (h:okP s=true):aX s≠[]:=by
 simp only[okP,aac,decide_eq_true_eq,beq_iff_eq] at h;have h3:=h.2;rw[Il] at h3
 cases hk:cG (iP s) 0 s with
 | false=>rw[hk] at h3;cases h3
 | true=>
   rw[hk] at h3;simp only[cond_true,aab.injEq] at h3;obtain⟨c,hc,hS⟩:=abf.1 h3;intro he
   have:c∈aX s:=by
    unfold aX;rw[List.mem_filter];refine⟨hc,?_⟩;simp only[isS,isD,aac,decide_eq_true_eq] at hS ⊢;simp;omega
   rw[he] at this;cases this
theorem MS {K:List Nat} {p:DV} {ps:List (List UInt8)} {w all:List UInt8} (hp:Txs st ps p) (hpl:ps.length≤256) (hok:ps.all okP=true) (hw:w.length≤64) (hall:all.length=w.length+2):∀ (r d:List (List UInt8)) (V:List Nat),ps=d++r→V.length=w.length+1 →
 ∃ (V':List Nat) (tl:Fr),(E tab).C vm [(0,p),(1,.str w),(5,.hsl 1 false st.heap.length 0 (w.length+1) (some (w.length+1))),(6,.str all),(7,.int .i64 d.length)] (pst st [.cells .plain (V.map i6)] K) =
   some (.exit 0,[(0,p),(1,.str w),(5,.hsl 1 false st.heap.length 0 (w.length+1) (some (w.length+1)))]++tl,pst st [.cells .plain (V'.map i6)] K)∧V'.length=w.length+1 ∧
   ∀ k x,k<w.length+1→(V'.getD k 0≤x↔V.getD k 0≤x∧∀ s∈r,∀ a,aX s <+: all.drop a→a≤k+1→(cT 0 s).getD (k+1-a) 0≤x):=by
 have e0:=fun st'=>mb hp st';intro r
 induction r with
 | nil=>
   intro d V hd hV;obtain rfl:ps=d:=by simpa using hd
   refine⟨V,[(6,.str all),(7,.int .i64 ps.length),(23,.bool false)],?_,hV,?_⟩
   · rw[ae (L:=vm) rfl];simp[zR,e0]
   · intro k x hk;simp
 | cons s r ih=>
   intro d V hd hV;have h0:d.length<ps.length:=by simp[hd]
   have hi:ps[d.length]? = some s:=by simp[hd]
   have hoks:okP s=true:=aae.1 hok s (by simp[hd]);have hsl:s.length≤16:=by simp only[okP,aac,decide_eq_true_eq] at hoks;exact hoks.1.2
   have hll:(aX s).length≤s.length:=aaO _ _;have hw1:IntKind.i64.wrap ((d.length:Int)+1)=(d.length:Int)+1:=by rw[ay (by omega)]
   have e1:=fun st'=>pb hp h0 .i64 st';have e2:=fun H K=>zj hp hi H K;have hlt:=zJ (s:=s) (st:=pst st [.cells .plain (V.map i6)] K) (by omega);obtain⟨V1,tl1,hI,g1,g2⟩:=Mi (K:=K) (all:=all) hp hi hoks hw hall (BT hoks) (w.length+3-(aX s).length) 0 V (by omega) (by omega) (fun e=>by omega) hV;obtain⟨V',tl,hJ,h1,h2⟩:=ih (d++[s]) V1 (by simp[hd]) g1;refine⟨V',tl,?_,h1,?_⟩
   · simp only[aag,aal] at hJ;generalize V1.map i6=W1 at *;generalize V.map i6=W at *;simp at hI hJ;rw[ae (L:=vm) rfl];simp[zR,e0,h0,e1,e2,hlt,hI,hw1,hJ]
   · intro k x hk;rw[h2 k x hk,g2 k x hk];simp only[abB,true_implies,aas,forall_eq_or_imp,and_assoc]
theorem EY {p:DV} {ps:List (List UInt8)} {w:List UInt8} (hp:Txs st ps p) (hpl:ps.length≤256) (hok:ps.all okP=true) (hw:w.length≤64) :
 ∃ (V:List Nat) (t:Nat),(E tab).F 198 [p,.str w] st=some (.list t 1 .tight true (V.map i6),st)∧V.length=w.length+1∧∀ k,k<w.length+1→V.getD k 0=zQ ps (46::(w++[46])) (k+1):=by
 rw[aK QL rfl];obtain⟨V,tl,hL,h1,h2⟩:=MS (K:=[]) (all:=46::(w++[46])) hp hpl hok hw (by simp) ps [] (aap (w.length+1) 0) rfl (by simp);have hel:∀ y∈V.map i6,dX 1 false y:=Ch;have hfl:=gu _ hel;have hex:=rf (st:=st) (H:=[HO.cells .plain (V.map i6)]) (K:=[]) (k:=0) (n:=1) (ag:=false) (g:=.plain) (ys:=V.map i6) (cap:=some (w.length+1)) (by rw[hfl];rfl) (by omega) (.inr rfl) hel;have hif:(if some (w.length+1)=some (V.map i6).length then Tk.tight else Tk.no)=.tight:=by rw[if_pos];simp[h1]
 rw[hif] at hex;have hrep:aO [DV.int .i64 0] (w.length+1)=(aap (w.length+1) 0).map i6:=by rw[lr,List.map_replicate];rfl
 have hw1:IntKind.i64.wrap ((w.length:Int)+1)=((w.length+1:Nat):Int):=by rw[ay (by omega)];simp
 refine⟨V,st.cur,?_,h1,?_⟩
 · have hroom:((w.length:Int)+1)*8≤140737488355328:=by omega
   have hroom1:((w.length:Int)+1)≤140737488355328:=by omega
   have hroom2:w.length+1≤140737488355328:=by omega
   have hpos:(0:Int)≤(w.length:Int)+1:=by omega
   have htn:((w.length:Int)+1).toNat=w.length+1:=by omega
   have hstr1:w.length+1≤4611686018427387904:=by omega
   have hstr2:w.length+1+1≤4611686018427387904:=by omega
   have hstr0:w.length≤4611686018427387903:=by omega
   have hstr3:1+w.length≤4611686018427387904:=by omega
   have hlen:(V.map i6).length=w.length+1:=by simp[h1]
   rw[hlen] at hex;generalize (aap (w.length+1) 0).map i6=Z at *;generalize V.map i6=VM at *;simp at hL hex;simp[f198,hw1,aB,hroom,hroom1,hroom2,hpos,htn,hrep,hstr0,hstr1,hstr2,hstr3,hL,hex]
 · intro k hk;apply zy;intro x;rw[h2 k x hk,BG];have e:(aap (w.length+1) 0).getD k 0=0:=by simp[aaf,hk]
   rw[e];simp only[abB,true_and];constructor
   · intro h s hs i _ h4 h5;exact h s hs i h4 h5
   · intro h s hs i h4 h5;exact h s hs i (BT (aae.1 hok s hs)) h4 h5
end
theorem SJ:tab 183=some (.code f183):=by kernel_rfl
theorem Px:tab 186=some (.code f186):=by kernel_rfl
section
variable {st:St} {H:List HO} {K:List Nat} {v w:DV} {ps es:List (List UInt8)}
theorem Me (hv:Txs (pst st H K) ps v) (hps:ps.length≤256):∀ (r d:List (List UInt8)),ps=d++r →
 ∃ e fr,(E tab).C tp [(0,v),(1,w),(6,.int .i64 d.length)] (pst st H K)=some (e,fr,pst st H K) ∧
   if r.all okP=true then e=.exit 0∧∃ tl,fr=(0,v)::(1,w)::tl else e=.ret∧fr=[(4,.bp),(5,.int .i64 4)]:=by
 have e0:=fun st'=>mb hv st';intro r
 induction r with
 | nil=>
   intro d hd;obtain rfl:ps=d:=by simpa using hd
   refine⟨.exit 0,[(0,v),(1,w),(6,.int .i64 ps.length),(21,.bool false)],?_,by simp⟩;rw[ae (L:=tp) rfl];simp[vf,e0]
 | cons s r ih=>
   intro d hd;have h0:d.length<ps.length:=by simp[hd]
   have hi:ps[d.length]? = some s:=by simp[hd]
   have hw1:IntKind.i64.wrap ((d.length:Int)+1)=(d.length:Int)+1:=by rw[ay (by omega)]
   have e1:=fun st'=>pb hv h0 .i64 st';have e2:=hv.nU uV (i:=d.length) (x:=.str s) (by simp[hi]);have hp:=AP (s:=s) (st:=pst st H K)
   cases hok:okP s with
   | true=>
     rw[hok] at hp;obtain⟨e,fr,hJ,hR⟩:=ih (d++[s]) (by simp[hd]);refine⟨e,fr,?_,by simpa[hok] using hR⟩;simp at hJ;rw[ae (L:=tp) rfl];simp[vf,e0,h0,e1,e2,hp,hw1,hJ]
   | false=>
     rw[hok] at hp;refine⟨.ret,[(4,.bp),(5,.int .i64 4)],?_,by simp[hok]⟩;rw[ae (L:=tp) rfl];simp[vf,e0,h0,e1,e2,hp]
theorem LR (hw:Txs (pst st H K) es w) (hes:es.length≤256) (hsl:∀ s∈es,s.length≤1000):∀ (r d:List (List UInt8)),es=d++r →
 ∃ e fr,(E tab).C sO [(0,v),(1,w),(7,.int .i64 d.length)] (pst st H K)=some (e,fr,pst st H K) ∧
   if r.all okE=true then e=.exit 2∧∃ tl,fr=(0,v)::(1,w)::tl else e=.ret∧fr=[(4,.bp),(5,.int .i64 4)]:=by
 have e0:=fun st'=>mb hw st';intro r
 induction r with
 | nil=>
   intro d hd;obtain rfl:es=d:=by simpa using hd
   refine⟨.exit 2,[(0,v),(1,w),(7,.int .i64 es.length),(33,.bool false)],?_,by simp⟩;rw[ae (L:=sO) rfl];simp[wM,e0]
 | cons s r ih=>
   intro d hd;have h0:d.length<es.length:=by simp[hd]
   have hi:es[d.length]? = some s:=by simp[hd]
   have hw1:IntKind.i64.wrap ((d.length:Int)+1)=(d.length:Int)+1:=by rw[ay (by omega)]
   have e1:=fun st'=>pb hw h0 .i64 st';have e2:=hw.nU uV (i:=d.length) (x:=.str s) (by simp[hi]);have hp:=xe (s:=s) (st:=pst st H K) (hsl s (by simp[hd]))
   cases hok:okE s with
   | true=>
     rw[hok] at hp;obtain⟨e,fr,hJ,hR⟩:=ih (d++[s]) (by simp[hd]);refine⟨e,fr,?_,by simpa[hok] using hR⟩;simp at hJ;rw[ae (L:=sO) rfl];simp[wM,e0,h0,e1,e2,hp,hw1,hJ]
   | false=>
     rw[hok] at hp;refine⟨.ret,[(4,.bp),(5,.int .i64 4)],?_,by simp[hok]⟩;rw[ae (L:=sO) rfl];simp[wM,e0,h0,e1,e2,hp]
theorem Nz (hw:Txs (pst st H K) es w) (hes:es.length≤256) (hsl:∀ s∈es,s.length≤1000) {s:List UInt8} {d:List (List UInt8)} {q:List (List UInt8)} (hd:es=d++s::q):∀ (r c:List (List UInt8)),d=c++r →
 ∃ e fr,(E tab).C sV [(0,v),(1,w),(8,.int .i64 d.length),(9,.int .i64 c.length)] (pst st H K)=some (e,fr,pst st H K) ∧
   if aD s∈r.map aD then e=.ret∧fr=[(4,.bp),(5,.int .i64 7)] else e=.exit 6∧∃ tl,fr=(0,v)::(1,w)::(8,.int .i64 d.length)::tl:=by
 have hds:d.length<es.length:=by simp[hd]
 have his:es[d.length]? = some s:=by simp[hd]
 have e3:=fun st'=>pb hw hds .i64 st';have e4:=hw.nU uV (i:=d.length) (x:=.str s) (by simp[his]);have hb:=qH (s:=s) (st:=pst st H K) (by have:=hsl s (by simp[hd]);omega);intro r
 induction r with
 | nil=>
   intro c hc;obtain rfl:d=c:=by simpa using hc
   refine⟨.exit 6,[(0,v),(1,w),(8,.int .i64 d.length),(9,.int .i64 d.length),(50,.bool false)],?_,by simp⟩;rw[ae (L:=sV) rfl];simp[vh]
 | cons y r ih=>
   intro c hc;have h0:c.length<d.length:=by simp[hc]
   have hi:es[c.length]? = some y:=by rw[hd,hc];simp
   have hce:c.length<es.length:=(aad.1 hi).1;have hw1:IntKind.i64.wrap ((c.length:Int)+1)=(c.length:Int)+1:=by rw[ay (by omega)]
   have e1:=fun st'=>pb hw hce .i64 st';have e2:=hw.nU uV (i:=c.length) (x:=.str y) (by simp[hi]);have hby:=qH (s:=y) (st:=pst st H K) (by have:=hsl y (by rw[hd,hc];simp);omega);by_cases he:aD s=aD y
   · refine⟨.ret,[(4,.bp),(5,.int .i64 7)],?_,by simp[he]⟩;rw[ae (L:=sV) rfl];simp[vh,h0,e1,e2,e3,e4,hb,hby,he]
   · obtain⟨e,fr,hJ,hR⟩:=ih (c++[y]) (by simp[hc]);refine⟨e,fr,?_,by simpa[he] using hR⟩;have heb:(aD s==aD y)=false:=by rw[beq_eq_false_iff_ne];exact he
     simp at hJ;rw[ae (L:=sV) rfl];simp[vh,h0,e1,e2,e3,e4,hb,hby,heb,hw1,hJ]
theorem N8 (hw:Txs (pst st H K) es w) (hes:es.length≤256) (hsl:∀ s∈es,s.length≤1000):∀ (r d:List (List UInt8)),es=d++r→(d.map aD).Nodup →
 ∃ e fr,(E tab).C sw [(0,v),(1,w),(8,.int .i64 d.length)] (pst st H K)=some (e,fr,pst st H K) ∧
   if (es.map aD).Nodup then e=.exit 4∧∃ tl,fr=(0,v)::(1,w)::tl else e=.ret∧fr=[(4,.bp),(5,.int .i64 7)]:=by
 have e0:=fun st'=>mb hw st';intro r
 induction r with
 | nil=>
   intro d hd hn;obtain rfl:es=d:=by simpa using hd
   refine⟨.exit 4,[(0,v),(1,w),(8,.int .i64 es.length),(45,.bool false)],?_,by simp[hn]⟩;rw[ae (L:=sw) rfl];simp[wq,e0]
 | cons s r ih=>
   intro d hd hn;have h0:d.length<es.length:=by simp[hd]
   have hw1:IntKind.i64.wrap ((d.length:Int)+1)=(d.length:Int)+1:=by rw[ay (by omega)]
   obtain⟨e,fr,hI,hR⟩:=Nz (v:=v) hw hes hsl hd d [] rfl;simp at hI;by_cases hm:aD s∈d.map aD
   · rw[if_pos hm] at hR;obtain⟨rfl,rfl⟩:=hR
     have hnn:¬ (es.map aD).Nodup:=by
      rw[hd,abr,List.nodup_append];rintro⟨_,_,h⟩;exact h _ hm (aD s) (by simp) rfl
     refine⟨.ret,[(4,.bp),(5,.int .i64 7)],?_,by simp[hnn]⟩;rw[ae (L:=sw) rfl];simp[wq,e0,h0,hI]
   · rw[if_neg hm] at hR;obtain⟨rfl,tl,rfl⟩:=hR;obtain⟨e,fr,hJ,hR⟩:=ih (d++[s]) (by simp[hd]) (by rw[abr];exact(nc _ _).2 ⟨hn,hm⟩);refine⟨e,fr,?_,hR⟩;simp at hJ;rw[ae (L:=sw) rfl];simp[wq,e0,h0,hI,hw1,hJ]
theorem C4 (hv:Txs (pst st H K) ps v) (hl:ps.length≤100000):∃ t tk K',aZ (pst st H K) 1 false 16 (.list st.cur 1 .tight true []) v=some (.list t 1 tk true (ps.map DV.str),pst st H K'):=by
 have hcong:aZ (pst st H K) 1 false 16 (.list st.cur 1 .tight true []) v=aZ (pst st H K) 1 false 16 (.list st.cur 1 .tight true []) (.list 0 1 .no true (ps.map DV.str)):=by
  have e1:=hv.news;have e2:bU (pst st H K) 1 (.list 0 1 .no true (ps.map DV.str))=some ((ps.map DV.str).length,flat (ps.map DV.str)):=by simp[bU]
  unfold aZ;rw[e1,e2]
 rw[hcong];by_cases h:ps.map DV.str=[]
 · refine⟨st.cur,.tight,K,?_⟩;rw[rG (by rw[h];simp[bU,flat]),h]
 · have ha:=l8 (st:=st) (H:=H) (K:=K) (t:=st.cur) (n':=1) (tk:=.tight) (nn:=true) (xs:=[]) (t':=0) (tk':=.no) (by_:=16) (.inr ⟨rfl,rfl,rfl⟩) (by omega) h uV (by simp[aB];omega) (by simp[aB];omega);exact⟨_,_,_,ha⟩
def tX (G:List HO) (b:Nat) (ps es:List (List UInt8)):Prop:=∃ t tk t' tk',rowAt G b=some (.plain,[.list t 1 tk true (ps.map DV.str),.list t' 1 tk' true (es.map DV.str)])
theorem tX.same {G G':List HO} {b:Nat} (h:tX G b ps es) (hs:∀ j,b≤j→j<G.length→G'[j]? = G[j]?):tX G' b ps es:=by
 obtain⟨t,tk,t',tk',h⟩:=h;exact⟨t,tk,t',tk',by rw[aN,hs _ (aai _) (bz h)];exact aN.1 h⟩
theorem Om (hsl:∀ s∈es,s.length≤1000) (hv:Txs (pst st H K) ps v) (hw:Txs (pst st H K) es w) :
 ∃ X K' hp,(E tab).F 183 [v,w] (pst st H K)=some (.tuple [hp,.int .i64 (eF ps es:Nat)],pst st (H++X) K')∧(eF ps es=0→hp=.ptr (st.heap.length+H.length) 0∧tX (H++X) H.length ps es)∧(eF ps es≠0→hp=.bp):=by
 rw[iz SJ rfl];have hlv:=fun st'=>mb hv st';have hlw:=fun st'=>mb hw st';by_cases h1:256<ps.length
 · have h1':(256:Int)<ps.length:=by omega
   have he:eF ps es=3:=by simp[eF,h1]
   refine⟨[],K,.bp,?_,by simp[he],fun _=>rfl⟩;rw[he];simp[f183,hlv,h1']
 by_cases h2:64<es.length
 · have h1':¬ (256:Int)<ps.length:=by omega
   have h2':(64:Int)<es.length:=by omega
   have he:eF ps es=3:=by simp[eF,h2]
   refine⟨[],K,.bp,?_,by simp[he],fun _=>rfl⟩;rw[he];simp[f183,hlv,hlw,h1',h2']
 have h1':¬ (256:Int)<ps.length:=by omega
 have h2':¬ (64:Int)<es.length:=by omega
 obtain⟨e,fr,hL,a8⟩:=Me (w:=w) hv (by omega) ps [] rfl;simp at hL;by_cases hp:ps.all okP=true
 · rw[if_pos hp] at a8;obtain⟨rfl,tl,rfl⟩:=a8;obtain⟨e,fr,hL2,c⟩:=LR (v:=v) hw (by omega) hsl es [] rfl;simp at hL2;by_cases hq:es.all okE=true
   · rw[if_pos hq] at c;obtain⟨rfl,tl2,rfl⟩:=c;obtain⟨e,fr,hL3,c⟩:=N8 (v:=v) hw (by omega) hsl es [] rfl (by simp);simp at hL3;by_cases hn:(es.map aD).Nodup
     · rw[if_pos hn] at c;obtain⟨rfl,tl3,rfl⟩:=c;have he:eF ps es=0:=by simp only[eF,if_neg (show ¬ (256<ps.length∨64<es.length) by omega),hp,hq,and_self,if_true,if_pos hn]
       obtain⟨t1,tk1,K1,ha1⟩:=C4 hv (by omega);have hw1:Txs (pst st H K1) es w:=by have:=hw.app [] K1;rwa [aaE] at this
       obtain⟨t2,tk2,K2,ha2⟩:=C4 hw1 (by omega);refine⟨[.cells .plain [.list t1 1 tk1 true (ps.map DV.str),.list t2 1 tk2 true (es.map DV.str)]],K2,.ptr (st.heap.length+H.length) 0,?_,fun _=>⟨rfl,t1,tk1,t2,tk2,pL _ _ _ _⟩,by simp[he]⟩;rw[he];simp[f183,hlv,hlw,h1',h2',hL,hL2,hL3,aC,aO,chunk,ha1,ha2]
     · rw[if_neg hn] at c;obtain⟨rfl,rfl⟩:=c;have he:eF ps es=7:=by simp only[eF,if_neg (show ¬ (256<ps.length∨64<es.length) by omega),hp,hq,and_self,if_true,if_neg hn]
       refine⟨[],K,.bp,?_,by simp[he],fun _=>rfl⟩;rw[he];simp[f183,hlv,hlw,h1',h2',hL,hL2,hL3]
   · rw[if_neg hq] at c;obtain⟨rfl,rfl⟩:=c;have he:eF ps es=4:=by rw[eF,if_neg (show ¬ (256<ps.length∨64<es.length) by omega),if_neg (fun h=>hq h.2)]
     refine⟨[],K,.bp,?_,by simp[he],fun _=>rfl⟩;rw[he];simp[f183,hlv,hlw,h1',h2',hL,hL2]
 · rw[if_neg hp] at a8;obtain⟨rfl,rfl⟩:=a8;have he:eF ps es=4:=by rw[eF,if_neg (show ¬ (256<ps.length∨64<es.length) by omega),if_neg (fun h=>hp h.1)]
   refine⟨[],K,.bp,?_,by simp[he],fun _=>rfl⟩;rw[he];simp[f183,hlv,hlw,h1',h2',hL]
end
section
variable {st:St} {G:List HO}
theorem Md {s:List UInt8} (hs:s.length≤1000):∀ (r d:List UInt8) (K:List Nat) (v:DV),s=d++r→Acc st K 1 ((plc 0 d).map i6) v →
 ∃ K' v' tl,(E tab).C sj [(8,v),(10,.str s),(11,.int .i64 (aD d).length),(12,.int .i64 d.length)] (pst st G K)=some (.exit 2,(8,v')::tl,pst st G K')∧Acc st K' 1 ((plc 0 s).map i6) v':=by
 intro r
 induction r with
 | nil=>
   intro d K v hd ha;obtain rfl:s=d:=by simpa using hd
   refine⟨K,v,[(10,.str s),(11,.int .i64 (aD s).length),(12,.int .i64 s.length),(45,.bool false)],?_,ha⟩;rw[ae (L:=sj) rfl];simp[wY]
 | cons c r ih=>
   intro d K v hd ha;have h0:d.length<s.length:=by simp[hd]
   have hc:s[d.length]? = some c:=by simp[hd]
   have hge:s[d.length]'h0=c:=by have:=hc;rw[aaa h0] at this;exact aab.inj this
   have hw1:IntKind.i64.wrap ((d.length:Int)+1)=(d.length:Int)+1:=by rw[ay (by omega)]
   have hbl:=oQ d;have hpl:=lY d 0;by_cases h:c.toNat=45
   · have hci:(c.toNat:Int)=45:=by omega
     have hps:=lj d 0 c h;have hbs:=pK d c h;obtain⟨v',K',hap,ha'⟩:=cR (st:=st) (H:=G) (by_:=8) (ag:=false) (ys:=[i6 (aD d).length]) (t:=st.cur) (tk:=.tight) ha (by omega) (by simp) (by intro z hz;simp only[aaw] at hz;subst hz;exact⟨rfl,rfl,rfl⟩) (by simp[aB];omega) (by simp[aB];omega);obtain⟨K2,v2,tl,hJ,hA⟩:=ih (d++[c]) K' v' (by simp[hd]) (by rw[hps];simpa using ha');refine⟨K2,v2,tl,?_,hA⟩;rw[hbs] at hJ;simp only[aag,aal] at hJ;simp only[i6] at hap;generalize (aD d).length=bl at *;simp at hJ;rw[ae (L:=sj) rfl];simp[wY,h0,hc,hge,h,hci,aC,aO,chunk,hap,hw1,hJ]
   · have hci:¬ (c.toNat:Int)=45:=by omega
     have hps:=oy d 0 c h;have hbs:=sc d c h;have hw2:IntKind.i64.wrap (((aD d).length:Int)+1)=(((aD (d++[c])).length:Nat):Int):=by rw[hbs,ay (by omega)];simp
     obtain⟨K2,v2,tl,hJ,hA⟩:=ih (d++[c]) K v (by simp[hd]) (by rw[hps];exact ha);refine⟨K2,v2,tl,?_,hA⟩;rw[hbs] at hJ hw2;simp only[aag,aal] at hJ hw2;generalize (aD d).length=bl at *;simp at hJ hw2;rw[ae (L:=sj) rfl];simp[wY,h0,hc,hge,h,hci,hw2,hw1,hJ]
theorem LS {K:List Nat} {b t t':Nat} {tk tk':Tk} {ps es:List (List UInt8)} {u:List UInt8} (hes:es.length≤256) (hsl:∀ s∈es,s.length≤1000) (hb:rowAt G b=some (.plain,[.list t 1 tk true (ps.map DV.str),.list t' 1 tk' true (es.map DV.str)])):∀ (r d:List (List UInt8)),es=d++r →
 ∃ e fr K',(E tab).C rk [(0,.ptr (st.heap.length+b) 0),(6,.str u),(8,.list 0 0 .no false []),(9,.int .i64 d.length)] (pst st G K)=some (e,fr,pst st G K') ∧
   match r.find? (fun s=>aD s==u) with
   | none=>e=.exit 0∧∃ tl,fr=(0,.ptr (st.heap.length+b) 0)::(6,.str u)::(8,.list 0 0 .no false [])::tl
   | some s=>e=.ret∧∃ v,fr=[(4,v),(5,.int .i64 0)]∧Acc st K' 1 ((plc 0 s).map i6) v:=by
 intro r
 induction r with
 | nil=>
   intro d hd;obtain rfl:es=d:=by simpa using hd
   refine⟨.exit 0,[(0,.ptr (st.heap.length+b) 0),(6,.str u),(8,.list 0 0 .no false []),(9,.int .i64 es.length),(28,.bool false)],K,?_,by simp⟩;rw[ae (L:=rk) rfl];simp[wZ,hb]
 | cons s r ih=>
   intro d hd;have h0:d.length<es.length:=by simp[hd]
   have hw1:IntKind.i64.wrap ((d.length:Int)+1)=(d.length:Int)+1:=by rw[ay (by omega)]
   have hx:(es.map DV.str)[d.length]? = some (.str s):=by simp[hd]
   have hlen:(es.map DV.str).length=es.length:=by simp
   have hbr:=qH (s:=s) (st:=pst st G K) (by have:=hsl s (by simp[hd]);omega);generalize hE:es.map DV.str=E0 at *;have hlt:d.length<E0.length:=by omega
   have hge:E0[d.length]'hlt=.str s:=by have:=hx;rw[aaa hlt] at this;exact aab.inj this
   by_cases he:aD s=u
   · obtain⟨K',v',tl,hI,hA⟩:=Md (st:=st) (G:=G) (s:=s) (hsl s (by simp[hd])) s [] K (.list 0 0 .no false []) rfl (.inl ⟨rfl,0,0,.no,rfl⟩);refine⟨.ret,[(4,v'),(5,.int .i64 0)],K',?_,by simp[he,hA]⟩;simp[aD] at hI;rw[ae (L:=rk) rfl];simp[wZ,hb,hlen,h0,hx,hge,hlt,hbr,he,hI]
   · have heb:(aD s==u)=false:=by rw[beq_eq_false_iff_ne];exact he
     obtain⟨e,fr,K',hJ,hR⟩:=ih (d++[s]) (by simp[hd]);refine⟨e,fr,K',?_,by simpa[heb] using hR⟩;simp at hJ;rw[ae (L:=rk) rfl];simp[wZ,hb,hlen,h0,hx,hge,hlt,hbr,heb,hw1,hJ]
theorem Oz {n:Nat} {w:List UInt8} {VL:DV} {V:List Nat} {t:Nat} (hw:w.length=n) (hn:n≤64) (hV:V.length=n+1) (hVL:VL=.list t 1 .tight true (V.map i6)):∀ (j k:Nat) (xs:List Nat) (v:DV) (K:List Nat),2≤k→k+j=n-4+2→xs.length+j≤100→Acc st K 1 (xs.map i6) v →
 ∃ v' K' tl,(E tab).C rv [(6,.str w),(8,v),(13,VL),(14,.int .i64 k)] (pst st G K) =
   some (.exit 4,(6,.str w)::(8,v')::tl,pst st G K')∧Acc st K' 1 ((xs++(List.range' k j).filter fun k=>V.getD k 0%2==1).map i6) v':=by
 subst hVL;intro j
 induction j with
 | zero=>
   intro k xs v K hk hj hx ha;have hc:¬ (IntKind.i64.wrap ((k:Int)+3)≤(n:Int)):=by rw[ay (by omega)];omega
   refine⟨v,K,[(13,.list t 1 .tight true (V.map i6)),(14,.int .i64 k),(69,.bool false)],?_,by simpa using ha⟩;rw[ae (L:=rv) rfl];simp[xx,hw,hc]
 | succ j ih=>
   intro k xs v K hk hj hx ha;have hc:IntKind.i64.wrap ((k:Int)+3)≤(n:Int):=by rw[ay (by omega)];omega
   have hw1:IntKind.i64.wrap ((k:Int)+1)=((k+1:Nat):Int):=by rw[ay (by omega)];simp
   obtain⟨y,hy⟩:∃ y,V[k]? = some y:=⟨V[k],aaa (by omega)⟩;have hyd:V.getD k 0=y:=by simp[hy]
   have hvx:(V.map i6)[k]? = some (.int .i64 y):=by simp[hy,i6]
   have htm:(y:Int).tmod 2=((y%2:Nat):Int):=rfl;generalize V.map i6=VM at *;have hlt:k<VM.length:=(aad.1 hvx).1;have hge:VM[k]'hlt=.int .i64 y:=by have:=hvx;rw[aaa hlt] at this;exact aab.inj this
   rw[List.range'_succ,List.filter_cons,hyd];by_cases hodd:y%2=1
   · have hdec:(y:Int)%2=1:=by omega
     obtain⟨v',K',hap,ha'⟩:=cR (st:=st) (H:=G) (by_:=8) (ag:=false) (ys:=[i6 k]) (t:=st.cur) (tk:=.tight) ha (by omega) (by simp) (by intro z hz;simp only[aaw] at hz;subst hz;exact⟨rfl,rfl,rfl⟩) (by simp[aB];omega) (by simp[aB];omega);obtain⟨v2,K2,tl,hJ,hA⟩:=ih (k+1) (xs++[k]) v' K' (by omega) (by omega) (by simp;omega) (by simpa using ha');refine⟨v2,K2,tl,?_,by simpa[hodd] using hA⟩;simp at hJ;simp only[i6] at hap;rw[ae (L:=rv) rfl];simp[xx,hw,hc,hw1,hlt,hge,hvx,htm,hdec,aC,aO,chunk,hap,hJ]
   · have hdec:¬ (y:Int)%2=1:=by omega
     obtain⟨v2,K2,tl,hJ,hA⟩:=ih (k+1) xs v K (by omega) (by omega) (by omega) ha;refine⟨v2,K2,tl,?_,by simpa[hodd] using hA⟩;simp at hJ;rw[ae (L:=rv) rfl];simp[xx,hw,hc,hw1,hlt,hge,hvx,htm,hdec,hJ]
theorem WT {ps es:List (List UInt8)} (h:eF ps es=0):ps.length≤256∧es.length≤64∧ps.all okP=true∧es.all okE=true∧(es.map aD).Nodup:=by
 unfold eF at h;split at h
 · cases h
 · split at h
   · split at h
     · rename_i h1 h2 h3;exact⟨by omega,by omega,h2.1,h2.2,h3⟩
     · cases h
   · cases h
theorem E9 {K:List Nat} {b:Nat} {ps es:List (List UInt8)} (h:tX G b ps es) (h0:eF ps es=0) (hes:∀ s∈es,s.length≤1000) (w:List UInt8) (hwl:w.length≤4611686018427387903) :
 ∃ v K',(E tab).F 186 [.ptr (st.heap.length+b) 0,.str w] (pst st G K)=some (.tuple [v,.int .i64 (if jm w then 0 else 4:Nat)],pst st G K')∧Lw 1 ((if jm w then points ps es (w.map cM) else []).map i6) v:=by
 rw[iz Px rfl];obtain⟨e1,e2,e3,e4,e5⟩:=WT h0;obtain⟨t,tk,t',tk',hb⟩:=h;have hlo:=Hc (s:=w) (st:=pst st G K) hwl
 cases hok:jm w with
 | false=>
   refine⟨.list 0 0 .no false [],K,?_,by simpa using Lw.list 0 0 .no false (fun h=>by cases h) (fun _=>rfl)⟩
   cases hS:mh w with
   | false=>
     rw[hS] at hlo;simp at hlo;simp[f186,hlo]
   | true=>
     have hf:(decide (1≤w.length)&&decide (w.length≤64))=false:=by simpa[jm,hS] using hok
     rw[hS,hf] at hlo;simp at hlo;simp[f186,hlo]
 | true=>
   have hok':=hok;simp only[jm,aac,decide_eq_true_eq] at hok';have hS:=hok'.1;have hl64:=hok'.2.2;have hf:(decide (1≤w.length)&&decide (w.length≤64))=true:=by simpa[jm,hS] using hok
   rw[hS,hf] at hlo;simp only[if_true] at hlo ⊢;generalize hu:w.map cM=u at *;have hul:u.length≤64:=by rw[← hu];simpa using hl64
   obtain⟨e,fr,K1,hL,hR⟩:=LS (st:=st) (K:=K) (u:=u) (by omega) hes hb es [] rfl;simp at hL
   cases hf:es.find? (fun s=>aD s==u) with
   | some s=>
     rw[hf] at hR;obtain⟨rfl,v,rfl,hA⟩:=hR;refine⟨v,K1,?_,by simp only[points,hf];exact Bg hA⟩;simp[f186,hlo,hL]
   | none=>
     rw[hf] at hR;obtain⟨rfl,tl,rfl⟩:=hR;have hp:Txs (pst st G K1) ps (.list t 1 tk true (ps.map DV.str)):=.list _ _ _ _ (fun _=>rfl) (fun h=>by cases h);obtain⟨V,tv,hval,hV,hvv⟩:=EY hp (by omega) e3 hul;obtain⟨v',K',tl2,hL2,hA⟩:=Oz (st:=st) (G:=G) (t:=tv) rfl hul hV rfl (u.length-4) 2 [] (.list 0 0 .no false []) K1 (by omega) (by omega) (by simp;omega) (.inl ⟨rfl,0,0,.no,rfl⟩)
     have e2':(List.range' 2 (u.length-4)).filter (fun k=>V.getD k 0%2==1)=zG ps u:=by
      unfold zG;apply List.filter_congr;intro k hk;rw[List.mem_range'_1] at hk;rw[hvv k (by omega)]
     rw[aaF,e2'] at hA;refine⟨v',K',?_,by simp only[points,hf];exact Bg hA⟩;generalize V.map i6=VM at *;simp at hL2;simp[f186,hlo,hL,hb,hval,hL2]
end
theorem Tn:tab 143=some (.code f143):=by kernel_rfl
theorem Pq:tab 188=some (.code f188):=by kernel_rfl
theorem jY:eF dQ eW=0:=by decide +kernel
theorem iG:∀ s∈eW,s.length≤1000:=by decide +kernel
section
variable {st:St}
theorem Gw (G:List HO) (K:List Nat):∃ X,(E tab).F 143 [] (pst st G K)=some (.ptr (st.heap.length+(G.length+2)) 0,pst st (G++X) K)∧ru st (G++X) G.length dQ eW:=by
 rw[iz Tn rfl];have hf:=AY (pst st G K);have hv:Txs (pst st G K) dQ (.list 0 1 .tight true (dQ.map DV.str)):=.list _ _ _ _ (fun _=>rfl) (fun h=>by cases h);have hw:Txs (pst st G K) eW (.list st.cur 1 .tight true (eW.map DV.str)):=.list _ _ _ _ (fun _=>rfl) (fun h=>by cases h);obtain⟨X,hp,hn,h0,_⟩:=N1 (K:=K) iG hv hw;obtain⟨rfl,hok⟩:=h0 jY;rw[jY] at hn;refine⟨X,?_,hok⟩;generalize dQ.map DV.str=PL at *;simp[vB] at hf;simp[eW] at hn;simp[f143,hf,aC,aO,chunk,hn]
theorem Gi (G:List HO) (K:List Nat):∃ X K',(E tab).F 188 [] (pst st G K)=some (.ptr (st.heap.length+G.length) 0,pst st (G++X) K')∧tX (G++X) G.length dQ eW:=by
 rw[iz Pq rfl];have hv:Txs (pst st G K) dQ (.list st.cur 1 .tight true (dQ.map DV.str)):=.list _ _ _ _ (fun _=>rfl) (fun h=>by cases h);have hw:Txs (pst st G K) eW (.list st.cur 1 .tight true (eW.map DV.str)):=.list _ _ _ _ (fun _=>rfl) (fun h=>by cases h);obtain⟨X,K',hp,hn,h0,_⟩:=Om (K:=K) iG hv hw;obtain⟨rfl,hok⟩:=h0 jY;rw[jY] at hn;refine⟨X,K',?_,hok⟩;simp[eW,dQ] at hn;simp[f188,aC,aO,chunk,hn]
end
theorem BY (ps es:List (List UInt8)) (w:List UInt8) (h:∀ s∈es,s.length≤1000):(points ps es w).length≤100000+w.length:=by
 unfold points;split
 · rename_i s hs;have:=List.mem_of_find?_eq_some hs;have:=lY s 0;have:=h s (by assumption);omega
 · unfold zG;have:=aaO (fun k=>zQ ps (46::(w++[46])) (k+1)%2==1) (List.range' 2 (w.length-4));simp at this;omega
theorem E6 {ps es:List (List UInt8)} (h:∀ s∈es,s.length≤1000) (w:List UInt8):(if jm w=true then points ps es (w.map cM) else []).length≤140737488355328:=by
 split
 · rename_i hok;simp only[jm,aac,decide_eq_true_eq] at hok;have h1:=hok.2.2;have:=BY ps es (w.map cM) h;simp only[aaP] at this;omega
 · simp
end Go.D.Tab
end
section
namespace Go.D.Tab
structure It where
 k:Int
 f:Int
 t:Int
 w:Int
 s:Int
 h:Int
 c:Int
 y:Bool
def It.cs (x:It):List DV:=[.int .i64 x.k,.int .i64 x.f,.int .i64 x.t,.int .i64 x.w,.int .i64 x.s,.int .i64 x.h,.int .i64 x.c,.bool x.y]
def It.dv (x:It):DV:=.agg x.cs
theorem Lz (x:It):dX 8 true x.dv:=⟨rfl,rfl,rfl⟩
section
variable {st:St} {l:List It} {v:DV}
theorem Vw.ex {n:Nat} {ag:Bool} {xs:List DV} {w:DV} (h:Vw st n ag xs w) (H:List HO) (K:List Nat):∃ w',bq st (pst st H K) w=some w'∧Vw st n ag xs w':=by
 cases h with
 | list t n' tk nn h1 h2=>exact⟨_,rfl,.list _ _ _ _ h1 h2⟩
 | hsl b off c g vs hc hl hx hcap=>
   have hh:=oZ hc;have hb:st.qp b=true:=by unfold St.qp;rw[hh]
   refine⟨_,by simp only[bq,hb,if_true],.hsl b off c g vs hc hl hx hcap⟩
end
theorem Tq:tab 139=some (.code f139):=by kernel_rfl
theorem Po:tab 145=some (.code f145):=by kernel_rfl
theorem Tw:tab 146=some (.code f146):=by kernel_rfl
theorem PA:tab 153=some (.code f153):=by kernel_rfl
def gd (x:Int):Int:=(x/48+1)*48
theorem uO (st:St):(E tab).F 145 [.list 0 0 .no false []] st=some (.int .i64 0,st):=by
 rw[aK Po rfl]
 have hL:∀ st:St,(E tab).C z9 [(3,.int .i64 0),(9,.list 0 0 .no false []),(10,.int .i64 0),(11,.int .i64 0)] st=some (.exit 0,[(3,.int .i64 0),(9,.list 0 0 .no false []),(10,.int .i64 0),(11,.int .i64 0),(12,.bool false)],st):=by
  intro st;rw[ae (L:=z9) rfl];simp[IJ]
 simp[f145,hL]
theorem Ah (x f:DV) (st:St):(E tab).F 153 [.list 0 0 .no false [],x,f] st=some (.tuple [.int .i64 0,.bool false],st):=by
 rw[iz PA rfl]
 have hL:∀ st:St,(E tab).C Bi [(0,.list 0 0 .no false []),(1,x),(2,f),(8,.int .i64 0),(9,.int .i64 0),(10,.int .i64 0)] st=some (.exit 0,[(0,.list 0 0 .no false []),(1,x),(2,f),(8,.int .i64 0),(9,.int .i64 0),(10,.int .i64 0),(17,.bool false)],st):=by
  intro st;rw[ae (L:=Bi) rfl];simp[GG]
 simp[f153,hL]
theorem EJ (x:Int) (hx:0≤x∧x≤1000000000000) (st:St):(E tab).F 146 [.list 0 0 .no false [],.int .i64 x] st=some (.agg [.int .i64 (gd x),.int .i64 0],st):=by
 rw[aK Tw rfl];have e1:IntKind.i64.wrap (x.tdiv 48)=x/48:=IntWalk.i64_quo _ _ (by omega);have e2:IntKind.i64.wrap (x/48+1)=x/48+1:=ay (by omega);have e3:IntKind.i64.wrap ((x/48+1)*48)=gd x:=ay (by omega);simp[f146,Ah,e1,e2,e3]
theorem JR (x:Int) (hx:0≤x∧x≤1000000000000) (st:St):(E tab).F 139 [.list 0 0 .no false [],.int .i64 x] st=some (if x≤8190 then .tuple [.agg [.int .i64 (gd x),.int .i64 0],.int .i64 0] else .tuple [.agg [.int .i64 0,.int .i64 0],.int .i64 5],st):=by
 rw[aK Tq rfl];have h0:¬ x<0:=by omega
 have e1:=fun st=>EJ x hx st;by_cases h:x≤8190
 · have h1:¬ 8190<x:=by omega
   simp[f139,uO,h0,h1,e1,h]
 · have h1:8190<x:=by omega
   simp[f139,uO,h0,h1,h]
theorem RS:tab 241=some (.code f241):=by kernel_rfl
section
variable {st:St} {l:List It} {v:DV}
theorem H4 (x:Int) (hx:0≤x∧x≤1000000000000) (st:St):(E tab).F 241 [.list 0 0 .no false [],.int .i64 x] st=some (.agg [.int .i64 (gd x),.int .i64 0],st):=by
 rw[aK RS rfl]
 have hL:∀ (st:St) (p:DV),(E tab).C zO [(0,.list 0 0 .no false []),(1,.int .i64 x),(4,p),(5,.int .i64 0)] st=some (.exit 0,[(0,.list 0 0 .no false []),(1,.int .i64 x),(4,p),(5,.int .i64 0),(9,.bool false)],st):=by
  intro st p;rw[ae (L:=zO) rfl];simp[IK]
 have e1:IntKind.i64.wrap (x.tdiv 48)=x/48:=IntWalk.i64_quo _ _ (by omega);have e2:IntKind.i64.wrap (x/48+1)=x/48+1:=ay (by omega);have e3:IntKind.i64.wrap ((x/48+1)*48)=gd x:=ay (by omega);simp[f241,hL,e1,e2,e3]
end
theorem T7:tab 106=some (.code f106):=by kernel_rfl
theorem PV:tab 117=some (.code f117):=by kernel_rfl
theorem Qw:tab 118=some (.code f118):=by kernel_rfl
theorem LC:tab 131=some (.code f131):=by kernel_rfl
theorem Ry:tab 132=some (.code f132):=by kernel_rfl
theorem Sd:tab 133=some (.code f133):=by kernel_rfl
theorem Tg:tab 134=some (.code f134):=by kernel_rfl
theorem PU:tab 135=some (.code f135):=by kernel_rfl
theorem O8:tab 136=some (.code f136):=by kernel_rfl
theorem RR:tab 137=some (.code f137):=by kernel_rfl
theorem RD:tab 138=some (.code f138):=by kernel_rfl
theorem Su:tab 238=some (.code f238):=by kernel_rfl
theorem T3:tab 258=some (.code EW):=by kernel_rfl
theorem RO:tab 259=some (.code FJ):=by kernel_rfl
theorem PR:tab 260=some (.code Jt):=by kernel_rfl
theorem Sc:tab 261=some (.code Bj):=by kernel_rfl
theorem Rt:tab 262=some (.code Fz):=by kernel_rfl
theorem RM:tab 263=some (.code JF):=by kernel_rfl
theorem Pf:tab 264=some (.code E3):=by kernel_rfl
theorem Qh:tab 274=some (.code Bd):=by kernel_rfl
def mz:ab:=⟨0,0,0,0,0,0⟩
def j6 (m:ab):Bool:=m.k != 3&&(m.k != 4&&m.k != 5)
def hyW (s:Int):Int:=wd 45 s
def dD (L:List ab) (fr to:Nat):It:=⟨1,(L.getD fr mz).a,(L.getD (to-1) mz).b,jd true 0 ((L.drop fr).take (to-fr)),0,0,0,false⟩
def iS (m:ab):It:=if m.k=3 then ⟨2,m.a,m.b,m.w,m.w/2,m.w/3,0,false⟩ else if m.k=4 then ⟨4,m.a,m.b,0,0,0,0,false⟩ else ⟨3,m.a,m.b,hyW m.s,0,0,50,true⟩
def eL (s:List UInt8) (m:ab):Bool:=m.k==2&&bAt s m.a.toNat==45
def yK (m:ab):It:=⟨3,m.a,m.a,hyW m.s,0,0,100,true⟩
def yQ (m:ab):It:=⟨3,m.a,m.a,0,0,0,50,false⟩
def bk (s:List UInt8) (L:List ab) (pl:List Bool):Nat→Nat→Nat→List ab→List It
 | k,run,fr,[]=>if fr<k then [dD L fr k] else []
 | k,run,fr,m::r=>
   if j6 m=false then (if fr<k then [dD L fr k] else [])++iS m::bk s L pl (k+1) (k+1) (k+1) r
   else if k=fr then bk s L pl (k+1) run fr r
   else if pl.getD k false=true then dD L fr k::yK m::bk s L pl (k+1) run k r
   else if (eL s (L.getD (k-1) mz) && !eL s m&&decide (run<k-1))=true then dD L fr k::yQ m::bk s L pl (k+1) run k r
   else bk s L pl (k+1) run fr r
structure MOk (s:List UInt8) (L:List ab):Prop where
 len:L.length≤4096
 ok:L.all okM=true
 at_:∀ m∈L,0≤m.a∧m.a<s.length
 sz:∀ m∈L,1≤m.s∧m.s≤64
theorem mX {m:ab} (h:okM m=true):0≤m.w∧m.w≤4095:=by
 simp only[okM,decide_eq_true_eq] at h;omega
section
variable {st:St}
theorem GW (m:ab):(E tab).F 136 [m.dv] st=some (.bool (j6 m),st):=by
 rw[aK O8 rfl];by_cases h1:m.k=3
 · simp[f136,j6,ab.cs,h1]
 by_cases h2:m.k=4
 · simp[f136,j6,ab.cs,h2]
 by_cases h3:m.k=5
 · simp[f136,j6,ab.cs,h3]
 · have b1:(m.k != 3)=true:=by simp[h1]
   have b2:(m.k != 4)=true:=by simp[h2]
   simp[f136,j6,ab.cs,h1,h2,b1,b2]
theorem Mu (m:ab):(E tab).F 261 [m.dv] st=some (.bool (j6 m),st):=by
 rw[aK Sc rfl];by_cases h1:m.k=3
 · simp[Bj,j6,ab.cs,h1]
 by_cases h2:m.k=4
 · simp[Bj,j6,ab.cs,h2]
 by_cases h3:m.k=5
 · simp[Bj,j6,ab.cs,h3]
 · have b1:(m.k != 3)=true:=by simp[h1]
   have b2:(m.k != 4)=true:=by simp[h2]
   simp[Bj,j6,ab.cs,h1,h2,b1,b2]
theorem uR {n:Int} (hn:1≤n∧n≤64):(E tab).F 138 [.int .i64 n] st=some (.int .i64 (hyW n),st):=by
 rw[aK RD rfl];have hb:=jV 45 hn.1 hn.2
 have h:∀ st,(E tab).F 17 [.str [45],.int .i64 n] st=some (.tuple [.int .i64 (hyW n),.int .i64 0],st):=by
  intro st;rw[wv];have hw:IntKind.i64.wrap (wd 45 n)=wd 45 n:=ay (by omega);simp only[gj,if_pos hn];simp[tw,hw,hyW]
 simp[f138,h]
theorem te (n:Int):(E tab).F 37 [.int .u8 45,.int .i64 n] st=some (.int .i64 (hyW n),st):=by
 have:=gE 45 n st;exact this
theorem Kf (m:ab) (hm:okM m=true) (hs:1≤m.s∧m.s≤64):(E tab).F 137 [m.dv] st=some ((iS m).dv,st):=by
 rw[aK RR rfl];have hw:=mX hm;have h2:IntKind.i64.wrap (m.w.tdiv 2)=m.w/2:=by rw[aaI hw.1,ay (by omega)]
 have h3:IntKind.i64.wrap (m.w.tdiv 3)=m.w/3:=by rw[aaI hw.1,ay (by omega)]
 have hh:=fun st=>uR (st:=st) hs;by_cases k3:m.k=3
 · simp[f137,iS,It.dv,It.cs,ab.cs,k3,h2,h3]
 by_cases k4:m.k=4
 · simp[f137,iS,It.dv,It.cs,ab.cs,k4]
 · simp[f137,iS,It.dv,It.cs,ab.cs,k3,k4,hh]
theorem JO (m:ab) (hm:okM m=true):(E tab).F 264 [m.dv] st=some ((iS m).dv,st):=by
 rw[aK Pf rfl];have hw:=mX hm;have h2:IntKind.i64.wrap (m.w.tdiv 2)=m.w/2:=by rw[aaI hw.1,ay (by omega)]
 have h3:IntKind.i64.wrap (m.w.tdiv 3)=m.w/3:=by rw[aaI hw.1,ay (by omega)]
 have hh:=fun st=>te (st:=st) m.s;by_cases k3:m.k=3
 · simp[E3,iS,It.dv,It.cs,ab.cs,k3,h2,h3]
 by_cases k4:m.k=4
 · simp[E3,iS,It.dv,It.cs,ab.cs,k4]
 · simp[E3,iS,It.dv,It.cs,ab.cs,k3,k4,hh]
theorem getM {L:List ab} {i:Nat} (h:i<L.length):L[i]? = some (L.getD i mz):=by rw[aaf,aaa h];rfl
theorem dN {L:List ab} {i:Nat} (h:i<L.length):(L.map ab.dv)[i]? = some (L.getD i mz).dv:=by rw[aaG,getM h];rfl
theorem M8 {s:List UInt8} {L:List ab} (hL:MOk s L) {t n:Nat} {tk:Tk} {nn:Bool} (h6:L≠[]→n=6) (h7:nn=true→n=6) {fr to:Nat} (h1:fr<to) (h2:to≤L.length):(E tab).F 135 [.list t n tk nn (L.map ab.dv),.int .i64 fr,.int .i64 to] st=some ((dD L fr to).dv,st):=by
 rw[aK PU rfl];have hn:=fun st=>DX L fr to t n tk nn h6 h7 st;rw[KO hL.len hL.ok fr to (by omega) h2] at hn;obtain rfl:=h6 (by intro e;simp[e] at h2;omega);have hw1:IntKind.i64.wrap ((to:Int)-1)=((to-1:Nat):Int):=by have:=hL.len;rw[ay (by omega)];omega
 have g1:=dN (L:=L) (i:=fr) (by omega);have g2:=dN (L:=L) (i:=to-1) (by omega);have l1:fr<(L.map ab.dv).length:=by simp;omega
 have l2:to-1<(L.map ab.dv).length:=by simp;omega
 generalize L.map ab.dv=V at *;have g1':V[fr]'l1=(L.getD fr mz).dv:=by rw[aaa l1] at g1;exact aab.inj g1
 have g2':V[to-1]'l2=(L.getD (to-1) mz).dv:=by rw[aaa l2] at g2;exact aab.inj g2
 simp only[dD];generalize L.getD fr mz=a at *;generalize L.getD (to-1) mz=b at *;generalize jd true 0 ((L.drop fr).take (to-fr))=rg at *;simp[f135,It.dv,It.cs,hn,g1,g2,g1',g2',l1,l2,hw1,ab.dv,ab.cs]
theorem Bq {s:List UInt8} {L:List ab} (hL:MOk s L) {t n:Nat} {tk:Tk} {nn:Bool} (h6:L≠[]→n=6) {fr to:Nat} (h1:fr<to) (h2:to≤L.length):(E tab).F 263 [.list t n tk nn (L.map ab.dv),.int .i64 fr,.int .i64 to] st=some ((dD L fr to).dv,st):=by
 rw[aK RM rfl];have hn:=fun st=>Q4 L hL.len hL.ok fr to (by omega) h2 t n tk nn h6 st;obtain rfl:=h6 (by intro e;simp[e] at h2;omega);have hw1:IntKind.i64.wrap ((to:Int)-1)=((to-1:Nat):Int):=by have:=hL.len;rw[ay (by omega)];omega
 have g1:=dN (L:=L) (i:=fr) (by omega);have g2:=dN (L:=L) (i:=to-1) (by omega);have l1:fr<(L.map ab.dv).length:=by simp;omega
 have l2:to-1<(L.map ab.dv).length:=by simp;omega
 generalize L.map ab.dv=V at *;have g1':V[fr]'l1=(L.getD fr mz).dv:=by rw[aaa l1] at g1;exact aab.inj g1
 have g2':V[to-1]'l2=(L.getD (to-1) mz).dv:=by rw[aaa l2] at g2;exact aab.inj g2
 simp only[dD];generalize L.getD fr mz=a at *;generalize L.getD (to-1) mz=b at *;generalize jd true 0 ((L.drop fr).take (to-fr))=rg at *;simp[JF,It.dv,It.cs,hn,g1,g2,g1',g2',l1,l2,hw1,ab.dv,ab.cs]
end
def loI (st:St) (s:Nat):HO:=.loop (im [(6,.ptr (st.heap.length+1) 0),(18,.fn 131 [] [.ptr (st.heap.length+2) 0,.ptr (st.heap.length+3) 0])] [19] (.region wj [6,7]) (.block 1 (.region vc [])) s none)
def HI (st:St) (P0 P1:List DV) (ov lv:DV) (fr s:Nat) (J:List HO):List HO:=
 .cells .plain P0::.cells .plain [ov]::.cells .plain P1::.cells .plain [lv]::loI st s::.cells .plain [.yield (st.heap.length+4)]::.cells .plain [.int .i64 fr]::J
section
variable {st:St} {P0 P1:List DV} {lv:DV} {J:List HO} {K:List Nat}
theorem Aw {xs:List It} {ov:DV} {fr:Nat} (x:It) (hx:xs.length≤100000) (hA:Acc st K 8 (xs.map It.dv) ov) :
 ∃ ov' K',(E tab).V (.yield (st.heap.length+4)) [x.dv] (pst st (HI st P0 P1 ov lv fr 0 J) K)=some (.bool true,pst st (HI st P0 P1 ov' lv fr 0 (J++[.cells .plain x.cs])) K')∧Acc st K' 8 ((xs++[x]).map It.dv) ov':=by
 obtain⟨v2,K2,e2,hA2⟩:=cR (H:=HI st P0 P1 ov lv fr 1 (J++[.cells .plain x.cs])) (t:=st.cur) (by_:=64) (ag:=true) (tk:=.tight) (ys:=[x.dv]) hA (by omega) (by simp) (by simp[Lz]) (by simp[aB];omega) (by simp[aB];omega);refine⟨v2,K2,?_,by simpa using hA2⟩
 have hA1:(E tab).C (.region wj [6,7]) (dB [(6,.ptr (st.heap.length+1) 0),(18,.fn 131 [] [.ptr (st.heap.length+2) 0,.ptr (st.heap.length+3) 0])] [19] [x.dv]) (pst st (HI st P0 P1 ov lv fr 0 J) K) =
  some (.normal,[(6,.ptr (st.heap.length+1) 0),(7,.ptr (st.heap.length+(J.length+7)) 0)],pst st (HI st P0 P1 ov lv fr 0 (J++[.cells .plain x.cs])) K):=by
  simp[HI,It.dv,It.cs]
 have hB:(E tab).C (.block 1 (.region vc [])) [(6,.ptr (st.heap.length+1) 0),(7,.ptr (st.heap.length+(J.length+7)) 0)] (pst st ((HI st P0 P1 ov lv fr 0 (J++[.cells .plain x.cs])).set 4 (loI st 1)) K) =
  some (.normal,[],pst st (HI st P0 P1 v2 lv fr 1 (J++[.cells .plain x.cs])) K2):=by
  obtain⟨t',n',tk',nn',rfl⟩:=bK hA2;simp[HI,It.dv,It.cs] at e2 ⊢;simp[aC,aO,chunk,e2]
 exact ln (T:=tab) (k:=4) (H:=HI st P0 P1 ov lv fr 0 J) rfl rfl hA1 rfl ⟨_,hB⟩ rfl
theorem Ku {L:List ab} {p:aI} {w u:LW} (hL:MOk p.text L) {t n:Nat} {tk:Tk} {nn:Bool} (h6:L≠[]→n=6) {ov:DV} {fr s k:Nat} (hk:k<L.length) :
 (E tab).F 133 [.int .i64 k,.ptr (st.heap.length+3) 0,.ptr (st.heap.length+2) 0] (pst st (HI st P0 (af p w u) ov (.list t n tk nn (L.map ab.dv)) fr s J) K)=some (.bool (eL p.text (L.getD k mz)),pst st (HI st P0 (af p w u) ov (.list t n tk nn (L.map ab.dv)) fr s J) K):=by
 rw[iz Sd rfl];obtain rfl:=h6 (by intro e;simp[e] at hk);have g1:=dN (L:=L) hk;have l1:k<(L.map ab.dv).length:=by simpa using hk
 have hm:=hL.at_ _ (aat (getM hk));generalize L.map ab.dv=V at *;have g1':V[k]'l1=(L.getD k mz).dv:=by rw[aaa l1] at g1;exact aab.inj g1
 generalize L.getD k mz=m at *;have hb:p.text[m.a.toNat]? = some (bAt p.text m.a.toNat):=lz (by omega);have hlt:m.a.toNat<p.text.length:=by omega
 have hge:p.text[m.a.toNat]'hlt=bAt p.text m.a.toNat:=by rw[aaa hlt] at hb;exact aab.inj hb
 by_cases h2:m.k=2
 · by_cases h45:bAt p.text m.a.toNat=45
   · simp[f133,HI,g1,g1',l1,ab.dv,ab.cs,h2,hb,hge,hlt,hm.1,h45,eL]
   · have h45':(((bAt p.text m.a.toNat).toNat:Int)==45)=(bAt p.text m.a.toNat==45):=CS _ 45;simp[f133,HI,g1,g1',l1,ab.dv,ab.cs,h2,hb,hge,hlt,hm.1,h45',eL]
 · simp[f133,HI,g1,g1',l1,ab.dv,ab.cs,h2,eL]
theorem DA {L:List ab} {s:List UInt8} (hL:MOk s L) {t n:Nat} {tk:Tk} {nn:Bool} (h6:L≠[]→n=6) (h7:nn=true→n=6) {xs:List It} {ov:DV} {fr k:Nat} (hk:k≤L.length) (hx:xs.length≤100000) (hA:Acc st K 8 (xs.map It.dv) ov) :
 ∃ ov' J' K',(E tab).F 134 [.int .i64 k,.ptr (st.heap.length+6) 0,.ptr (st.heap.length+5) 0,.ptr (st.heap.length+3) 0] (pst st (HI st P0 P1 ov (.list t n tk nn (L.map ab.dv)) fr 0 J) K) =
   some (.bool true,pst st (HI st P0 P1 ov' (.list t n tk nn (L.map ab.dv)) fr 0 (J++J')) K')∧Acc st K' 8 ((xs++if fr<k then [dD L fr k] else []).map It.dv) ov':=by
 rw[iz Tg rfl];by_cases h:fr<k
 · have h':¬ (k:Int)≤fr:=by omega
   obtain⟨ov',K',hy,hA'⟩:=Aw (P0:=P0) (P1:=P1) (lv:=.list t n tk nn (L.map ab.dv)) (J:=J) (fr:=fr) (dD L fr k) hx hA;have hb:=fun st=>M8 (st:=st) hL (t:=t) (n:=n) (tk:=tk) h6 h7 h hk;refine⟨ov',[.cells .plain (dD L fr k).cs],K',?_,by simpa[h] using hA'⟩;generalize dD L fr k=x at *;generalize L.map ab.dv=V at *;simp[HI] at hy;have h'':¬ k≤fr:=by omega
   simp[f134,HI,h',h'',hb,hy]
 · have h':(k:Int)≤fr:=by omega
   have h'':k≤fr:=by omega
   refine⟨ov,[],K,?_,by simpa[h] using hA⟩;generalize L.map ab.dv=V at *;simp[f134,HI,h',h'']
end
def plV (t:Nat) (tk:Tk) (pl:List Bool):DV:=.list t 1 tk true (pl.map DV.bool)
section
variable {st:St} {P0:List DV}
theorem My {L:List ab} {p:aI} {w u:LW} (hL:MOk p.text L) {t n:Nat} {tk:Tk} {nn:Bool} (h6:L≠[]→n=6) (h7:nn=true→n=6) {pl:List Bool} (hpl:pl.length=L.length+1) {t2:Nat} {tk2:Tk} :
 ∀ (r d:List ab) (run fr:Nat) (J:List HO) (K:List Nat) (xs:List It) (ov:DV),L=d++r→fr≤d.length→run≤d.length→xs.length≤3*d.length→Acc st K 8 (xs.map It.dv) ov →
 ∃ (ov':DV) (fr':Nat) (J':List HO) (K':List Nat) (X:List It) (y6:DV) (tl:Fr),
   (E tab).C iW [(2,.ptr (st.heap.length+3) 0),(3,.ptr (st.heap.length+5) 0),(4,plV t2 tk2 pl),(5,.fn 133 [] [.ptr (st.heap.length+3) 0,.ptr (st.heap.length+2) 0]),(6,.int .i64 run),(7,.ptr (st.heap.length+6) 0),(8,.fn 134 [] [.ptr (st.heap.length+6) 0,.ptr (st.heap.length+5) 0,.ptr (st.heap.length+3) 0]),(17,.list t n tk nn (L.map ab.dv)),(18,.int .i64 L.length),(19,.int .i64 d.length)]
    (pst st (HI st P0 (af p w u) ov (.list t n tk nn (L.map ab.dv)) fr 0 J) K) =
   some (.exit 0,[(2,.ptr (st.heap.length+3) 0),(3,.ptr (st.heap.length+5) 0),(4,plV t2 tk2 pl),(5,.fn 133 [] [.ptr (st.heap.length+3) 0,.ptr (st.heap.length+2) 0]),(6,y6),(7,.ptr (st.heap.length+6) 0),(8,.fn 134 [] [.ptr (st.heap.length+6) 0,.ptr (st.heap.length+5) 0,.ptr (st.heap.length+3) 0])]++tl,
    pst st (HI st P0 (af p w u) ov' (.list t n tk nn (L.map ab.dv)) fr' 0 J') K')∧Acc st K' 8 ((xs++X).map It.dv) ov'∧(xs++X).length≤3*L.length∧bk p.text L pl d.length run fr r=X++(if fr'<L.length then [dD L fr' L.length] else []):=by
 have hlen:=hL.len;intro r
 induction r with
 | nil=>
   intro d run fr J K xs ov hd hf hr hx hA;obtain rfl:L=d:=by simpa using hd
   refine⟨ov,fr,J,K,[],.int .i64 run,[(17,.list t n tk nn (L.map ab.dv)),(18,.int .i64 L.length),(19,.int .i64 L.length),(20,.bool false)],?_,by simpa using hA,by simpa using hx,by simp[bk]⟩;generalize L.map ab.dv=V at *;rw[ae (L:=iW) rfl];simp[kG]
 | cons m r ih=>
   intro d run fr J K xs ov hd hf hr hx hA;have h0:d.length<L.length:=by simp[hd]
   have hmem:m∈L:=by simp[hd]
   have hok:=aae.1 hL.ok m hmem;have hsz:=hL.sz m hmem;have hgm:L.getD d.length mz=m:=by simp[hd]
   have hw1:IntKind.i64.wrap ((d.length:Int)+1)=(d.length:Int)+1:=by rw[ay (by omega)]
   have hwm:IntKind.i64.wrap ((d.length:Int)-1)=(d.length:Int)-1:=by rw[ay (by omega)]
   obtain rfl:=h6 (by intro e;simp[e] at h0);have g1:=dN (L:=L) h0;rw[hgm] at g1;have l1:d.length<(L.map ab.dv).length:=by simpa using h0
   have hbx:=fun st=>GW (st:=st) m;have hln:=fun st=>Kf (st:=st) m hok hsz;have hhy:=fun st=>uR (st:=st) hsz;have hsh:=fun (J:List HO)=>DA (st:=st) (P0:=P0) (P1:=af p w u) (J:=J) (K:=K) (t:=t) (n:=6) (tk:=tk) (nn:=nn) hL (fun _=>rfl) (fun _=>rfl) (k:=d.length) (fr:=fr) (by omega) (by omega) hA;have hds:=fun (J:List HO) (k:Nat) (hk:k<L.length)=>Ku (st:=st) (P0:=P0) (w:=w) (u:=u) (J:=J) (K:=K) (ov:=ov) (fr:=fr) (s:=0) (t:=t) (n:=6) (tk:=tk) (nn:=nn) hL (fun _=>rfl) (k:=k) hk
   have hpd:(pl.map DV.bool)[d.length]? = some (.bool (pl.getD d.length false)):=by
    rw[aaG,aaa (show d.length<pl.length by omega),aaf,aaa (show d.length<pl.length by omega)];rfl
   have lpd:d.length<(pl.map DV.bool).length:=by simp;omega
   cases hb:j6 m with
   | false=>
     obtain⟨ov1,J1,K1,hS,hA1⟩:=hsh (J++[.cells .plain m.cs]);have hxl:(xs++if fr<d.length then [dD L fr d.length] else []).length≤3*d.length+1:=by split<;>simp<;>omega
     obtain⟨ov2,K2,hY,hA2⟩:=Aw (st:=st) (P0:=P0) (P1:=af p w u) (lv:=.list t 6 tk nn (L.map ab.dv)) (J:=(J++[.cells .plain m.cs])++J1) (fr:=fr) (iS m) (by omega) hA1
     obtain⟨ov',fr',J',K',X,y6,tl,hJ,a1,a2,a3⟩:=ih (d++[m]) (d.length+1) (d.length+1) (((J++[.cells .plain m.cs])++J1)++[.cells .plain (iS m).cs]) K2 ((xs++if fr<d.length then [dD L fr d.length] else [])++[iS m]) ov2 (by simp[hd]) (by simp) (by simp) (by
      rw[aag];simp only[aag,aal] at hxl ⊢;omega) hA2
     refine⟨ov',fr',J',K',(if fr<d.length then [dD L fr d.length] else [])++iS m::X,y6,tl,?_,by simpa using a1,by simpa using a2,?_⟩
     · generalize L.map ab.dv=V at *;have g1':V[d.length]'l1=m.dv:=by rw[aaa l1] at g1;exact aab.inj g1
       rw[hb] at hbx;simp only[HI,aau,aaS,aaF] at hS hY hJ ⊢;simp only[ab.dv,ab.cs] at hbx hln hS hY hJ g1';simp at hS hY hJ;rw[ae (L:=iW) rfl];simp[kG,h0,g1,g1',l1,hbx,hln,hS,hY,eE,hw1,hJ,ab.dv,ab.cs]
     · simp only[aag,aal] at a3;simp only[bk,hb,if_true,a3,aau,aaS]
   | true=>
     by_cases hkf:fr=d.length
     · obtain⟨ov',fr',J',K',X,y6,tl,hJ,a1,a2,a3⟩:=ih (d++[m]) run fr (J++[.cells .plain m.cs]) K xs ov (by simp[hd]) (by simp;omega) (by simp;omega) (by simp;omega) hA;refine⟨ov',fr',J',K',X,y6,tl,?_,a1,a2,?_⟩
       · generalize L.map ab.dv=V at *;have g1':V[d.length]'l1=m.dv:=by rw[aaa l1] at g1;exact aab.inj g1
         rw[hb] at hbx;subst hkf;simp only[HI,aau,aaS,aaF] at hJ ⊢;simp only[ab.dv,ab.cs] at hbx hJ g1';simp at hJ;rw[ae (L:=iW) rfl];simp[kG,h0,g1,g1',l1,hbx,hw1,hJ,ab.dv,ab.cs]
       · simp only[aag,aal] at a3;simp only[bk,hb,hkf,if_true,abk,if_false];rw[← hkf] at a3 ⊢;rw[← a3,hkf]
     · have hkf':¬ (d.length:Int)=fr:=by omega
       have hkf2:¬ d.length=fr:=by omega
       have hfl:fr<d.length:=by omega
       have hif:(if fr<d.length then [dD L fr d.length] else [])=[dD L fr d.length]:=if_pos hfl;rw[hif] at hsh
       have fin:∀ q:It,(bk p.text L pl d.length run fr (m::r)=dD L fr d.length::q::bk p.text L pl (d.length+1) run d.length r) →
        ∃ (ov':DV) (fr':Nat) (J':List HO) (K':List Nat) (X:List It) (y6:DV) (tl:Fr) (ov1 ov2:DV) (J1:List HO) (K1 K2:List Nat),
        (E tab).F 134 [.int .i64 d.length,.ptr (st.heap.length+6) 0,.ptr (st.heap.length+5) 0,.ptr (st.heap.length+3) 0] (pst st (HI st P0 (af p w u) ov (.list t 6 tk nn (L.map ab.dv)) fr 0 (J++[.cells .plain m.cs,.cells .plain q.cs])) K) =
         some (.bool true,pst st (HI st P0 (af p w u) ov1 (.list t 6 tk nn (L.map ab.dv)) fr 0 ((J++[.cells .plain m.cs,.cells .plain q.cs])++J1)) K1) ∧
        (E tab).V (.yield (st.heap.length+4)) [q.dv] (pst st (HI st P0 (af p w u) ov1 (.list t 6 tk nn (L.map ab.dv)) fr 0 ((J++[.cells .plain m.cs,.cells .plain q.cs])++J1)) K1) =
         some (.bool true,pst st (HI st P0 (af p w u) ov2 (.list t 6 tk nn (L.map ab.dv)) fr 0 (((J++[.cells .plain m.cs,.cells .plain q.cs])++J1)++[.cells .plain q.cs])) K2) ∧
        (E tab).C iW [(2,.ptr (st.heap.length+3) 0),(3,.ptr (st.heap.length+5) 0),(4,plV t2 tk2 pl),(5,.fn 133 [] [.ptr (st.heap.length+3) 0,.ptr (st.heap.length+2) 0]),(6,.int .i64 run),(7,.ptr (st.heap.length+6) 0),(8,.fn 134 [] [.ptr (st.heap.length+6) 0,.ptr (st.heap.length+5) 0,.ptr (st.heap.length+3) 0]),(17,.list t 6 tk nn (L.map ab.dv)),(18,.int .i64 L.length),(19,.int .i64 (d.length+1:Nat))]
         (pst st (HI st P0 (af p w u) ov2 (.list t 6 tk nn (L.map ab.dv)) d.length 0 (((J++[.cells .plain m.cs,.cells .plain q.cs])++J1)++[.cells .plain q.cs])) K2) =
        some (.exit 0,[(2,.ptr (st.heap.length+3) 0),(3,.ptr (st.heap.length+5) 0),(4,plV t2 tk2 pl),(5,.fn 133 [] [.ptr (st.heap.length+3) 0,.ptr (st.heap.length+2) 0]),(6,y6),(7,.ptr (st.heap.length+6) 0),(8,.fn 134 [] [.ptr (st.heap.length+6) 0,.ptr (st.heap.length+5) 0,.ptr (st.heap.length+3) 0])]++tl,
         pst st (HI st P0 (af p w u) ov' (.list t 6 tk nn (L.map ab.dv)) fr' 0 J') K')∧Acc st K' 8 ((xs++X).map It.dv) ov'∧(xs++X).length≤3*L.length∧bk p.text L pl d.length run fr (m::r)=X++(if fr'<L.length then [dD L fr' L.length] else []):=by
        intro q hq;obtain⟨ov1,J1,K1,hS,hA1⟩:=hsh (J++[.cells .plain m.cs,.cells .plain q.cs]);obtain⟨ov2,K2,hY,hA2⟩:=Aw (st:=st) (P0:=P0) (P1:=af p w u) (lv:=.list t 6 tk nn (L.map ab.dv)) (J:=(J++[.cells .plain m.cs,.cells .plain q.cs])++J1) (fr:=fr) q (by simp;omega) hA1;obtain⟨ov',fr',J',K',X,y6,tl,hJ,a1,a2,a3⟩:=ih (d++[m]) run d.length (((J++[.cells .plain m.cs,.cells .plain q.cs])++J1)++[.cells .plain q.cs]) K2 ((xs++[dD L fr d.length])++[q]) ov2 (by simp[hd]) (by simp) (by simp;omega) (by simp;omega) hA2;simp only[aag,aal] at hJ a3;refine⟨ov',fr',J',K',dD L fr d.length::q::X,y6,tl,ov1,ov2,J1,K1,K2,hS,hY,hJ,by simpa using a1,by simpa using a2,?_⟩;rw[hq,a3];rfl
       cases hp:pl.getD d.length false with
       | true=>
         have hq:bk p.text L pl d.length run fr (m::r)=dD L fr d.length::yK m::bk p.text L pl (d.length+1) run d.length r:=by
          simp only[bk,hb,hkf2,hp,if_false,if_true,abk]
         obtain⟨ov',fr',J',K',X,y6,tl,ov1,ov2,J1,K1,K2,hS,hY,hJ,a1,a2,a3⟩:=fin (yK m) hq;refine⟨ov',fr',J',K',X,y6,tl,?_,a1,a2,a3⟩;rw[hp] at hpd;generalize L.map ab.dv=V at *;have g1':V[d.length]'l1=m.dv:=by rw[aaa l1] at g1;exact aab.inj g1
         simp only[plV] at hJ ⊢;generalize pl.map DV.bool=PL at *;have p1':PL[d.length]'lpd=.bool true:=by rw[aaa lpd] at hpd;exact aab.inj hpd
         rw[hb] at hbx;simp only[HI,aau,aaS,aaF] at hS hY hJ ⊢;simp only[ab.dv,ab.cs,yK,It.dv,It.cs] at hbx hS hY hJ g1';simp at hS hY hJ;rw[ae (L:=iW) rfl];simp[kG,h0,g1,g1',l1,hbx,hkf',hkf2,hpd,p1',lpd,hhy,hS,hY,eE,hw1,hJ,ab.dv,ab.cs]
       | false=>
         have hd1:=hds (J++[.cells .plain m.cs,.cells .plain [.int .i64 3,.int .i64 m.a,.int .i64 m.a,.int .i64 0,.int .i64 0,.int .i64 0,.int .i64 0,.bool false]]) (d.length-1) (by omega);have hd2:=hds (J++[.cells .plain m.cs,.cells .plain [.int .i64 3,.int .i64 m.a,.int .i64 m.a,.int .i64 0,.int .i64 0,.int .i64 0,.int .i64 0,.bool false]]) d.length h0;have hcz:((d.length-1:Nat):Int)=(d.length:Int)-1:=by omega
         rw[hcz] at hd1;rw[hgm] at hd2
         cases hdash:eL p.text (L.getD (d.length-1) mz) && !eL p.text m&&decide (run<d.length-1) with
         | true=>
           have hq:bk p.text L pl d.length run fr (m::r)=dD L fr d.length::yQ m::bk p.text L pl (d.length+1) run d.length r:=by
            simp only[bk,hb,hkf2,hp,hdash,if_false,if_true,abk,aao]
           obtain⟨ov',fr',J',K',X,y6,tl,ov1,ov2,J1,K1,K2,hS,hY,hJ,a1,a2,a3⟩:=fin (yQ m) hq;refine⟨ov',fr',J',K',X,y6,tl,?_,a1,a2,a3⟩;simp only[aac,abn,decide_eq_true_eq] at hdash;obtain⟨⟨q1,q2⟩,q3⟩:=hdash;have q3':(run:Int)<(d.length:Int)-1:=by omega
           rw[q1] at hd1;rw[q2] at hd2;rw[hp] at hpd;generalize L.map ab.dv=V at *;have g1':V[d.length]'l1=m.dv:=by rw[aaa l1] at g1;exact aab.inj g1
           simp only[plV] at hJ ⊢;generalize pl.map DV.bool=PL at *;have p1':PL[d.length]'lpd=.bool false:=by rw[aaa lpd] at hpd;exact aab.inj hpd
           rw[hb] at hbx;simp only[HI,aau,aaS,aaF] at hS hY hJ hd1 hd2 ⊢;simp only[ab.dv,ab.cs,yQ,It.dv,It.cs] at hbx hS hY hJ hd1 hd2 g1';simp at hS hY hJ hd1 hd2;rw[ae (L:=iW) rfl];simp[kG,h0,g1,g1',l1,hbx,hkf',hkf2,hpd,p1',lpd,hwm,hd1,hd2,q3',hS,hY,eE,hw1,hJ,ab.dv,ab.cs]
         | false=>
           have hq:bk p.text L pl d.length run fr (m::r)=bk p.text L pl (d.length+1) run fr r:=by
            simp only[bk,hb,hkf2,hp,hdash,if_false,abk,aao]
           obtain⟨ov',fr',J',K',X,y6,tl,hJ,a1,a2,a3⟩:=ih (d++[m]) run fr (J++[.cells .plain m.cs,.cells .plain [.int .i64 3,.int .i64 m.a,.int .i64 m.a,.int .i64 0,.int .i64 0,.int .i64 0,.int .i64 0,.bool false]]) K xs ov (by simp[hd]) (by simp;omega) (by simp;omega) (by simp;omega) hA;simp only[aag,aal] at hJ a3;refine⟨ov',fr',J',K',X,y6,tl,?_,a1,a2,by rw[hq,a3]⟩;rw[hp] at hpd;generalize L.map ab.dv=V at *;have g1':V[d.length]'l1=m.dv:=by rw[aaa l1] at g1;exact aab.inj g1
           simp only[plV] at hJ ⊢;generalize pl.map DV.bool=PL at *;have p1':PL[d.length]'lpd=.bool false:=by rw[aaa lpd] at hpd;exact aab.inj hpd
           rw[hb] at hbx;simp only[HI,aau,aaS,aaF] at hJ hd1 hd2 ⊢;simp only[ab.dv,ab.cs] at hbx hJ hd1 hd2 g1'
           cases q1:eL p.text (L.getD (d.length-1) mz) with
           | false=>
             rw[q1] at hd1;simp at hJ hd1;rw[ae (L:=iW) rfl];simp[kG,h0,g1,g1',l1,hbx,hkf',hkf2,hpd,p1',lpd,hwm,hd1,eE,hw1,hJ,ab.dv,ab.cs]
           | true=>
             rw[q1] at hd1 hdash
             cases q2:eL p.text m with
             | true=>
               rw[q2] at hd2;simp at hJ hd1 hd2;rw[ae (L:=iW) rfl];simp[kG,h0,g1,g1',l1,hbx,hkf',hkf2,hpd,p1',lpd,hwm,hd1,hd2,eE,hw1,hJ,ab.dv,ab.cs]
             | false=>
               rw[q2] at hd2 hdash;have q3:¬ run<d.length-1:=by simpa using hdash
               have q3':¬ (run:Int)<(d.length:Int)-1:=by omega
               simp at hJ hd1 hd2;rw[ae (L:=iW) rfl];simp[kG,h0,g1,g1',l1,hbx,hkf',hkf2,hpd,p1',lpd,hwm,hd1,hd2,q3',eE,hw1,hJ,ab.dv,ab.cs]
end
def cS (L:List ab) (z:Int):Nat→Nat→Nat
 | 0,b=>b
 | f+1,b=>match L[b]? with | some m=>if m.k=1∧m.s=z then cS L z f (b+1) else b | none=>b
def byL (s:List UInt8) (l:List ab):List UInt8:=l.map fun m=>bAt s m.a.toNat
def gS (pl:List Bool) (a:Nat) (pts:List Nat):List Bool:=pts.foldl (fun o k=>o.set (a+k) true) pl
def jn (w:List UInt8):List Nat:=if jm w=true then points dQ eW (w.map cM) else []
def dG (s:List UInt8) (L:List ab):Nat→Nat→List Bool→List Bool
 | 0,_,pl=>pl
 | f+1,a,pl=>match L[a]? with
   | none=>pl
   | some m=>if m.k=1 then dG s L f (cS L m.s L.length a) (gS pl a (jn (byL s ((L.drop a).take (cS L m.s L.length a-a))))) else dG s L f (a+1) pl
def fK (s:List UInt8) (L:List ab) (hy:Int):List Bool:=if hy=0 then aap (L.length+1) false else dG s L (L.length+1) 0 (aap (L.length+1) false)
theorem oS:∀ (pts:List Nat) (pl:List Bool) (a:Nat),(gS pl a pts).length=pl.length
 | [],_,_=>rfl
 | k::r,pl,a=>by unfold gS;rw[List.foldl_cons];have:=oS r (pl.set (a+k) true) a;unfold gS at this;rw[this];simp
theorem mK (s:List UInt8) (L:List ab):∀ (f a:Nat) (pl:List Bool),(dG s L f a pl).length=pl.length
 | 0,_,_=>rfl
 | f+1,a,pl=>by
   simp only[dG];split
   · rfl
   · split
     · rw[mK s L f,oS]
     · rw[mK s L f]
theorem oO (s:List UInt8) (L:List ab) (hy:Int):(fK s L hy).length=L.length+1:=by
 unfold fK;split
 · simp
 · rw[mK];simp
theorem oz (L:List ab) (z:Int):∀ f b,b≤L.length→b≤cS L z f b∧cS L z f b≤L.length
 | 0,b,h=>⟨aai _,h⟩
 | f+1,b,h=>by
   simp only[cS];split
   · rename_i m hm;have:=(aad.1 hm).1;split
     · have:=oz L z f (b+1) (by omega);omega
     · exact⟨aai _,h⟩
   · exact⟨aai _,h⟩
theorem vg {L:List ab} {a:Nat} {m:ab} (h:L[a]? = some m) (hk:m.k=1):a<cS L m.s L.length a:=by
 have hl:=(aad.1 h).1;obtain⟨f,hf⟩:∃ f,L.length=f+1:=⟨L.length-1,by omega⟩;rw[hf];simp only[cS,h,hk,true_and,if_true];have:=(oz L m.s f (a+1) (by omega)).1;omega
theorem NA:∀ (s:List UInt8) (k:Nat),∀ x∈plc k s,x≤k+(aD s).length:=by
 intro s
 have h:∀ r:List UInt8,∀ k,∀ x∈plc k r.reverse,x≤k+(aD r.reverse).length:=by
  intro r
  induction r with
  | nil=>intro k x hx;simp[plc] at hx
  | cons c r ih=>
    intro k x hx;rw[List.reverse_cons] at hx ⊢;by_cases hc:c.toNat=45
    · rw[lj _ _ _ hc] at hx;rw[pK _ _ hc];rcases aaA.1 hx with hx | hx
      · exact ih k x hx
      · simp at hx;omega
    · rw[oy _ _ _ hc] at hx;rw[sc _ _ hc];have:=ih k x hx;simp;omega
 intro k x hx;have:=h s.reverse k x (by simpa using hx);simpa using this
theorem Et (ps es:List (List UInt8)) (w:List UInt8):∀ k∈points ps es w,k≤w.length:=by
 intro k hk;unfold points at hk;split at hk
 · rename_i s hs;have h1:=List.find?_some hs;simp only[beq_iff_eq] at h1;have:=NA s 0 k hk;rw[h1] at this;omega
 · unfold zG at hk;have:=List.mem_range'_1.1 (List.mem_filter.1 hk).1;omega
theorem Cn (w:List UInt8):∀ k∈jn w,k≤w.length:=by
 intro k hk;unfold jn at hk;split at hk
 · have:=Et _ _ _ k hk;simpa using this
 · cases hk
theorem zB (w:List UInt8):(jn w).length≤200000:=by
 unfold jn;split
 · rename_i hok;have:=BY dQ eW (w.map cM) iG;simp only[jm,aac,decide_eq_true_eq] at hok;simp only[aaP] at this;omega
 · simp
section
variable {st:St}
theorem NU {G:List HO} {K:List Nat} {kO a b n:Nat} {y2 y6:DV} {lv v:DV} {pts:List Nat} (hp:Lw 1 (pts.map i6) v) (hpl:pts.length≤1000000) (hn:n≤100000) (ha:a≤100000) (hb:∀ k∈pts,a+k<n):∀ (r d:List Nat) (pl:List Bool) (G:List HO),pts=d++r→pl.length=n→rowAt G kO=some (.plain,pl.map DV.bool) →
 ∃ tl,(E tab).C xl [(1,lv),(2,y2),(5,.hsl 1 false (st.heap.length+kO) 0 n (some n)),(6,y6),(7,.int .i64 a),(8,.int .i64 b),(82,v),(83,.int .i64 pts.length),(84,.int .i64 d.length)] (pst st G K) =
   some (.exit 4,[(1,lv),(2,y2),(5,.hsl 1 false (st.heap.length+kO) 0 n (some n)),(6,y6),(7,.int .i64 a),(8,.int .i64 b)]++tl,pst st (G.set kO (.cells .plain ((gS pl a r).map DV.bool))) K):=by
 intro r
 induction r with
 | nil=>
   intro d pl G hd hl hr;obtain rfl:pts=d:=by simpa using hd
   have hset:G.set kO (.cells .plain ((gS pl a []).map DV.bool))=G:=by
    have hk:=bz hr;apply aa4;intro j;by_cases hj:j=kO
    · subst hj;rw[aaq hk,aN.1 hr];rfl
    · rw[aam (fun e=>hj e.symm)]
   rw[hset];refine⟨[(82,v),(83,.int .i64 pts.length),(84,.int .i64 pts.length),(85,.bool false)],?_⟩;rw[ae (L:=xl) rfl];simp[Bl]
 | cons x r ih=>
   intro d pl G hd hl hr;have hk:=bz hr;have h0:d.length<pts.length:=by simp[hd]
   have hw1:IntKind.i64.wrap ((d.length:Int)+1)=(d.length:Int)+1:=by rw[ay (by omega)]
   have hax:=hb x (by simp[hd]);have hwa:IntKind.i64.wrap ((a:Int)+x)=((a+x:Nat):Int):=by rw[ay (by omega)];simp
   have v0:Vw (pst st G K) 1 false (pts.map i6) v:=hp.vw;have e1:=fun st'=>v0.bC (i:=d.length) (by simpa using h0) .i64 st';have e2:=v0.nU Ch (i:=d.length) (x:=.int .i64 x) (by simp[hd,i6]);have hlt:a+x<(pl.map DV.bool).length:=by simp;omega
   have hsp:=eZ (x:=.bool true) hlt;have hset:(pl.map DV.bool).set (a+x) (.bool true)=(pl.set (a+x) true).map DV.bool:=by rw[List.map_set]
   rw[hset] at hsp;have hle:a+x+1≤(pl.map DV.bool).length:=by omega
   obtain⟨tl,hJ⟩:=ih (d++[x]) (pl.set (a+x) true) (G.set kO (.cells .plain ((pl.set (a+x) true).map DV.bool))) (by simp[hd]) (by simpa using hl) (dO hk _ _);refine⟨tl,?_⟩;rw[abH] at hJ;have e3:gS pl a (x::r)=gS (pl.set (a+x) true) a r:=rfl;rw[e3];generalize (gS (pl.set (a+x) true) a r).map DV.bool=W at *;generalize (pl.set (a+x) true).map DV.bool=W1 at *;generalize pl.map DV.bool=PM at *;generalize a+x=ax at *;simp only[bj] at hsp;simp at hJ hsp;have hax2:(ax:Int)<n:=by omega
   rw[ae (L:=xl) rfl];simp[Bl,h0,e1,e2,hwa,hax,hax2,hr,hle,hsp,hw1,hJ]
theorem pN {L:List ab} {a b:Nat} {m:ab} (h:L[b]? = some m) (hab:a≤b):(L.drop a).take (b+1-a)=(L.drop a).take (b-a)++[m]:=by
 have e:b+1-a=(b-a)+1:=by omega
 rw[e,List.take_add_one,List.getElem?_drop,show a+(b-a)=b by omega,h];rfl
theorem OC {L:List ab} {p:aI} {w u:LW} (hL:MOk p.text L) {t n:Nat} {tk:Tk} {nn:Bool} (h6:L≠[]→n=6) {H:List HO} (hr:rowAt H 0=some (.plain,af p w u)) {y5 y6:DV} {a:Nat} {ma:ab} (hma:L[a]? = some ma):∀ (f b:Nat) (K:List Nat) (v:DV),L.length≤b+f→a≤b→b≤L.length→Acc st K 1 ((byL p.text ((L.drop a).take (b-a))).map u8) v →
 ∃ (K':List Nat) (v':DV) (tl:Fr),(E tab).C nr [(1,.list t n tk nn (L.map ab.dv)),(2,.ptr st.heap.length 0),(5,y5),(6,y6),(7,.int .i64 a),(8,.int .i64 b),(9,v)] (pst st H K) =
   some (.exit 2,[(1,.list t n tk nn (L.map ab.dv)),(2,.ptr st.heap.length 0),(5,y5),(6,y6),(7,.int .i64 a),(8,.int .i64 (cS L ma.s f b:Nat)),(9,v')]++tl,pst st H K')∧Acc st K' 1 ((byL p.text ((L.drop a).take (cS L ma.s f b-a))).map u8) v':=by
 have hlen:=hL.len;have hal:=(aad.1 hma).1;have hV0:(L.map ab.dv).length=L.length:=by simp
 obtain rfl:=h6 (by intro e;simp[e] at hal);have ga:(L.map ab.dv)[a]? = some ma.dv:=by rw[aaG,hma];rfl
 have la:a<(L.map ab.dv).length:=by simpa using hal
 have ga':(L.map ab.dv)[a]'la=ma.dv:=by rw[aaa la] at ga;exact aab.inj ga
 intro f
 induction f with
 | zero=>
   intro b K v h1 h2 h3 hA;obtain rfl:b=L.length:=by omega
   refine⟨K,v,[(61,.bool false)],?_,hA⟩;generalize L.map ab.dv=V at *;rw[ae (L:=nr) rfl];simp[pg,cS,hV0]
 | succ f ih=>
   intro b K v h1 h2 h3 hA;have hw1:IntKind.i64.wrap ((b:Int)+1)=(b:Int)+1:=by rw[ay (by omega)]
   by_cases hb:b<L.length
   · obtain⟨m,hm⟩:∃ m,L[b]? = some m:=⟨L[b],aaa hb⟩;have gb:(L.map ab.dv)[b]? = some m.dv:=by rw[aaG,hm];rfl
     have lb:b<(L.map ab.dv).length:=by simpa using hb
     have gb':(L.map ab.dv)[b]'lb=m.dv:=by rw[aaa lb] at gb;exact aab.inj gb
     have hat:=hL.at_ m (aat hm);have hbt:p.text[m.a.toNat]? = some (bAt p.text m.a.toNat):=lz (by omega);have hlt:m.a.toNat<p.text.length:=by omega
     have hge:p.text[m.a.toNat]'hlt=bAt p.text m.a.toNat:=by rw[aaa hlt] at hbt;exact aab.inj hbt
     by_cases hk:m.k=1
     · by_cases hz:m.s=ma.s
       · have e:cS L ma.s (f+1) b=cS L ma.s f (b+1):=by simp only[cS,hm,hk,hz,and_self,if_true]
         rw[e];have hts:=pN hm h2;have hbl:(byL p.text ((L.drop a).take (b-a))).length≤4096:=by simp[byL];omega
         obtain⟨v1,K1,hap,hA1⟩:=cR (st:=st) (H:=H) (by_:=1) (ag:=false) (ys:=[u8 (bAt p.text m.a.toNat)]) (t:=st.cur) (tk:=.tight) hA (by omega) (by simp) (by intro y hy;simp only[aaw] at hy;subst hy;exact⟨rfl,rfl,rfl⟩) (by simp[aB];omega) (by simp[aB];omega);obtain⟨K',v',tl,hJ,hA2⟩:=ih (b+1) K1 v1 (by omega) (by omega) (by omega) (by rw[hts];simpa[byL] using hA1);refine⟨K',v',tl,?_,hA2⟩;simp only[u8] at hap;generalize cS L ma.s f (b+1)=eb at *;generalize L.map ab.dv=V at *;simp at hJ;rw[ae (L:=nr) rfl];simp[pg,hV0,hb,ga,ga',la,gb,gb',lb,ab.dv,ab.cs,hk,hz,hr,hat.1,hlt,hbt,hge,aC,aO,chunk,hap,hw1,hJ]
       · have e:cS L ma.s (f+1) b=b:=by simp only[cS,hm,hz,and_false,if_false]
         rw[e];refine⟨K,v,[(61,.bool false)],?_,hA⟩;generalize L.map ab.dv=V at *;rw[ae (L:=nr) rfl];simp[pg,hV0,hb,ga,ga',la,gb,gb',lb,ab.dv,ab.cs,hk,hz]
     · have e:cS L ma.s (f+1) b=b:=by simp only[cS,hm,hk,false_and,if_false]
       rw[e];refine⟨K,v,[(61,.bool false)],?_,hA⟩;generalize L.map ab.dv=V at *;rw[ae (L:=nr) rfl];simp[pg,hV0,hb,gb,gb',lb,ab.dv,ab.cs,hk]
   · have hbn:L[b]? = none:=aaU (by omega);have e:cS L ma.s (f+1) b=b:=by simp only[cS,hbn]
     rw[e];refine⟨K,v,[(61,.bool false)],?_,hA⟩;have hb':¬ (b:Int)<L.length:=by omega
     generalize L.map ab.dv=V at *;rw[ae (L:=nr) rfl];simp[pg,hV0,hb,hb']
theorem Mf {L:List ab} {p:aI} {w u:LW} (hL:MOk p.text L) {t n:Nat} {tk:Tk} {nn:Bool} (h6:L≠[]→n=6):∀ (f a:Nat) (pl:List Bool) (G:List HO) (K:List Nat),L.length<a+f→a≤L.length→pl.length=L.length+1→rowAt G 0=some (.plain,af p w u)→rowAt G 1=some (.plain,pl.map DV.bool)→ru st G 2 dQ eW →
 ∃ (G':List HO) (K':List Nat) (tl:Fr),(E tab).C qV [(1,.list t n tk nn (L.map ab.dv)),(2,.ptr st.heap.length 0),(5,.hsl 1 false (st.heap.length+1) 0 (L.length+1) (some (L.length+1))),(6,.ptr (st.heap.length+4) 0),(7,.int .i64 a)] (pst st G K) =
   some (.exit 0,[(1,.list t n tk nn (L.map ab.dv)),(2,.ptr st.heap.length 0),(5,.hsl 1 false (st.heap.length+1) 0 (L.length+1) (some (L.length+1)))]++tl,pst st G' K')∧rowAt G' 1=some (.plain,(dG p.text L f a pl).map DV.bool):=by
 have hlen:=hL.len;have hV0:(L.map ab.dv).length=L.length:=by simp
 intro f
 induction f with
 | zero=>intro a pl G K h1 h2;omega
 | succ f ih=>
   intro a pl G K h1 h2 h3 hr0 hr1 hH;have hw1:IntKind.i64.wrap ((a:Int)+1)=(a:Int)+1:=by rw[ay (by omega)]
   by_cases ha:a<L.length
   · obtain⟨m,hm⟩:∃ m,L[a]? = some m:=⟨L[a],aaa ha⟩;obtain rfl:=h6 (by intro e;simp[e] at ha);have gb:(L.map ab.dv)[a]? = some m.dv:=by rw[aaG,hm];rfl
     have lb:a<(L.map ab.dv).length:=by simpa using ha
     have gb':(L.map ab.dv)[a]'lb=m.dv:=by rw[aaa lb] at gb;exact aab.inj gb
     by_cases hk:m.k=1
     · have hgt:=vg hm hk;have hle:=(oz L m.s L.length a (by omega)).2;have e:dG p.text L (f+1) a pl=dG p.text L f (cS L m.s L.length a) (gS pl a (jn (byL p.text ((L.drop a).take (cS L m.s L.length a-a))))):=by simp only[dG,hm,hk,if_true]
       rw[e];obtain⟨K1,v1,tl1,hI,hA1⟩:=OC (K:=K) hL (fun _=>rfl) hr0 (y5:=.hsl 1 false (st.heap.length+1) 0 (L.length+1) (some (L.length+1))) (y6:=.ptr (st.heap.length+4) 0) (t:=t) (tk:=tk) (nn:=nn) (st:=st) hm L.length a (.list 0 0 .no false []) (by omega) (aai _) (by omega) (by rw[Nat.sub_self];simpa[byL] using dU st K 1 0 0 .no);have hwl:(byL p.text ((L.drop a).take (cS L m.s L.length a-a))).length=cS L m.s L.length a-a:=by simp[byL];omega
       generalize hW:byL p.text ((L.drop a).take (cS L m.s L.length a-a))=W at *;generalize cS L m.s L.length a=b at *;obtain⟨q1,q2⟩:=vp hA1 (pst st G K1);obtain⟨v2,X2,K2,hP,hl2⟩:=DU (K:=K1) hH iG W;have hpts:(if jm W=true then points dQ eW (W.map cM) else [])=jn W:=rfl;rw[hpts] at hl2;have hpl:=E6 (ps:=dQ) iG W;rw[hpts] at hpl;have hple:=Cn W
       have hplen:(jn W).length≤1000000:=by
        have:=zB W;omega
       have hr1':rowAt (G++X2) 1=some (.plain,pl.map DV.bool):=fq hr1 _;obtain⟨tl2,hI2⟩:=NU (st:=st) (G:=G) (K:=K2) (kO:=1) (a:=a) (b:=b) (n:=L.length+1) (y2:=.ptr st.heap.length 0) (y6:=.ptr (st.heap.length+4) 0) (lv:=.list t 6 tk nn (L.map ab.dv)) hl2 hplen (by omega) (by omega) (fun k hk=>by have:=hple k hk;omega) (jn W) [] pl (G++X2) rfl h3 hr1'
       obtain⟨G',K',tl,hJ,hG'⟩:=ih b (gS pl a (jn W)) ((G++X2).set 1 (.cells .plain ((gS pl a (jn W)).map DV.bool))) K2 (by omega) hle (by rw[oS];exact h3) (by
        rw[aN,aam (by omega)];exact aN.1 (fq hr0 _)) (dO (bz hr1') _ _) (by
        refine(hH.same (G':=(G++X2).set 1 (.cells .plain ((gS pl a (jn W)).map DV.bool))) fun j hj hjl=>?_)
        rw[aam (by omega),aak hjl])
       refine⟨G',K',tl,?_,hG'⟩;obtain⟨vt,vn,vtk,vnn,rfl⟩:=bK hA1;have e2:=(hl2.vw (st:=st) (ag:=false)).len;simp only[aaP] at e2;have hbb:=lB W;generalize (gS pl a (jn W)).map DV.bool=SP at *;generalize (jn W).length=pw at *;generalize W.map u8=WU at *;generalize L.map ab.dv=V at *;generalize G++X2=G2 at *;simp at hI hI2 hJ;rw[ae (L:=qV) rfl];simp[wi,hV0,ha,gb,gb',lb,ab.dv,ab.cs,hk,hI,ny,q1,hbb,hP,e2,hI2,hJ]
     · have e:dG p.text L (f+1) a pl=dG p.text L f (a+1) pl:=by simp only[dG,hm,hk,if_false]
       rw[e];obtain⟨G',K',tl,hJ,hG'⟩:=ih (a+1) pl G K (by omega) (by omega) h3 hr0 hr1 hH;refine⟨G',K',tl,?_,hG'⟩;generalize L.map ab.dv=V at *;simp at hJ;rw[ae (L:=qV) rfl];simp[wi,hV0,ha,gb,gb',lb,ab.dv,ab.cs,hk,hw1,hJ]
   · have hbn:L[a]? = none:=aaU (by omega);have e:dG p.text L (f+1) a pl=pl:=by simp only[dG,hbn]
     rw[e];refine⟨G,K,[(6,.ptr (st.heap.length+4) 0),(7,.int .i64 a),(27,.bool false)],?_,hr1⟩;have ha':¬ (a:Int)<L.length:=by omega
     generalize L.map ab.dv=V at *;rw[ae (L:=qV) rfl];simp[wi,hV0,ha,ha']
theorem IY {L:List ab} {p:aI} {w u:LW} (hL:MOk p.text L) {t n:Nat} {tk:Tk} {nn:Bool} (h6:L≠[]→n=6) :
 ∃ t',(E tab).F 132 [.agg (af p w u),.list t n tk nn (L.map ab.dv)] st=some (.list t' 1 .tight true ((fK p.text L p.pr.br).map DV.bool),st):=by
 have hlen:=hL.len;have hV0:(L.map ab.dv).length=L.length:=by simp
 have hel:∀ (b:List Bool),∀ y∈b.map DV.bool,dX 1 false y:=by intro b y hy;obtain⟨c,_,rfl⟩:=aay.1 hy;exact⟨rfl,rfl,rfl⟩
 have hw1:IntKind.i64.wrap ((L.length:Int)+1)=(L.length:Int)+1:=by rw[ay (by omega)]
 have hroom:((L.length:Int)+1)≤140737488355328:=by omega
 have hroom2:L.length+1≤140737488355328:=by omega
 have hpos:(0:Int)≤(L.length:Int)+1:=by omega
 have htn:((L.length:Int)+1).toNat=L.length+1:=by omega
 have hrep:aO [DV.bool false] (L.length+1)=(aap (L.length+1) false).map DV.bool:=by rw[lr,List.map_replicate]
 have ph:(af p w u)[14]? = some (.int .i64 p.pr.br):=rfl;have hpl:=oO p.text L p.pr.br
 have hex:∀ (G:List HO) (K:List Nat),rowAt G 1=some (.plain,(fK p.text L p.pr.br).map DV.bool)→bq st (pst st G K) (.hsl 1 false (st.heap.length+1) 0 (L.length+1) (some (L.length+1)))=some (.list st.cur 1 .tight true ((fK p.text L p.pr.br).map DV.bool)):=by
  intro G K h;have hfl:=gu _ (hel (fK p.text L p.pr.br));have:=rf (st:=st) (H:=G) (K:=K) (k:=1) (n:=1) (ag:=false) (g:=.plain) (ys:=(fK p.text L p.pr.br).map DV.bool) (cap:=some (L.length+1)) (by rw[hfl];exact h) (by omega) (.inr rfl) (hel _);rw[aaP,hpl,if_pos rfl] at this;exact this
 refine⟨st.cur,?_⟩;rw[aK Ry rfl];by_cases hy:p.pr.br=0
 · have e:fK p.text L p.pr.br=aap (L.length+1) false:=by simp only[fK,hy,if_true]
   have hx:=hex [.cells .plain (af p w u),.cells .plain ((aap (L.length+1) false).map DV.bool)] [] (by rw[e];rfl);rw[e] at hx ⊢;rw[hy] at ph;generalize (aap (L.length+1) false).map DV.bool=Z at *;generalize L.map ab.dv=V at *;simp[f132,hV0,hw1,aB,hroom,hroom2,hpos,htn,hrep,ph,hx]
 · obtain⟨X,hP,hH⟩:=Gw (st:=st) [.cells .plain (af p w u),.cells .plain ((aap (L.length+1) false).map DV.bool)] [];obtain⟨G',K',tl,hL2,hG'⟩:=Mf (st:=st) (w:=w) (u:=u) hL (t:=t) (tk:=tk) (nn:=nn) h6 (L.length+1) 0 (aap (L.length+1) false) ([.cells .plain (af p w u),.cells .plain ((aap (L.length+1) false).map DV.bool)]++X) [] (by omega) (by omega) (by simp) rfl rfl hH;have e:fK p.text L p.pr.br=dG p.text L (L.length+1) 0 (aap (L.length+1) false):=by simp only[fK,hy,if_false]
   have hx:=hex G' K' (by rw[e];exact hG');rw[e] at hx ⊢;generalize (dG p.text L (L.length+1) 0 (aap (L.length+1) false)).map DV.bool=Y at *;generalize (aap (L.length+1) false).map DV.bool=Z at *;generalize L.map ab.dv=V at *;simp at hP hL2;simp[f132,hV0,hw1,aB,hroom,hroom2,hpos,htn,hrep,ph,hy,hP,hL2,hx]
end
def aH (p:aI):Bool:=decide (2≤p.pr.drop)&&(decide (0<(ak p).length)&&((ak p).getD 0 mz).k==1)
def ca (p:aI):List ab:=if aH p=true then (ak p).drop 1 else ak p
def b4 (p:aI):List It:=bk p.text (ca p) (fK p.text (ca p) p.pr.br) 0 0 0 (ca p)
theorem mJ (p:aI):∀ (l:List Clu) (kr:Bool) (bf:UInt8) (ps:Int) (mk:List (List UInt8)),∀ m∈cK p kr bf ps mk l,∃ c∈l,m.a=c.a∧m.s=sizeOf p c.a
 | [],_,_,_,_,m,h=>by cases h
 | c::r,kr,bf,ps,mk,m,h=>by
   simp only[cK] at h;rcases aas.1 h with rfl | h
   · exact⟨c,by simp,rfl,rfl⟩
   · obtain⟨c',h1,h2⟩:=mJ p r _ _ _ _ m h;exact⟨c',by simp[h1],h2⟩
theorem cD (p:aI):MOk p.text (ak p):=by
 refine⟨l6 p,F7 p,?_,?_⟩
 · intro m hm;unfold ak at hm;split at hm
   · obtain⟨c,hc,h1,_⟩:=mJ p _ _ _ _ _ m hm;have:=qX (iI p.text p.text.length 0).1 c hc;rw[h1];omega
   · cases hm
 · intro m hm;unfold ak at hm;split at hm
   · rename_i h0;obtain⟨_,_,hsp,hpr,_⟩:=dk h0;obtain⟨c,hc,_,h2⟩:=mJ p _ _ _ _ _ m hm
     have hS:km p.aF:=by
      unfold cN at hsp
      cases e:cO p.text.length p.aF with
      | none=>rw[e] at hsp;simp at hsp
      | some k=>exact(iE _ _ _ e).1
     have:=ke p hpr hS c.a;rw[h2];exact⟨this.1,this.2.1⟩
   · cases hm
theorem MOk.drop {s:List UInt8} {L:List ab} (h:MOk s L) (n:Nat):MOk s (L.drop n):=
 ⟨by rw[aa2];have:=h.len;omega,aae.2 fun m hm=>aae.1 h.ok m (aaD hm),fun m hm=>h.at_ m (aaD hm),fun m hm=>h.sz m (aaD hm)⟩
theorem l5 (p:aI):MOk p.text (ca p):=by
 unfold ca;split
 · exact(cD p).drop 1
 · exact cD p
def jc (tk:Tk):Tk:=match tk with | .own _ _=>.no | k=>k
theorem exl (st st':St) (tag n:Nat) (tk:Tk) (nn:Bool) (xs:List DV):bq st st' (.list tag n tk nn xs)=some (.list tag n (jc tk) nn xs):=by cases tk<;>rfl
@[simp] theorem Ki (l:Nat):(DV.yield l).leaves=[.yield l]:=rfl
section
variable {st:St} {p:aI} {w u:LW}
theorem vj:(af p w u)[16]? = some (.int .i64 p.pr.drop):=rfl
theorem Ky (hp:p.small) (hw:w.ok 4 p.aF) (hu:u.ok 1 p.marks):∃ v:LW,(E tab).F 117 [.agg (af p w u)] st=some (.tuple [.list v.t v.n v.tk v.nn ((if aE p=0 then ca p else []).map ab.dv),.int .i64 (aE p)],st)∧v.ok 6 (if aE p=0 then ca p else []):=by
 rw[aK PV rfl];obtain⟨_,hm,v,rfl,hv⟩:=ra p hp w u hw hu (pst st [.cells .plain (af p w u)] []);have hpd:=vj (p:=p) (w:=w) (u:=u);by_cases h0:aE p=0
 · have hV0:((ak p).map ab.dv).length=(ak p).length:=by simp
   rw[if_pos h0];unfold ca aH;by_cases h1:2≤p.pr.drop
   · by_cases h2:0<(ak p).length
     · have h2':(0:Int)<(ak p).length:=by omega
       have hvn:=hv.n (by intro e;rw[e] at h2;simp at h2);have g0:=dN (L:=ak p) h2;have l0:0<((ak p).map ab.dv).length:=by simpa using h2
       by_cases h3:((ak p).getD 0 mz).k=1
       · rw[if_pos (by simp only[h1,h2,h3,decide_true,aaB,beq_self_eq_true])];have hs:=lX (n:=6) (en:=v.n) (t:=v.t) (tk:=v.tk) (nn:=v.nn) (xs:=(ak p).map ab.dv) (k:=.i64) (lo:=1) (fun _=>hvn) (by omega) (by simp;omega);refine⟨⟨v.t,v.n,jc (lI v.tk ((ak p).map ab.dv).length 1 ((ak p).map ab.dv).length),v.nn⟩,?_,fun e=>hvn,fun e=>by have:=hv.2 e;simp[this]⟩;have hdr:((ak p).map ab.dv).drop (1:Int).toNat=((ak p).drop 1).map ab.dv:=by rw[List.map_drop];rfl
         rw[hdr] at hs;generalize ((ak p).drop 1).map ab.dv=D at *;generalize (ak p).getD 0 mz=m at *;generalize (ak p).map ab.dv=V at *;have g0':V[0]'l0=m.dv:=by rw[aaa l0] at g0;exact aab.inj g0
         rw[hvn] at hm hs ⊢;have hVl:V.length=(ak p).length:=hV0;rw[hVl] at hs ⊢;simp only[show (1:Int).toNat=1 from rfl] at hs;simp[-cP,exl,f117,hm,h0,hpd,h1,hV0,h2,h2',g0,g0',l0,ab.dv,ab.cs,h3,hs]
       · have h3b:(((ak p).getD 0 mz).k==1)=false:=by rw[beq_eq_false_iff_ne];exact h3
         rw[if_neg (by rw[h3b];simp)];refine⟨⟨v.t,v.n,jc v.tk,v.nn⟩,?_,hv⟩;generalize (ak p).getD 0 mz=m at *;generalize (ak p).map ab.dv=V at *;have g0':V[0]'l0=m.dv:=by rw[aaa l0] at g0;exact aab.inj g0
         rw[hvn] at hm;simp[-cP,exl,f117,hm,h0,hpd,h1,hV0,h2,h2',g0,g0',l0,ab.dv,ab.cs,h3,hvn]
     · have h2':¬ (0:Int)<(ak p).length:=by omega
       rw[if_neg (by simp[h2])];refine⟨⟨v.t,v.n,jc v.tk,v.nn⟩,?_,hv⟩;generalize (ak p).map ab.dv=V at *;simp[-cP,exl,f117,hm,h0,hpd,h1,hV0,h2,h2']
   · rw[if_neg (by simp[h1])];refine⟨⟨v.t,v.n,jc v.tk,v.nn⟩,?_,hv⟩;generalize (ak p).map ab.dv=V at *;simp[-cP,exl,f117,hm,h0,hpd,h1]
 · have hm0:ak p=[]:=by unfold ak;rw[if_neg h0]
   rw[hm0] at hm hv;rw[if_neg h0];refine⟨⟨v.t,v.n,jc v.tk,v.nn⟩,?_,hv⟩;simp at hm;simp[-cP,exl,f117,hm,h0]
theorem KW {L:List ab} (hL:MOk p.text L) {t n:Nat} {tk:Tk} {nn:Bool} (h6:L≠[]→n=6) (h7:nn=true→n=6) (P0:List DV):∃ (ov:DV) (fr:Nat) (J:List HO) (K:List Nat),
 (E tab).F 131 [.yield (st.heap.length+4),.ptr (st.heap.length+2) 0,.ptr (st.heap.length+3) 0] (pst st [.cells .plain P0,.cells .plain [.list 0 0 .no false []],.cells .plain (af p w u),.cells .plain [.list t n tk nn (L.map ab.dv)],loI st 0] []) =
  some (.tuple [],pst st (HI st P0 (af p w u) ov (.list t n tk nn (L.map ab.dv)) fr 0 J) K)∧Acc st K 8 ((bk p.text L (fK p.text L p.pr.br) 0 0 0 L).map It.dv) ov:=by
 obtain⟨t2,hwd⟩:=IY (st:=pst st [.cells .plain P0,.cells .plain [.list 0 0 .no false []],.cells .plain (af p w u),.cells .plain [.list t n tk nn (L.map ab.dv)],loI st 0,.cells .plain [.yield (st.heap.length+4)]] []) (w:=w) (u:=u) hL (t:=t) (n:=n) (tk:=tk) (nn:=nn) h6;obtain⟨ov',fr',J',K',X,y6,tl,hJ,a1,a2,a3⟩:=My (st:=st) (P0:=P0) (w:=w) (u:=u) hL (t:=t) (n:=n) (tk:=tk) (nn:=nn) h6 h7 (oO p.text L p.pr.br) (t2:=t2) (tk2:=.tight) L [] 0 0 [] [] [] (.list 0 0 .no false []) rfl (aai _) (aai _) (by simp) (dU _ _ _ _ _ _);simp only[aaF] at a1 a2;obtain⟨ov2,J2,K2,hS,hA2⟩:=DA (st:=st) (P0:=P0) (P1:=af p w u) (J:=J') (t:=t) (n:=n) (tk:=tk) (nn:=nn) (fr:=fr') hL h6 h7 (k:=L.length) (aai _) (by have:=hL.len;omega) a1;refine⟨ov2,fr',J'++J2,K2,?_,by rw[abp] at a3;rw[a3];exact hA2⟩;rw[iz LC rfl];have hV0:(L.map ab.dv).length=L.length:=by simp
 simp only[plV] at hJ;generalize (fK p.text L p.pr.br).map DV.bool=PL at *;generalize L.map ab.dv=V at *;simp only[HI] at hS hJ ⊢;simp at hS hJ;have hpa:takeN (af p w u) 0 21 true=some (.agg (af p w u)):=rfl;simp[f131,hwd,hV0,hJ,eE,hS]
theorem IA (hp:p.small) (hw:w.ok 4 p.aF) (hu:u.ok 1 p.marks):∃ v,(E tab).F 106 [.agg (af p w u)] st=some (.tuple [v,.int .i64 (aE p)],st)∧Lw 8 ((if aE p=0 then b4 p else []).map It.dv) v:=by
 rw[aK T7 rfl];obtain⟨v,hb,hv⟩:=Ky (st:=pst st [.cells .plain (af p w u)] []) hp hw hu;by_cases h0:aE p=0
 · rw[if_pos h0] at hb hv ⊢;obtain⟨ov,fr,J,K,hwk,hA⟩:=KW (st:=st) (p:=p) (w:=w) (u:=u) (l5 p) (t:=v.t) (tk:=v.tk) hv.n hv.1 (af p w u)
   have hrf:=lL (T:=tab) (st:=st) (H:=[.cells .plain (af p w u),.cells .plain [.list 0 0 .no false []],.cells .plain (af p w u),.cells .plain [.list v.t v.n v.tk v.nn ((ca p).map ab.dv)]]) (K:=[]) (f:=.t 18) (params:=[19]) (live:=[6,18]) (assign:=.region wj [6,7]) (body:=.block 1 (.region vc []))
    (fr:=[(6,.ptr (st.heap.length+1) 0),(18,.fn 131 [] [.ptr (st.heap.length+2) 0,.ptr (st.heap.length+3) 0])]) (g:=131) (first:=[]) (captured:=[.ptr (st.heap.length+2) 0,.ptr (st.heap.length+3) 0]) rfl LC hwk rfl (by decide)
   have h118:(E tab).F 118 [.agg (af p w u),.list v.t v.n v.tk v.nn ((ca p).map ab.dv)] (pst st [.cells .plain (af p w u),.cells .plain [.list 0 0 .no false []]] [])=some (.fn 131 [] [.ptr (st.heap.length+2) 0,.ptr (st.heap.length+3) 0],pst st [.cells .plain (af p w u),.cells .plain [.list 0 0 .no false []],.cells .plain (af p w u),.cells .plain [.list v.t v.n v.tk v.nn ((ca p).map ab.dv)]] []):=by
    rw[iz Qw rfl];simp[f118]
   have hA':=mZ (st':=pst st ((HI st (af p w u) (af p w u) ov (.list v.t v.n v.tk v.nn ((ca p).map ab.dv)) fr 0 J).set 4 (loI st 3)) K) hA;obtain⟨t',n',tk',nn',e1,e2,e3,e4⟩:=hA';refine⟨.list t' n' tk' nn' ((b4 p).map It.dv),?_,.list _ _ _ _ e3 e2⟩;obtain⟨q1,q2,q3,q4,rfl⟩:=bK hA;rw[h0] at hb ⊢;have e1':cj st (pst st ((HI st (af p w u) (af p w u) (.list q1 q2 q3 q4 ((bk p.text (ca p) (fK p.text (ca p) p.pr.br) 0 0 0 (ca p)).map It.dv)) (.list v.t v.n v.tk v.nn ((ca p).map ab.dv)) fr 0 J).set 4 (loI st 3)) K) (.list q1 q2 q3 q4 ((bk p.text (ca p) (fK p.text (ca p) p.pr.br) 0 0 0 (ca p)).map It.dv))=_:=e1;unfold b4;generalize (bk p.text (ca p) (fK p.text (ca p) p.pr.br) 0 0 0 (ca p)).map It.dv=X at *;generalize (ca p).map ab.dv=V at *;simp only[HI] at hrf e1';simp only[loI] at hrf e1';simp at hrf e1';simp[f106,hb,h118,hrf,e1']
 · rw[if_neg h0] at hb hv ⊢;refine⟨.list 0 0 .no false [],?_,.list _ _ _ _ (fun h=>by cases h) (fun _=>rfl)⟩;simp at hb;simp[f106,hb,h0]
end
def cg (L:List ab) (k:Nat):Bool:=decide (0<k)&&((L.getD k mz).k==1&&((L.getD (k-1) mz).k==1&&(L.getD k mz).s==(L.getD (k-1) mz).s))
def j5 (L:List ab):Nat→Nat→Nat
 | 0,b=>b
 | f+1,b=>if b<L.length∧cg L b=true then j5 L f (b+1) else b
def fR (s:List UInt8) (L:List ab):Nat→Nat→List Bool→List Bool
 | 0,_,pl=>pl
 | f+1,a,pl=>fR s L f (a+1) (if (L.getD a mz).k=1∧cg L a=false then gS pl a (jn (byL s ((L.drop a).take (j5 L L.length (a+1)-a)))) else pl)
theorem G7 (L:List ab) (z:Int):∀ (f b:Nat),0<b→b≤L.length→(L.getD (b-1) mz).k=1→(L.getD (b-1) mz).s=z→j5 L f b=cS L z f b
 | 0,b,_,_,_,_=>rfl
 | f+1,b,hb,hbl,h1,h2=>by
   simp only[j5,cS];by_cases h:b<L.length
   · rw[getM h];simp only;by_cases hk:(L.getD b mz).k=1∧(L.getD b mz).s=z
     · have hj:cg L b=true:=by simp only[cg,hk.1,h1,hk.2,h2,decide_eq_true hb,beq_self_eq_true,Bool.and_self]
       rw[if_pos ⟨h,hj⟩,if_pos hk];exact G7 L z f (b+1) (by omega) h (by simpa using hk.1) (by simpa using hk.2)
     · have hj:cg L b=false:=by
        cases e:cg L b with
        | false=>rfl
        | true=>
          exfalso;apply hk;simp only[cg,aac,beq_iff_eq] at e;exact⟨e.2.1,by rw[e.2.2.2,h2]⟩
       rw[if_neg (by rw[hj];simp),if_neg hk]
   · rw[if_neg (fun e=>h e.1),aaU (by omega)]
theorem tW {L:List ab} {a:Nat} {m:ab} (h:L[a]? = some m) (hk:m.k=1):j5 L L.length (a+1)=cS L m.s L.length a:=by
 have hl:=(aad.1 h).1;have hg:L.getD a mz=m:=by rw[aaf,h];rfl
 rw[G7 L m.s L.length (a+1) (by omega) hl (by rw[Nat.add_sub_cancel,hg];exact hk) (by rw[Nat.add_sub_cancel,hg])]
 have more:∀ f b,L.length≤b+f→cS L m.s (f+1) b=cS L m.s f b:=by
  intro f
  induction f with
  | zero=>intro b hb;simp only[cS,aaU (show L.length≤b by omega)]
  | succ f ih=>
    intro b hb;rw[cS]
    cases e:L[b]? with
    | none=>simp only[cS,e]
    | some x=>
      simp only[cS,e];by_cases hc:x.k=1∧x.s=m.s
      · rw[if_pos hc,if_pos hc];exact ih (b+1) (by omega)
      · rw[if_neg hc,if_neg hc]
 obtain⟨f,hf⟩:∃ f,L.length=f+1:=⟨L.length-1,by omega⟩;have e1:cS L m.s L.length a=cS L m.s f (a+1):=by rw[hf];simp only[cS,h,hk,and_self,if_true]
 rw[e1,hf,more f (a+1) (by omega)]
theorem tV {L:List ab} {z:Int}:∀ (f b:Nat),0<b→b≤L.length→(L.getD (b-1) mz).k=1→(L.getD (b-1) mz).s=z→(∀ j,b≤j→j<cS L z f b→cg L j=true)∧(L.length≤b+f→cS L z f b<L.length→cg L (cS L z f b)=false)
 | 0,b,hb,hbl,h1,h2=>by
   simp only[cS];exact⟨fun j h3 h4=>by omega,fun h3 h4=>by omega⟩
 | f+1,b,hb,hbl,h1,h2=>by
   simp only[cS];by_cases h:b<L.length
   · rw[getM h];simp only;by_cases hk:(L.getD b mz).k=1∧(L.getD b mz).s=z
     · rw[if_pos hk];have hj:cg L b=true:=by simp only[cg,hk.1,h1,hk.2,h2,decide_eq_true hb,beq_self_eq_true,Bool.and_self]
       obtain⟨i1,i2⟩:=tV (L:=L) (z:=z) f (b+1) (by omega) h (by simpa using hk.1) (by simpa using hk.2);refine⟨fun j h3 h4=>?_,fun h3 h4=>i2 (by omega) h4⟩;by_cases e:j=b
       · subst e;exact hj
       · exact i1 j (by omega) h4
     · rw[if_neg hk];refine⟨fun j h3 h4=>by omega,fun h3 h4=>?_⟩
       cases e:cg L b with
       | false=>rfl
       | true=>
         exfalso;apply hk;simp only[cg,aac,beq_iff_eq] at e;exact⟨e.2.1,by rw[e.2.2.2,h2]⟩
   · rw[aaU (by omega)];exact⟨fun j h3 h4=>by simp only at h4;omega,fun h3 h4=>by simp only at h4;omega⟩
theorem s4 (s:List UInt8) (L:List ab):∀ (j f a:Nat) (pl:List Bool),(∀ i,a≤i→i<a+j→cg L i=true)→fR s L (f+j) a pl=fR s L f (a+j) pl
 | 0,f,a,pl,_=>rfl
 | j+1,f,a,pl,h=>by
   have h1:=h a (aai _) (by omega);rw[show f+(j+1)=(f+j)+1 by omega];simp only[fR];rw[if_neg (by rw[h1];simp),s4 s L j f (a+1) pl (fun i h2 h3=>h i (by omega) (by omega)),show a+1+j=a+(j+1) by omega]
theorem Bp (s:List UInt8) (L:List ab):∀ (f a:Nat) (pl:List Bool),L.length<a+f→a≤L.length→(a<L.length→cg L a=false)→dG s L f a pl=fR s L (L.length-a) a pl:=by
 intro f
 induction f with
 | zero=>intro a pl h1 h2;omega
 | succ f ih=>
   intro a pl h1 h2 h3;by_cases ha:a<L.length
   · have hm:=getM ha;have hj:=h3 ha;have e0:L.length-a=(L.length-(a+1))+1:=by omega
     simp only[dG,hm];rw[e0];simp only[fR];by_cases hk:(L.getD a mz).k=1
     · have hgt:=vg hm hk;have hle:=(oz L (L.getD a mz).s L.length a (by omega)).2;have hw:=tW hm hk;rw[if_pos hk,if_pos ⟨hk,hj⟩,hw];obtain⟨j1,j2⟩:=tV (L:=L) (z:=(L.getD a mz).s) (L.length-1) (a+1) (by omega) ha (by simpa using hk) (by simp)
       have e1:cS L (L.getD a mz).s L.length a=cS L (L.getD a mz).s (L.length-1) (a+1):=by
        obtain⟨g,hg⟩:∃ g,L.length=g+1:=⟨L.length-1,by omega⟩;rw[hg,Nat.add_sub_cancel];simp only[cS,hm,hk,and_self,if_true]
       generalize hb:cS L (L.getD a mz).s L.length a=b at *;rw[← e1] at j1 j2;rw[ih b _ (by omega) hle (fun h=>j2 (by omega) h)];have:=s4 s L (b-(a+1)) (L.length-b) (a+1) (gS pl a (jn (byL s ((L.drop a).take (b-a))))) (fun i h4 h5=>j1 i h4 (by omega));rw[show L.length-b+(b-(a+1))=L.length-(a+1) by omega,show a+1+(b-(a+1))=b by omega] at this;rw[this]
     · rw[if_neg hk,if_neg (fun e=>hk e.1)]
       exact ih (a+1) pl (by omega) ha (fun h=>by
        cases e:cg L (a+1) with
        | false=>rfl
        | true=>
          exfalso;apply hk;simp only[cg,aac,beq_iff_eq] at e
          simpa using e.2.2.1)
   · have hz:L.length-a=0:=by omega
     simp only[dG,aaU (show L.length≤a by omega),hz,fR]
section
variable {st:St}
theorem uh {L:List ab} {t n:Nat} {tk:Tk} {nn:Bool} (h6:L≠[]→n=6) (hlen:L.length≤4096) {k:Nat} (hk:k<L.length):(E tab).F 274 [.list t n tk nn (L.map ab.dv),.int .i64 k] st=some (.bool (cg L k),st):=by
 rw[aK Qh rfl];obtain rfl:=h6 (by intro e;simp[e] at hk);have hw1:IntKind.i64.wrap ((k:Int)-1)=(k:Int)-1:=by rw[ay (by omega)]
 have g1:=dN (L:=L) hk;have l1:k<(L.map ab.dv).length:=by simpa using hk
 have g2:=dN (L:=L) (i:=k-1) (by omega);have l2:k-1<(L.map ab.dv).length:=by simp;omega
 generalize L.map ab.dv=V at *;have g1':V[k]'l1=(L.getD k mz).dv:=by rw[aaa l1] at g1;exact aab.inj g1
 have g2':V[k-1]'l2=(L.getD (k-1) mz).dv:=by rw[aaa l2] at g2;exact aab.inj g2
 unfold cg;generalize L.getD k mz=x at *;generalize L.getD (k-1) mz=y at *;by_cases h0:0<k
 · have ht:((k:Int)-1).toNat=k-1:=by omega
   have hp:(1:Int)≤(k:Int):=by omega
   by_cases h1:x.k=1
   · by_cases h2:y.k=1
     · simp[Bd,h0,g1,g1',l1,g2,g2',l2,hw1,ht,hp,ab.dv,ab.cs,h1,h2]
     · simp[Bd,h0,g1,g1',l1,g2,g2',l2,hw1,ht,hp,ab.dv,ab.cs,h1,h2]
   · simp[Bd,h0,g1,g1',l1,ab.dv,ab.cs,h1]
 · simp[Bd,h0]
theorem sK {s:List UInt8} {x:Int} (h0:0≤x) (h1:x<s.length) (hl:s.length≤4096):cb true 1 (.str s) (some (.int .i64 x)) (some (.int .i64 (x+1))) none=some (.str [bAt s x.toNat]):=by
 rw[s5 h0 (by omega) (by omega)];have e:(x+1).toNat-x.toNat=1:=by omega
 have hb:s[x.toNat]? = some (bAt s x.toNat):=lz (by omega);rw[e,List.take_one,List.head?_drop,hb];rfl
theorem OA {L:List ab} {p:aI} {w u:LW} (hL:MOk p.text L) (htl:p.text.length≤4096) {t n:Nat} {tk:Tk} {nn:Bool} (h6:L≠[]→n=6) {H:List HO} {K:List Nat} (hr:rowAt H 0=some (.plain,af p w u)) {y5 y6:DV} {a:Nat}:∀ (f b:Nat),L.length≤b+f→a≤b→b≤L.length →
 ∃ (tl:Fr),(E tab).C pF [(1,.list t n tk nn (L.map ab.dv)),(2,.ptr st.heap.length 0),(5,y5),(6,y6),(7,.str (byL p.text ((L.drop a).take (b-a)))),(8,.int .i64 b)] (pst st H K) =
   some (.exit 2,[(1,.list t n tk nn (L.map ab.dv)),(2,.ptr st.heap.length 0),(5,y5),(6,y6),(7,.str (byL p.text ((L.drop a).take (j5 L f b-a))))]++tl,pst st H K):=by
 have hlen:=hL.len;have hV0:(L.map ab.dv).length=L.length:=by simp
 intro f
 induction f with
 | zero=>
   intro b h1 h2 h3;obtain rfl:b=L.length:=by omega
   refine⟨[(8,.int .i64 L.length),(63,.bool false)],?_⟩;simp only[j5];generalize byL p.text ((L.drop a).take (L.length-a))=W at *;generalize L.map ab.dv=V at *;rw[ae (L:=pF) rfl];simp[sQ,hV0]
 | succ f ih=>
   intro b h1 h2 h3;have hw1:IntKind.i64.wrap ((b:Int)+1)=(b:Int)+1:=by rw[ay (by omega)]
   by_cases hb:b<L.length
   · obtain rfl:=h6 (by intro e;simp[e] at hb);have hm:=getM hb;have gb:=dN hb;have lb:b<(L.map ab.dv).length:=by simpa using hb
     have hat:=hL.at_ _ (aat hm);have hj:=fun st=>uh (st:=st) (t:=t) (tk:=tk) (nn:=nn) (L:=L) (n:=6) (fun _=>rfl) hlen hb;have hbl:(byL p.text ((L.drop a).take (b-a))).length≤4096:=by simp[byL];omega
     cases hjb:cg L b with
     | true=>
       have e:j5 L (f+1) b=j5 L f (b+1):=by simp only[j5,if_pos (And.intro hb hjb)]
       rw[e];have hts:=pN hm h2;have hsl:=sK hat.1 hat.2 htl;have hwx:IntKind.i64.wrap ((L.getD b mz).a+1)=(L.getD b mz).a+1:=ay (by omega);obtain⟨tl,hJ⟩:=ih (b+1) (by omega) (by omega) (by omega);refine⟨tl,?_⟩;rw[hts] at hJ;have hmap:byL p.text ((L.drop a).take (b-a)++[L.getD b mz])=byL p.text ((L.drop a).take (b-a))++[bAt p.text (L.getD b mz).a.toNat]:=by simp[byL]
       rw[hmap] at hJ;rw[hjb] at hj;generalize byL p.text ((L.drop a).take (j5 L f (b+1)-a))=W2 at *;generalize byL p.text ((L.drop a).take (b-a))=W at *;generalize L.getD b mz=m at *;generalize L.map ab.dv=V at *;have gb':V[b]'lb=m.dv:=by rw[aaa lb] at gb;exact aab.inj gb
       have hroom:W.length+1≤4611686018427387904:=by omega
       simp at hJ;rw[ae (L:=pF) rfl];simp[sQ,hV0,hb,hj,gb,gb',lb,ab.dv,ab.cs,hr,hwx,hsl,hroom,hw1,hJ]
     | false=>
       have e:j5 L (f+1) b=b:=by simp only[j5,hjb];simp
       rw[e];rw[hjb] at hj;refine⟨[(8,.int .i64 b),(63,.bool false)],?_⟩;generalize byL p.text ((L.drop a).take (b-a))=W at *;generalize L.map ab.dv=V at *;rw[ae (L:=pF) rfl];simp[sQ,hV0,hb,hj]
   · have e:j5 L (f+1) b=b:=by simp only[j5];rw[if_neg (fun h=>hb h.1)]
     rw[e];have hb':¬ (b:Int)<L.length:=by omega
     refine⟨[(8,.int .i64 b),(63,.bool false)],?_⟩;generalize byL p.text ((L.drop a).take (b-a))=W at *;generalize L.map ab.dv=V at *;rw[ae (L:=pF) rfl];simp[sQ,hV0,hb,hb']
theorem MW {K:List Nat} {kO a n:Nat} {y2:DV} {lv v:DV} {pts:List Nat} (hp:Lw 1 (pts.map i6) v) (hpl:pts.length≤1000000) (hn:n≤100000) (ha:a≤100000) (hb:∀ k∈pts,a+k<n):∀ (r d:List Nat) (pl:List Bool) (G:List HO),pts=d++r→pl.length=n→rowAt G kO=some (.plain,pl.map DV.bool) →
 ∃ tl,(E tab).C wm [(1,lv),(2,y2),(5,.hsl 1 false (st.heap.length+kO) 0 n (some n)),(6,.int .i64 a),(9,v),(11,.int .i64 d.length)] (pst st G K) =
   some (.exit 4,[(1,lv),(2,y2),(5,.hsl 1 false (st.heap.length+kO) 0 n (some n)),(6,.int .i64 a)]++tl,pst st (G.set kO (.cells .plain ((gS pl a r).map DV.bool))) K):=by
 intro r
 induction r with
 | nil=>
   intro d pl G hd hl hr;obtain rfl:pts=d:=by simpa using hd
   have hset:G.set kO (.cells .plain ((gS pl a []).map DV.bool))=G:=by
    have hk:=bz hr;apply aa4;intro j;by_cases hj:j=kO
    · subst hj;rw[aaq hk,aN.1 hr];rfl
    · rw[aam (fun e=>hj e.symm)]
   have v0:Vw (pst st G K) 1 false (pts.map i6) v:=hp.vw;have e0:=v0.len;simp only[aaP] at e0;rw[hset];refine⟨[(9,v),(11,.int .i64 pts.length),(91,.bool false)],?_⟩;rw[ae (L:=wm) rfl];simp[A1,e0]
 | cons x r ih=>
   intro d pl G hd hl hr;have hk:=bz hr;have h0:d.length<pts.length:=by simp[hd]
   have hw1:IntKind.i64.wrap ((d.length:Int)+1)=(d.length:Int)+1:=by rw[ay (by omega)]
   have hax:=hb x (by simp[hd]);have hwa:IntKind.i64.wrap ((a:Int)+x)=((a+x:Nat):Int):=by rw[ay (by omega)];simp
   have v0:Vw (pst st G K) 1 false (pts.map i6) v:=hp.vw;have e0:=v0.len;simp only[aaP] at e0;have e1:=fun st'=>v0.bC (i:=d.length) (by simpa using h0) .i64 st';have e2:=v0.nU Ch (i:=d.length) (x:=.int .i64 x) (by simp[hd,i6]);have hlt:a+x<(pl.map DV.bool).length:=by simp;omega
   have hsp:=eZ (x:=.bool true) hlt;have hset:(pl.map DV.bool).set (a+x) (.bool true)=(pl.set (a+x) true).map DV.bool:=by rw[List.map_set]
   rw[hset] at hsp;have hle:a+x+1≤(pl.map DV.bool).length:=by omega
   obtain⟨tl,hJ⟩:=ih (d++[x]) (pl.set (a+x) true) (G.set kO (.cells .plain ((pl.set (a+x) true).map DV.bool))) (by simp[hd]) (by simpa using hl) (dO hk _ _);refine⟨tl,?_⟩;rw[abH] at hJ;have e3:gS pl a (x::r)=gS (pl.set (a+x) true) a r:=rfl;rw[e3];generalize (gS (pl.set (a+x) true) a r).map DV.bool=W at *;generalize (pl.set (a+x) true).map DV.bool=W1 at *;generalize pl.map DV.bool=PM at *;generalize a+x=ax at *;simp only[bj] at hsp;simp at hJ hsp;have hax2:(ax:Int)<n:=by omega
   rw[ae (L:=wm) rfl];simp[A1,e0,h0,e1,e2,hwa,hax,hax2,hr,hle,hsp,hw1,hJ]
theorem Nc {L:List ab} {p:aI} {w u:LW} (hL:MOk p.text L) (htl:p.text.length≤4096) {t n:Nat} {tk:Tk} {nn:Bool} (h6:L≠[]→n=6):∀ (f a:Nat) (pl:List Bool) (G:List HO) (K:List Nat),a+f=L.length→pl.length=L.length+1→rowAt G 0=some (.plain,af p w u)→rowAt G 1=some (.plain,pl.map DV.bool) →
 ∃ (G':List HO) (K':List Nat) (tl:Fr),(E tab).C lV [(1,.list t n tk nn (L.map ab.dv)),(2,.ptr st.heap.length 0),(5,.hsl 1 false (st.heap.length+1) 0 (L.length+1) (some (L.length+1))),(6,.int .i64 a)] (pst st G K) =
   some (.exit 0,[(1,.list t n tk nn (L.map ab.dv)),(2,.ptr st.heap.length 0),(5,.hsl 1 false (st.heap.length+1) 0 (L.length+1) (some (L.length+1)))]++tl,pst st G' K')∧rowAt G' 1=some (.plain,(if p.pr.br=0 then pl else fR p.text L f a pl).map DV.bool):=by
 have hlen:=hL.len;have hV0:(L.map ab.dv).length=L.length:=by simp
 have ph:(af p w u)[14]? = some (.int .i64 p.pr.br):=rfl;intro f
 induction f with
 | zero=>
   intro a pl G K h1 h3 hr0 hr1;obtain rfl:a=L.length:=by omega
   refine⟨G,K,[(6,.int .i64 L.length),(19,.bool false)],?_,by simpa[fR] using hr1⟩;generalize L.map ab.dv=V at *;rw[ae (L:=lV) rfl];simp[o7,hV0]
 | succ f ih=>
   intro a pl G K h1 h3 hr0 hr1;have hw1:IntKind.i64.wrap ((a:Int)+1)=(a:Int)+1:=by rw[ay (by omega)]
   have ha:a<L.length:=by omega
   obtain rfl:=h6 (by intro e;simp[e] at ha);have hm:=getM ha;have gb:=dN ha;have lb:a<(L.map ab.dv).length:=by simpa using ha
   have hat:=hL.at_ _ (aat hm);have hj:=fun st=>uh (st:=st) (t:=t) (tk:=tk) (nn:=nn) (L:=L) (n:=6) (fun _=>rfl) hlen ha
   have idle:(if p.pr.br=0 then pl else fR p.text L (f+1) a pl)=(if p.pr.br=0 then pl else fR p.text L f (a+1) pl)→∃ (G':List HO) (K':List Nat) (tl:Fr),
    (E tab).C lV [(1,.list t 6 tk nn (L.map ab.dv)),(2,.ptr st.heap.length 0),(5,.hsl 1 false (st.heap.length+1) 0 (L.length+1) (some (L.length+1))),(6,.int .i64 (a+1:Nat))] (pst st G K) =
    some (.exit 0,[(1,.list t 6 tk nn (L.map ab.dv)),(2,.ptr st.heap.length 0),(5,.hsl 1 false (st.heap.length+1) 0 (L.length+1) (some (L.length+1)))]++tl,pst st G' K')∧rowAt G' 1=some (.plain,(if p.pr.br=0 then pl else fR p.text L (f+1) a pl).map DV.bool):=by
    intro e;rw[e];exact ih (a+1) pl G K (by omega) h3 hr0 hr1
   by_cases hk:(L.getD a mz).k=1
   · cases hjb:cg L a with
     | true=>
       obtain⟨G',K',tl,hJ,hG'⟩:=idle (by simp only[fR,hjb];simp);refine⟨G',K',tl,?_,hG'⟩;rw[hjb] at hj;generalize L.getD a mz=m at *;generalize L.map ab.dv=V at *;have gb':V[a]'lb=m.dv:=by rw[aaa lb] at gb;exact aab.inj gb
       simp at hJ;rw[ae (L:=lV) rfl];simp[o7,hV0,ha,gb,gb',lb,ab.dv,ab.cs,hk,hj,hw1,hJ]
     | false=>
       by_cases hy:p.pr.br=0
       · obtain⟨G',K',tl,hJ,hG'⟩:=idle (by rw[if_pos hy,if_pos hy]);refine⟨G',K',tl,?_,hG'⟩;rw[hjb] at hj;rw[hy] at ph;generalize L.getD a mz=m at *;generalize L.map ab.dv=V at *;have gb':V[a]'lb=m.dv:=by rw[aaa lb] at gb;exact aab.inj gb
         simp at hJ;rw[ae (L:=lV) rfl];simp[o7,hV0,ha,gb,gb',lb,ab.dv,ab.cs,hk,hj,hr0,ph,hw1,hJ]
       · have e:fR p.text L (f+1) a pl=fR p.text L f (a+1) (gS pl a (jn (byL p.text ((L.drop a).take (j5 L L.length (a+1)-a))))):=by simp only[fR];rw[if_pos ⟨hk,hjb⟩]
         rw[if_neg hy,e];obtain⟨tl0,hI⟩:=OA (st:=st) (K:=K) hL htl (t:=t) (tk:=tk) (nn:=nn) (n:=6) (fun _=>rfl) hr0 (y5:=.hsl 1 false (st.heap.length+1) 0 (L.length+1) (some (L.length+1))) (y6:=.int .i64 a) (a:=a) L.length (a+1) (by omega) (by omega) ha
         have hb1:byL p.text ((L.drop a).take (a+1-a))=[bAt p.text (L.getD a mz).a.toNat]:=by
          rw[pN hm (aai _),Nat.sub_self];simp[byL]
         rw[hb1] at hI;have hend:=tW hm hk;have hgt:=vg hm hk;have hle:=(oz L (L.getD a mz).s L.length a (by omega)).2;rw[← hend] at hgt hle;have hwl:(byL p.text ((L.drop a).take (j5 L L.length (a+1)-a))).length=j5 L L.length (a+1)-a:=by simp[byL];omega
         generalize byL p.text ((L.drop a).take (j5 L L.length (a+1)-a))=W at *;generalize j5 L L.length (a+1)=b at *;have hsl:=sK hat.1 hat.2 htl;have hwx:IntKind.i64.wrap ((L.getD a mz).a+1)=(L.getD a mz).a+1:=ay (by omega);obtain⟨X2,K2,hP,hRo⟩:=Gi (st:=st) G K;obtain⟨v2,K3,hQ,hl2⟩:=E9 (st:=st) (G:=G++X2) (K:=K2) hRo jY iG W (by omega);have hpts:(if jm W=true then points dQ eW (W.map cM) else [])=jn W:=rfl;rw[hpts] at hl2;have hple:=Cn W;have hr1':rowAt (G++X2) 1=some (.plain,pl.map DV.bool):=fq hr1 _;obtain⟨tl2,hI2⟩:=MW (st:=st) (K:=K3) (kO:=1) (a:=a) (n:=L.length+1) (y2:=.ptr st.heap.length 0) (lv:=.list t 6 tk nn (L.map ab.dv)) hl2 (by have:=zB W;omega) (by omega) (by omega) (fun k hk=>by have:=hple k hk;omega) (jn W) [] pl (G++X2) rfl h3 hr1'
         obtain⟨G',K',tl,hJ,hG'⟩:=ih (a+1) (gS pl a (jn W)) ((G++X2).set 1 (.cells .plain ((gS pl a (jn W)).map DV.bool))) K3 (by omega) (by rw[oS];exact h3) (by
          rw[aN,aam (by omega)];exact aN.1 (fq hr0 _)) (dO (bz hr1') _ _)
         rw[if_neg hy] at hG';refine⟨G',K',tl,?_,hG'⟩;rw[hjb] at hj;generalize (gS pl a (jn W)).map DV.bool=SP at *;generalize L.getD a mz=m at *;generalize L.map ab.dv=V at *;have gb':V[a]'lb=m.dv:=by rw[aaa lb] at gb;exact aab.inj gb
         generalize G++X2=G2 at *;simp at hI hI2 hJ;rw[ae (L:=lV) rfl];simp[o7,hV0,ha,gb,gb',lb,ab.dv,ab.cs,hk,hj,hr0,ph,hy,hwx,hsl,hw1,hI,hP,hQ,hI2,hJ]
   · obtain⟨G',K',tl,hJ,hG'⟩:=idle (by simp only[fR,hk,false_and,if_false]);refine⟨G',K',tl,?_,hG'⟩;generalize L.getD a mz=m at *;generalize L.map ab.dv=V at *;have gb':V[a]'lb=m.dv:=by rw[aaa lb] at gb;exact aab.inj gb
     simp at hJ;rw[ae (L:=lV) rfl];simp[o7,hV0,ha,gb,gb',lb,ab.dv,ab.cs,hk,hw1,hJ]
theorem DZ {L:List ab} {p:aI} {w u:LW} (hL:MOk p.text L) (htl:p.text.length≤4096) {t n:Nat} {tk:Tk} {nn:Bool} (h6:L≠[]→n=6) :
 ∃ t',(E tab).F 260 [.agg (af p w u),.list t n tk nn (L.map ab.dv)] st=some (.list t' 1 .tight true ((fK p.text L p.pr.br).map DV.bool),st):=by
 have hlen:=hL.len;have hV0:(L.map ab.dv).length=L.length:=by simp
 have hel:∀ (b:List Bool),∀ y∈b.map DV.bool,dX 1 false y:=by intro b y hy;obtain⟨c,_,rfl⟩:=aay.1 hy;exact⟨rfl,rfl,rfl⟩
 have hw1:IntKind.i64.wrap ((L.length:Int)+1)=(L.length:Int)+1:=by rw[ay (by omega)]
 have hroom:((L.length:Int)+1)≤140737488355328:=by omega
 have hroom2:L.length+1≤140737488355328:=by omega
 have hpos:(0:Int)≤(L.length:Int)+1:=by omega
 have htn:((L.length:Int)+1).toNat=L.length+1:=by omega
 have hrep:aO [DV.bool false] (L.length+1)=(aap (L.length+1) false).map DV.bool:=by rw[lr,List.map_replicate]
 have hpl:=oO p.text L p.pr.br
 have hex:∀ (G:List HO) (K:List Nat),rowAt G 1=some (.plain,(fK p.text L p.pr.br).map DV.bool)→bq st (pst st G K) (.hsl 1 false (st.heap.length+1) 0 (L.length+1) (some (L.length+1)))=some (.list st.cur 1 .tight true ((fK p.text L p.pr.br).map DV.bool)):=by
  intro G K h;have hfl:=gu _ (hel (fK p.text L p.pr.br));have:=rf (st:=st) (H:=G) (K:=K) (k:=1) (n:=1) (ag:=false) (g:=.plain) (ys:=(fK p.text L p.pr.br).map DV.bool) (cap:=some (L.length+1)) (by rw[hfl];exact h) (by omega) (.inr rfl) (hel _);rw[aaP,hpl,if_pos rfl] at this;exact this
 refine⟨st.cur,?_⟩;rw[aK PR rfl];obtain⟨G',K',tl,hL2,hG'⟩:=Nc (st:=st) (w:=w) (u:=u) hL htl (t:=t) (tk:=tk) (nn:=nn) h6 L.length 0 (aap (L.length+1) false) [.cells .plain (af p w u),.cells .plain ((aap (L.length+1) false).map DV.bool)] [] (by omega) (by simp) rfl rfl
 have e:fK p.text L p.pr.br=(if p.pr.br=0 then aap (L.length+1) false else fR p.text L L.length 0 (aap (L.length+1) false)):=by
  unfold fK;rw[Bp p.text L (L.length+1) 0 _ (by omega) (by omega) (fun _=>by simp[cg]),Nat.sub_zero]
 have hx:=hex G' K' (by rw[e];exact hG');generalize (fK p.text L p.pr.br).map DV.bool=Y at *;generalize (aap (L.length+1) false).map DV.bool=Z at *;generalize L.map ab.dv=V at *;simp at hL2;simp[Jt,hV0,hw1,aB,hroom,hroom2,hpos,htn,hrep,hL2,hx]
end
section
variable {st:St} {p:aI} {w u:LW}
theorem Du {L:List ab} (hL:MOk p.text L) {m:ab} (hmem:m∈L):(E tab).F 262 [.agg (af p w u),m.dv] st=some (.bool (eL p.text m),st):=by
 rw[aK Rt rfl];have hm:=hL.at_ m hmem;have hb:p.text[m.a.toNat]? = some (bAt p.text m.a.toNat):=lz (by omega);have hlt:m.a.toNat<p.text.length:=by omega
 have hge:p.text[m.a.toNat]'hlt=bAt p.text m.a.toNat:=by rw[aaa hlt] at hb;exact aab.inj hb
 have h45:(((bAt p.text m.a.toNat).toNat:Int)==45)=(bAt p.text m.a.toNat==45):=CS _ 45;by_cases h2:m.k=2
 · simp[Fz,ab.cs,h2,hb,hge,hlt,hm.1,h45,eL]
 · simp[Fz,ab.cs,h2,eL]
theorem rz {L:List ab} {t n:Nat} {tk:Tk} {nn:Bool} (h6:L≠[]→n=6):(E tab).F 258 [.agg (af p w u),.list t n tk nn (L.map ab.dv)] st=some (.bool (decide (2≤p.pr.drop)&&(decide (0<L.length)&&(L.getD 0 mz).k==1)),st):=by
 rw[aK T3 rfl];have hV0:(L.map ab.dv).length=L.length:=by simp
 have hpd:=vj (p:=p) (w:=w) (u:=u);by_cases h1:2≤p.pr.drop
 · by_cases h2:0<L.length
   · have h2':(0:Int)<L.length:=by omega
     obtain rfl:=h6 (by intro e;rw[e] at h2;simp at h2);have g0:=dN (L:=L) h2;have l0:0<(L.map ab.dv).length:=by simpa using h2
     generalize L.getD 0 mz=m at *;generalize L.map ab.dv=V at *;have g0':V[0]'l0=m.dv:=by rw[aaa l0] at g0;exact aab.inj g0
     simp[EW,hpd,h1,hV0,h2,h2',g0,g0',l0,ab.dv,ab.cs]
   · have h2':¬ (0:Int)<L.length:=by omega
     generalize L.getD 0 mz=m at *;generalize L.map ab.dv=V at *;simp[EW,hpd,h1,hV0,h2,h2']
 · generalize L.getD 0 mz=m at *;generalize L.map ab.dv=V at *;simp[EW,hpd,h1]
theorem Jr (hp:p.small) (hw:w.ok 4 p.aF) (hu:u.ok 1 p.marks):∃ v:LW,(E tab).F 259 [.agg (af p w u)] st=some (.list v.t v.n v.tk v.nn ((ca p).map ab.dv),st)∧v.ok 6 (ca p):=by
 rw[aK RO rfl];obtain⟨_,hm,v,rfl,hv⟩:=s7 p hp w u hw hu (pst st [.cells .plain (af p w u)] []);have hd:=fun st=>rz (st:=st) (p:=p) (w:=w) (u:=u) (L:=ak p) (t:=v.t) (n:=v.n) (tk:=v.tk) (nn:=v.nn) hv.n;have hdB:(decide (2≤p.pr.drop)&&(decide (0<(ak p).length)&&((ak p).getD 0 mz).k==1))=aH p:=rfl;rw[hdB] at hd;unfold ca
 cases hb:aH p with
 | true=>
   rw[hb] at hd;have hb':=hb;simp only[aH,aac,decide_eq_true_eq] at hb';have hvn:=hv.n (by intro e;have:=hb'.2.1;rw[e] at this;simp at this);have hV0:((ak p).map ab.dv).length=(ak p).length:=by simp
   have hs:=lX (n:=6) (en:=v.n) (t:=v.t) (tk:=v.tk) (nn:=v.nn) (xs:=(ak p).map ab.dv) (k:=.i64) (lo:=1) (fun _=>hvn) (by omega) (by simp;omega);have hdr:((ak p).map ab.dv).drop (1:Int).toNat=((ak p).drop 1).map ab.dv:=by rw[List.map_drop];rfl
   rw[hdr,hV0] at hs;refine⟨⟨v.t,v.n,jc (lI v.tk (ak p).length (1:Int).toNat (ak p).length),v.nn⟩,?_,fun e=>hvn,fun e=>by have:=hv.2 e;simp[this]⟩;simp only[if_true];generalize ((ak p).drop 1).map ab.dv=D at *;generalize (ak p).map ab.dv=V at *;simp at hs;rw[hvn] at hm hs ⊢;rw[hvn] at hd;simp[-cP,exl,FJ,hm,hd,hs]
 | false=>
   rw[hb] at hd;refine⟨⟨v.t,v.n,jc v.tk,v.nn⟩,?_,hv⟩;simp only[aao,if_false];generalize (ak p).map ab.dv=V at *;simp[-cP,exl,FJ,hm,hd]
theorem LO {L:List ab} (hL:MOk p.text L) {t n:Nat} {tk:Tk} {nn:Bool} (h6:L≠[]→n=6) {pl:List Bool} (hpl:pl.length=L.length+1) {t2:Nat} {tk2:Tk} :
 ∀ (r d:List ab) (run fr:Nat) (J:List HO) (K:List Nat) (xs:List It) (ov:DV),L=d++r→fr≤d.length→run≤d.length→xs.length≤3*d.length→Acc st K 8 (xs.map It.dv) ov →
 ∃ (ov':DV) (J':List HO) (K':List Nat) (tl:Fr),
   (E tab).C hG [(1,.ptr st.heap.length 0),(5,.list t n tk nn (L.map ab.dv)),(6,.list t2 1 tk2 true (pl.map DV.bool)),(7,ov),(8,.int .i64 run),(9,.int .i64 fr),(10,.int .i64 d.length)] (pst st (.cells .plain (af p w u)::J) K) =
   some (.exit 0,[(1,.ptr st.heap.length 0),(5,.list t n tk nn (L.map ab.dv)),(6,.list t2 1 tk2 true (pl.map DV.bool)),(7,ov')]++tl,pst st (.cells .plain (af p w u)::J') K')∧Acc st K' 8 ((xs++bk p.text L pl d.length run fr r).map It.dv) ov':=by
 have hlen:=hL.len;have hV0:(L.map ab.dv).length=L.length:=by simp
 have app:∀ (J:List HO) (K:List Nat) (xs:List It) (ov:DV) (x:It),xs.length≤100000→Acc st K 8 (xs.map It.dv) ov→∃ v' K',aZ (pst st J K) 8 true 64 ov (.list st.cur 8 .tight true [x.dv])=some (v',pst st J K')∧Acc st K' 8 ((xs++[x]).map It.dv) v':=by
  intro J K xs ov x hx hA;obtain⟨v',K',h1,h2⟩:=cR (st:=st) (H:=J) (by_:=64) (ag:=true) (ys:=[x.dv]) (t:=st.cur) (tk:=.tight) hA (by omega) (by simp) (by simp[Lz]) (by simp[aB];omega) (by simp[aB];omega);exact⟨v',K',h1,by simpa using h2⟩
 intro r
 induction r with
 | nil=>
   intro d run fr J K xs ov hd hf hr hx hA;obtain rfl:L=d:=by simpa using hd
   have hw1:IntKind.i64.wrap ((L.length:Int)+1)=(L.length:Int)+1:=by rw[ay (by omega)]
   have hn1:¬ ((L.length:Int)+1≤L.length):=by omega
   by_cases h:fr<L.length
   · obtain⟨v1,K1,ha,hA1⟩:=app (.cells .plain (af p w u)::J) K xs ov (dD L fr L.length) (by omega) hA;have hb:=fun st=>Bq (st:=st) hL (t:=t) (n:=n) (tk:=tk) (nn:=nn) h6 h (aai _);refine⟨v1,J,K1,[(8,.int .i64 ((L.length:Int)+1)),(9,.int .i64 ((L.length:Int)+1)),(10,.int .i64 ((L.length:Int)+1)),(26,.bool false)],?_,by simpa[bk,h] using hA1⟩;generalize dD L fr L.length=x at *;generalize L.map ab.dv=V at *;simp only[It.dv,It.cs] at ha hb;rw[ae (L:=hG) rfl];simp[gl,hV0,h,hb,aC,aO,chunk,ha,hw1];rw[ae (L:=hG) rfl];simp[gl,hV0,hn1]
   · refine⟨ov,J,K,[(8,.int .i64 ((L.length:Int)+1)),(9,.int .i64 ((L.length:Int)+1)),(10,.int .i64 ((L.length:Int)+1)),(26,.bool false)],?_,by simpa[bk,h] using hA⟩;have h':¬ (fr:Int)<L.length:=by omega
     generalize L.map ab.dv=V at *;rw[ae (L:=hG) rfl];simp[gl,hV0,h,h',hw1];rw[ae (L:=hG) rfl];simp[gl,hV0,hn1]
 | cons m r ih=>
   intro d run fr J K xs ov hd hf hr hx hA;have h0:d.length<L.length:=by simp[hd]
   have h0':(d.length:Int)≤L.length:=by omega
   have h0n:d.length≤L.length:=by omega
   have hmem:m∈L:=by simp[hd]
   have hok:=aae.1 hL.ok m hmem;have hgm:L.getD d.length mz=m:=by simp[hd]
   have hw1:IntKind.i64.wrap ((d.length:Int)+1)=(d.length:Int)+1:=by rw[ay (by omega)]
   have hwm:IntKind.i64.wrap ((d.length:Int)-1)=(d.length:Int)-1:=by rw[ay (by omega)]
   obtain rfl:=h6 (by intro e;simp[e] at h0);have g1:=dN (L:=L) h0;rw[hgm] at g1;have l1:d.length<(L.map ab.dv).length:=by simpa using h0
   have hbx:=fun st=>Mu (st:=st) m;have hln:=fun st=>JO (st:=st) m hok;have hhy:=fun st=>te (st:=st) m.s
   have hpd:(pl.map DV.bool)[d.length]? = some (.bool (pl.getD d.length false)):=by
    rw[aaG,aaa (show d.length<pl.length by omega),aaf,aaa (show d.length<pl.length by omega)];rfl
   have lpd:d.length<(pl.map DV.bool).length:=by simp;omega
   cases hb:j6 m with
   | false=>
     have hstep:∃ v1 K1,(if fr<d.length then aZ (pst st (.cells .plain (af p w u)::J) K) 8 true 64 ov (.list st.cur 8 .tight true [(dD L fr d.length).dv]) else some (ov,pst st (.cells .plain (af p w u)::J) K))=some (v1,pst st (.cells .plain (af p w u)::J) K1)∧Acc st K1 8 ((xs++if fr<d.length then [dD L fr d.length] else []).map It.dv) v1:=by
      by_cases h:fr<d.length
      · obtain⟨v1,K1,ha,hA1⟩:=app (.cells .plain (af p w u)::J) K xs ov (dD L fr d.length) (by omega) hA;exact⟨v1,K1,by rw[if_pos h];exact ha,by rw[if_pos h];exact hA1⟩
      · exact⟨ov,K,by rw[if_neg h],by rw[if_neg h];simpa using hA⟩
     obtain⟨v1,K1,ha1,hA1⟩:=hstep;have hxl:(xs++if fr<d.length then [dD L fr d.length] else []).length≤3*d.length+1:=by split<;>simp<;>omega
     obtain⟨v2,K2,ha2,hA2⟩:=app (.cells .plain (af p w u)::J) K1 _ v1 (iS m) (by omega) hA1
     obtain⟨ov',J',K',tl,hJ,a1⟩:=ih (d++[m]) (d.length+1) (d.length+1) J K2 ((xs++if fr<d.length then [dD L fr d.length] else [])++[iS m]) v2 (by simp[hd]) (by simp) (by simp) (by
      rw[aag];simp only[aag,aal] at hxl ⊢;omega) hA2
     refine⟨ov',J',K',tl,?_,?_⟩
     · rw[hb] at hbx;have hbox:=fun (h:fr<d.length) st=>Bq (st:=st) hL (t:=t) (n:=6) (tk:=tk) (nn:=nn) (fun _=>rfl) h (by omega);generalize L.map ab.dv=V at *;have g1':V[d.length]'l1=m.dv:=by rw[aaa l1] at g1;exact aab.inj g1
       simp only[ab.dv,ab.cs] at hbx hln g1';generalize dD L fr d.length=x at *;simp only[It.dv,It.cs] at ha1 ha2 hbox hln;simp at hJ;rw[ae (L:=hG) rfl];by_cases h:fr<d.length
       · rw[if_pos h] at ha1;have hbox:=hbox h;simp[gl,hV0,h0,h0',h0n,g1,g1',l1,hbx,h,hbox,aC,aO,chunk,ha1,hln,ha2,hw1,hJ,ab.dv,ab.cs]
       · rw[if_neg h] at ha1;simp only[aab.injEq,Prod.mk.injEq] at ha1;obtain⟨rfl,hK⟩:=ha1;rw[← hK] at ha2;have h':¬ (fr:Int)<d.length:=by omega
         simp[gl,hV0,h0,h0',h0n,g1,g1',l1,hbx,h,h',aC,aO,chunk,hln,ha2,hw1,hJ,ab.dv,ab.cs]
     · simp only[aag,aal] at a1;simpa only[bk,hb,if_true,aau,aaS,aaF] using a1
   | true=>
     by_cases hkf:fr=d.length
     · obtain⟨ov',J',K',tl,hJ,a1⟩:=ih (d++[m]) run fr J K xs ov (by simp[hd]) (by simp;omega) (by simp;omega) (by simp;omega) hA;refine⟨ov',J',K',tl,?_,?_⟩
       · generalize L.map ab.dv=V at *;have g1':V[d.length]'l1=m.dv:=by rw[aaa l1] at g1;exact aab.inj g1
         rw[hb] at hbx;subst hkf;simp only[ab.dv,ab.cs] at hbx g1';simp at hJ;rw[ae (L:=hG) rfl];simp[gl,hV0,h0,h0',h0n,g1,g1',l1,hbx,hw1,hJ,ab.dv,ab.cs]
       · simp only[aag,aal] at a1;simp only[bk,hb,hkf,if_true,abk,if_false];rw[← hkf] at a1 ⊢;simpa[hkf] using a1
     · have hkf':¬ (d.length:Int)=fr:=by omega
       have hkf2:¬ d.length=fr:=by omega
       have hfl:fr<d.length:=by omega
       have hd0:¬ d.length=0:=by omega
       have hd0':¬ (d.length:Int)=0:=by omega
       have hdne:¬ d=[]:=fun e=>hd0 (by rw[e];rfl);have hpv:=dN (L:=L) (i:=d.length-1) (by omega);have lpv:d.length-1<(L.map ab.dv).length:=by simp;omega
       have hmp:L.getD (d.length-1) mz∈L:=aat (getM (by omega));have hs1:=fun st=>Du (st:=st) (w:=w) (u:=u) hL hmp;have hs2:=fun st=>Du (st:=st) (w:=w) (u:=u) hL hmem;have hbox:=fun st=>Bq (st:=st) hL (t:=t) (n:=6) (tk:=tk) (nn:=nn) (fun _=>rfl) hfl (by omega);have htn:((d.length:Int)-1).toNat=d.length-1:=by omega
       have hpos:(1:Int)≤(d.length:Int):=by omega
       have hpa:takeN (af p w u) 0 21 true=some (.agg (af p w u)):=rfl
       have fin:∀ q:It,(bk p.text L pl d.length run fr (m::r)=dD L fr d.length::q::bk p.text L pl (d.length+1) run d.length r) →
        ∃ (ov':DV) (J':List HO) (K':List Nat) (tl:Fr) (v1 v2:DV) (K1 K2:List Nat),
        aZ (pst st (.cells .plain (af p w u)::J) K) 8 true 64 ov (.list st.cur 8 .tight true [(dD L fr d.length).dv])=some (v1,pst st (.cells .plain (af p w u)::J) K1) ∧
        aZ (pst st (.cells .plain (af p w u)::(J++[.cells .plain q.cs])) K1) 8 true 64 v1 (.list st.cur 8 .tight true [q.dv])=some (v2,pst st (.cells .plain (af p w u)::(J++[.cells .plain q.cs])) K2) ∧
        (E tab).C hG [(1,.ptr st.heap.length 0),(5,.list t 6 tk nn (L.map ab.dv)),(6,.list t2 1 tk2 true (pl.map DV.bool)),(7,v2),(8,.int .i64 run),(9,.int .i64 d.length),(10,.int .i64 (d.length+1:Nat))] (pst st (.cells .plain (af p w u)::(J++[.cells .plain q.cs])) K2) =
         some (.exit 0,[(1,.ptr st.heap.length 0),(5,.list t 6 tk nn (L.map ab.dv)),(6,.list t2 1 tk2 true (pl.map DV.bool)),(7,ov')]++tl,pst st (.cells .plain (af p w u)::J') K')∧Acc st K' 8 ((xs++bk p.text L pl d.length run fr (m::r)).map It.dv) ov':=by
        intro q hq;obtain⟨v1,K1,ha1,hA1⟩:=app (.cells .plain (af p w u)::J) K xs ov (dD L fr d.length) (by omega) hA;obtain⟨v2,K2,ha2,hA2⟩:=app (.cells .plain (af p w u)::(J++[.cells .plain q.cs])) K1 _ v1 q (by simp;omega) hA1;obtain⟨ov',J',K',tl,hJ,a1⟩:=ih (d++[m]) run d.length (J++[.cells .plain q.cs]) K2 ((xs++[dD L fr d.length])++[q]) v2 (by simp[hd]) (by simp) (by simp;omega) (by simp;omega) hA2;simp only[aag,aal] at hJ a1;exact⟨ov',J',K',tl,v1,v2,K1,K2,ha1,ha2,hJ,by rw[hq];simpa using a1⟩
       cases hp:pl.getD d.length false with
       | true=>
         have hq:bk p.text L pl d.length run fr (m::r)=dD L fr d.length::yK m::bk p.text L pl (d.length+1) run d.length r:=by
          simp only[bk,hb,hkf2,hp,if_false,if_true,abk]
         obtain⟨ov',J',K',tl,v1,v2,K1,K2,ha1,ha2,hJ,a1⟩:=fin (yK m) hq;refine⟨ov',J',K',tl,?_,a1⟩;rw[hp] at hpd;rw[hb] at hbx;generalize hmm:L.getD (d.length-1) mz=mp at *;generalize L.map ab.dv=V at *;have g1':V[d.length]'l1=m.dv:=by rw[aaa l1] at g1;exact aab.inj g1
         have gp':V[d.length-1]'lpv=mp.dv:=by rw[aaa lpv] at hpv;exact aab.inj hpv
         generalize pl.map DV.bool=PL at *;have p1':PL[d.length]'lpd=.bool true:=by rw[aaa lpd] at hpd;exact aab.inj hpd
         generalize dD L fr d.length=x at *;simp only[ab.dv,ab.cs] at hbx hs1 hs2 g1' gp';simp only[It.dv,It.cs,yK] at ha1 ha2 hbox;simp only[It.cs,yK] at hJ;simp at hJ ha2;rw[ae (L:=hG) rfl]
         cases q1:eL p.text mp<;>cases q2:eL p.text m<;>rw[q1] at hs1<;>rw[q2] at hs2 <;>
          simp[gl,hV0,h0,h0',h0n,g1,g1',l1,hpv,gp',lpv,hbx,hkf',hkf2,hd0,hd0',hdne,hwm,htn,hpos,hs1,hs2,hpd,p1',lpd,hbox,aM,bM,bR,bQ,aR,aC,aO,chunk,ha1,hhy,ha2,hw1,hJ,ab.dv,ab.cs]
       | false=>
         cases hdash:eL p.text (L.getD (d.length-1) mz) && !eL p.text m&&decide (run<d.length-1) with
         | true=>
           have hq:bk p.text L pl d.length run fr (m::r)=dD L fr d.length::yQ m::bk p.text L pl (d.length+1) run d.length r:=by
            simp only[bk,hb,hkf2,hp,hdash,if_false,if_true,abk,aao]
           obtain⟨ov',J',K',tl,v1,v2,K1,K2,ha1,ha2,hJ,a1⟩:=fin (yQ m) hq;refine⟨ov',J',K',tl,?_,a1⟩;simp only[aac,abn,decide_eq_true_eq] at hdash;obtain⟨⟨q1,q2⟩,q3⟩:=hdash;have q3':(run:Int)<(d.length:Int)-1:=by omega
           rw[q1] at hs1;rw[q2] at hs2;rw[hp] at hpd;rw[hb] at hbx;generalize hmm:L.getD (d.length-1) mz=mp at *;generalize L.map ab.dv=V at *;have g1':V[d.length]'l1=m.dv:=by rw[aaa l1] at g1;exact aab.inj g1
           have gp':V[d.length-1]'lpv=mp.dv:=by rw[aaa lpv] at hpv;exact aab.inj hpv
           generalize pl.map DV.bool=PL at *;have p1':PL[d.length]'lpd=.bool false:=by rw[aaa lpd] at hpd;exact aab.inj hpd
           generalize dD L fr d.length=x at *;simp only[ab.dv,ab.cs] at hbx hs1 hs2 g1' gp';simp only[It.dv,It.cs,yQ] at ha1 ha2 hbox;simp only[It.cs,yQ] at hJ;simp at hJ ha2;rw[ae (L:=hG) rfl];simp[gl,hV0,h0,h0',h0n,g1,g1',l1,hpv,gp',lpv,hbx,hkf',hkf2,hd0,hd0',hdne,hwm,htn,hpos,hs1,hs2,q3',hpd,p1',lpd,hbox,aM,bM,bR,bQ,aR,aC,aO,chunk,ha1,hhy,ha2,hw1,hJ,ab.dv,ab.cs]
         | false=>
           have hq:bk p.text L pl d.length run fr (m::r)=bk p.text L pl (d.length+1) run fr r:=by
            simp only[bk,hb,hkf2,hp,hdash,if_false,abk,aao]
           obtain⟨ov',J',K',tl,hJ,a1⟩:=ih (d++[m]) run fr J K xs ov (by simp[hd]) (by simp;omega) (by simp;omega) (by simp;omega) hA;simp only[aag,aal] at hJ a1;refine⟨ov',J',K',tl,?_,by rw[hq];exact a1⟩;rw[hp] at hpd;rw[hb] at hbx;generalize hmm:L.getD (d.length-1) mz=mp at *;generalize L.map ab.dv=V at *;have g1':V[d.length]'l1=m.dv:=by rw[aaa l1] at g1;exact aab.inj g1
           have gp':V[d.length-1]'lpv=mp.dv:=by rw[aaa lpv] at hpv;exact aab.inj hpv
           generalize pl.map DV.bool=PL at *;have p1':PL[d.length]'lpd=.bool false:=by rw[aaa lpd] at hpd;exact aab.inj hpd
           simp only[ab.dv,ab.cs] at hbx hs1 hs2 g1' gp';simp at hJ
           have q3':eL p.text mp=true→eL p.text m=false→¬ (run:Int)<(d.length:Int)-1:=by
            intro e1 e2 h;rw[e1,e2] at hdash;have:¬ run<d.length-1:=by simpa using hdash
            omega
           rw[ae (L:=hG) rfl]
           cases q1:eL p.text mp with
           | false=>
             rw[q1] at hs1;simp[gl,hV0,h0,h0',h0n,g1,g1',l1,hpv,gp',lpv,hbx,hkf',hkf2,hd0,hd0',hdne,hwm,htn,hpos,hs1,hs2,hpd,p1',lpd,hw1,hJ,ab.dv,ab.cs]
           | true=>
             cases q2:eL p.text m with
             | true=>
               rw[q1] at hs1;rw[q2] at hs2;simp[gl,hV0,h0,h0',h0n,g1,g1',l1,hpv,gp',lpv,hbx,hkf',hkf2,hd0,hd0',hdne,hwm,htn,hpos,hs1,hs2,hpd,p1',lpd,hw1,hJ,ab.dv,ab.cs]
             | false=>
               have q3:=q3' q1 q2;rw[q1] at hs1;rw[q2] at hs2;simp[gl,hV0,h0,h0',h0n,g1,g1',l1,hpv,gp',lpv,hbx,hkf',hkf2,hd0,hd0',hdne,hwm,htn,hpos,hs1,hs2,q3,hpd,p1',lpd,hw1,hJ,ab.dv,ab.cs]
theorem FK (hp:p.small) (hw:w.ok 4 p.aF) (hu:u.ok 1 p.marks):∃ v,(E tab).F 238 [.agg (af p w u)] st=some (.tuple [v,.int .i64 (aE p)],st)∧Lw 8 ((if aE p=0 then b4 p else []).map It.dv) v:=by
 rw[aK Su rfl];have hc:=qK p hp w u hw hu (pst st [.cells .plain (af p w u)] []);by_cases h0:aE p=0
 · rw[if_pos h0];obtain⟨v,hb,hv⟩:=Jr (st:=pst st [.cells .plain (af p w u)] []) hp hw hu;obtain⟨hN,_⟩:=dk h0;obtain⟨htl,_⟩:=b6 hN;obtain⟨t2,hpt⟩:=DZ (st:=pst st [.cells .plain (af p w u)] []) (w:=w) (u:=u) (l5 p) htl (t:=v.t) (tk:=v.tk) (nn:=v.nn) hv.n;obtain⟨ov',J',K',tl,hJ,hA⟩:=LO (st:=st) (p:=p) (w:=w) (u:=u) (l5 p) (t:=v.t) (tk:=v.tk) (nn:=v.nn) hv.n (oO p.text (ca p) p.pr.br) (t2:=t2) (tk2:=.tight) (ca p) [] 0 0 [] [] [] (.list 0 0 .no false []) rfl (aai _) (aai _) (by simp) (dU _ _ _ _ _ _);rw[aaF] at hA;obtain⟨t',n',tk',nn',e1,e2,e3,e4⟩:=mZ (st':=pst st (.cells .plain (af p w u)::J') K') hA;refine⟨.list t' n' tk' nn' ((b4 p).map It.dv),?_,.list _ _ _ _ e3 e2⟩;obtain⟨q1,q2,q3,q4,rfl⟩:=bK hA;rw[h0] at hc ⊢;unfold b4;simp only[abp] at e1 hJ;have e1':cj st (pst st (.cells .plain (af p w u)::J') K') (.list q1 q2 q3 q4 ((bk p.text (ca p) (fK p.text (ca p) p.pr.br) 0 0 0 (ca p)).map It.dv))=_:=e1;generalize (bk p.text (ca p) (fK p.text (ca p) p.pr.br) 0 0 0 (ca p)).map It.dv=X at *;generalize (fK p.text (ca p) p.pr.br).map DV.bool=PL at *;generalize (ca p).map ab.dv=V at *;simp at hJ e1';simp[f238,hc,hb,hpt,hJ,e1']
 · rw[if_neg h0];refine⟨.list 0 0 .no false [],?_,.list _ _ _ _ (fun h=>by cases h) (fun _=>rfl)⟩;simp[f238,hc,h0]
end
end Go.D.Tab
end
