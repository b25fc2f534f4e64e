import Derived.Test.YtljfiehklfefbaaGreatDoorM3
/-! Texts 4 of this claim, joined. -/
section
set_option linter.unusedSimpArgs false
set_option linter.unusedVariables false
set_option linter.unnecessarySimpa false
namespace Go.D.Tab
theorem uD {st:St} {H:List HO} {K:List Nat} {n by_:Nat} {ag:Bool} {xs ys:List DV} {v w:DV} (h:Acc st K n xs v) (hw:Vw (pst st H K) n ag ys w) (hn:0<n) (hy:ys≠[]) (he:∀ y∈ys,dB n ag y)
 (hr:(xs.length+ys.length)*by_≤az) (hr2:xs.length+ys.length≤az) :
 ∃ v' K',aY (pst st H K) n ag by_ v w=some (v',pst st H K')∧Acc st K' n (xs++ys) v':=by
 obtain ⟨v',K',h1,h2⟩:=eY (H:=H) (t:=0) (tk:=.no) h hn hy he hr hr2
 refine ⟨v',K',?_,h2⟩
 rw [← h1]
 have e1:=hw.news
 have e2:bJ (pst st H K) n (.list 0 n .no true ys)=some (ys.length,flat ys):=by simp [bJ]
 unfold aY
 rw [e1,e2]
def isS (c:UInt8):Bool:=decide (97≤c.toNat)&&decide (c.toNat≤122)
def isD (c:UInt8):Bool:=decide (48≤c.toNat)&&decide (c.toNat≤57)
def u8 (c:UInt8):DV:=.int .u8 c.toNat
def d8 (d:Nat):DV:=.int .u8 d
theorem amI:tab 161=some (.code f161):=by kernel_rfl
theorem akI:tab 163=some (.code f163):=by kernel_rfl
theorem yK:tab 156=some (.code f156):=by kernel_rfl
theorem pK (c:UInt8) (st:St):(E tab).F 161 [.int .u8 c.toNat] st=some (.bool (isS c),st):=by
 rw [bj amI rfl]
 by_cases h:97≤c.toNat
 · have h':(97:Int)≤c.toNat:=by omega
   simp [f161,isS,h,h'];omega
 · have h':¬ (97:Int)≤c.toNat:=by omega
   simp [f161,isS,h,h']
theorem Dm (c:UInt8) (st:St):(E tab).F 163 [.int .u8 c.toNat] st=some (.bool (isD c),st):=by
 rw [bj akI rfl]
 by_cases h:48≤c.toNat
 · have h':(48:Int)≤c.toNat:=by omega
   simp [f163,isD,h,h'];omega
 · have h':¬ (48:Int)≤c.toNat:=by omega
   simp [f163,isD,h,h']
def cu (s:List UInt8):List UInt8:=s.filter fun c => !isD c
def cX:Nat→List UInt8→List Nat
 | d,[]=>[d]
 | d,c::r=>if isD c then cX (c.toNat-48) r else d::cX 0 r
theorem jC:∀ (s:List UInt8) (d:Nat),(cX d s).length=(cu s).length+1
 | [],_=>rfl
 | c::r,d=>by
   have ih:=jC r
   by_cases h:isD c=true
   · simp [cX,cu,h] at ih ⊢;exact ih _
   · simp [cX,cu,h] at ih ⊢;exact ih _
theorem uz:∀ (s:List UInt8) (d:Nat) (c:UInt8),isD c=true→cX d (s++[c])=(cX d s).set (cu s).length (c.toNat-48)
 | [],d,c,h=>by simp [cX,cu,h]
 | x::r,d,c,h=>by
   have ih:=uz r
   by_cases hx:isD x=true
   · simp [cX,cu,hx] at ih ⊢;exact ih _ _ h
   · simp [cX,cu,hx] at ih ⊢;exact ih _ _ h
theorem uc:∀ (s:List UInt8) (d:Nat) (c:UInt8),isD c=false→cX d (s++[c])=cX d s++[0]
 | [],d,c,h=>by simp [cX,h]
 | x::r,d,c,h=>by
   have ih:=uc r
   by_cases hx:isD x=true
   · simp [cX,hx] at ih ⊢;exact ih _ _ h
   · simp [cX,hx] at ih ⊢;exact ih _ _ h
theorem D5 (s:List UInt8) (c:UInt8) (h:isD c=true):cu (s++[c])=cu s:=by simp [cu,h]
theorem Jh (s:List UInt8) (c:UInt8) (h:isD c=false):cu (s++[c])=cu s++[c]:=by simp [cu,h]
def scan (n:Nat):Nat→Bool→Bool→List UInt8→Option Bool
 | _,sm,_,[]=>some sm
 | i,sm,rd,c::r=>
   if c.toNat=46 then if i≠0∧i+1≠n then none else scan n (i+1) sm true r
   else if isS c then scan n (i+1) true true r
   else if isD c&&rd then scan n (i+1) sm false r
   else none
inductive DgR (st:St) (H:List HO) (D:List Nat):DV→Prop
 | one (k:Nat) (h1:k≠1) (hr:rowAt H k=some (.plain,D.map d8)) (hl:D.length=1):DgR st H D (.hsl 1 false (st.heap.length+k) 0 D.length (some D.length))
 | more (k:Nat) (h1:k≠1) (hr:rowAt H k=some (.grown,D.map d8)):DgR st H D (.hsl 1 false (st.heap.length+k) 0 D.length none)
theorem DgR.len {st:St} {H:List HO} {D:List Nat} {v:DV} (h:DgR st H D v) (st':St):pS st' .slice v=some (.int .i64 D.length,st'):=by cases h<;>rfl
theorem DgR.app {st:St} {H:List HO} {D:List Nat} {v:DV} (h:DgR st H D v) (X:List HO):DgR st (H++X) D v:=by
 cases h with
 | one k h1 hr hl=>exact .one k h1 (by rw [eK (bg hr)];exact hr) hl
 | more k h1 hr=>exact .more k h1 (by rw [eK (bg hr)];exact hr)
theorem DgR.anK {st:St} {H:List HO} {K:List Nat} {D:List Nat} {v w:DV} {g:CK} {vs:List DV} (h:DgR st H D v) (hD:D.length≤1000) (h2:rowAt H 1=some (g,vs)) (hw:bJ (pst st H K) 1 w=some (1,[d8 0])) :
 ∃ v' H',aY (pst st H K) 1 false 1 v w=some (v',pst st H' K)∧DgR st H' (D++[0]) v'∧rowAt H' 1=some (g,vs):=by
 have hlen:=bg h2
 cases h with
 | one k h1 hr hl=>
   refine ⟨.hsl 1 false (st.heap.length+H.length) 0 (D++[0]).length none,H++[.cells .grown ((D++[0]).map d8)],?_,.more _ (by omega) ?_,?_⟩
   · have hc:=fK st H K k
     rw [hr] at hc
     have e:(D.map d8).take 1=D.map d8:=List.take_of_length_le (by simp [hl])
     have e2:¬ (1+1≤1):=by omega
     simp only [aY,hw,hl]
     simp [hc,az,e,hl]
     simp [pst]
   · have:=dS (H:=H) (X:=[.cells .grown ((D++[0]).map d8)]) 0
     simpa using this
   · rw [eK hlen];exact h2
 | more k h1 hr=>
   refine ⟨.hsl 1 false (st.heap.length+H.length) 0 (D++[0]).length none,H.set k .gone++[.cells .grown ((D++[0]).map d8)],?_,.more _ (by omega) ?_,?_⟩
   · have hc:=fK st H K k
     rw [hr] at hc
     have h3:D.length+1≤140737488355328:=by omega
     simp only [aY,hw]
     simp [hc,az,h3]
     simp [pst,List.set_append_right]
   · have:=dS (H:=H.set k .gone) (X:=[.cells .grown ((D++[0]).map d8)]) 0
     simpa using this
   · rw [eK (by simpa using hlen)]
     unfold rowAt at h2 ⊢
     rw [List.getElem?_set_ne h1];exact h2
theorem DgR.store {st:St} {H:List HO} {K:List Nat} {D:List Nat} {v:DV} {g:CK} {vs:List DV} (h:DgR st H D v) {j:Nat} (hj:j<D.length) (h2:rowAt H 1=some (g,vs)) (x:Nat) :
 ∃ p H',(∀ st',nj st' 1 v (.int .i64 j)=some (p,st'))∧jM (pst st H K) 1 p (d8 x)=some (pst st H' K)∧DgR st H' (D.set j x) v∧rowAt H' 1=some (g,vs):=by
 have hlen:=bg h2
 have hs:∀ k g',k≠1→rowAt (H.set k (.cells g' ((D.set j x).map d8))) 1=some (g,vs):=by
  intro k g' h1
  unfold rowAt at h2 ⊢
  rw [List.getElem?_set_ne h1];exact h2
 have hsp:=fZ (x:=d8 x) (vs:=D.map d8) (i:=j) (by simpa using hj)
 cases h with
 | one k h1 hr hl=>
   refine ⟨.ptr (st.heap.length+k) (0+j*1),H.set k (.cells .plain ((D.set j x).map d8)),fun st'=>by simp [hj],?_,?_,hs _ _ h1⟩
   · rw [mX,hr]
     simp only [Nat.zero_add,Nat.mul_one]
     rw [show (d8 x).leaves=[d8 x] from rfl,hsp,if_pos ⟨rfl,rfl,by simp;omega,rfl⟩,List.map_set]
   · have:=DgR.one (st:=st) (D:=D.set j x) k h1 (dd (bg hr) .plain ((D.set j x).map d8)) (by simpa using hl)
     simpa using this
 | more k h1 hr=>
   refine ⟨.ptr (st.heap.length+k) (0+j*1),H.set k (.cells .grown ((D.set j x).map d8)),fun st'=>by simp [hj],?_,?_,hs _ _ h1⟩
   · rw [mX,hr]
     simp only [Nat.zero_add,Nat.mul_one]
     rw [show (d8 x).leaves=[d8 x] from rfl,hsp,if_pos ⟨rfl,rfl,by simp;omega,rfl⟩,List.map_set]
   · have:=DgR.more (st:=st) (D:=D.set j x) k h1 (dd (bg hr) .grown ((D.set j x).map d8))
     simpa using this
section
variable {st:St} {s:List UInt8}
theorem Xg {C:List DV} (hC:C=s.map u8) (hs:s.length≤16):∀ (r d:List UInt8) (sm rd:Bool) (H:List HO) (K:List Nat) (v vd:DV),s=d++r→Acc st K 1 ((cu d).map u8) v→DgR st H (cX 0 d) vd→rowAt H 1=some (.grown,C) →
 (∀ b,scan s.length d.length sm rd r=some b→∃ H' K' v' vd' rd',(E tab).C dK [(0,.str s),(5,v),(6,vd),(7,.bool sm),(8,.bool rd),(21,.hsl 1 false (st.heap.length+1) 0 s.length none),(22,.int .i64 s.length),(23,.int .i64 d.length)] (pst st H K) =
  some (.exit 0,[(0,.str s),(5,v'),(6,vd'),(7,.bool b),(8,.bool rd'),(21,.hsl 1 false (st.heap.length+1) 0 s.length none),(22,.int .i64 s.length),(23,.int .i64 s.length),(24,.bool false)],pst st H' K')∧Acc st K' 1 ((cu s).map u8) v'∧DgR st H' (cX 0 s) vd') ∧
 (scan s.length d.length sm rd r=none→∃ H' K',(E tab).C dK [(0,.str s),(5,v),(6,vd),(7,.bool sm),(8,.bool rd),(21,.hsl 1 false (st.heap.length+1) 0 s.length none),(22,.int .i64 s.length),(23,.int .i64 d.length)] (pst st H K) =
  some (.ret,[(2,.str []),(3,.list 0 0 .no false []),(4,.bool false)],pst st H' K')):=by
 intro r
 induction r with
 | nil=>
   intro d sm rd H K v vd hd hv hvd h1
   obtain rfl:s=d:=by simpa using hd
   refine ⟨fun b hb => ?_,fun hb=>by simp [scan] at hb⟩
   simp only [scan,Option.some.injEq] at hb
   subst hb
   refine ⟨H,K,v,vd,rd,?_,hv,hvd⟩
   rw [aj (L:=dK) rfl]
   simp [ja]
 | cons c r ih=>
   intro d sm rd H K v vd hd hv hvd h1
   have h0:d.length<s.length:=by simp [hd]
   have hx:C[d.length]? = some (.int .u8 c.toNat):=by simp [hC,hd,u8]
   have hw1:IntKind.i64.wrap ((d.length:Int)+1)=((d++[c]).length:Nat):=by rw [aN (by omega)];simp
   have hwm:IntKind.i64.wrap ((s.length:Int)-1)=(s.length:Int)-1:=aN (by omega)
   have hd':s=(d++[c])++r:=by simp [hd]
   have hll:(cu d).length≤d.length:=List.length_filter_le _ _
   have hdl:=jC d 0
   have sm1:=pK c
   have dg1:=Dm c
   have hlet:isD c=false→∃ v' K' vd' H',aY (pst st (H++[.cells .plain [.int .u8 c.toNat]]) K) 1 false 1 v (.hsl 1 false (st.heap.length+H.length) 0 1 (some 1))=some (v',pst st (H++[.cells .plain [.int .u8 c.toNat]]) K') ∧
    aY (pst st (H++[.cells .plain [.int .u8 c.toNat],.cells .plain [.int .u8 0]]) K') 1 false 1 vd (.hsl 1 false (st.heap.length+(H.length+1)) 0 1 (some 1))=some (vd',pst st H' K') ∧
    Acc st K' 1 ((cu (d++[c])).map u8) v'∧DgR st H' (cX 0 (d++[c])) vd'∧rowAt H' 1=some (.grown,C):=by
    intro hc
    have hvw:Vw (pst st (H++[.cells .plain [.int .u8 c.toNat]]) K) 1 false [u8 c] (.hsl 1 false (st.heap.length+H.length) 0 1 (some 1)):=by
     have hcell:(pst st (H++[.cells .plain [.int .u8 c.toNat]]) K).cells (st.heap.length+H.length)=some (.plain,[.int .u8 c.toNat]):=by rw [fK];simp
     exact Vw.hsl (xs:=[u8 c]) _ 0 1 _ _ hcell (by simp) (by simp [flat,u8,DV.leaves]) (by simp)
    obtain ⟨v',K',e1,e2⟩:=uD (by_:=1) hv hvw (by omega) (by simp) (fun y hy=>by simp at hy;subst hy;exact ⟨rfl,rfl,rfl⟩) (by simp [az];omega) (by simp [az];omega)
    have hr2:rowAt (H++[.cells .plain [.int .u8 c.toNat],.cells .plain [.int .u8 0]]) 1=some (.grown,C):=by rw [eK (bg h1)];exact h1
    have hnw:bJ (pst st (H++[.cells .plain [.int .u8 c.toNat],.cells .plain [.int .u8 0]]) K') 1 (.hsl 1 false (st.heap.length+(H.length+1)) 0 1 (some 1))=some (1,[d8 0]):=by
     have hcell:(pst st (H++[.cells .plain [.int .u8 c.toNat],.cells .plain [.int .u8 0]]) K').cells (st.heap.length+(H.length+1))=some (.plain,[.int .u8 0]):=by
      rw [fK];have:=dS (H:=H) (X:=[.cells .plain [.int .u8 c.toNat],.cells .plain [.int .u8 0]]) 1;simpa using this
     simp [bJ,hcell,d8]
    obtain ⟨vd',H',e3,e4,e5⟩:=(hvd.app [.cells .plain [.int .u8 c.toNat],.cells .plain [.int .u8 0]]).anK (by omega) hr2 hnw
    refine ⟨v',K',vd',H',e1,e3,?_,?_,e5⟩
    · rw [Jh _ _ hc];simpa using e2
    · rw [uc _ _ _ hc];exact e4
   simp only [List.length_append,List.length_singleton] at hw1
   by_cases hdot:c.toNat=46
   · have hdi:((c.toNat:Int)=46)=True:=eq_true (by omega)
     have hcD:isD c=false:=by simp [isD,hdot]
     by_cases hbad:d.length≠0∧d.length+1≠s.length
     · have hsc:scan s.length d.length sm rd (c::r)=none:=by simp only [scan,if_pos hdot,if_pos hbad]
       refine ⟨fun b hb=>(by rw [hsc] at hb;cases hb),fun _=>⟨H,K,?_⟩⟩
       have b1:¬ ((d.length:Int)=0):=by omega
       have b2:¬ ((d.length:Int)=(s.length:Int)-1):=by omega
       have b3:¬ d=[]:=fun e=>hbad.1 (by simp [e])
       rw [aj (L:=dK) rfl]
       simp [ja,h0,h1,hx,hdi,hwm,b1,b2,b3]
     · have hsc:scan s.length d.length sm rd (c::r)=scan s.length (d++[c]).length sm true r:=by rw [List.length_append];simp only [scan,if_pos hdot,if_neg hbad,List.length_singleton]
       obtain ⟨v',K',vd',H',a1,a2,a3,a4,a5⟩:=hlet hcD
       obtain ⟨j1,j2⟩:=ih (d++[c]) sm true H' K' v' vd' hd' a3 a4 a5
       rw [hsc]
       simp only [List.length_append,List.length_singleton] at j1 j2 ⊢
       have fin:∀ X,(E tab).C dK [(0,.str s),(5,v'),(6,vd'),(7,.bool sm),(8,.bool true),(21,.hsl 1 false (st.heap.length+1) 0 s.length none),(22,.int .i64 s.length),(23,.int .i64 (d.length+1:Nat))] (pst st H' K')=X →
        (E tab).C dK [(0,.str s),(5,v),(6,vd),(7,.bool sm),(8,.bool rd),(21,.hsl 1 false (st.heap.length+1) 0 s.length none),(22,.int .i64 s.length),(23,.int .i64 d.length)] (pst st H K)=X:=by
        intro X hX
        simp at hX
        rw [aj (L:=dK) rfl]
        by_cases hz:d=[]
        · subst hz
          simp at a1 a2 hX hx h0
          have w1:IntKind.i64.wrap 1=1:=aN (by omega)
          simp [ja,h0,h1,hx,hdi,w1,j6,bn,dw,bu,a1,a2,hw1,hX]
        · have hz':¬ d.length=0:=by simpa using hz
          have b2:((d.length:Int) != (s.length:Int)-1)=false:=by rw [bne_eq_false_iff_eq];omega
          simp at hw1
          simp [ja,h0,h1,hx,hdi,hwm,hz,b2,j6,bn,dw,bu,a1,a2,hw1,hX]
       refine ⟨fun b hb => ?_,fun hb => ?_⟩
       · obtain ⟨H2,K2,v2,vd2,rd2,hJ,q⟩:=j1 b hb
         exact ⟨H2,K2,v2,vd2,rd2,fin _ hJ,q⟩
       · obtain ⟨H2,K2,hJ⟩:=j2 hb
         exact ⟨H2,K2,fin _ hJ⟩
   have hdi:((c.toNat:Int)=46)=False:=eq_false (by omega)
   by_cases hS:isS c=true
   · have hcD:isD c=false:=by simp [isS,isD] at hS ⊢;omega
     have hsc:scan s.length d.length sm rd (c::r)=scan s.length (d++[c]).length true true r:=by rw [List.length_append];simp only [scan,if_neg hdot,if_pos hS,List.length_singleton]
     obtain ⟨v',K',vd',H',a1,a2,a3,a4,a5⟩:=hlet hcD
     obtain ⟨j1,j2⟩:=ih (d++[c]) true true H' K' v' vd' hd' a3 a4 a5
     rw [hsc]
     simp only [List.length_append,List.length_singleton] at j1 j2 ⊢
     rw [hS] at sm1
     have fin:∀ X,(E tab).C dK [(0,.str s),(5,v'),(6,vd'),(7,.bool true),(8,.bool true),(21,.hsl 1 false (st.heap.length+1) 0 s.length none),(22,.int .i64 s.length),(23,.int .i64 (d.length+1:Nat))] (pst st H' K')=X →
      (E tab).C dK [(0,.str s),(5,v),(6,vd),(7,.bool sm),(8,.bool rd),(21,.hsl 1 false (st.heap.length+1) 0 s.length none),(22,.int .i64 s.length),(23,.int .i64 d.length)] (pst st H K)=X:=by
      intro X hX
      simp at hX hw1
      rw [aj (L:=dK) rfl]
      simp [ja,h0,h1,hx,hdi,sm1,j6,bn,dw,bu,a1,a2,hw1,hX]
     refine ⟨fun b hb => ?_,fun hb => ?_⟩
     · obtain ⟨H2,K2,v2,vd2,rd2,hJ,q⟩:=j1 b hb
       exact ⟨H2,K2,v2,vd2,rd2,fin _ hJ,q⟩
     · obtain ⟨H2,K2,hJ⟩:=j2 hb
       exact ⟨H2,K2,fin _ hJ⟩
   have hS':isS c=false:=by simpa using hS
   rw [hS'] at sm1
   by_cases hD:isD c=true∧rd=true
   · obtain ⟨hcD,rfl⟩:=hD
     have hsc:scan s.length d.length sm true (c::r)=scan s.length (d++[c]).length sm false r:=by rw [List.length_append];simp only [scan,if_neg hdot,if_neg hS,hcD,Bool.and_self,if_true,List.length_singleton]
     obtain ⟨p,H',a1,a2,a3,a4⟩:=hvd.store (K:=K) (j:=(cu d).length) (by omega) h1 (c.toNat-48)
     have hlen:=hvd.len
     rw [← uz _ _ _ hcD] at a3
     obtain ⟨j1,j2⟩:=ih (d++[c]) sm false H' K v vd hd' (by rw [D5 _ _ hcD];exact hv) a3 a4
     rw [hsc]
     simp only [List.length_append,List.length_singleton] at j1 j2 ⊢
     rw [hcD] at dg1
     have hl2:IntKind.i64.wrap (((cX 0 d).length:Int)-1)=((cu d).length:Int):=by rw [aN (by omega)];omega
     have hu8:IntKind.u8.wrap ((c.toNat:Int)-48)=((c.toNat-48:Nat):Int):=by
      have h8:c.toNat<256:=c.toNat_lt
      have h48:48≤c.toNat:=by simp [isD] at hcD;omega
      rw [IntWalk.u8_in _ ⟨by omega,by omega⟩];omega
     simp only [d8] at a2
     have fin:∀ X,(E tab).C dK [(0,.str s),(5,v),(6,vd),(7,.bool sm),(8,.bool false),(21,.hsl 1 false (st.heap.length+1) 0 s.length none),(22,.int .i64 s.length),(23,.int .i64 (d.length+1:Nat))] (pst st H' K)=X →
      (E tab).C dK [(0,.str s),(5,v),(6,vd),(7,.bool sm),(8,.bool true),(21,.hsl 1 false (st.heap.length+1) 0 s.length none),(22,.int .i64 s.length),(23,.int .i64 d.length)] (pst st H K)=X:=by
      intro X hX
      simp at hX hw1
      rw [aj (L:=dK) rfl]
      simp [ja,h0,h1,hx,hdi,sm1,dg1,hlen,hl2,hu8,a1,a2,hw1,hX]
     refine ⟨fun b hb => ?_,fun hb => ?_⟩
     · obtain ⟨H2,K2,v2,vd2,rd2,hJ,q⟩:=j1 b hb
       exact ⟨H2,K2,v2,vd2,rd2,fin _ hJ,q⟩
     · obtain ⟨H2,K2,hJ⟩:=j2 hb
       exact ⟨H2,K2,fin _ hJ⟩
   · have hsc:scan s.length d.length sm rd (c::r)=none:=by
      have:¬ (isD c&&rd)=true:=by simpa using hD
      simp only [scan,if_neg hdot,if_neg hS,if_neg this]
     refine ⟨fun b hb=>(by rw [hsc] at hb;cases hb),fun _=>⟨H,K,?_⟩⟩
     rw [aj (L:=dK) rfl]
     by_cases hcD:isD c=true
     · rw [hcD] at dg1
       have hrd:rd=false:=by cases rd<;>simp_all
       simp [ja,h0,h1,hx,hdi,sm1,dg1,hrd]
     · have hcD':isD c=false:=by simpa using hcD
       rw [hcD'] at dg1
       simp [ja,h0,h1,hx,hdi,sm1,dg1]
theorem jS:∀ l:List UInt8,fO (l.map u8)=some l
 | []=>rfl
 | c::r=>by
   have:=jS r
   show (fO (r.map u8)).map (fun l=>UInt8.ofNat ((c.toNat:Int)).toNat::l)=_
   rw [this];simp
theorem tP {st:St} {K:List Nat} {l:List UInt8} {v:DV} (h:Acc st K 1 (l.map u8) v) (st':St):bJ st' 1 v=some (l.length,l.map u8)∧∀ s,v≠.str s:=by
 rcases h with ⟨hl,t,n',tk,rfl⟩ | ⟨k,s,rfl,hk⟩
 · have:l=[]:=by simpa using hl
   subst this;exact ⟨rfl,fun s e=>by cases e⟩
 · refine ⟨?_,fun s e=>by cases e⟩
   have:flat (l.map u8)=l.map u8:=ij _ (by intro y hy;obtain ⟨c,_,rfl⟩:=List.mem_map.1 hy;exact ⟨rfl,rfl,rfl⟩)
   simp [bJ,this]
def okP (s:List UInt8):Bool:=decide (1≤s.length)&&decide (s.length≤16)&&(scan s.length 0 false true s==some true)
theorem wU (s:List UInt8) (st:St):(okP s=true→∃ t tk,(E tab).F 156 [.str s] st=some (.tuple [.str (cu s),.list t 1 tk true ((cX 0 s).map d8),.bool true],st)) ∧
 (okP s=false→∃ l v,(E tab).F 156 [.str s] st=some (.tuple [.str l,v,.bool false],st)):=by
 by_cases h1:s.length<1
 · have h1':(s.length:Int)<1:=by omega
   have hz:s=[]:=by simpa using h1
   refine ⟨fun h=>by simp [okP,hz] at h,fun _=>⟨[],.list 0 0 .no false [],?_⟩⟩
   rw [bj yK rfl]
   subst hz
   simp [f156]
 by_cases h2:16<s.length
 · have h2':(16:Int)<s.length:=by omega
   have h1':¬ (s.length:Int)<1:=by omega
   refine ⟨fun h=>by simp [okP] at h;omega,fun _=>⟨[],.list 0 0 .no false [],?_⟩⟩
   rw [bj yK rfl]
   simp [f156,h1',h2']
 have h1':¬ (s.length:Int)<1:=by omega
 have h2':¬ (16:Int)<s.length:=by omega
 obtain ⟨j1,j2⟩:=Xg (st:=st) (s:=s) rfl (by omega) s [] false true [.cells .plain [d8 0],.cells .grown (s.map u8)] [] (.list 0 0 .no false []) (.hsl 1 false (st.heap.length+0) 0 1 (some 1)) rfl (ef ..) (DgR.one (D:=[0]) 0 (by omega) rfl rfl) rfl
 simp only [d8] at j1 j2
 have hu:(fun b:UInt8=>DV.int .u8 (b.toNat:Int))=u8:=rfl
 have hok:okP s=(scan s.length 0 false true s==some true):=by
  simp only [okP]
  rw [decide_eq_true (by omega:1≤s.length),decide_eq_true (by omega:s.length≤16)];simp
 cases hsc:scan s.length 0 false true s with
 | none=>
   obtain ⟨H',K',hL⟩:=j2 hsc
   refine ⟨fun h=>(by rw [hok,hsc] at h;cases h),fun _=>⟨[],.list 0 0 .no false [],?_⟩⟩
   simp at hL
   rw [bj yK rfl]
   simp [f156,h1',h2',j6,bn,dw,bu,hu,hL]
 | some b=>
   obtain ⟨H',K',v',vd',rd',hL,a1,a2⟩:=j1 b hsc
   obtain ⟨b1,b2⟩:=tP a1 (pst st H' K')
   have b3:=jS (cu s)
   have hex:∃ t tk,bR st (pst st H' K') vd'=some (.list t 1 tk true ((cX 0 s).map d8)):=by
    have hel:∀ y∈(cX 0 s).map d8,dB 1 false y:=by intro y hy;obtain ⟨c,_,rfl⟩:=List.mem_map.1 hy;exact ⟨rfl,rfl,rfl⟩
    have hfl:=ij _ hel
    cases a2 with
    | one k q1 hr hl=>
      have:=wi (st:=st) (K:=K') (cap:=some (cX 0 s).length) (n:=1) (ag:=false) (ys:=(cX 0 s).map d8) (by rw [hfl];exact hr) (by omega) (.inr rfl) hel
      simp only [List.length_map] at this
      exact ⟨_,_,this⟩
    | more k q1 hr=>
      have:=wi (st:=st) (K:=K') (cap:=none) (n:=1) (ag:=false) (ys:=(cX 0 s).map d8) (by rw [hfl];exact hr) (by omega) (.inr rfl) hel
      simp only [List.length_map] at this
      exact ⟨_,_,this⟩
   obtain ⟨t,tk,hex⟩:=hex
   simp at hL
   have hrun:(E tab).F 156 [.str s] st=some (.tuple [.str (cu s),.list t 1 tk true ((cX 0 s).map d8),.bool b],st):=by
    rw [bj yK rfl]
    simp [f156,h1',h2',j6,bn,dw,bu,hu,hL,pO,b1,b3,hex]
   refine ⟨fun h => ?_,fun h => ?_⟩
   · rw [hok,hsc] at h
     obtain rfl:b=true:=by simpa using h
     exact ⟨t,tk,hrun⟩
   · rw [hok,hsc] at h
     obtain rfl:b=false:=by cases b with | false=>rfl | true=>simp at h
     exact ⟨_,_,hrun⟩
end
section
variable {s:List UInt8} {st:St}
def aQ (s:List UInt8):List UInt8:=s.filter fun c=>decide (c.toNat≠45)
def dx (c:UInt8):UInt8:=if 65≤c.toNat∧c.toNat≤90 then UInt8.ofNat (c.toNat+32) else c
theorem ET {c:UInt8} (h:65≤c.toNat∧c.toNat≤90):(dx c).toNat=c.toNat+32:=by
 unfold dx;rw [if_pos h]
 show (c.toNat+32)%256=_
 omega
theorem GN {c:UInt8} (h:¬ (65≤c.toNat∧c.toNat≤90)):dx c=c:=by unfold dx;rw [if_neg h]
def uY (s:List UInt8):Bool:=s.all fun c=>isS (dx c)
end
theorem aii:tab 149=some (.code f149):=by kernel_rfl
section
variable {s:List UInt8} {st:St}
theorem YZ (hs:s.length≤64) (K:List Nat):∀ (r d:List UInt8) (X:List DV),s=d++r→X=(d.map dx++r).map u8 →
 (uY r=true→(E tab).C gT [(4,.hsl 1 false st.heap.length 0 s.length none),(17,.hsl 1 false st.heap.length 0 s.length none),(18,.int .i64 s.length),(19,.int .i64 d.length)] (pst st [.cells .grown X] K) =
  some (.exit 0,[(4,.hsl 1 false st.heap.length 0 s.length none),(17,.hsl 1 false st.heap.length 0 s.length none),(18,.int .i64 s.length),(19,.int .i64 s.length),(20,.bool false)],pst st [.cells .grown ((s.map dx).map u8)] K)) ∧
 (uY r=false→∃ X',(E tab).C gT [(4,.hsl 1 false st.heap.length 0 s.length none),(17,.hsl 1 false st.heap.length 0 s.length none),(18,.int .i64 s.length),(19,.int .i64 d.length)] (pst st [.cells .grown X] K) =
  some (.ret,[(2,.str []),(3,.bool false)],pst st [.cells .grown X'] K)):=by
 intro r
 induction r with
 | nil=>
   intro d X hd hX
   obtain rfl:s=d:=by simpa using hd
   refine ⟨fun _ => ?_,fun h=>by cases h⟩
   rw [aj (L:=gT) rfl]
   simp [jd,hX]
 | cons c r ih=>
   intro d X hd hX
   have h0:d.length<s.length:=by simp [hd]
   have hx:X[d.length]? = some (.int .u8 c.toNat):=by simp [hX,u8]
   have hlX:X.length=s.length:=by simp [hX,hd]
   have hlt:d.length<X.length:=by omega
   have hge:X[d.length]'hlt=.int .u8 c.toNat:=by have:=hx;rw [List.getElem?_eq_getElem hlt] at this;exact Option.some.inj this
   have hw1:IntKind.i64.wrap ((d.length:Int)+1)=(d.length:Int)+1:=by rw [aN (by omega)]
   have hsp:=fZ (x:=.int .u8 (dx c).toNat) (vs:=X) hlt
   have hset:X.set d.length (.int .u8 (dx c).toNat)=((d++[c]).map dx++r).map u8:=by
    rw [hX]
    simp [u8,List.set_append_right]
   have sm:=pK (dx c)
   have hall:uY (c::r)=(isS (dx c)&&uY r):=rfl
   by_cases hA:65≤c.toNat∧c.toNat≤90
   · have a1:(65:Int)≤c.toNat:=by omega
     have a2:(c.toNat:Int)≤90:=by omega
     have a4:IntKind.u8.wrap ((c.toNat:Int)+97)=(c.toNat:Int)+97:=IntWalk.u8_in _ ⟨by omega,by omega⟩
     have a3:IntKind.u8.wrap ((c.toNat:Int)+97-65)=((dx c).toNat:Int):=by rw [IntWalk.u8_in _ ⟨by omega,by omega⟩,ET hA];omega
     have hlt2:d.length<(X.set d.length (.int .u8 (dx c).toNat)).length:=by simpa using hlt
     have hx2:(X.set d.length (.int .u8 (dx c).toNat))[d.length]? = some (.int .u8 (dx c).toNat):=List.getElem?_set_self hlt
     obtain ⟨j1,j2⟩:=ih (d++[c]) (X.set d.length (.int .u8 (dx c).toNat)) (by simp [hd]) hset
     generalize X.set d.length (.int .u8 (dx c).toNat)=Y at *
     have hge2:Y[d.length]'hlt2=.int .u8 (dx c).toNat:=by have:=hx2;rw [List.getElem?_eq_getElem hlt2] at this;exact Option.some.inj this
     simp only [List.length_append,List.length_singleton] at j1 j2
     simp at j1 j2
     simp only [bu,List.length_singleton] at hsp
     simp at hsp
     have hle:d.length+1≤X.length:=by omega
     by_cases hS:isS (dx c)=true
     · rw [hS] at sm
       rw [hall,hS,Bool.true_and]
       refine ⟨fun h => ?_,fun h => ?_⟩
       · rw [aj (L:=gT) rfl]
         simp [jd,h0,hx,hge,hlt,hle,a1,a2,a3,a4,hsp,hx2,hge2,hlt2,sm,hw1,j1 h]
       · obtain ⟨X',hL⟩:=j2 h
         refine ⟨X',?_⟩
         rw [aj (L:=gT) rfl]
         simp [jd,h0,hx,hge,hlt,hle,a1,a2,a3,a4,hsp,hx2,hge2,hlt2,sm,hw1,hL]
     · have hS':isS (dx c)=false:=by simpa using hS
       rw [hS'] at sm
       rw [hall,hS',Bool.false_and]
       refine ⟨fun h=>(by cases h),fun _=>⟨Y,?_⟩⟩
       rw [aj (L:=gT) rfl]
       simp [jd,h0,hx,hge,hlt,hle,a1,a2,a3,a4,hsp,hx2,hge2,hlt2,sm]
   · have hl:=GN hA
     rw [hl] at sm hall
     obtain ⟨j1,j2⟩:=ih (d++[c]) X (by simp [hd]) (by rw [hX];simp [hl])
     simp only [List.length_append,List.length_singleton] at j1 j2
     simp at j1 j2
     by_cases hS:isS c=true
     · rw [hS] at sm
       rw [hall,hS,Bool.true_and]
       have a1:(65:Int)≤c.toNat:=by simp [isS] at hS;omega
       have a2:¬ (c.toNat:Int)≤90:=by omega
       refine ⟨fun h => ?_,fun h => ?_⟩
       · rw [aj (L:=gT) rfl]
         simp [jd,h0,hx,hge,hlt,a1,a2,sm,hw1,j1 h]
       · obtain ⟨X',hL⟩:=j2 h
         refine ⟨X',?_⟩
         rw [aj (L:=gT) rfl]
         simp [jd,h0,hx,hge,hlt,a1,a2,sm,hw1,hL]
     · have hS':isS c=false:=by simpa using hS
       rw [hS'] at sm
       rw [hall,hS',Bool.false_and]
       refine ⟨fun h=>(by cases h),fun _=>⟨X,?_⟩⟩
       rw [aj (L:=gT) rfl]
       by_cases a1:(65:Int)≤c.toNat
       · have a2:¬ (c.toNat:Int)≤90:=by omega
         simp [jd,h0,hx,hge,hlt,a1,a2,sm]
       · simp [jd,h0,hx,hge,hlt,a1,sm]
def kP (s:List UInt8):Bool:=uY s&&(decide (1≤s.length)&&decide (s.length≤64))
theorem Ep:(E tab).F 149 [.str s] st=some (if kP s then .tuple [.str (s.map dx),.bool true] else .tuple [.str [],.bool false],st):=by
 rw [bj aii rfl]
 by_cases h1:s.length<1
 · have h1':(s.length:Int)<1:=by omega
   have hz:s=[]:=by simpa using h1
   subst hz
   simp [f149,kP]
 have h1':¬ (s.length:Int)<1:=by omega
 by_cases h2:64<s.length
 · have h2':(64:Int)<s.length:=by omega
   have:kP s=false:=by simp [kP];omega
   simp [f149,h1',h2',this]
 have h2':¬ (64:Int)<s.length:=by omega
 have hok:kP s=uY s:=by simp [kP];omega
 have hu:(fun b:UInt8=>DV.int .u8 (b.toNat:Int))=u8:=rfl
 obtain ⟨j1,j2⟩:=YZ (st:=st) (s:=s) (by omega) [] s [] (s.map u8) rfl (by simp)
 simp at j1 j2
 rw [hok]
 by_cases h:uY s=true
 · have hL:=j1 h
   have hb:=jS (s.map dx)
   simp at hb
   have ht:List.take s.length (List.map (u8∘dx) s)=List.map (u8∘dx) s:=List.take_of_length_le (by simp)
   simp [f149,h1',h2',hu,hL,h,pO,bJ,ht,hb]
 · have h':uY s=false:=by simpa using h
   obtain ⟨X',hL⟩:=j2 h'
   simp [f149,h1',h2',hu,hL,h']
end
section
variable {s:List UInt8} {st:St}
end
section
variable {s:List UInt8} {st:St}
def oN (f:Nat→UInt8→Bool):Nat→List UInt8→Bool
 | _,[]=>true
 | i,c::r=>f i c&&oN f (i+1) r
end
theorem K5:tab 158=some (.code f158):=by kernel_rfl
def i6 (k:Nat):DV:=.int .i64 k
def plc:Nat→List UInt8→List Nat
 | _,[]=>[]
 | k,c::r=>if c.toNat=45 then k::plc k r else plc (k+1) r
theorem lG:∀ (d:List UInt8) (k:Nat) (c:UInt8),c.toNat=45→plc k (d++[c])=plc k d++[k+(aQ d).length]
 | [],k,c,h=>by simp [plc,aQ,h]
 | x::r,k,c,h=>by
   by_cases hx:x.toNat=45
   · have:=lG r k c h;simp [plc,aQ,hx] at this ⊢;exact this
   · have:=lG r (k+1) c h;simp [plc,aQ,hx] at this ⊢;rw [this];simp;omega
theorem oe:∀ (d:List UInt8) (k:Nat) (c:UInt8),c.toNat≠45→plc k (d++[c])=plc k d
 | [],k,c,h=>by simp [plc,h]
 | x::r,k,c,h=>by
   by_cases hx:x.toNat=45
   · have:=oe r k c h;simp [plc,hx] at this ⊢;exact this
   · have:=oe r (k+1) c h;simp [plc,hx] at this ⊢;exact this
theorem lY:∀ (d:List UInt8) (k:Nat),(plc k d).length≤d.length
 | [],k=>by simp [plc]
 | x::r,k=>by
   by_cases hx:x.toNat=45
   · have:=lY r k;simp [plc,hx];omega
   · have:=lY r (k+1);simp [plc,hx];omega
theorem Dl (d:List UInt8):(aQ d).length≤d.length:=List.length_filter_le _ _
theorem rk (d:List UInt8) (c:UInt8) (h:c.toNat=45):aQ (d++[c])=aQ d:=by simp [aQ,h]
theorem uB (d:List UInt8) (c:UInt8) (h:c.toNat≠45):aQ (d++[c])=aQ d++[c]:=by simp [aQ,h]
def jQ (s:List UInt8) (i:Nat) (c:UInt8):Bool:=isS c||(decide (c.toNat=45)&&decide (0<i)&&decide (i+1<s.length)&&decide ((s.getD (i-1) 0).toNat≠45))
section
variable {s:List UInt8} {st:St}
set_option maxHeartbeats 2000000 in
theorem aau {C:List DV} (hC:C=s.map u8) (hs:s.length≤1000) (H:List HO):∀ (r d:List UInt8) (K:List Nat) (v1 v2:DV) (o1 o2:Option Nat),s=d++r→Ac st K 1 ((aQ d).map u8) v1 o1→Ac st K 1 ((plc 0 d).map i6) v2 o2→(∀ k,o1=some k→o2≠some k) →
 (oN (jQ s) d.length r=true→∃ K' w1 w2,(E tab).C fv [(0,.str s),(5,v1),(6,v2),(10,.list st.cur 1 .no true C),(11,.int .i64 s.length),(12,.int .i64 d.length)] (pst st H K) =
  some (.exit 0,[(0,.str s),(5,w1),(6,w2),(10,.list st.cur 1 .no true C),(11,.int .i64 s.length),(12,.int .i64 s.length),(13,.bool false)],pst st H K')∧(∃ p1,Ac st K' 1 ((aQ s).map u8) w1 p1)∧∃ p2,Ac st K' 1 ((plc 0 s).map i6) w2 p2) ∧
 (oN (jQ s) d.length r=false→∃ K',(E tab).C fv [(0,.str s),(5,v1),(6,v2),(10,.list st.cur 1 .no true C),(11,.int .i64 s.length),(12,.int .i64 d.length)] (pst st H K) =
  some (.ret,[(2,.str []),(3,.list 0 0 .no false []),(4,.bool false)],pst st H K')):=by
 intro r
 induction r with
 | nil=>
   intro d K v1 v2 o1 o2 hd h1 h2 hdis
   obtain rfl:s=d:=by simpa using hd
   refine ⟨fun _=>⟨K,v1,v2,?_,⟨o1,h1⟩,⟨o2,h2⟩⟩,fun h=>by cases h⟩
   rw [aj (L:=fv) rfl]
   simp [gV]
 | cons c r ih=>
   intro d K v1 v2 o1 o2 hd h1 h2 hdis
   have h0:d.length<s.length:=by simp [hd]
   have hx:C[d.length]? = some (.int .u8 c.toNat):=by simp [hC,hd,u8]
   have hlC:C.length=s.length:=by simp [hC]
   have hltC:d.length<C.length:=by omega
   have hgeC:C[d.length]'hltC=.int .u8 c.toNat:=by have:=hx;rw [List.getElem?_eq_getElem hltC] at this;exact Option.some.inj this
   have hw1:IntKind.i64.wrap ((d.length:Int)+1)=(d.length:Int)+1:=by rw [aN (by omega)]
   have hwm:IntKind.i64.wrap ((s.length:Int)-1)=(s.length:Int)-1:=aN (by omega)
   have hbl:=Dl d
   have hpl:=lY d 0
   have sm:=pK c
   have hof:oN (jQ s) d.length (c::r)=(jQ s d.length c&&oN (jQ s) (d.length+1) r):=rfl
   obtain ⟨t1,n1,k1,m1,hv1⟩:=eo h1.acc
   rw [hof]
   by_cases hS:isS c=true
   · have hc45:c.toNat≠45:=by simp [isS] at hS;omega
     have hB:jQ s d.length c=true:=by simp [jQ,hS]
     rw [hS] at sm
     obtain ⟨w1,K',k,a1,a2,a3,a4⟩:=BS (H:=H) (by_:=1) (ag:=false) (ys:=[u8 c]) (w:=.list st.cur 1 .tight true [u8 c]) h1 (.list _ _ _ _ (fun _=>rfl) (fun e=>by cases e)) (by omega) (by simp) (fun y hy=>by simp at hy;subst hy;exact ⟨rfl,rfl,rfl⟩) (by simp [az];omega) (by simp [az];omega)
     have hne:o2≠some k:=by
      rcases a3 with h | ⟨_,rfl⟩
      · exact hdis k h
      · intro e
        rw [e] at h2
        obtain ⟨_,_,q⟩:=h2
        have:=(List.getElem?_eq_some_iff.1 q).1
        omega
     obtain ⟨j1,j2⟩:=ih (d++[c]) K' w1 v2 (some k) o2 (by simp [hd]) (by rw [uB _ _ hc45];simpa using a2) (by rw [oe _ _ _ hc45];exact h2.stay hne a4) (fun k' e=>by cases e;exact hne)
     rw [hB,Bool.true_and]
     simp only [List.length_append,List.length_singleton] at j1 j2
     simp [u8] at j1 j2 a1
     refine ⟨fun h => ?_,fun h => ?_⟩
     · obtain ⟨K2,x1,x2,hJ,q⟩:=j1 h
       refine ⟨K2,x1,x2,?_,q⟩
       rw [aj (L:=fv) rfl]
       simp [gV,h0,hx,hgeC,hltC,sm,bc,bn,dw,bu,chunk,a1,hw1,hJ]
     · obtain ⟨K2,hJ⟩:=j2 h
       refine ⟨K2,?_⟩
       rw [aj (L:=fv) rfl]
       simp [gV,h0,hx,hgeC,hltC,sm,bc,bn,dw,bu,chunk,a1,hw1,hJ]
   have hS':isS c=false:=by simpa using hS
   rw [hS'] at sm
   by_cases hc:c.toNat=45
   · have hci:((c.toNat:Int)==45)=true:=by rw [beq_iff_eq];omega
     by_cases hz:d.length=0
     · have hB:jQ s d.length c=false:=by simp [jQ,hS',hz]
       have hnp:¬ 0<d.length:=by omega
       rw [hB,Bool.false_and]
       refine ⟨fun h=>(by cases h),fun h=>⟨K,?_⟩⟩
       rw [aj (L:=fv) rfl]
       simp [gV,h0,hx,hgeC,hltC,sm,hci,hnp]
     have hp:0<d.length:=by omega
     by_cases hl:d.length+1<s.length
     · have hl':(d.length:Int)<(s.length:Int)-1:=by omega
       have hlt:d.length-1<s.length:=by omega
       have hwp:IntKind.i64.wrap ((d.length:Int)-1)=((d.length-1:Nat):Int):=by rw [aN (by omega)];omega
       obtain ⟨q,hq⟩:∃ q,s[d.length-1]? = some q:=⟨s[d.length-1],List.getElem?_eq_getElem hlt⟩
       have hqe:s[d.length-1]'hlt=q:=by have:=hq;rw [List.getElem?_eq_getElem hlt] at this;exact Option.some.inj this
       have hqd:s.getD (d.length-1) 0=q:=by simp [hq]
       have hB:jQ s d.length c=decide (q.toNat≠45):=by simp [jQ,hS',hc,hp,hl,hq]
       by_cases hq45:q.toNat=45
       · have hqi:((q.toNat:Int)==45)=true:=by rw [beq_iff_eq];omega
         have hqb:((q.toNat:Int) != 45)=false:=by rw [bne_eq_false_iff_eq];omega
         rw [hB,decide_eq_false (by simpa using hq45),Bool.false_and]
         refine ⟨fun h=>(by cases h),fun h=>⟨K,?_⟩⟩
         rw [aj (L:=fv) rfl]
         simp [gV,h0,hx,hgeC,hltC,sm,hci,hp,hl',hwm,hwp,hlt,hq,hqe,hqi,hqb]
       · have hqi:((q.toNat:Int)==45)=false:=by rw [beq_eq_false_iff_ne];omega
         have hqb:((q.toNat:Int) != 45)=true:=by rw [bne_iff_ne];omega
         obtain ⟨w2,K',k,a1,a2,a3,a4⟩:=BS (H:=H) (by_:=8) (ag:=false) (ys:=[i6 (aQ d).length]) (w:=.list st.cur 1 .tight true [i6 (aQ d).length]) h2 (.list _ _ _ _ (fun _=>rfl) (fun e=>by cases e)) (by omega) (by simp) (fun y hy=>by simp at hy;subst hy;exact ⟨rfl,rfl,rfl⟩) (by simp [az];omega) (by simp [az];omega)
         have hne:o1≠some k:=by
          intro e
          rcases a3 with h | ⟨_,rfl⟩
          · exact hdis k e h
          · rw [e] at h1
            obtain ⟨_,_,q⟩:=h1
            have:=(List.getElem?_eq_some_iff.1 q).1
            omega
         obtain ⟨j1,j2⟩:=ih (d++[c]) K' v1 w2 o1 (some k) (by simp [hd]) (by rw [rk _ _ hc];exact h1.stay hne a4) (by rw [lG _ _ _ hc];simpa using a2) (fun k' e e2=>by cases e2;exact hne e)
         have hlen:∀ st',pS st' .slice v1=some (.int .i64 (aQ d).length,st'):=by
          intro st';rw [hv1];simp
         rw [hB,decide_eq_true (by simpa using hq45),Bool.true_and]
         simp only [List.length_append,List.length_singleton] at j1 j2
         simp [i6] at j1 j2 a1
         refine ⟨fun h => ?_,fun h => ?_⟩
         · obtain ⟨K2,x1,x2,hJ,q⟩:=j1 h
           refine ⟨K2,x1,x2,?_,q⟩
           rw [aj (L:=fv) rfl]
           simp [gV,h0,hx,hgeC,hltC,sm,hci,hp,hl',hwm,hwp,hlt,hq,hqe,hqi,hqb,hlen,bc,bn,dw,bu,chunk,a1,hw1,hJ]
         · obtain ⟨K2,hJ⟩:=j2 h
           refine ⟨K2,?_⟩
           rw [aj (L:=fv) rfl]
           simp [gV,h0,hx,hgeC,hltC,sm,hci,hp,hl',hwm,hwp,hlt,hq,hqe,hqi,hqb,hlen,bc,bn,dw,bu,chunk,a1,hw1,hJ]
     · have hl':¬ (d.length:Int)<(s.length:Int)-1:=by omega
       have hB:jQ s d.length c=false:=by simp [jQ,hS'];intro _ _ h;omega
       rw [hB,Bool.false_and]
       refine ⟨fun h=>(by cases h),fun h=>⟨K,?_⟩⟩
       rw [aj (L:=fv) rfl]
       simp [gV,h0,hx,hgeC,hltC,sm,hci,hp,hl',hwm]
   · have hci:((c.toNat:Int)==45)=false:=by rw [beq_eq_false_iff_ne];omega
     have hB:jQ s d.length c=false:=by simp [jQ,hS',hc]
     rw [hB,Bool.false_and]
     refine ⟨fun h=>(by cases h),fun h=>⟨K,?_⟩⟩
     rw [aj (L:=fv) rfl]
     simp [gV,h0,hx,hgeC,hltC,sm,hci]
theorem afs {st st':St} {K:List Nat} {n:Nat} {xs:List DV} {v:DV} {o:Option Nat} (h:Ac st K n xs v o):∃ w,bR st st' v=some w∧Lw n xs w:=by
 cases o with
 | none=>
   obtain ⟨rfl,t,n',tk,rfl⟩:=h
   exact ⟨_,rfl,.list _ _ _ _ (fun e=>by cases e) (fun _=>rfl)⟩
 | some k=>
   obtain ⟨s,rfl,_⟩:=h
   exact ⟨_,rfl,.list _ _ _ _ (fun _=>rfl) (fun e=>by cases e)⟩
def okE (s:List UInt8):Bool:=oN (jQ s) 0 s&&(decide (2≤(aQ s).length)&&decide ((aQ s).length≤64))
theorem tz (hs:s.length≤1000):∃ l v,(E tab).F 158 [.str s] st=some (.tuple [.str l,v,.bool (okE s)],st)∧(okE s=true→l=aQ s∧Lw 1 ((plc 0 s).map i6) v):=by
 have hu:(fun b:UInt8=>DV.int .u8 (b.toNat:Int))=u8:=rfl
 obtain ⟨j1,j2⟩:=aau (st:=st) (s:=s) rfl hs [] s [] [] (.list 0 0 .no false []) (.list 0 0 .no false []) none none rfl ⟨rfl,0,0,.no,rfl⟩ ⟨rfl,0,0,.no,rfl⟩ (fun k e=>by cases e)
 cases h:oN (jQ s) 0 s with
 | false=>
   have ho:okE s=false:=by simp [okE,h]
   obtain ⟨K',hL⟩:=j2 h
   simp at hL
   refine ⟨[],.list 0 0 .no false [],?_,fun e=>by rw [ho] at e;cases e⟩
   rw [ho,bj K5 rfl]
   simp [f158,hu,hL]
 | true=>
   have ho:okE s=(decide (2≤(aQ s).length)&&decide ((aQ s).length≤64)):=by simp [okE,h]
   obtain ⟨K',w1,w2,hL,⟨p1,g1⟩,⟨p2,g2⟩⟩:=j1 h
   simp at hL
   obtain ⟨b1,b2⟩:=tP g1.acc (pst st [] K')
   have b3:=jS (aQ s)
   obtain ⟨w,e1,e2⟩:=afs (st':=pst st [] K') g2
   obtain ⟨t1,n1,k1,m1,hv1⟩:=eo g1.acc
   have hlen:∀ st',pS st' .slice w1=some (.int .i64 (aQ s).length,st'):=by
    intro st';rw [hv1];simp
   refine ⟨aQ s,w,?_,fun _=>⟨rfl,e2⟩⟩
   rw [ho,bj K5 rfl]
   by_cases h2:2≤(aQ s).length
   · have h2':(2:Int)≤(aQ s).length:=by omega
     simp [f158,hu,hL,pO,b1,b3,hlen,e1,h2,h2']
     omega
   · have h2':¬ (2:Int)≤(aQ s).length:=by omega
     simp [f158,hu,hL,pO,b1,b3,hlen,e1,h2,h2']
end
section
variable {s:List UInt8} {st:St}
end
theorem alV:tab 152=some (.code f152):=by kernel_rfl
theorem KH (x y:Nat):ee kE [.int .u8 x,.int .u8 y]=some (.int .u8 (max x y:Nat)):=by
 rcases Nat.lt_or_ge x y with h | h
 · have e:max x y=y:=by omega
   simp [ee,kE,h,e]
 · have e:max x y=x:=by omega
   have h':¬ x<y:=by omega
   simp [ee,kE,h',e]
def fi:List Nat→Nat→List Nat→List Nat
 | V,_,[]=>V
 | V,a,d::r=>fi (V.set a (max (V.getD a 0) d)) (a+1) r
theorem iz:∀ (D V:List Nat) (a:Nat),(fi V a D).length=V.length
 | [],V,a=>rfl
 | d::r,V,a=>by simp [fi,iz r]
section
variable {st:St}
theorem RE {K:List Nat} {k kd n a:Nat} {D:List Nat} (hkd:kd≠k) (hn:n≤1000) (ha:a+D.length≤n):∀ (r d:List Nat) (V:List Nat) (H:List HO),D=d++r→V.length=n→rowAt H k=some (.plain,V.map d8)→rowAt H kd=some (.grown,D.map d8) →
 ∃ fr,(E tab).C sd [(0,.hsl 1 false (st.heap.length+k) 0 n (some n)),(1,.int .i64 a),(8,.hsl 1 false (st.heap.length+kd) 0 D.length none),(9,.int .i64 D.length),(10,.int .i64 d.length)] (pst st H K) =
   some (.exit 0,fr,pst st (H.set k (.cells .plain ((fi V (a+d.length) r).map d8))) K):=by
 intro r
 induction r with
 | nil=>
   intro d V H hd hV h1 h2
   obtain rfl:D=d:=by simpa using hd
   have hset:H.set k (.cells .plain ((fi V (a+D.length) []).map d8))=H:=by
    have hk:=bg h1
    apply List.ext_getElem?
    intro j
    by_cases hj:j=k
    · subst hj
      rw [List.getElem?_set_self hk]
      unfold rowAt at h1
      split at h1
      · rename_i e;simp only [Option.some.injEq,Prod.mk.injEq] at h1;rw [e,h1.1,h1.2];rfl
      · cases h1
    · rw [List.getElem?_set_ne (fun e=>hj e.symm)]
   rw [hset]
   refine ⟨[(0,.hsl 1 false (st.heap.length+k) 0 n (some n)),(1,.int .i64 a),(8,.hsl 1 false (st.heap.length+kd) 0 D.length none),(9,.int .i64 D.length),(10,.int .i64 D.length),(11,.bool false)],?_⟩
   rw [aj (L:=sd) rfl]
   simp [wj]
 | cons x r ih=>
   intro d V H hd hV h1 h2
   have hk:=bg h1
   have hkd':=bg h2
   have h0:d.length<D.length:=by simp [hd]
   have hw1:IntKind.i64.wrap ((d.length:Int)+1)=(d.length:Int)+1:=by rw [aN (by omega)]
   have hwa:IntKind.i64.wrap ((a:Int)+d.length)=((a+d.length:Nat):Int):=by rw [aN (by omega)];simp
   have had:a+d.length<n:=by omega
   generalize hp:a+d.length=p at *
   generalize hDm:D.map d8=DM at *
   have hx:DM[d.length]? = some (.int .u8 x):=by rw [← hDm];simp [hd,d8]
   have hlt:d.length<DM.length:=(List.getElem?_eq_some_iff.1 hx).1
   have hge:DM[d.length]'hlt=.int .u8 x:=by have:=hx;rw [List.getElem?_eq_getElem hlt] at this;exact Option.some.inj this
   obtain ⟨y,hy⟩:∃ y,V[p]? = some y:=⟨V[p],List.getElem?_eq_getElem (by omega)⟩
   have hyd:V.getD p 0=y:=by simp [hy]
   generalize hVm:V.map d8=VM at *
   have hvx:VM[p]? = some (.int .u8 y):=by rw [← hVm];simp [hy,d8]
   have hvl:VM.length=n:=by rw [← hVm];simpa using hV
   have hvlt:p<VM.length:=by omega
   have hvge:VM[p]'hvlt=.int .u8 y:=by have:=hvx;rw [List.getElem?_eq_getElem hvlt] at this;exact Option.some.inj this
   have hmx:=KH y x
   have hsp:=fZ (x:=.int .u8 (max y x:Nat)) (vs:=VM) hvlt
   have hset:VM.set p (.int .u8 (max y x:Nat))=(V.set p (max y x)).map d8:=by rw [← hVm,List.map_set];rfl
   rw [hset] at hsp
   obtain ⟨fr,hJ⟩:=ih (d++[x]) (V.set p (max y x)) (H.set k (.cells .plain ((V.set p (max y x)).map d8))) (by simp [hd]) (by simpa using hV) (dd hk _ _) (by
    unfold rowAt at h2 ⊢;rw [List.getElem?_set_ne (fun e=>hkd e.symm)];exact h2)
   refine ⟨fr,?_⟩
   have e1:a+(d++[x]).length=p+1:=by simp;omega
   rw [e1,List.set_set] at hJ
   simp only [List.length_append,List.length_singleton] at hJ
   have e2:fi V p (x::r)=fi (V.set p (max y x)) (p+1) r:=by simp only [fi,hyd]
   rw [e2]
   generalize (fi (V.set p (max y x)) (p+1) r).map d8=W at *
   generalize (V.set p (max y x)).map d8=VN at *
   simp only [bu,List.length_singleton] at hsp
   simp at hJ hsp
   have hle:p+1≤VM.length:=by omega
   rw [aj (L:=sd) rfl]
   simp [wj,h0,h1,h2,hx,hge,hlt,hwa,had,hvx,hvge,hvlt,hmx,hle,hsp,hw1,hJ]
theorem LB {K:List Nat} {k kd n a:Nat} {D V:List Nat} {H:List HO} (hkd:kd≠k) (hn:n≤1000) (ha:a+D.length≤n) (hV:V.length=n) (h1:rowAt H k=some (.plain,V.map d8)) (h2:rowAt H kd=some (.grown,D.map d8)) :
 (E tab).F 152 [.hsl 1 false (st.heap.length+k) 0 n (some n),.int .i64 a,.hsl 1 false (st.heap.length+kd) 0 D.length none] (pst st H K)=some (.tuple [],pst st (H.set k (.cells .plain ((fi V a D).map d8))) K):=by
 rw [eL alV rfl]
 obtain ⟨fr,hL⟩:=RE (st:=st) (K:=K) hkd hn ha D [] V H rfl hV h1 h2
 simp at hL
 simp [f152,hL]
end
abbrev Path:=List UInt8
def km (st:St):Option (Nat×List (UInt8×Nat))→DV
 | none=>.aD
 | some (m,_)=>.map (st.heap.length+m)
def nf (st:St):Option (Nat×List Nat)→DV
 | none=>.list 0 0 .no false []
 | some (k,D)=>.hsl 1 false (st.heap.length+k) 0 D.length none
def m7 (st:St) (x:UInt8×Nat):DV×DV:=(.int .u8 x.1.toNat,.ptr (st.heap.length+x.2) 0)
def eF:List (UInt8×Nat)→UInt8→Option Nat
 | [],_=>none
 | (a,k)::r,c=>if c=a then some k else eF r c
structure Trie (st:St) (H:List HO) (root:Nat) (N:Path→Option Nat) (es:Path→Option (Nat×List (UInt8×Nat))) (dg:Path→Option (Nat×List Nat)):Prop where
 top:N []=some root
 tN:∀ {p q k},N p=some k→N q=some k→p=q
 row:∀ {p k},N p=some k→rowAt H k=some (.plain,[km st (es p),nf st (dg p)])
 mS:∀ {p m l},es p=some (m,l)→H[m]? = some (.map (l.map (m7 st)))
 qj:∀ {p q m l l'},es p=some (m,l)→es q=some (m,l')→p=q
 kid:∀ {p k} (c:UInt8),N p=some k→N (p++[c])=match es p with | some (_,l)=>eF l c | none=>none
 Ky:∀ {p k D},dg p=some (k,D)→rowAt H k=some (.grown,D.map d8)
 qw:∀ {p q k D D'},dg p=some (k,D)→dg q=some (k,D')→p=q
 qB:∀ {p k D},dg p=some (k,D)→D.length=p.length+1
 off:∀ {p},N p=none→es p=none∧dg p=none∧∀ c,N (p++[c])=none
theorem Zo (a c:UInt8):((c.toNat:Int)=(a.toNat:Int))↔c=a:=by
 constructor
 · intro h;exact UInt8.toNat_inj.1 (by omega)
 · rintro rfl;rfl
theorem nb (st:St):∀ (l:List (UInt8×Nat)) (c:UInt8) (i:Nat),∃ j,findD [.int] (.int .u8 c.toNat) (l.map (m7 st)) i=some ((eF l c).map fun k=>(j,.ptr (st.heap.length+k) 0))
 | [],c,i=>⟨0,rfl⟩
 | (a,k)::r,c,i=>by
   obtain ⟨j,hj⟩:=nb st r c (i+1)
   have h8:=Zo a c
   by_cases h:c=a
   · refine ⟨i,?_⟩
     subst h
     simp [findD,m7,iq,cp,eF]
   · refine ⟨j,?_⟩
     have h':¬ ((c.toNat:Int)=(a.toNat:Int)):=fun e=>h (h8.1 e)
     have hn:¬ (c.toNat=a.toNat):=fun e=>h' (by omega)
     simp only [List.map_cons,m7,eF,if_neg h]
     have hb:((c.toNat:Int)==(a.toNat:Int))=false:=by rw [beq_eq_false_iff_ne];exact h'
     simp [findD,iq,cp,hb]
     exact hj
def nu (st:St):Option Nat→DV
 | some k=>.ptr (st.heap.length+k) 0
 | none=>.bp
section
variable {st:St} {H:List HO} {root:Nat} {N:Path→Option Nat} {es:Path→Option (Nat×List (UInt8×Nat))} {dg:Path→Option (Nat×List Nat)}
theorem Trie.look (h:Trie st H root N es dg) {p:Path} {k:Nat} (hp:N p=some k) (c:UInt8) (K:List Nat):cP (pst st H K) [.int] .bp (km st (es p)) (.int .u8 c.toNat) false=some (nu st (N (p++[c]))):=by
 rw [h.kid c hp]
 cases he:es p with
 | none=>simp [km,cP,findD,nu]
 | some x=>
   obtain ⟨m,l⟩:=x
   obtain ⟨j,hj⟩:=nb st l c 0
   have hm:=h.mS he
   simp only [km,cP,cm,hm,hj]
   cases eF l c<;>simp [nu]
theorem Trie.alR (h:Trie st H root N es dg) {kv:Nat} {V W:List Nat} (hv:rowAt H kv=some (.plain,V.map d8)):Trie st (H.set kv (.cells .plain (W.map d8))) root N es dg:=by
 have hrow:∀ {k g vs},rowAt H k=some (g,vs)→k≠kv→rowAt (H.set kv (.cells .plain (W.map d8))) k=some (g,vs):=by
  intro k g vs h1 h2
  unfold rowAt at h1 ⊢
  rw [List.getElem?_set_ne (fun e=>h2 e.symm)];exact h1
 refine ⟨h.top,h.tN,?_,?_,h.qj,h.kid,?_,h.qw,h.qB,h.off⟩
 · intro p k hp
   have h1:=h.row hp
   refine hrow h1 ?_
   rintro rfl
   rw [hv] at h1
   simp only [Option.some.injEq,Prod.mk.injEq,true_and] at h1
   cases V with
   | nil=>simp at h1
   | cons x r=>
     simp only [List.map_cons,List.cons.injEq] at h1
     have h2:d8 x=km st (es p):=h1.1
     generalize es p=y at h2
     rcases y with _ | ⟨m,l⟩<;>simp [d8,km] at h2
 · intro p m l he
   have h1:=h.mS he
   rw [List.getElem?_set_ne]
   · exact h1
   · rintro rfl
     unfold rowAt at hv
     rw [h1] at hv
     cases hv
 · intro p k D hd
   have h1:=h.Ky hd
   refine hrow h1 ?_
   rintro rfl
   rw [hv] at h1
   cases h1
theorem aix:tab 151=some (.code f151):=by kernel_rfl
def fk (N:Path→Option Nat) (dg:Path→Option (Nat×List Nat)) (a:Nat):Path→List UInt8→List Nat→List Nat
 | _,[],V=>V
 | p,c::r,V=>if N (p++[c])=none then V else fk N dg a (p++[c]) r (match dg (p++[c]) with | some (_,D)=>fi V a D | none=>V)
end
section
variable {st:St} {root:Nat} {N:Path→Option Nat} {es:Path→Option (Nat×List (UInt8×Nat))} {dg:Path→Option (Nat×List Nat)}
theorem SZ {K:List Nat} {hp':DV} {text tx:List UInt8} {a kv nV:Nat} {C:List DV} (hC:C=tx.map u8) (htl:tx.length≤1000) (hnV:nV≤1000) (hfit:a+tx.length+1≤nV):∀ (r d:List UInt8) (V:List Nat) (k:Nat) (H:List HO),tx=d++r→Trie st H root N es dg→N d=some k→rowAt H kv=some (.plain,V.map d8)→V.length=nV →
 ∃ x7 x24 tl,(E tab).C m8 [(0,hp'),(1,.str text),(2,.fn 152 [.hsl 1 false (st.heap.length+kv) 0 nV (some nV)] []),(6,.int .i64 a),(7,.ptr (st.heap.length+k) 0),(11,.int .i64 text.length),(12,.int .i64 a),(22,.list st.cur 1 .no true C),(23,.int .i64 tx.length),(24,.int .i64 d.length)] (pst st H K) =
   some (.exit 2,[(0,hp'),(1,.str text),(2,.fn 152 [.hsl 1 false (st.heap.length+kv) 0 nV (some nV)] []),(6,.int .i64 a),(7,x7),(11,.int .i64 text.length),(12,.int .i64 a),(22,.list st.cur 1 .no true C),(23,.int .i64 tx.length),(24,x24),tl],pst st (H.set kv (.cells .plain ((fk N dg a d r V).map d8))) K):=by
 intro r
 induction r with
 | nil=>
   intro d V k H hd hT hN hv hV
   obtain rfl:tx=d:=by simpa using hd
   have hset:H.set kv (.cells .plain ((fk N dg a tx [] V).map d8))=H:=by
    have hk:=bg hv
    apply List.ext_getElem?
    intro j
    by_cases hj:j=kv
    · subst hj
      rw [List.getElem?_set_self hk]
      unfold rowAt at hv
      split at hv
      · rename_i e;simp only [Option.some.injEq,Prod.mk.injEq] at hv;rw [e,hv.1,hv.2];rfl
      · cases hv
    · rw [List.getElem?_set_ne (fun e=>hj e.symm)]
   rw [hset]
   refine ⟨.ptr (st.heap.length+k) 0,.int .i64 tx.length,(25,.bool false),?_⟩
   rw [aj (L:=m8) rfl]
   simp [pX]
 | cons c r ih=>
   intro d V k H hd hT hN hv hV
   have h0:d.length<tx.length:=by simp [hd]
   have hx:C[d.length]? = some (.int .u8 c.toNat):=by simp [hC,hd,u8]
   have hlt:d.length<C.length:=(List.getElem?_eq_some_iff.1 hx).1
   have hge:C[d.length]'hlt=.int .u8 c.toNat:=by have:=hx;rw [List.getElem?_eq_getElem hlt] at this;exact Option.some.inj this
   have hw1:IntKind.i64.wrap ((d.length:Int)+1)=(d.length:Int)+1:=by rw [aN (by omega)]
   have hrow:=hT.row hN
   have hlk:=hT.look hN c K
   have hkf:gS [.int] (.int .u8 c.toNat)=true:=rfl
   cases hn:N (d++[c]) with
   | none=>
     rw [hn] at hlk
     have e:fk N dg a d (c::r) V=V:=by simp only [fk,hn,if_true]
     have hset:H.set kv (.cells .plain (V.map d8))=H:=by
      have hk:=bg hv
      apply List.ext_getElem?
      intro j
      by_cases hj:j=kv
      · subst hj
        rw [List.getElem?_set_self hk]
        unfold rowAt at hv
        split at hv
        · rename_i e;simp only [Option.some.injEq,Prod.mk.injEq] at hv;rw [e,hv.1,hv.2]
        · cases hv
      · rw [List.getElem?_set_ne (fun e=>hj e.symm)]
     rw [e,hset]
     simp only [nu] at hlk
     refine ⟨.bp,.int .i64 d.length,(35,.bool true),?_⟩
     rw [aj (L:=m8) rfl]
     simp [pX,h0,hx,hge,hlt,hrow,hlk,hkf,eqD]
   | some k2=>
     rw [hn] at hlk
     simp only [nu] at hlk
     have hrow2:=hT.row hn
     cases hdg:dg (d++[c]) with
     | none=>
       have e:fk N dg a d (c::r) V=fk N dg a (d++[c]) r V:=by simp [fk,hn,hdg]
       rw [e]
       rw [hdg] at hrow2
       simp only [nf] at hrow2
       obtain ⟨x7,x24,tl,hJ⟩:=ih (d++[c]) V k2 H (by simp [hd]) hT hn hv hV
       refine ⟨x7,x24,tl,?_⟩
       simp at hJ
       rw [aj (L:=m8) rfl]
       simp [pX,h0,hx,hge,hlt,hrow,hrow2,hlk,hkf,eqD,hw1,hJ]
     | some y=>
       obtain ⟨kd,D⟩:=y
       have hD:=hT.qB hdg
       have hdr:=hT.Ky hdg
       have hne:kd≠kv:=by rintro rfl;rw [hv] at hdr;cases hdr
       have e:fk N dg a d (c::r) V=fk N dg a (d++[c]) r (fi V a D):=by simp [fk,hn,hdg]
       rw [e]
       rw [hdg] at hrow2
       simp only [nf] at hrow2
       simp at hD
       have hly:=LB (st:=st) (K:=K) (a:=a) (n:=nV) hne hnV (by omega) hV hv hdr
       obtain ⟨x7,x24,tl,hJ⟩:=ih (d++[c]) (fi V a D) k2 (H.set kv (.cells .plain ((fi V a D).map d8))) (by simp [hd]) (hT.alR hv) hn (dd (bg hv) _ _) (by rw [iz];exact hV)
       refine ⟨x7,x24,tl,?_⟩
       rw [List.set_set] at hJ
       simp at hJ
       rw [aj (L:=m8) rfl]
       simp [pX,h0,hx,hge,hlt,hrow,hrow2,hlk,hkf,eqD,dc,hly,hw1,hJ]
def cL (N:Path→Option Nat) (dg:Path→Option (Nat×List Nat)):Nat→List UInt8→List Nat→List Nat
 | _,[],V=>V
 | a,c::r,V=>cL N dg (a+1) r (fk N dg a [] (c::r) V)
theorem lS (N:Path→Option Nat) (dg:Path→Option (Nat×List Nat)) (a:Nat):∀ (r p:List UInt8) (V:List Nat),(fk N dg a p r V).length=V.length
 | [],p,V=>rfl
 | c::r,p,V=>by
   simp only [fk]
   split
   · rfl
   · rw [lS N dg a r]
     split
     · rw [iz]
     · rfl
theorem M1 {K:List Nat} {text:List UInt8} {kh kv nV:Nat} {hx:DV} (htl:text.length≤900) (hnV:nV≤1000) (hfit:text.length+1≤nV) (hne:kh≠kv):∀ (r d:List UInt8) (V:List Nat) (H:List HO),text=d++r→Trie st H root N es dg→rowAt H kh=some (.plain,[.ptr (st.heap.length+root) 0,hx])→rowAt H kv=some (.plain,V.map d8)→V.length=nV →
 ∃ fr,(E tab).C sA [(0,.ptr (st.heap.length+kh) 0),(1,.str text),(2,.fn 152 [.hsl 1 false (st.heap.length+kv) 0 nV (some nV)] []),(11,.int .i64 text.length),(12,.int .i64 d.length)] (pst st H K) =
   some (.exit 0,fr,pst st (H.set kv (.cells .plain ((cL N dg d.length r V).map d8))) K):=by
 intro r
 induction r with
 | nil=>
   intro d V H hd hT hh hv hV
   obtain rfl:text=d:=by simpa using hd
   have hset:H.set kv (.cells .plain ((cL N dg text.length [] V).map d8))=H:=by
    have hk:=bg hv
    apply List.ext_getElem?
    intro j
    by_cases hj:j=kv
    · subst hj
      rw [List.getElem?_set_self hk]
      unfold rowAt at hv
      split at hv
      · rename_i e;simp only [Option.some.injEq,Prod.mk.injEq] at hv;rw [e,hv.1,hv.2];rfl
      · cases hv
    · rw [List.getElem?_set_ne (fun e=>hj e.symm)]
   rw [hset]
   refine ⟨[(0,.ptr (st.heap.length+kh) 0),(1,.str text),(2,.fn 152 [.hsl 1 false (st.heap.length+kv) 0 nV (some nV)] []),(11,.int .i64 text.length),(12,.int .i64 text.length),(13,.bool false)],?_⟩
   rw [aj (L:=sA) rfl]
   simp [xb]
 | cons c r ih=>
   intro d V H hd hT hh hv hV
   have h0:d.length<text.length:=by simp [hd]
   have hw1:IntKind.i64.wrap ((d.length:Int)+1)=(d.length:Int)+1:=by rw [aN (by omega)]
   have hlen:text.length=d.length+(c::r).length:=by simp [hd]
   have hsl:cN true 1 (.str text) (some (.int .i64 d.length)) none none=some (.str (c::r)):=by
    rw [Jb (by omega) (by omega)];simp [hd]
   have hu:(fun b:UInt8=>DV.int .u8 (b.toNat:Int))=u8:=rfl
   obtain ⟨x7,x24,tl,hI⟩:=SZ (K:=K) (hp':=.ptr (st.heap.length+kh) 0) (text:=text) (a:=d.length) (kv:=kv) (nV:=nV) (tx:=c::r) rfl (by omega) hnV (by omega) (c::r) [] V root H rfl hT hT.top hv hV
   have hT2:=hT.alR (W:=fk N dg d.length [] (c::r) V) hv
   have hh2:rowAt (H.set kv (.cells .plain ((fk N dg d.length [] (c::r) V).map d8))) kh=some (.plain,[.ptr (st.heap.length+root) 0,hx]):=by
    unfold rowAt at hh ⊢;rw [List.getElem?_set_ne (fun e=>hne e.symm)];exact hh
   obtain ⟨fr,hJ⟩:=ih (d++[c]) (fk N dg d.length [] (c::r) V) (H.set kv (.cells .plain ((fk N dg d.length [] (c::r) V).map d8))) (by simp [hd]) hT2 hh2 (dd (bg hv) _ _) (by rw [lS];exact hV)
   refine ⟨fr,?_⟩
   have e:cL N dg d.length (c::r) V=cL N dg (d++[c]).length r (fk N dg d.length [] (c::r) V):=by simp [cL]
   rw [e]
   rw [List.set_set] at hJ
   generalize (cL N dg (d++[c]).length r (fk N dg d.length [] (c::r) V)).map d8=W at *
   generalize (fk N dg d.length [] (c::r) V).map d8=W1 at *
   simp at hJ hI
   rw [aj (L:=sA) rfl]
   simp [xb,h0,hh,hsl,hu,hI,hw1,hJ]
theorem AZ {K:List Nat} {text:List UInt8} {kh kv nV:Nat} {hx:DV} {V:List Nat} {H:List HO} (htl:text.length≤900) (hnV:nV≤1000) (hfit:text.length+1≤nV) (hne:kh≠kv) (hT:Trie st H root N es dg) (hh:rowAt H kh=some (.plain,[.ptr (st.heap.length+root) 0,hx])) (hv:rowAt H kv=some (.plain,V.map d8)) (hV:V.length=nV) :
 (E tab).F 151 [.ptr (st.heap.length+kh) 0,.str text,.fn 152 [.hsl 1 false (st.heap.length+kv) 0 nV (some nV)] []] (pst st H K)=some (.tuple [],pst st (H.set kv (.cells .plain ((cL N dg 0 text V).map d8))) K):=by
 rw [eL aix rfl]
 obtain ⟨fr,hL⟩:=M1 (K:=K) htl hnV hfit hne text [] V H rfl hT hh hv hV
 simp at hL
 simp [f151,hL]
end
theorem akt:tab 164=some (.code f164):=by kernel_rfl
theorem afL:tab 157=some (.code f157):=by kernel_rfl
section
variable {st:St} {H:List HO} {K:List Nat}
theorem B8 {t:Nat} {tk:Tk} {D:List Nat} (hD:D≠[]) (hl:D.length≤1000):(E tab).F 164 [.list t 1 tk true (D.map d8)] (pst st H K)=some (.hsl 1 false (st.heap.length+H.length) 0 D.length none,pst st (H++[.cells .grown (D.map d8)]) K):=by
 rw [eL akt rfl]
 have hel:∀ y∈D.map d8,dB 1 false y:=by intro y hy;obtain ⟨c,_,rfl⟩:=List.mem_map.1 hy;exact ⟨rfl,rfl,rfl⟩
 have hfl:=ij _ hel
 have hlen:D.length≠0:=fun e=>hD (List.length_eq_zero_iff.1 e)
 have hr:D.length≤140737488355328:=by omega
 have hn:bJ (pst st H K) 1 (.list t 1 tk true (D.map d8))=some (D.length,D.map d8):=by simp [bJ,hfl]
 have ha:∀ c,jI (pst st H K) 1 false 1 (.list c 1 .tight true []) (.list t 1 tk true (D.map d8))=some (.hsl 1 false (st.heap.length+H.length) 0 D.length none,pst st (H++[.cells .grown (D.map d8)]) K):=by
  intro c
  simp only [jI,hn,if_neg hlen]
  rw [if_pos ⟨⟨by omega,trivial⟩,by simp [az];omega,by simp [az];omega⟩]
  simp [pst]
 simp [f164,eqD,bc,bn,chunk,ha]
end
structure TS where
 N:Path→Option Nat
 es:Path→Option (Nat×List (UInt8×Nat))
 dg:Path→Option (Nat×List Nat)
abbrev TS.ok (st:St) (H:List HO) (root:Nat) (t:TS):Prop:=Trie st H root t.N t.es t.dg
def TS.own (t:TS) (j:Nat):Prop:=(∃ p,t.N p=some j)∨(∃ p l,t.es p=some (j,l))∨(∃ p D,t.dg p=some (j,D))
structure gp (H:List HO) (t:TS) (H':List HO) (t':TS):Prop where
 len:H.length≤H'.length
 fr:∀ j,j<H.length→¬ t.own j→H'[j]? = H[j]?
 own:∀ j,t'.own j→t.own j∨H.length≤j
theorem gp.refl (H:List HO) (t:TS):gp H t H t:=⟨Nat.le_refl _,fun _ _ _=>rfl,fun _ h=>.inl h⟩
theorem gp.trans {H H' H'':List HO} {t t' t'':TS} (a:gp H t H' t') (b:gp H' t' H'' t''):gp H t H'' t'':=by
 refine ⟨Nat.le_trans a.len b.len,?_,?_⟩
 · intro j hj ho
   rw [b.fr j (Nat.lt_of_lt_of_le hj a.len) (fun h=>(a.own j h).elim ho (fun h=>by omega)),a.fr j hj ho]
 · intro j h
   rcases b.own j h with h | h
   · exact a.own j h
   · exact .inr (Nat.le_trans a.len h)
def upd {α β:Type} [DecidableEq α] (f:α→β) (a:α) (b:β):α→β:=fun x=>if x=a then b else f x
@[simp] theorem aL {α β:Type} [DecidableEq α] (f:α→β) (a:α) (b:β):upd f a b a=b:=by simp [upd]
theorem aG {α β:Type} [DecidableEq α] (f:α→β) {a x:α} (b:β) (h:x≠a):upd f a b x=f x:=by simp [upd,h]
theorem aE {H:List HO} {k:Nat} {g:CK} {vs:List DV}:rowAt H k=some (g,vs)↔H[k]? = some (.cells g vs):=by
 unfold rowAt
 constructor
 · intro h
   split at h
   · rename_i e;simp only [Option.some.injEq,Prod.mk.injEq] at h;rw [e,h.1,h.2]
   · cases h
 · intro h;rw [h]
theorem eB {H X:List HO} {j:Nat} {o:HO} (h:H[j]? = some o):(H++X)[j]? = some o:=by
 rw [List.getElem?_append_left (List.getElem?_eq_some_iff.1 h).1];exact h
theorem bU {H:List HO} {j k:Nat} {o x:HO} (h:H[j]? = some o) (hk:j≠k):(H.set k x)[j]? = some o:=by
 rw [List.getElem?_set_ne (fun e=>hk e.symm)];exact h
section
variable {st:St} {H:List HO} {root:Nat} {t:TS}
theorem Trie.se (h:t.ok st H root) {p:Path} {k:Nat} (hp:t.N p=some k):H[k]? = some (.cells .plain [km st (t.es p),nf st (t.dg p)]):=aE.1 (h.row hp)
theorem Trie.l7 (h:t.ok st H root) {p:Path} {k:Nat} {D:List Nat} (hp:t.dg p=some (k,D)):H[k]? = some (.cells .grown (D.map d8)):=aE.1 (h.Ky hp)
theorem Trie.Cf (h:t.ok st H root) {p:Path} {k:Nat} (hp:t.N p=some k):k<H.length:=(List.getElem?_eq_some_iff.1 (h.se hp)).1
theorem Trie.Iv (h:t.ok st H root) {p:Path} {m:Nat} {l:List (UInt8×Nat)} (hp:t.es p=some (m,l)):m<H.length:=(List.getElem?_eq_some_iff.1 (h.mS hp)).1
theorem Trie.DB (h:t.ok st H root) {p:Path} {k:Nat} {D:List Nat} (hp:t.dg p=some (k,D)):k<H.length:=(List.getElem?_eq_some_iff.1 (h.l7 hp)).1
theorem Trie.nm (h:t.ok st H root) {p q:Path} {k m:Nat} {l:List (UInt8×Nat)} (hp:t.N p=some k) (hq:t.es q=some (m,l)):k≠m:=by
 rintro rfl;have h1:=h.se hp;rw [h.mS hq] at h1;cases h1
theorem Trie.nd (h:t.ok st H root) {p q:Path} {k m:Nat} {D:List Nat} (hp:t.N p=some k) (hq:t.dg q=some (m,D)):k≠m:=by
 rintro rfl;have h1:=h.se hp;rw [h.l7 hq] at h1;cases h1
theorem Trie.md (h:t.ok st H root) {p q:Path} {k m:Nat} {l:List (UInt8×Nat)} {D:List Nat} (hp:t.es p=some (k,l)) (hq:t.dg q=some (m,D)):k≠m:=by
 rintro rfl;have h1:=h.mS hp;rw [h.l7 hq] at h1;cases h1
theorem Trie.grow (h:t.ok st H root) (X:List HO):t.ok st (H++X) root:=
 ⟨h.top,h.tN,fun hp=>aE.2 (eB (h.se hp)),fun hp=>eB (h.mS hp),h.qj,h.kid,fun hp=>aE.2 (eB (h.l7 hp)),h.qw,h.qB,h.off⟩
theorem Trie.mkm (h:t.ok st H root) {p:Path} {k:Nat} (hp:t.N p=some k) (he:t.es p=none) :
 TS.ok st ((H++[HO.map []]).set k (HO.cells .plain [.map (st.heap.length+H.length),nf st (t.dg p)])) root ⟨t.N,upd t.es p (some (H.length,[])),t.dg⟩ ∧
 gp H t ((H++[HO.map []]).set k (HO.cells .plain [.map (st.heap.length+H.length),nf st (t.dg p)])) ⟨t.N,upd t.es p (some (H.length,[])),t.dg⟩:=by
 have hk:=h.Cf hp
 have hnew:(H++[HO.map []])[H.length]? = some (.map []):=by simp
 refine ⟨⟨h.top,h.tN,?_,?_,?_,?_,?_,h.qw,h.qB,?_⟩,⟨by simp,?_,?_⟩⟩
 · intro q j hq
   rw [aE]
   by_cases hqp:q=p
   · subst hqp
     have:j=k:=by rw [hp] at hq;exact (Option.some.inj hq).symm
     subst this
     rw [List.getElem?_set_self (by simp;omega)]
     simp [km]
   · have hne:j≠k:=by rintro rfl;exact hqp (h.tN hq hp)
     rw [bU (eB (h.se hq)) hne]
     simp only [aG _ _ hqp]
 · intro q m l hq
   by_cases hqp:q=p
   · subst hqp
     simp only [aL,Option.some.injEq,Prod.mk.injEq] at hq
     obtain ⟨rfl,rfl⟩:=hq
     rw [bU hnew (Nat.ne_of_gt (by assumption))];rfl
   · simp only [aG _ _ hqp] at hq
     exact bU (eB (h.mS hq)) (fun e=>h.nm hp hq e.symm)
 · intro q q' m l l' hq hq'
   by_cases hqp:q=p<;>by_cases hqp':q'=p
   · rw [hqp,hqp']
   · exfalso;subst hqp;simp only [aL,aG _ _ hqp',Option.some.injEq,Prod.mk.injEq] at hq hq'
     have:=h.Iv hq';omega
   · exfalso;subst hqp';simp only [aL,aG _ _ hqp,Option.some.injEq,Prod.mk.injEq] at hq hq'
     have:=h.Iv hq;omega
   · simp only [aG _ _ hqp,aG _ _ hqp'] at hq hq';exact h.qj hq hq'
 · intro q j c hq
   by_cases hqp:q=p
   · subst hqp
     simp only [aL,eF]
     have:=h.kid c hq
     rw [he] at this;exact this
   · simp only [aG _ _ hqp];exact h.kid c hq
 · intro q j D hq
   rw [aE]
   exact bU (eB (h.l7 hq)) (fun e=>h.nd hp hq e.symm)
 · intro q hq
   have hqp:q≠p:=by rintro rfl;simp only at hq;rw [hp] at hq;cases hq
   obtain ⟨a,b,c⟩:=h.off hq
   exact ⟨by simp only [aG _ _ hqp];exact a,b,c⟩
 · intro j hj ho
   have:j≠k:=by rintro rfl;exact ho (.inl ⟨p,hp⟩)
   rw [List.getElem?_set_ne (fun e=>this e.symm),List.getElem?_append_left hj]
 · intro j hj
   rcases hj with ⟨q,hq⟩ | ⟨q,l,hq⟩ | ⟨q,D,hq⟩
   · exact .inl (.inl ⟨q,hq⟩)
   · by_cases hqp:q=p
     · subst hqp;simp only [aL,Option.some.injEq,Prod.mk.injEq] at hq;right;omega
     · simp only [aG _ _ hqp] at hq;exact .inl (.inr (.inl ⟨q,l,hq⟩))
   · exact .inl (.inr (.inr ⟨q,D,hq⟩))
theorem qM:∀ (l:List (UInt8×Nat)) (c d:UInt8) (x:Nat),eF l c=none→eF (l++[(c,x)]) d=if d=c then some x else eF l d
 | [],c,d,x,_=>rfl
 | (a,k)::r,c,d,x,h=>by
   have hca:c≠a:=by rintro rfl;simp [eF] at h
   simp only [eF,if_neg hca] at h
   have ih:=qM r c d x h
   simp only [List.cons_append,eF,ih]
   by_cases hda:d=a
   · subst hda
     rw [if_pos rfl,if_neg (fun e=>hca e.symm),if_pos rfl]
   · rw [if_neg hda]
     by_cases hdc:d=c
     · rw [if_pos hdc,if_pos hdc]
     · rw [if_neg hdc,if_neg hdc,if_neg hda]
theorem Trie.alb (h:t.ok st H root) {p:Path} {k m:Nat} {l:List (UInt8×Nat)} {c:UInt8} (hp:t.N p=some k) (he:t.es p=some (m,l)) (hc:eF l c=none) :
 TS.ok st ((H++[HO.cells .plain [.aD,.list 0 0 .no false []]]).set m (HO.map ((l++[(c,H.length)]).map (m7 st)))) root ⟨upd t.N (p++[c]) (some H.length),upd t.es p (some (m,l++[(c,H.length)])),t.dg⟩ ∧
 gp H t ((H++[HO.cells .plain [.aD,.list 0 0 .no false []]]).set m (HO.map ((l++[(c,H.length)]).map (m7 st)))) ⟨upd t.N (p++[c]) (some H.length),upd t.es p (some (m,l++[(c,H.length)])),t.dg⟩:=by
 have hm:=h.Iv he
 have hN0:t.N (p++[c])=none:=by rw [h.kid c hp,he];exact hc
 obtain ⟨o1,o2,o3⟩:=h.off hN0
 have hpp:p++[c]≠p:=by intro e;have:=congrArg List.length e;simp at this
 have hnp:[]≠p++[c]:=by simp
 have hnew:(H++[HO.cells .plain [.aD,.list 0 0 .no false []]])[H.length]? = some (.cells .plain [.aD,.list 0 0 .no false []]):=by simp
 refine ⟨⟨?_,?_,?_,?_,?_,?_,?_,h.qw,h.qB,?_⟩,⟨by simp,?_,?_⟩⟩
 · simp only [aG _ _ hnp];exact h.top
 · intro q q' j hq hq'
   by_cases a:q=p++[c]<;>by_cases b:q'=p++[c]
   · rw [a,b]
   · exfalso;subst a;simp only [aL,aG _ _ b,Option.some.injEq] at hq hq'
     have:=h.Cf hq';omega
   · exfalso;subst b;simp only [aL,aG _ _ a,Option.some.injEq] at hq hq'
     have:=h.Cf hq;omega
   · simp only [aG _ _ a,aG _ _ b] at hq hq';exact h.tN hq hq'
 · intro q j hq
   rw [aE]
   by_cases a:q=p++[c]
   · subst a
     simp only [aL,Option.some.injEq] at hq
     subst hq
     rw [bU hnew (Nat.ne_of_gt (by assumption))]
     simp only [aG _ _ hpp,o1,o2,km,nf]
   · simp only [aG _ _ a] at hq
     rw [bU (eB (h.se hq)) (h.nm hq he)]
     by_cases b:q=p
     · subst b;simp only [aL,he,km]
     · simp only [aG _ _ b]
 · intro q m' l' hq
   by_cases b:q=p
   · subst b
     simp only [aL,Option.some.injEq,Prod.mk.injEq] at hq
     obtain ⟨rfl,rfl⟩:=hq
     rw [List.getElem?_set_self (by simp;omega)]
   · simp only [aG _ _ b] at hq
     exact bU (eB (h.mS hq)) (by rintro rfl;exact b (h.qj hq he))
 · intro q q' m' l' l'' hq hq'
   by_cases a:q=p<;>by_cases b:q'=p
   · rw [a,b]
   · subst a;simp only [aL,aG _ _ b,Option.some.injEq,Prod.mk.injEq] at hq hq'
     obtain ⟨rfl,_⟩:=hq
     exact h.qj he hq'
   · subst b;simp only [aL,aG _ _ a,Option.some.injEq,Prod.mk.injEq] at hq hq'
     obtain ⟨rfl,_⟩:=hq'
     exact h.qj hq he
   · simp only [aG _ _ a,aG _ _ b] at hq hq';exact h.qj hq hq'
 · intro q j d hq
   by_cases a:q=p++[c]
   · subst a
     have:(p++[c])++[d]≠p++[c]:=by intro e;have:=congrArg List.length e;simp at this
     simp only [aG _ _ this,aG _ _ hpp,o1,o3 d]
   · simp only [aG _ _ a] at hq
     have hk:=h.kid d hq
     by_cases b:q=p
     · subst b
       rw [he] at hk
       simp only at hk
       simp only [aL,qM l c d _ hc]
       by_cases hd:d=c
       · subst hd;simp
       · have:q++[d]≠q++[c]:=by simpa using hd
         rw [if_neg hd,← hk];simp only [aG _ _ this]
     · have:q++[d]≠p++[c]:=by intro e;exact b (List.append_inj_left' e rfl)
       simp only [aG _ _ this,aG _ _ b];exact hk
 · intro q j D hq
   rw [aE]
   exact bU (eB (h.l7 hq)) (fun e=>h.md he hq e.symm)
 · intro q hq
   by_cases a:q=p++[c]
   · subst a;simp only [aL] at hq;cases hq
   · simp only [aG _ _ a] at hq
     obtain ⟨x,y,z⟩:=h.off hq
     have b:q≠p:=by rintro rfl;rw [hp] at hq;cases hq
     refine ⟨by simp only [aG _ _ b];exact x,y,fun d => ?_⟩
     have:q++[d]≠p++[c]:=by intro e;exact b (List.append_inj_left' e rfl)
     simp only [aG _ _ this];exact z d
 · intro j hj ho
   have:j≠m:=by rintro rfl;exact ho (.inr (.inl ⟨p,l,he⟩))
   rw [List.getElem?_set_ne (fun e=>this e.symm),List.getElem?_append_left hj]
 · intro j hj
   rcases hj with ⟨q,hq⟩ | ⟨q,l',hq⟩ | ⟨q,D,hq⟩
   · by_cases a:q=p++[c]
     · subst a;simp only [aL,Option.some.injEq] at hq;right;omega
     · simp only [aG _ _ a] at hq;exact .inl (.inl ⟨q,hq⟩)
   · by_cases b:q=p
     · subst b;simp only [aL,Option.some.injEq,Prod.mk.injEq] at hq
       obtain ⟨rfl,_⟩:=hq
       exact .inl (.inr (.inl ⟨q,l,he⟩))
     · simp only [aG _ _ b] at hq;exact .inl (.inr (.inl ⟨q,l',hq⟩))
   · exact .inl (.inr (.inr ⟨q,D,hq⟩))
theorem Trie.aon (h:t.ok st H root) {p:Path} {k:Nat} {D:List Nat} (hp:t.N p=some k) (he:t.dg p=none) (hD:D.length=p.length+1) :
 TS.ok st ((H++[HO.cells .grown (D.map d8)]).set k (HO.cells .plain [km st (t.es p),.hsl 1 false (st.heap.length+H.length) 0 D.length none])) root ⟨t.N,t.es,upd t.dg p (some (H.length,D))⟩ ∧
 gp H t ((H++[HO.cells .grown (D.map d8)]).set k (HO.cells .plain [km st (t.es p),.hsl 1 false (st.heap.length+H.length) 0 D.length none])) ⟨t.N,t.es,upd t.dg p (some (H.length,D))⟩:=by
 have hk:=h.Cf hp
 have hnew:(H++[HO.cells .grown (D.map d8)])[H.length]? = some (.cells .grown (D.map d8)):=by simp
 refine ⟨⟨h.top,h.tN,?_,?_,h.qj,h.kid,?_,?_,?_,?_⟩,⟨by simp,?_,?_⟩⟩
 · intro q j hq
   rw [aE]
   by_cases hqp:q=p
   · subst hqp
     have:j=k:=by rw [hp] at hq;exact (Option.some.inj hq).symm
     subst this
     rw [List.getElem?_set_self (by simp;omega)]
     simp [nf]
   · have hne:j≠k:=by rintro rfl;exact hqp (h.tN hq hp)
     rw [bU (eB (h.se hq)) hne]
     simp only [aG _ _ hqp]
 · intro q m l hq
   exact bU (eB (h.mS hq)) (fun e=>h.nm hp hq e.symm)
 · intro q j D' hq
   rw [aE]
   by_cases hqp:q=p
   · subst hqp
     simp only [aL,Option.some.injEq,Prod.mk.injEq] at hq
     obtain ⟨rfl,rfl⟩:=hq
     exact bU hnew (Nat.ne_of_gt (by assumption))
   · simp only [aG _ _ hqp] at hq
     exact bU (eB (h.l7 hq)) (fun e=>h.nd hp hq e.symm)
 · intro q q' m D1 D2 hq hq'
   by_cases hqp:q=p<;>by_cases hqp':q'=p
   · rw [hqp,hqp']
   · exfalso;subst hqp;simp only [aL,aG _ _ hqp',Option.some.injEq,Prod.mk.injEq] at hq hq'
     have:=h.DB hq';omega
   · exfalso;subst hqp';simp only [aL,aG _ _ hqp,Option.some.injEq,Prod.mk.injEq] at hq hq'
     have:=h.DB hq;omega
   · simp only [aG _ _ hqp,aG _ _ hqp'] at hq hq';exact h.qw hq hq'
 · intro q j D' hq
   by_cases hqp:q=p
   · subst hqp
     simp only [aL,Option.some.injEq,Prod.mk.injEq] at hq
     rw [← hq.2];exact hD
   · simp only [aG _ _ hqp] at hq;exact h.qB hq
 · intro q hq
   have hqp:q≠p:=by rintro rfl;simp only at hq;rw [hp] at hq;cases hq
   obtain ⟨a,b,c⟩:=h.off hq
   exact ⟨a,by simp only [aG _ _ hqp];exact b,c⟩
 · intro j hj ho
   have:j≠k:=by rintro rfl;exact ho (.inl ⟨p,hp⟩)
   rw [List.getElem?_set_ne (fun e=>this e.symm),List.getElem?_append_left hj]
 · intro j hj
   rcases hj with ⟨q,hq⟩ | ⟨q,l,hq⟩ | ⟨q,D',hq⟩
   · exact .inl (.inl ⟨q,hq⟩)
   · exact .inl (.inr (.inl ⟨q,l,hq⟩))
   · by_cases hqp:q=p
     · subst hqp;simp only [aL,Option.some.injEq,Prod.mk.injEq] at hq;right;omega
     · simp only [aG _ _ hqp] at hq;exact .inl (.inr (.inr ⟨q,D',hq⟩))
theorem Trie.aoX (h:t.ok st H root) {p:Path} {kd:Nat} {D D':List Nat} (hd:t.dg p=some (kd,D)) (hl:D'.length=D.length) :
 TS.ok st (H.set kd (HO.cells .grown (D'.map d8))) root ⟨t.N,t.es,upd t.dg p (some (kd,D'))⟩∧gp H t (H.set kd (HO.cells .grown (D'.map d8))) ⟨t.N,t.es,upd t.dg p (some (kd,D'))⟩:=by
 have hk:=h.DB hd
 refine ⟨⟨h.top,h.tN,?_,?_,h.qj,h.kid,?_,?_,?_,?_⟩,⟨by simp,?_,?_⟩⟩
 · intro q j hq
   rw [aE,bU (h.se hq) (h.nd hq hd)]
   by_cases hqp:q=p
   · subst hqp;simp only [aL,hd,nf,hl]
   · simp only [aG _ _ hqp]
 · intro q m l hq
   exact bU (h.mS hq) (h.md hq hd)
 · intro q j D1 hq
   rw [aE]
   by_cases hqp:q=p
   · subst hqp
     simp only [aL,Option.some.injEq,Prod.mk.injEq] at hq
     obtain ⟨rfl,rfl⟩:=hq
     rw [List.getElem?_set_self hk]
   · simp only [aG _ _ hqp] at hq
     exact bU (h.l7 hq) (by rintro rfl;exact hqp (h.qw hq hd))
 · intro q q' m D1 D2 hq hq'
   by_cases hqp:q=p<;>by_cases hqp':q'=p
   · rw [hqp,hqp']
   · subst hqp;simp only [aL,aG _ _ hqp',Option.some.injEq,Prod.mk.injEq] at hq hq'
     obtain ⟨rfl,_⟩:=hq;exact h.qw hd hq'
   · subst hqp';simp only [aL,aG _ _ hqp,Option.some.injEq,Prod.mk.injEq] at hq hq'
     obtain ⟨rfl,_⟩:=hq';exact h.qw hq hd
   · simp only [aG _ _ hqp,aG _ _ hqp'] at hq hq';exact h.qw hq hq'
 · intro q j D1 hq
   by_cases hqp:q=p
   · subst hqp
     simp only [aL,Option.some.injEq,Prod.mk.injEq] at hq
     rw [← hq.2,hl];exact h.qB hd
   · simp only [aG _ _ hqp] at hq;exact h.qB hq
 · intro q hq
   obtain ⟨a,b,c⟩:=h.off hq
   have hqp:q≠p:=by rintro rfl;rw [hd] at b;cases b
   exact ⟨a,by simp only [aG _ _ hqp];exact b,c⟩
 · intro j hj ho
   have:j≠kd:=by rintro rfl;exact ho (.inr (.inr ⟨p,D,hd⟩))
   rw [List.getElem?_set_ne (fun e=>this e.symm)]
 · intro j hj
   rcases hj with ⟨q,hq⟩ | ⟨q,l,hq⟩ | ⟨q,D1,hq⟩
   · exact .inl (.inl ⟨q,hq⟩)
   · exact .inl (.inr (.inl ⟨q,l,hq⟩))
   · by_cases hqp:q=p
     · subst hqp;simp only [aL,Option.some.injEq,Prod.mk.injEq] at hq
       obtain ⟨rfl,_⟩:=hq
       exact .inl (.inr (.inr ⟨q,D,hd⟩))
     · simp only [aG _ _ hqp] at hq;exact .inl (.inr (.inr ⟨q,D1,hq⟩))
end
theorem kI {st:St} {H:List HO} {K:List Nat} {ks:List LK} {m:Nat} {es:List (DV×DV)} {key v:DV} (h:H[m]? = some (.map es)) (hf:findD ks key es 0=some none) :
 fG (pst st H K) ks (.map (st.heap.length+m)) key v=some (pst st (H.set m (.map (es++[(key,v)]))) K):=by
 have hb:(pst st H K).base≤st.heap.length+m:=by simp
 simp only [fG,cm,h,hf,hb,if_true]
 simp [pst,List.set_append_right]
theorem Trie.letter {st:St} {H:List HO} {root:Nat} {t:TS} (h:t.ok st H root) {p:Path} {k:Nat} {c:UInt8} (hp:t.N p=some k) :
 (∃ m l k2,t.es p=some (m,l)∧eF l c=some k2∧t.N (p++[c])=some k2) ∨
 (∃ m l,t.es p=some (m,l)∧eF l c=none)∨t.es p=none:=by
 cases he:t.es p with
 | none=>exact .inr (.inr rfl)
 | some x=>
   obtain ⟨m,l⟩:=x
   cases hc:eF l c with
   | none=>exact .inr (.inl ⟨m,l,rfl,hc⟩)
   | some k2=>
     refine .inl ⟨m,l,k2,rfl,hc,?_⟩
     have:=h.kid c hp
     rw [he] at this;simp only at this;rw [this,hc]
theorem xD (st:St) {l:List (UInt8×Nat)} {c:UInt8} (h:eF l c=none):findD [.int] (.int .u8 c.toNat) (l.map (m7 st)) 0=some none:=by
 obtain ⟨j,hj⟩:=nb st l c 0
 rw [hj,h];rfl
section
variable {st:St} {root:Nat}
theorem ZI {K:List Nat} {dv:DV} {L:List UInt8} {C:List DV} (hC:C=L.map u8) (hl:L.length≤1000):∀ (r d:List UInt8) (k:Nat) (H:List HO) (t:TS),L=d++r→t.ok st H root→t.N d=some k →
 ∃ tl k' H' t',(E tab).C mF [(0,.ptr (st.heap.length+k) 0),(2,dv),(11,.list st.cur 1 .no true C),(12,.int .i64 L.length),(13,.int .i64 d.length)] (pst st H K) =
   some (.exit 0,(0,.ptr (st.heap.length+k') 0)::(2,dv)::tl,pst st H' K)∧t'.ok st H' root∧t'.N L=some k'∧gp H t H' t'∧t'.dg=t.dg:=by
 intro r
 induction r with
 | nil=>
   intro d k H t hd hT hN
   obtain rfl:L=d:=by simpa using hd
   refine ⟨[(11,.list st.cur 1 .no true C),(12,.int .i64 L.length),(13,.int .i64 L.length),(14,.bool false)],k,H,t,?_,hT,hN,gp.refl _ _,rfl⟩
   rw [aj (L:=mF) rfl]
   simp [py]
 | cons c r ih=>
   intro d k H t hd hT hN
   have h0:d.length<L.length:=by simp [hd]
   have hx:C[d.length]? = some (.int .u8 c.toNat):=by simp [hC,hd,u8]
   have hlt:d.length<C.length:=(List.getElem?_eq_some_iff.1 hx).1
   have hge:C[d.length]'hlt=.int .u8 c.toNat:=by have:=hx;rw [List.getElem?_eq_getElem hlt] at this;exact Option.some.inj this
   have hw1:IntKind.i64.wrap ((d.length:Int)+1)=(d.length:Int)+1:=by rw [aN (by omega)]
   have hrow:=hT.row hN
   have hlk:=hT.look hN c K
   have hkf:gS [.int] (.int .u8 c.toNat)=true:=rfl
   rcases hT.letter (c:=c) hN with ⟨m,l,k2,he,hk,hn⟩ | ⟨m,l,he,hk⟩ | he
   · rw [hn] at hlk
     rw [he] at hlk hrow
     obtain ⟨tl,k',H',t',hJ,a1,a2,a3,a4⟩:=ih (d++[c]) k2 H t (by simp [hd]) hT hn
     refine ⟨tl,k',H',t',?_,a1,a2,a3,a4⟩
     simp only [km,nu] at hlk hrow
     simp at hJ
     rw [aj (L:=mF) rfl]
     simp [py,h0,hx,hge,hlt,hrow,hlk,hkf,eqD,hw1,hJ]
   · obtain ⟨hT1,hG1⟩:=hT.alb hN he hk
     have hm:=hT.mS he
     have hnone:t.N (d++[c])=none:=by rw [hT.kid c hN,he];exact hk
     rw [hnone,he] at hlk
     rw [he] at hrow
     have hN1:(upd t.N (d++[c]) (some H.length)) d=some k:=by
      rw [aG _ _ (by intro e;have:=congrArg List.length e;simp at this)];exact hN
     have hN2:(upd t.N (d++[c]) (some H.length)) (d++[c])=some H.length:=aL _ _ _
     have hrow1:=hT1.row hN1
     have hlk1:=hT1.look hN1 c K
     simp only [aL] at hrow1 hlk1
     have hms:fG (pst st (H++[HO.cells .plain [.aD,.list 0 0 .no false []]]) K) [.int] (.map (st.heap.length+m)) (.int .u8 c.toNat) (.ptr (st.heap.length+H.length) 0) =
      some (pst st ((H++[HO.cells .plain [.aD,.list 0 0 .no false []]]).set m (HO.map ((l++[(c,H.length)]).map (m7 st)))) K):=by
      rw [kI (eB hm) (xD st hk)]
      simp [m7]
     obtain ⟨tl,k',H',t',hJ,a1,a2,a3,a4⟩:=ih (d++[c]) H.length _ ⟨upd t.N (d++[c]) (some H.length),upd t.es d (some (m,l++[(c,H.length)])),t.dg⟩ (by simp [hd]) hT1 hN2
     refine ⟨tl,k',H',t',?_,a1,a2,hG1.trans a3,a4⟩
     generalize hH1:(H++[HO.cells .plain [.aD,.list 0 0 .no false []]]).set m (HO.map ((l++[(c,H.length)]).map (m7 st)))=H1 at *
     simp only [km,nu] at hlk hrow hrow1 hlk1
     simp at hJ
     rw [aj (L:=mF) rfl]
     simp [py,h0,hx,hge,hlt,hrow,hlk,hkf,eqD,hw1,hms,hrow1,hlk1,hJ]
   · obtain ⟨hT1,hG1⟩:=hT.mkm hN he
     obtain ⟨hT2,hG2⟩:=hT1.alb (c:=c) hN (aL _ _ _) rfl
     have hnone:t.N (d++[c])=none:=by rw [hT.kid c hN,he]
     rw [hnone,he] at hlk
     rw [he] at hrow
     have hrow1:=hT1.row hN
     have hlk1:=hT1.look hN c K
     have hm1:=hT1.mS (aL t.es d (some (H.length,[])))
     simp only [aL] at hrow1 hlk1
     rw [hnone] at hlk1
     generalize hH1:(H++[HO.map []]).set k (HO.cells .plain [.map (st.heap.length+H.length),nf st (t.dg d)])=H1 at *
     have hN1:(upd t.N (d++[c]) (some H1.length)) d=some k:=by
      rw [aG _ _ (by intro e;have:=congrArg List.length e;simp at this)];exact hN
     have hN2:(upd t.N (d++[c]) (some H1.length)) (d++[c])=some H1.length:=aL _ _ _
     have hrow2:=hT2.row hN1
     have hlk2:=hT2.look hN1 c K
     simp only [aL] at hrow2 hlk2
     have hms:fG (pst st (H1++[HO.cells .plain [.aD,.list 0 0 .no false []]]) K) [.int] (.map (st.heap.length+H.length)) (.int .u8 c.toNat) (.ptr (st.heap.length+H1.length) 0) =
      some (pst st ((H1++[HO.cells .plain [.aD,.list 0 0 .no false []]]).set H.length (HO.map (([]++[(c,H1.length)]).map (m7 st)))) K):=by
      rw [kI (eB hm1) rfl]
      simp [m7]
     obtain ⟨tl,k',H',t',hJ,a1,a2,a3,a4⟩:=ih (d++[c]) H1.length _ ⟨upd t.N (d++[c]) (some H1.length),upd (upd t.es d (some (H.length,[]))) d (some (H.length,[]++[(c,H1.length)])),t.dg⟩ (by simp [hd]) hT2 hN2
     refine ⟨tl,k',H',t',?_,a1,a2,(hG1.trans hG2).trans a3,a4⟩
     generalize hH2:(H1++[HO.cells .plain [.aD,.list 0 0 .no false []]]).set H.length (HO.map (([]++[(c,H1.length)]).map (m7 st)))=H2 at *
     simp only [km,nu] at hlk hrow hrow1 hlk1 hrow2 hlk2
     simp at hJ
     have hroww:rowAt (H++[HO.map []]) k=some (.plain,[.aD,nf st (t.dg d)]):=eU hrow _
     rw [aj (L:=mF) rfl]
     simp [py,h0,hx,hge,hlt,hrow,hroww,hlk,hkf,eqD,hw1,hH1,hms,hrow1,hlk1,hrow2,hlk2,hJ]
end
section
variable {st:St} {root:Nat}
theorem T0 {K:List Nat} {k kd n t:Nat} {tk:Tk} {mv:DV} {D:List Nat} (hkd:kd≠k) (hn:n≤1000) (ha:D.length≤n):∀ (r d:List Nat) (V:List Nat) (H:List HO),D=d++r→V.length=n →
 rowAt H k=some (.plain,[mv,.hsl 1 false (st.heap.length+kd) 0 n none])→rowAt H kd=some (.grown,V.map d8) →
 ∃ fr,(E tab).C tt [(0,.ptr (st.heap.length+k) 0),(57,.list t 1 tk true (D.map d8)),(58,.int .i64 D.length),(59,.int .i64 d.length)] (pst st H K) =
   some (.exit 2,fr,pst st (H.set kd (.cells .grown ((fi V d.length r).map d8))) K):=by
 intro r
 induction r with
 | nil=>
   intro d V H hd hV h1 h2
   obtain rfl:D=d:=by simpa using hd
   have hset:H.set kd (.cells .grown ((fi V D.length []).map d8))=H:=by
    have hk:=bg h2
    apply List.ext_getElem?
    intro j
    by_cases hj:j=kd
    · subst hj
      rw [List.getElem?_set_self hk,aE.1 h2];rfl
    · rw [List.getElem?_set_ne (fun e=>hj e.symm)]
   rw [hset]
   refine ⟨[(0,.ptr (st.heap.length+k) 0),(57,.list t 1 tk true (D.map d8)),(58,.int .i64 D.length),(59,.int .i64 D.length),(60,.bool false)],?_⟩
   rw [aj (L:=tt) rfl]
   simp [xy]
 | cons x r ih=>
   intro d V H hd hV h1 h2
   have hk:=bg h2
   have h0:d.length<D.length:=by simp [hd]
   have hw1:IntKind.i64.wrap ((d.length:Int)+1)=(d.length:Int)+1:=by rw [aN (by omega)]
   have had:d.length<n:=by omega
   generalize hDm:D.map d8=DM at *
   have hx:DM[d.length]? = some (.int .u8 x):=by rw [← hDm];simp [hd,d8]
   have hlt:d.length<DM.length:=(List.getElem?_eq_some_iff.1 hx).1
   have hge:DM[d.length]'hlt=.int .u8 x:=by have:=hx;rw [List.getElem?_eq_getElem hlt] at this;exact Option.some.inj this
   obtain ⟨y,hy⟩:∃ y,V[d.length]? = some y:=⟨V[d.length],List.getElem?_eq_getElem (by omega)⟩
   have hyd:V.getD d.length 0=y:=by simp [hy]
   generalize hVm:V.map d8=VM at *
   have hvx:VM[d.length]? = some (.int .u8 y):=by rw [← hVm];simp [hy,d8]
   have hvl:VM.length=n:=by rw [← hVm];simpa using hV
   have hvlt:d.length<VM.length:=by omega
   have hvge:VM[d.length]'hvlt=.int .u8 y:=by have:=hvx;rw [List.getElem?_eq_getElem hvlt] at this;exact Option.some.inj this
   have hmx:=KH y x
   have hsp:=fZ (x:=.int .u8 (max y x:Nat)) (vs:=VM) hvlt
   have hset:VM.set d.length (.int .u8 (max y x:Nat))=(V.set d.length (max y x)).map d8:=by rw [← hVm,List.map_set];rfl
   rw [hset] at hsp
   obtain ⟨fr,hJ⟩:=ih (d++[x]) (V.set d.length (max y x)) (H.set kd (.cells .grown ((V.set d.length (max y x)).map d8))) (by simp [hd]) (by simpa using hV) (by
    unfold rowAt at h1 ⊢;rw [List.getElem?_set_ne hkd];exact h1) (dd hk _ _)
   refine ⟨fr,?_⟩
   have e1:(d++[x]).length=d.length+1:=by simp
   rw [e1,List.set_set] at hJ
   have e2:fi V d.length (x::r)=fi (V.set d.length (max y x)) (d.length+1) r:=by simp only [fi,hyd]
   rw [e2]
   generalize (fi (V.set d.length (max y x)) (d.length+1) r).map d8=W at *
   generalize (V.set d.length (max y x)).map d8=VN at *
   simp only [bu,List.length_singleton] at hsp
   simp at hJ hsp
   have hle:d.length+1≤VM.length:=by omega
   rw [aj (L:=tt) rfl]
   simp [xy,h0,h1,h2,hx,hge,hlt,had,hvx,hvge,hvlt,hmx,hle,hsp,hw1,hJ]
def ajj (t:TS) (L:List UInt8) (D:List Nat) (t':TS):Prop:=
 (∀ q,q≠L→t'.dg q=t.dg q)∧∃ kd,t'.dg L=some (kd,match t.dg L with | some (_,D0)=>fi D0 0 D | none=>D)
theorem ML {K:List Nat} {H:List HO} {t:TS} {L:List UInt8} {D:List Nat} {tg:Nat} {tk:Tk} (hl:L.length≤900) (hD:D.length=L.length+1) (hT:t.ok st H root) :
 ∃ H' t',(E tab).F 157 [.ptr (st.heap.length+root) 0,.str L,.list tg 1 tk true (D.map d8)] (pst st H K)=some (.tuple [],pst st H' K)∧t'.ok st H' root∧gp H t H' t'∧ajj t L D t':=by
 rw [eL afL rfl]
 obtain ⟨tl,k,H1,t1,hL,hT1,hN1,hG1,hd1⟩:=ZI (K:=K) (dv:=.list tg 1 tk true (D.map d8)) (L:=L) rfl (by omega) L [] root H t rfl hT hT.top
 simp at hL
 have hu:(fun b:UInt8=>DV.int .u8 (b.toNat:Int))=u8:=rfl
 have hrow:=hT1.row hN1
 cases hdg:t1.dg L with
 | none=>
   obtain ⟨hT2,hG2⟩:=hT1.aon hN1 hdg hD
   refine ⟨_,_,?_,hT2,hG1.trans hG2,?_⟩
   · rw [hdg] at hrow
     simp only [nf] at hrow
     have hcl:=B8 (st:=st) (H:=H1) (K:=K) (t:=tg) (tk:=tk) (D:=D) (by intro e;simp [e] at hD) (by omega)
     have hrow2:rowAt (H1++[HO.cells .grown (D.map d8)]) k=_:=eU hrow _
     simp [f157,hu,hL,hrow,eqD,hcl,hrow2]
   · refine ⟨fun q hq=>by simp only [aG _ _ hq,hd1],H1.length,?_⟩
     rw [← hd1,hdg];simp
 | some x=>
   obtain ⟨kd,D0⟩:=x
   have hlen:=hT1.qB hdg
   have hlay:(fi D0 0 D).length=D0.length:=iz _ _ _
   obtain ⟨hT2,hG2⟩:=hT1.aoX hdg hlay
   refine ⟨_,_,?_,hT2,hG1.trans hG2,?_⟩
   · rw [hdg] at hrow
     simp only [nf] at hrow
     obtain ⟨fr,hL2⟩:=T0 (st:=st) (K:=K) (k:=k) (kd:=kd) (t:=tg) (tk:=tk) (mv:=km st (t1.es L)) (D:=D) (n:=D0.length) (fun e=>hT1.nd hN1 hdg e.symm) (by omega) (by omega) D [] D0 H1 rfl rfl hrow (hT1.Ky hdg)
     simp at hL2
     simp [f157,hu,hL,hrow,eqD,hL2]
   · refine ⟨fun q hq=>by simp only [aG _ _ hq,hd1],kd,?_⟩
     rw [← hd1,hdg];simp
end
theorem tj (x:Nat):∀ (D V:List Nat) (a m:Nat),m<V.length→((fi V a D).getD m 0≤x↔V.getD m 0≤x∧(a≤m→D.getD (m-a) 0≤x))
 | [],V,a,m,hm=>by simp [fi]
 | d::r,V,a,m,hm=>by
   rw [fi,tj x r _ (a+1) m (by simpa using hm)]
   by_cases h:a=m
   · subst h
     have e:(V.set a (max (V.getD a 0) d)).getD a 0=max (V.getD a 0) d:=by simp [List.getD_eq_getElem?_getD,hm]
     rw [e]
     have h1:¬ (a+1≤a):=by omega
     simp only [h1,false_implies,and_true,Nat.le_refl,Nat.sub_self,true_implies]
     simp;omega
   · have e:(V.set a (max (V.getD a 0) d)).getD m 0=V.getD m 0:=by simp [List.getD_eq_getElem?_getD,List.getElem?_set_ne h]
     rw [e]
     by_cases h2:a≤m
     · have h3:a+1≤m:=by omega
       have e2:m-a=(m-(a+1))+1:=by omega
       simp only [h2,h3,true_implies,e2]
       simp
     · have h3:¬ (a+1≤m):=by omega
       simp only [h2,h3,false_implies]
def Sem (t:TS) (ps:List (List UInt8)):Prop:=
 ∀ q,match t.dg q with
   | none=>∀ s∈ps,cu s≠q
   | some (_,D)=>D.length=q.length+1∧∀ m,m<q.length+1→∀ x,(D.getD m 0≤x↔∀ s∈ps,cu s=q→(cX 0 s).getD m 0≤x)
theorem Sem.add {t t':TS} {ps:List (List UInt8)} {s:List UInt8} (h:Sem t ps) (ha:ajj t (cu s) (cX 0 s) t'):Sem t' (ps++[s]):=by
 intro q
 obtain ⟨h1,kd,h2⟩:=ha
 have hl:=jC s 0
 have hq:=h q
 by_cases e:q=cu s
 · subst e
   rw [h2]
   simp only
   cases hd:t.dg (cu s) with
   | none=>
     rw [hd] at hq
     refine ⟨hl,fun m hm x => ?_⟩
     simp only [List.mem_append,List.mem_singleton]
     constructor
     · rintro a s' (hs | rfl) e
       · exact absurd e (hq s' hs)
       · exact a
     · intro a;exact a s (.inr rfl) rfl
   | some y=>
     obtain ⟨k0,D0⟩:=y
     rw [hd] at hq
     obtain ⟨hq1,hq2⟩:=hq
     refine ⟨by simp only [iz];exact hq1,fun m hm x => ?_⟩
     simp only
     rw [tj x _ _ 0 m (by omega),hq2 m hm x]
     simp only [List.mem_append,List.mem_singleton,Nat.zero_le,true_implies,Nat.sub_zero]
     constructor
     · rintro ⟨a,b⟩ s' (hs | rfl) e
       · exact a s' hs e
       · exact b
     · intro a;exact ⟨fun s' hs e=>a s' (.inl hs) e,a s (.inr rfl) rfl⟩
 · rw [h1 q e]
   cases hd:t.dg q with
   | none=>
     rw [hd] at hq
     intro s' hs
     rcases List.mem_append.1 hs with hs | hs
     · exact hq s' hs
     · simp only [List.mem_singleton] at hs;subst hs;exact fun e'=>e e'.symm
   | some y=>
     obtain ⟨k0,D0⟩:=y
     rw [hd] at hq
     obtain ⟨hq1,hq2⟩:=hq
     refine ⟨hq1,fun m hm x => ?_⟩
     rw [hq2 m hm x]
     simp only [List.mem_append,List.mem_singleton]
     constructor
     · rintro a s' (hs | rfl) e'
       · exact a s' hs e'
       · exact absurd e'.symm e
     · intro a s' hs e';exact a s' (.inl hs) e'
theorem gp.split {H X H':List HO} {t t':TS} (h:gp (H++X) t H' t') (ho:∀ j,t.own j→H.length≤j):∃ X',H'=H++X'∧(∀ j,t'.own j→H.length≤j)∧X.length≤X'.length:=by
 have hl:=h.len
 rw [List.length_append] at hl
 have e:H'.take H.length=H:=by
  apply List.ext_getElem?
  intro j
  by_cases hj:j<H.length
  · rw [List.getElem?_take_of_lt hj,h.fr j (by simp;omega) (fun hh=>by have:=ho j hh;omega),List.getElem?_append_left hj]
  · rw [List.getElem?_eq_none (by simp;omega),List.getElem?_eq_none (by omega)]
 refine ⟨H'.drop H.length,?_,?_,by simp;omega⟩
 · conv=>lhs;rw [← List.take_append_drop H.length H',e]
 · intro j hj
   rcases h.own j hj with h1 | h1
   · exact ho j h1
   · rw [List.length_append] at h1;omega
theorem Trie.same {st:St} {H H':List HO} {root:Nat} {t:TS} (h:t.ok st H root) (hs:∀ j,t.own j→H'[j]? = H[j]?):t.ok st H' root:=
 ⟨h.top,h.tN,fun hp=>aE.2 (by rw [hs _ (.inl ⟨_,hp⟩)];exact h.se hp),fun hp=>by rw [hs _ (.inr (.inl ⟨_,_,hp⟩))];exact h.mS hp,h.qj,h.kid,
  fun hp=>aE.2 (by rw [hs _ (.inr (.inr ⟨_,_,hp⟩))];exact h.l7 hp),h.qw,h.qB,h.off⟩
def t0 (root:Nat):TS:=⟨fun p=>if p=[] then some root else none,fun _=>none,fun _=>none⟩
theorem afN {st:St} {H:List HO} {root:Nat} (h:H[root]? = some (.cells .plain [.aD,.list 0 0 .no false []])):(t0 root).ok st H root:=by
 refine ⟨by simp [t0],?_,?_,?_,?_,?_,?_,?_,?_,?_⟩
 · intro p q k hp hq
   simp only [t0] at hp hq
   split at hp
   · split at hq
     · rename_i a b;rw [a,b]
     · cases hq
   · cases hp
 · intro p k hp
   simp only [t0] at hp
   split at hp
   · cases hp;rw [aE,h];rfl
   · cases hp
 · intro p m l hp;cases hp
 · intro p q m l l' hp;cases hp
 · intro p k c hp;simp [t0]
 · intro p k D hp;cases hp
 · intro p q k D D' hp;cases hp
 · intro p k D hp;cases hp
 · intro p hp
   exact ⟨rfl,rfl,fun c=>by simp [t0]⟩
theorem Tz (root:Nat):Sem (t0 root) []:=by intro q;simp [t0]
theorem xn {root j:Nat} (h:(t0 root).own j):j=root:=by
 rcases h with ⟨p,hp⟩ | ⟨p,l,hp⟩ | ⟨p,D,hp⟩
 · simp only [t0] at hp
   split at hp
   · exact (Option.some.inj hp).symm
   · cases hp
 · cases hp
 · cases hp
theorem amg:tab 147=some (.code f147):=by kernel_rfl
theorem Bf {ps:List (List UInt8)}:∀ y∈ps.map DV.str,dB 1 false y:=by
 intro y hy;obtain ⟨c,_,rfl⟩:=List.mem_map.1 hy;exact ⟨rfl,rfl,rfl⟩
section
variable {st:St} {K:List Nat}
theorem Lr {H:List HO} {v w:DV} {ps:List (List UInt8)} (hps:ps.length≤256) (hv:Vw (pst st H K) 1 false (ps.map DV.str) v) {kh me root:Nat} {hx:DV} (hkh:H.length≤kh) (hme:H.length≤me) (hroot:H.length≤root) :
 ∀ (r d:List (List UInt8)) (X:List HO) (t:TS),ps=d++r→t.ok st (H++X) root→Sem t d→(∀ j,t.own j→H.length≤j)→¬ t.own kh→¬ t.own me→kh<(H++X).length→me<(H++X).length →
   rowAt (H++X) kh=some (.plain,[.ptr (st.heap.length+root) 0,hx]) →
 ∃ e fr X' t',(E tab).C oS [(1,w),(6,.ptr (st.heap.length+kh) 0),(33,v),(34,.int .i64 ps.length),(35,.int .i64 d.length)] (pst st (H++X) K)=some (e,fr,pst st (H++X') K) ∧
   t'.ok st (H++X') root∧(∀ j,t'.own j→H.length≤j)∧¬ t'.own kh∧¬ t'.own me∧X.length≤X'.length∧(H++X')[me]? = (H++X)[me]? ∧ (H++X')[kh]? = (H++X)[kh]? ∧
   if r.all okP=true then e=.exit 0∧Sem t' ps∧∃ tl,fr=(1,w)::(6,.ptr (st.heap.length+kh) 0)::tl
   else e=.ret∧fr=[(4,.bp),(5,.int .i64 4)]:=by
 intro r
 induction r with
 | nil=>
   intro d X t hd hT hS ho hk hm hkl hml hrow
   obtain rfl:ps=d:=by simpa using hd
   refine ⟨.exit 0,[(1,w),(6,.ptr (st.heap.length+kh) 0),(33,v),(34,.int .i64 ps.length),(35,.int .i64 ps.length),(36,.bool false)],X,t,?_,hT,ho,hk,hm,Nat.le_refl _,rfl,rfl,?_⟩
   · rw [aj (L:=oS) rfl]
     simp [sg]
   · simp [hS]
 | cons s r ih=>
   intro d X t hd hT hS ho hk hm hkl hml hrow
   have h0:d.length<ps.length:=by simp [hd]
   have hw1:IntKind.i64.wrap ((d.length:Int)+1)=(d.length:Int)+1:=by rw [aN (by omega)]
   have hxs:(ps.map DV.str)[d.length]? = some (.str s):=by simp [hd]
   have hv':=hv.app X K
   have hia:=hv'.aJ (i:=d.length) (by simpa using h0) .i64 (pst st (H++X) K)
   have hld:=hv'.BB Bf hxs
   obtain ⟨hp1,hp2⟩:=wU s (pst st (H++X) K)
   by_cases hok:okP s=true
   · obtain ⟨tg,tk,hpat⟩:=hp1 hok
     have hsl:s.length≤16:=by simp only [okP,Bool.and_eq_true,decide_eq_true_eq] at hok;exact hok.1.2
     have hll:(cu s).length≤s.length:=List.length_filter_le _ _
     obtain ⟨H2,t2,hadd,hT2,hG2,hA2⟩:=ML (K:=K) (tg:=tg) (tk:=tk) (by omega) (jC s 0) hT
     obtain ⟨X2,rfl,ho2,hx2⟩:=hG2.split ho
     have hS2:=hS.add hA2
     have hk2:¬ t2.own kh:=fun h=>(hG2.own kh h).elim hk (fun h=>by omega)
     have hm2:¬ t2.own me:=fun h=>(hG2.own me h).elim hm (fun h=>by omega)
     have ek:=hG2.fr kh hkl hk
     have em:=hG2.fr me hml hm
     have hrow2:rowAt (H++X2) kh=some (.plain,[.ptr (st.heap.length+root) 0,hx]):=by rw [aE,ek];exact aE.1 hrow
     obtain ⟨e,fr,X',t',hJ,a1,a2,a3,a4,a5,a6,a7,a8⟩:=ih (d++[s]) X2 t2 (by simp [hd]) hT2 hS2 ho2 hk2 hm2 (by have:=bg hrow2;exact this) (by have:=hG2.len;omega) hrow2
     refine ⟨e,fr,X',t',?_,a1,a2,a3,a4,by omega,by rw [a6,em],by rw [a7,ek],?_⟩
     · simp at hJ
       rw [aj (L:=oS) rfl]
       simp [sg,h0,hia,hld,hpat,hrow,hadd,hw1,hJ]
     · simpa [hok] using a8
   · simp only [Bool.not_eq_true] at hok
     obtain ⟨l,w',hpat⟩:=hp2 hok
     refine ⟨.ret,[(4,.bp),(5,.int .i64 4)],X,t,?_,hT,ho,hk,hm,Nat.le_refl _,rfl,rfl,?_⟩
     · rw [aj (L:=oS) rfl]
       simp [sg,h0,hia,hld,hpat]
     · simp [hok]
end
def exV (x:List UInt8×DV):DV×DV:=(.str x.1,x.2)
theorem KL (w:List UInt8):∀ (EE:List (List UInt8×DV)) (i:Nat),((∀ x∈EE,x.1≠w)∧findD [.str] (.str w) (EE.map exV) i=some none) ∨
 ∃ j v,EE[j]? = some (w,v)∧(∀ k x,k<j→EE[k]? = some x→x.1≠w)∧findD [.str] (.str w) (EE.map exV) i=some (some (i+j,v))
 | [],i=>.inl ⟨by simp,rfl⟩
 | (a,v)::r,i=>by
   by_cases h:w=a
   · subst h
     exact .inr ⟨0,v,rfl,by intro k x hk;omega,by simp [findD,exV,iq,cp]⟩
   · have hb:(w==a)=false:=by rw [beq_eq_false_iff_ne];exact h
     have e:∀ r,findD [.str] (.str w) (exV (a,v)::r) i=findD [.str] (.str w) r (i+1):=by
      intro r;simp [findD,exV,iq,cp,hb]
     rcases KL w r (i+1) with ⟨h1,h2⟩ | ⟨j,v',h1,h2,h3⟩
     · refine .inl ⟨?_,by rw [List.map_cons,e];exact h2⟩
       intro x hx
       rcases List.mem_cons.1 hx with rfl | hx
       · exact fun e=>h e.symm
       · exact h1 x hx
     · refine .inr ⟨j+1,v',h1,?_,by rw [List.map_cons,e,h3];congr 3;omega⟩
       intro k x hk hx
       cases k with
       | zero=>simp only [List.getElem?_cons_zero,Option.some.injEq] at hx;rw [← hx];exact fun e=>h e.symm
       | succ k=>exact h2 k x (by omega) hx
theorem va {st:St} {H:List HO} {K:List Nat} {ks:List LK} {m i:Nat} {es:List (DV×DV)} {key v v0:DV} (h:H[m]? = some (.map es)) (hf:findD ks key es 0=some (some (i,v0))) :
 fG (pst st H K) ks (.map (st.heap.length+m)) key v=some (pst st (H.set m (.map (es.modify i fun _=>(key,v)))) K):=by
 have hb:(pst st H K).base≤st.heap.length+m:=by simp
 simp only [fG,cm,h,hf,hb,if_true]
 simp [pst,List.set_append_right]
theorem zb (w:List UInt8) (v:DV):∀ (EE:List (List UInt8×DV)) (i:Nat),(EE.map exV).modify i (fun _=>(.str w,v))=(EE.modify i fun _=>(w,v)).map exV
 | [],i=>by simp
 | x::r,0=>rfl
 | x::r,i+1=>by simp [List.modify_succ_cons,zb w v r i]
inductive F2 {α β:Type} (R:α→β→Prop):List α→List β→Prop
 | nil:F2 R [] []
 | cons {a:α} {b:β} {l:List α} {m:List β} (h:R a b) (t:F2 R l m):F2 R (a::l) (b::m)
structure ExI (d:List (List UInt8)) (EE:List (List UInt8×DV)) (tw:Bool):Prop where
 mem:∀ w,(∃ x∈EE,x.1=w)↔∃ s∈d,aQ s=w
 tws:tw=true↔¬ (d.map aQ).Nodup
 all:tw=false→F2 (fun s x=>x.1=aQ s∧Lw 1 ((plc 0 s).map i6) x.2) d EE
theorem ExI.nil:ExI [] [] false:=⟨by simp,by simp,fun _=>.nil⟩
theorem pN (l:List (List UInt8)) (a:List UInt8):(l++[a]).Nodup↔l.Nodup∧a∉l:=by
 rw [List.nodup_append]
 constructor
 · rintro ⟨h1,_,h2⟩;exact ⟨h1,fun h=>h2 a h a (by simp) rfl⟩
 · rintro ⟨h1,h2⟩;refine ⟨h1,by simp,?_⟩
   intro x hx y hy e
   simp only [List.mem_singleton] at hy;subst hy;subst e;exact h2 hx
theorem lx {α β:Type} {R:α→β→Prop}:∀ {l:List α} {m:List β} {a:α} {b:β},F2 R l m→R a b→F2 R (l++[a]) (m++[b])
 | [],[],_,_,.nil,h=>.cons h .nil
 | _::_,_::_,_,_,.cons h1 h2,h=>.cons h1 (lx h2 h)
theorem ExI.new {d:List (List UInt8)} {EE:List (List UInt8×DV)} {tw:Bool} (h:ExI d EE tw) {s:List UInt8} {v:DV} (hn:∀ x∈EE,x.1≠aQ s) (hv:Lw 1 ((plc 0 s).map i6) v):ExI (d++[s]) (EE++[(aQ s,v)]) tw:=by
 have hnd:aQ s∉d.map aQ:=by
  intro hm
  obtain ⟨s',h1,h2⟩:=List.mem_map.1 hm
  obtain ⟨x,hx,e⟩:=(h.mem (aQ s)).2 ⟨s',h1,h2⟩
  exact hn x hx e
 refine ⟨?_,?_,fun e=>lx (h.all e) ⟨rfl,hv⟩⟩
 · intro w
   have:=h.mem w
   constructor
   · rintro ⟨x,hx,e⟩
     rcases List.mem_append.1 hx with hx | hx
     · obtain ⟨s',h1,h2⟩:=this.1 ⟨x,hx,e⟩;exact ⟨s',List.mem_append_left _ h1,h2⟩
     · simp only [List.mem_singleton] at hx;subst hx;exact ⟨s,by simp,e⟩
   · rintro ⟨s',hs,e⟩
     rcases List.mem_append.1 hs with hs | hs
     · obtain ⟨x,hx,e⟩:=this.2 ⟨s',hs,e⟩;exact ⟨x,List.mem_append_left _ hx,e⟩
     · simp only [List.mem_singleton] at hs;subst hs;exact ⟨(aQ s',v),List.mem_append_right _ (by simp),e⟩
 · rw [h.tws,List.map_append,List.map_singleton,pN]
   simp [hnd]
theorem ExI.old {d:List (List UInt8)} {EE:List (List UInt8×DV)} {tw:Bool} (h:ExI d EE tw) {s:List UInt8} {v v0:DV} {j:Nat} (hj:EE[j]? = some (aQ s,v0)):ExI (d++[s]) (EE.modify j fun _=>(aQ s,v)) true:=by
 have hnd:aQ s∈d.map aQ:=by
  obtain ⟨s',h1,h2⟩:=(h.mem (aQ s)).1 ⟨_,List.mem_of_getElem? hj,rfl⟩
  exact List.mem_map.2 ⟨s',h1,h2⟩
 have hf:∀ w,(∃ x∈EE.modify j (fun _=>(aQ s,v)),x.1=w)↔∃ x∈EE,x.1=w:=by
  intro w
  have e:(EE.modify j (fun _=>(aQ s,v))).map Prod.fst=EE.map Prod.fst:=by
   apply List.ext_getElem?
   intro k
   rw [List.getElem?_map,List.getElem?_map,List.getElem?_modify]
   by_cases hk:j=k
   · subst hk;rw [hj];simp
   · simp [hk]
  have e2:∀ l:List (List UInt8×DV),(∃ x∈l,x.1=w)↔w∈l.map Prod.fst:=by intro l;simp
  rw [e2,e2,e]
 refine ⟨?_,?_,fun e=>by cases e⟩
 · intro w
   rw [hf w,h.mem w]
   constructor
   · rintro ⟨s',hs,e⟩;exact ⟨s',List.mem_append_left _ hs,e⟩
   · rintro ⟨s',hs,e⟩
     rcases List.mem_append.1 hs with hs | hs
     · exact ⟨s',hs,e⟩
     · simp only [List.mem_singleton] at hs;subst hs;subst e
       obtain ⟨s',h1,h2⟩:=List.mem_map.1 hnd;exact ⟨s',h1,h2⟩
 · rw [List.map_append,List.map_singleton,pN]
   simp only [true_iff]
   exact fun h=>h.2 hnd
section
variable {st:St} {K:List Nat}
theorem Vc {H:List HO} {w:DV} {es:List (List UInt8)} (hes:es.length≤256) (hsl:∀ s∈es,s.length≤1000) (hv:Vw (pst st H K) 1 false (es.map DV.str) w) {a b:Nat} {np:DV} (hab:a≠b) :
 ∀ (r d:List (List UInt8)) (X:List HO) (EE:List (List UInt8×DV)) (tw:Bool),es=d++r→X[b]? = some (.map (EE.map exV))→rowAt X a=some (.plain,[np,.map (st.heap.length+(H.length+b))])→ExI d EE tw →
 ∃ e fr EE',(E tab).C nk [(6,.ptr (st.heap.length+(H.length+a)) 0),(12,.bool tw),(55,w),(56,.int .i64 es.length),(57,.int .i64 d.length)] (pst st (H++X) K)=some (e,fr,pst st (H++X.set b (.map (EE'.map exV))) K) ∧
   if r.all okE=true then e=.exit 2∧∃ tw' tl,fr=(6,.ptr (st.heap.length+(H.length+a)) 0)::(12,.bool tw')::tl∧ExI es EE' tw'
   else e=.ret∧fr=[(4,.bp),(5,.int .i64 4)]:=by
 intro r
 induction r with
 | nil=>
   intro d X EE tw hd hb ha hI
   obtain rfl:es=d:=by simpa using hd
   have hset:X.set b (.map (EE.map exV))=X:=by
    apply List.ext_getElem?
    intro j
    by_cases hj:j=b
    · subst hj;rw [List.getElem?_set_self (List.getElem?_eq_some_iff.1 hb).1,hb]
    · rw [List.getElem?_set_ne (fun e=>hj e.symm)]
   refine ⟨.exit 2,[(6,.ptr (st.heap.length+(H.length+a)) 0),(12,.bool tw),(55,w),(56,.int .i64 es.length),(57,.int .i64 es.length),(58,.bool false)],EE,?_,?_⟩
   · rw [hset,aj (L:=nk) rfl]
     simp [oQ]
   · simp [hI]
 | cons s r ih=>
   intro d X EE tw hd hb ha hI
   have h0:d.length<es.length:=by simp [hd]
   have hw1:IntKind.i64.wrap ((d.length:Int)+1)=(d.length:Int)+1:=by rw [aN (by omega)]
   have hxs:(es.map DV.str)[d.length]? = some (.str s):=by simp [hd]
   have hv':=hv.app X K
   have hia:=hv'.aJ (i:=d.length) (by simpa using h0) .i64 (pst st (H++X) K)
   have hld:=hv'.BB Bf hxs
   obtain ⟨l,pv,hexc,hok1⟩:=tz (s:=s) (st:=pst st (H++X) K) (hsl s (by simp [hd]))
   have hbl:=(List.getElem?_eq_some_iff.1 hb).1
   have hra:rowAt (H++X) (H.length+a)=some (.plain,[np,.map (st.heap.length+(H.length+b))]):=by rw [dS];exact ha
   have hkf:∀ s,gS [.str] (.str s)=true:=fun _=>rfl
   by_cases hok:okE s=true
   · obtain ⟨rfl,hlw⟩:=hok1 hok
     have hHb:(H++X)[H.length+b]? = some (.map (EE.map exV)):=by rw [gY];exact hb
     have hset2:∀ o o',(X.set b o).set b o'=X.set b o':=fun o o'=>List.set_set ..
     rw [hok] at hexc
     rcases KL (aQ s) EE 0 with ⟨h1,h2⟩ | ⟨j,v0,h1,_,h2⟩
     · have hlk:cP (pst st (H++X) K) [.str] (.list 0 0 .no false []) (.map (st.heap.length+(H.length+b))) (.str (aQ s)) true=some (.tuple [.list 0 0 .no false [],.bool false]):=by
        simp only [cP,cm,hHb,h2];rfl
       have hms:=kI (st:=st) (K:=K) (v:=pv) hHb h2
       have e1:EE.map exV++[(.str (aQ s),pv)]=(EE++[(aQ s,pv)]).map exV:=by simp [exV]
       rw [e1,mG] at hms
       obtain ⟨e,fr,EE',hJ,hR⟩:=ih (d++[s]) (X.set b (.map ((EE++[(aQ s,pv)]).map exV))) (EE++[(aQ s,pv)]) tw (by simp [hd]) (by rw [List.getElem?_set_self hbl]) (by
        rw [aE,List.getElem?_set_ne (fun e=>hab e.symm)];exact aE.1 ha) (hI.new h1 hlw)
       refine ⟨e,fr,EE',?_,by simpa [hok] using hR⟩
       rw [List.set_set] at hJ
       generalize (EE++[(aQ s,pv)]).map exV=Y at *
       generalize EE'.map exV=Y' at *
       simp at hJ
       rw [aj (L:=nk) rfl]
       cases tw<;>simp [oQ,h0,hia,hld,hexc,hra,hlk,hkf,hms,hw1,hJ]
     · have hlk:cP (pst st (H++X) K) [.str] (.list 0 0 .no false []) (.map (st.heap.length+(H.length+b))) (.str (aQ s)) true=some (.tuple [v0,.bool true]):=by
        simp only [cP,cm,hHb,h2];rfl
       have hms:=va (st:=st) (K:=K) (v:=pv) hHb h2
       rw [Nat.zero_add,zb,mG] at hms
       obtain ⟨e,fr,EE',hJ,hR⟩:=ih (d++[s]) (X.set b (.map ((EE.modify j fun _=>(aQ s,pv)).map exV))) (EE.modify j fun _=>(aQ s,pv)) true (by simp [hd]) (by rw [List.getElem?_set_self hbl]) (by
        rw [aE,List.getElem?_set_ne (fun e=>hab e.symm)];exact aE.1 ha) (hI.old h1)
       refine ⟨e,fr,EE',?_,by simpa [hok] using hR⟩
       rw [List.set_set] at hJ
       generalize (EE.modify j fun _=>(aQ s,pv)).map exV=Y at *
       generalize EE'.map exV=Y' at *
       simp at hJ
       rw [aj (L:=nk) rfl]
       cases tw<;>simp [oQ,h0,hia,hld,hexc,hra,hlk,hkf,hms,hw1,hJ]
   · simp only [Bool.not_eq_true] at hok
     rw [hok] at hexc
     have hset:X.set b (.map (EE.map exV))=X:=by
      apply List.ext_getElem?
      intro j
      by_cases hj:j=b
      · subst hj;rw [List.getElem?_set_self hbl,hb]
      · rw [List.getElem?_set_ne (fun e=>hj e.symm)]
     refine ⟨.ret,[(4,.bp),(5,.int .i64 4)],EE,?_,?_⟩
     · rw [hset,aj (L:=nk) rfl]
       simp [oQ,h0,hia,hld,hexc]
     · simp [hok]
end
def kp (ps es:List (List UInt8)):Nat:=if 256<ps.length∨64<es.length then 3 else if ps.all okP=true∧es.all okE=true then (if (es.map aQ).Nodup then 0 else 7) else 4
def oU (st:St) (G:List HO) (b:Nat) (ps es:List (List UInt8)):Prop:=
 ∃ t EE,t.ok st G b∧Sem t ps∧(∀ j,t.own j→b≤j)∧ExI es EE false∧G[b+1]? = some (.map (EE.map exV))∧rowAt G (b+2)=some (.plain,[.ptr (st.heap.length+b) 0,.map (st.heap.length+(b+1))])
theorem oU.same {st:St} {G G':List HO} {b:Nat} {ps es:List (List UInt8)} (h:oU st G b ps es) (hs:∀ j,b≤j→j<G.length→G'[j]? = G[j]?):oU st G' b ps es:=by
 obtain ⟨t,EE,h1,h2,h3,h4,h5,h6⟩:=h
 refine ⟨t,EE,h1.same fun j hj => ?_,h2,h3,h4,?_,?_⟩
 · refine hs j (h3 j hj) ?_
   rcases hj with ⟨p,hp⟩ | ⟨p,l,hp⟩ | ⟨p,D,hp⟩
   · exact h1.Cf hp
   · exact h1.Iv hp
   · exact h1.DB hp
 · rw [hs _ (by omega) (List.getElem?_eq_some_iff.1 h5).1];exact h5
 · rw [aE,hs _ (by omega) (bg h6)];exact aE.1 h6
section
variable {st:St} {K:List Nat}
theorem Vp {H:List HO} {v w:DV} {ps es:List (List UInt8)} (hsl:∀ s∈es,s.length≤1000) (hv:Vw (pst st H K) 1 false (ps.map DV.str) v) (hw:Vw (pst st H K) 1 false (es.map DV.str) w) :
 ∃ X hp,(E tab).F 147 [v,w] (pst st H K)=some (.tuple [hp,.int .i64 (kp ps es:Nat)],pst st (H++X) K)∧(kp ps es=0→hp=.ptr (st.heap.length+(H.length+2)) 0∧oU st (H++X) H.length ps es)∧(kp ps es≠0→hp=.bp):=by
 rw [eL amg rfl]
 have hlv:=hv.len
 have hlw:=hw.len
 simp only [List.length_map] at hlv hlw
 by_cases h1:256<ps.length
 · have h1':(256:Int)<ps.length:=by omega
   have he:kp ps es=3:=by simp [kp,h1]
   refine ⟨[],.bp,?_,by simp [he],fun _=>rfl⟩
   rw [he]
   simp [f147,hlv,h1']
 by_cases h2:64<es.length
 · have h1':¬ (256:Int)<ps.length:=by omega
   have h2':(64:Int)<es.length:=by omega
   have he:kp ps es=3:=by simp [kp,h2]
   refine ⟨[],.bp,?_,by simp [he],fun _=>rfl⟩
   rw [he]
   simp [f147,hlv,hlw,h1',h2']
 have h1':¬ (256:Int)<ps.length:=by omega
 have h2':¬ (64:Int)<es.length:=by omega
 have hX0:H++[HO.cells .plain [.aD,.list 0 0 .no false []],.map [],.cells .plain [.ptr (st.heap.length+H.length) 0,.map (st.heap.length+(H.length+1))]] =
  H++[HO.cells .plain [.aD,.list 0 0 .no false []],.map [],.cells .plain [.ptr (st.heap.length+H.length) 0,.map (st.heap.length+(H.length+1))]]:=rfl
 have hg:∀ j,(H++[HO.cells .plain [.aD,.list 0 0 .no false []],.map [],.cells .plain [.ptr (st.heap.length+H.length) 0,.map (st.heap.length+(H.length+1))]])[H.length+j]? =
  [HO.cells .plain [.aD,.list 0 0 .no false []],.map [],.cells .plain [.ptr (st.heap.length+H.length) 0,.map (st.heap.length+(H.length+1))]][j]?:=fun j=>gY _ _ j
 have hT0:(t0 H.length).ok st (H++[HO.cells .plain [.aD,.list 0 0 .no false []],.map [],.cells .plain [.ptr (st.heap.length+H.length) 0,.map (st.heap.length+(H.length+1))]]) H.length:=afN (hg 0)
 obtain ⟨e,fr,X1,t1,hL,a1,a2,a3,a4,a5,a6,a7,a8⟩:=Lr (K:=K) (H:=H) (v:=v) (w:=w) (ps:=ps) (by omega) hv (kh:=H.length+2) (me:=H.length+1) (root:=H.length) (by omega) (by omega) (Nat.le_refl _) ps [] _ (t0 H.length) rfl hT0 (Tz _)
  (fun j hj=>by rw [xn hj];exact Nat.le_refl _) (fun h=>by have:=xn h;omega) (fun h=>by have:=xn h;omega) (by simp) (by simp) (by rw [aE];exact hg 2)
 rw [hg 1] at a6
 rw [hg 2] at a7
 simp at hL
 by_cases hp:ps.all okP=true
 · rw [if_pos hp] at a8
   obtain ⟨rfl,hS,tl,rfl⟩:=a8
   have b1:X1[1]? = some (.map (([]:List (List UInt8×DV)).map exV)):=by rw [← gY H X1];exact a6
   have b2:rowAt X1 2=some (.plain,[.ptr (st.heap.length+H.length) 0,.map (st.heap.length+(H.length+1))]):=by rw [aE,← gY H X1];exact a7
   obtain ⟨e,fr,EE,hL2,c⟩:=Vc (K:=K) (H:=H) (w:=w) (es:=es) (by omega) hsl hw (a:=2) (b:=1) (by omega) es [] X1 [] false rfl b1 b2 ExI.nil
   simp at hL2
   by_cases hq:es.all okE=true
   · rw [if_pos hq] at c
     obtain ⟨rfl,tw,tl2,rfl,hI⟩:=c
     cases tw with
     | true=>
       have hn:=hI.tws.1 rfl
       have he:kp ps es=7:=by simp only [kp,if_neg (show ¬ (256<ps.length∨64<es.length) by omega),hp,hq,and_self,if_true,if_neg hn]
       refine ⟨X1.set 1 (.map (EE.map exV)),.bp,?_,by simp [he],fun _=>rfl⟩
       rw [he]
       simp [f147,hlv,hlw,h1',h2',hL,hL2]
     | false=>
       have hn:(es.map aQ).Nodup:=by
        by_cases h:(es.map aQ).Nodup
        · exact h
        · have:=hI.tws.2 h;cases this
       have he:kp ps es=0:=by simp only [kp,if_neg (show ¬ (256<ps.length∨64<es.length) by omega),hp,hq,and_self,if_true,if_pos hn]
       refine ⟨X1.set 1 (.map (EE.map exV)),.ptr (st.heap.length+(H.length+2)) 0,?_,fun _=>⟨rfl,t1,EE,?_,hS,a2,hI,?_,?_⟩,by simp [he]⟩
       · rw [he]
         simp [f147,hlv,hlw,h1',h2',hL,hL2]
       · refine a1.same fun j hj => ?_
         rw [← mG,List.getElem?_set_ne (by rintro rfl;exact a4 hj)]
       · rw [gY,List.getElem?_set_self (List.getElem?_eq_some_iff.1 b1).1]
       · rw [aE,gY,List.getElem?_set_ne (by omega)];exact aE.1 b2
   · rw [if_neg hq] at c
     obtain ⟨rfl,rfl⟩:=c
     have he:kp ps es=4:=by rw [kp,if_neg (show ¬ (256<ps.length∨64<es.length) by omega),if_neg (fun h=>hq h.2)]
     refine ⟨X1.set 1 (.map (EE.map exV)),.bp,?_,by simp [he],fun _=>rfl⟩
     rw [he]
     simp [f147,hlv,hlw,h1',h2',hL,hL2]
 · rw [if_neg hp] at a8
   obtain ⟨rfl,rfl⟩:=a8
   have he:kp ps es=4:=by rw [kp,if_neg (show ¬ (256<ps.length∨64<es.length) by omega),if_neg (fun h=>hp h.1)]
   refine ⟨X1,.bp,?_,by simp [he],fun _=>rfl⟩
   rw [he]
   simp [f147,hlv,hlw,h1',h2',hL]
end
def Con (ps:List (List UInt8)) (text:List UInt8) (m x:Nat):Prop:=∀ s∈ps,∀ i,cu s≠[]→cu s <+: text.drop i→i≤m→(cX 0 s).getD (m-i) 0≤x
def IY (text:List UInt8) (m:Nat) (s:List UInt8) (i:Nat):Nat:=if cu s≠[]∧(cu s).isPrefixOf (text.drop i)=true∧i≤m then (cX 0 s).getD (m-i) 0 else 0
def zH (ps:List (List UInt8)) (text:List UInt8) (m:Nat):Nat:=(ps.flatMap fun s=>(List.range (text.length+1)).map (IY text m s)).foldr max 0
theorem l4 (x:Nat):∀ l:List Nat,l.foldr max 0≤x↔∀ y∈l,y≤x
 | []=>by simp
 | a::r=>by simp only [List.foldr_cons,List.mem_cons,forall_eq_or_imp,← l4 x r];omega
theorem Ig (ps:List (List UInt8)) (text:List UInt8) (m x:Nat):zH ps text m≤x↔Con ps text m x:=by
 unfold zH
 rw [l4]
 constructor
 · intro h s hs i h1 h2 h3
   have hi:i<text.length+1:=by
    apply Nat.lt_succ_of_le
    apply Nat.le_of_not_lt
    intro hlt
    rw [List.drop_eq_nil_of_le (by omega)] at h2
    exact h1 (List.prefix_nil.1 h2)
   have:=h (IY text m s i) (List.mem_flatMap.2 ⟨s,hs,List.mem_map.2 ⟨i,List.mem_range.2 hi,rfl⟩⟩)
   unfold IY at this
   rw [if_pos ⟨h1,List.isPrefixOf_iff_prefix.2 h2,h3⟩] at this
   exact this
 · intro h y hy
   obtain ⟨s,hs,hy⟩:=List.mem_flatMap.1 hy
   obtain ⟨i,_,rfl⟩:=List.mem_map.1 hy
   unfold IY
   split
   · rename_i h1;exact h s hs i h1.1 (List.isPrefixOf_iff_prefix.1 h1.2.1) h1.2.2
   · exact Nat.zero_le _
theorem Dn {a b:Nat} (h:∀ x,a≤x↔b≤x):a=b:=Nat.le_antisymm ((h b).2 (Nat.le_refl _)) ((h a).1 (Nat.le_refl _))
section
variable {st:St} {H:List HO} {root:Nat} {t:TS}
theorem Trie.aoe (h:t.ok st H root) {p:Path} (hp:t.N p=none):∀ u,t.N (p++u)=none:=by
 intro u
 induction u generalizing p with
 | nil=>simpa using hp
 | cons c r ih=>have:=ih ((h.off hp).2.2 c);simpa using this
theorem yx (h:t.ok st H root) {ps:List (List UInt8)} (hS:Sem t ps) (a m x:Nat):∀ (r p:List UInt8) (V:List Nat),m<V.length →
 ((fk t.N t.dg a p r V).getD m 0≤x↔V.getD m 0≤x∧∀ s∈ps,∀ u,u≠[]→u <+: r→cu s=p++u→a≤m→(cX 0 s).getD (m-a) 0≤x)
 | [],p,V,hm=>by
   simp only [fk]
   constructor
   · intro h1;exact ⟨h1,fun s _ u hu hp=>absurd (List.prefix_nil.1 hp) hu⟩
   · intro h1;exact h1.1
 | c::r,p,V,hm=>by
   simp only [fk]
   split
   · rename_i hn
     constructor
     · intro h1
       refine ⟨h1,fun s hs u hu hp e => ?_⟩
       exfalso
       cases u with
       | nil=>exact hu rfl
       | cons c' u=>
         obtain ⟨rfl,_⟩:=List.cons_prefix_cons.1 hp
         have h2:=h.aoe hn u
         have h3:p++[c']++u=cu s:=by rw [e];simp
         rw [h3] at h2
         have h4:=hS (cu s)
         rw [(h.off h2).2.1] at h4
         exact h4 s hs rfl
     · intro h1;exact h1.1
   · have hq:=hS (p++[c])
     have key:∀ W:List Nat,m<W.length→(W.getD m 0≤x↔V.getD m 0≤x∧∀ s∈ps,cu s=p++[c]→a≤m→(cX 0 s).getD (m-a) 0≤x) →
      ((fk t.N t.dg a (p++[c]) r W).getD m 0≤x↔V.getD m 0≤x∧∀ s∈ps,∀ u,u≠[]→u <+: c::r→cu s=p++u→a≤m→(cX 0 s).getD (m-a) 0≤x):=by
      intro W hW hk
      rw [yx h hS a m x r (p++[c]) W hW,hk]
      constructor
      · rintro ⟨⟨h1,h2⟩,h3⟩
        refine ⟨h1,fun s hs u hu hp e ham => ?_⟩
        cases u with
        | nil=>exact absurd rfl hu
        | cons c' u=>
          obtain ⟨rfl,hp'⟩:=List.cons_prefix_cons.1 hp
          cases u with
          | nil=>exact h2 s hs e ham
          | cons d u=>exact h3 s hs (d::u) (by simp) hp' (by rw [e];simp) ham
      · rintro ⟨h1,h2⟩
        refine ⟨⟨h1,fun s hs e ham=>h2 s hs [c] (by simp) (by simp) e ham⟩,fun s hs u hu hp e ham => ?_⟩
        exact h2 s hs (c::u) (by simp) (List.cons_prefix_cons.2 ⟨rfl,hp⟩) (by rw [e];simp) ham
     cases hd:t.dg (p++[c]) with
     | none=>
       rw [hd] at hq
       simp only
       refine key V hm ⟨fun h1=>⟨h1,fun s hs e=>absurd e (hq s hs)⟩,fun h1=>h1.1⟩
     | some y=>
       obtain ⟨kd,D⟩:=y
       rw [hd] at hq
       simp only
       obtain ⟨hq1,hq2⟩:=hq
       refine key _ (by rw [iz];exact hm) ?_
       rw [tj x _ _ a m hm]
       have e:(a≤m→D.getD (m-a) 0≤x)↔∀ s∈ps,cu s=p++[c]→a≤m→(cX 0 s).getD (m-a) 0≤x:=by
        by_cases hma:m-a<(p++[c]).length+1
        · have:=hq2 (m-a) hma x
          constructor
          · intro h1 s hs e ham;exact this.1 (h1 ham) s hs e
          · intro h1 ham;exact this.2 fun s hs e=>h1 s hs e ham
        · constructor
          · intro _ s hs e ham
            have hl:=jC s 0
            rw [e] at hl
            simp [List.getD_eq_getElem?_getD,List.getElem?_eq_none (show (cX 0 s).length≤m-a by omega)]
          · intro _ ham
            simp [List.getD_eq_getElem?_getD,List.getElem?_eq_none (show D.length≤m-a by omega)]
       rw [e]
theorem ra (h:t.ok st H root) {ps:List (List UInt8)} (hS:Sem t ps) (m x:Nat):∀ (r:List UInt8) (a:Nat) (V:List Nat),m<V.length →
 ((cL t.N t.dg a r V).getD m 0≤x↔V.getD m 0≤x∧∀ s∈ps,∀ i,cu s≠[]→cu s <+: r.drop i→a+i≤m→(cX 0 s).getD (m-(a+i)) 0≤x)
 | [],a,V,hm=>by
   simp only [cL]
   constructor
   · intro h1;exact ⟨h1,fun s _ i hn hp=>absurd (List.prefix_nil.1 (by simpa using hp)) hn⟩
   · intro h1;exact h1.1
 | c::r,a,V,hm=>by
   simp only [cL]
   rw [ra h hS m x r (a+1) _ (by rw [lS];exact hm),yx h hS a m x (c::r) [] V hm]
   constructor
   · rintro ⟨⟨h1,h2⟩,h3⟩
     refine ⟨h1,fun s hs i hn hp ham => ?_⟩
     cases i with
     | zero=>exact h2 s hs (cu s) hn (by simpa using hp) (by simp) (by omega)
     | succ i=>
       have:=h3 s hs i hn (by simpa using hp) (by omega)
       have e:a+1+i=a+(i+1):=by omega
       rw [e] at this;exact this
   · rintro ⟨h1,h2⟩
     refine ⟨⟨h1,fun s hs u hu hp e ham => ?_⟩,fun s hs i hn hp ham => ?_⟩
     · have e':cu s=u:=by simpa using e
       subst e'
       exact h2 s hs 0 hu (by simpa using hp) (by omega)
     · have:=h2 s hs (i+1) hn (by simpa using hp) (by omega)
       have e:a+1+i=a+(i+1):=by omega
       rw [e];exact this
theorem Af (h:t.ok st H root) {ps:List (List UInt8)} (hS:Sem t ps) (text:List UInt8) (n m:Nat) (hm:m<n):(cL t.N t.dg 0 text (List.replicate n 0)).getD m 0=zH ps text m:=by
 apply Dn
 intro x
 rw [ra h hS m x text 0 _ (by simpa using hm),Ig]
 have e:(List.replicate n 0).getD m 0=0:=by simp [List.getD_eq_getElem?_getD,hm]
 rw [e]
 simp only [Nat.zero_le,true_and,Nat.zero_add]
 rfl
theorem oB (N:Path→Option Nat) (dg:Path→Option (Nat×List Nat)):∀ (r:List UInt8) (a:Nat) (V:List Nat),(cL N dg a r V).length=V.length
 | [],a,V=>rfl
 | c::r,a,V=>by rw [cL,oB N dg r,lS]
end
def zO (ps:List (List UInt8)) (w:List UInt8):List Nat:=(List.range' 2 (w.length-4)).filter fun k=>zH ps (46::(w++[46])) (k+1)%2==1
def points (ps es:List (List UInt8)) (w:List UInt8):List Nat:=match es.find? (fun s=>aQ s==w) with | some s=>plc 0 s | none=>zO ps w
theorem aky:tab 150=some (.code f150):=by kernel_rfl
theorem afU:tab 144=some (.code f144):=by kernel_rfl
theorem K8 {ys:List Nat}:∀ y∈ys.map i6,dB 1 false y:=by
 intro y hy;obtain ⟨c,_,rfl⟩:=List.mem_map.1 hy;exact ⟨rfl,rfl,rfl⟩
theorem Ci {st:St} {ys:List Nat} {v:DV} (h:Lw 1 (ys.map i6) v) (hl:ys.length≤100000):∃ v',(E tab).F 150 [v] st=some (v',st)∧Lw 1 (ys.map i6) v':=by
 rw [bj aky rfl]
 cases h with
 | list t n' tk nn h1 h2=>
   cases nn with
   | false=>
     refine ⟨.list 0 0 .no false [],?_,by rw [h2 rfl];exact .list _ _ _ _ (fun h=>by cases h) (fun _=>rfl)⟩
     simp [f150,eqD]
   | true=>
     obtain rfl:=h1 rfl
     by_cases hy:ys.map i6=[]
     · refine ⟨.list st.cur 1 .tight true [],?_,by rw [hy];exact .list _ _ _ _ (by simp) (by simp)⟩
       have ha:∀ K,aY (pst st [] K) 1 false 8 (.list st.cur 1 .tight true []) (.list t 1 tk true (ys.map i6))=some (.list st.cur 1 .tight true [],pst st [] K):=by
        intro K;refine pP ?_;rw [hy];simp [bJ,flat]
       simp [f150,eqD,bc,bn,chunk,ha]
     · have ha:=oo (st:=st) (H:=[]) (K:=[]) (t:=st.cur) (n':=1) (tk:=.tight) (nn:=true) (xs:=[]) (t':=t) (tk':=tk) (by_:=8) (.inr ⟨rfl,rfl,rfl⟩) (by omega) hy K8 (by simp [az];omega) (by simp [az];omega)
       refine ⟨.list st.cur 1 .no true (ys.map i6),?_,.list _ _ _ _ (by simp) (by simp)⟩
       simp at ha
       simp [f150,eqD,bc,bn,chunk,ha]
theorem Cg {st:St} {K:List Nat} {n:Nat} {xs:List DV} {v:DV} (h:Acc st K n xs v):Lw n xs v:=by
 rcases h with ⟨rfl,t,n',tk,rfl⟩ | ⟨k,s,rfl,_⟩
 · exact .list _ _ _ _ (fun h=>by cases h) (fun _=>rfl)
 · exact .list _ _ _ _ (fun _=>rfl) (fun h=>by cases h)
theorem PR {w:List UInt8}:∀ {es:List (List UInt8)} {EE:List (List UInt8×DV)},F2 (fun s x=>x.1=aQ s∧Lw 1 ((plc 0 s).map i6) x.2) es EE→∀ i,
 (es.find? (fun s=>aQ s==w)=none∧findD [.str] (.str w) (EE.map exV) i=some none) ∨
 ∃ s j v,es.find? (fun s=>aQ s==w)=some s∧s∈es∧findD [.str] (.str w) (EE.map exV) i=some (some (j,v))∧Lw 1 ((plc 0 s).map i6) v:=by
 intro es EE h
 induction h with
 | nil=>intro i;exact .inl ⟨rfl,rfl⟩
 | @cons s x l m hx h ih=>
   intro i
   obtain ⟨a,v⟩:=x
   obtain ⟨rfl,hx2⟩:=hx
   by_cases e:aQ s=w
   · refine .inr ⟨s,i,v,by simp [e],by simp,?_,hx2⟩
     simp [findD,exV,iq,cp,e]
   · have hb:(w==aQ s)=false:=by rw [beq_eq_false_iff_ne];exact fun h=>e h.symm
     have hb2:(aQ s==w)=false:=by rw [beq_eq_false_iff_ne];exact e
     have e2:∀ r,findD [.str] (.str w) (exV (aQ s,v)::r) i=findD [.str] (.str w) r (i+1):=by
      intro r;simp [findD,exV,iq,cp,hb]
     rcases ih (i+1) with ⟨h1,h2⟩ | ⟨s',j,v',h1,h1',h2,h3⟩
     · exact .inl ⟨by rw [List.find?_cons,hb2];exact h1,by rw [List.map_cons,e2];exact h2⟩
     · exact .inr ⟨s',j,v',by rw [List.find?_cons,hb2];exact h1,List.mem_cons_of_mem _ h1',by rw [List.map_cons,e2];exact h2,h3⟩
section
variable {st:St}
theorem UW {G:List HO} {kv n:Nat} {w:List UInt8} {V:List Nat} (hw:w.length=n) (hn:n≤64) (hV:V.length=n+3) (hr:rowAt G kv=some (.plain,V.map d8)):∀ (j k:Nat) (xs:List Nat) (v:DV) (K:List Nat),2≤k→k+j=n-4+2→xs.length+j≤100→Acc st K 1 (xs.map i6) v →
 ∃ v' K' tl,(E tab).C oD [(6,.str w),(10,.hsl 1 false (st.heap.length+kv) 0 (n+3) (some (n+3))),(11,v),(12,.int .i64 k)] (pst st G K) =
   some (.exit 0,(6,.str w)::(10,.hsl 1 false (st.heap.length+kv) 0 (n+3) (some (n+3)))::(11,v')::tl,pst st G K')∧Acc st K' 1 ((xs++(List.range' k j).filter fun k=>V.getD (k+1) 0%2==1).map i6) v':=by
 intro j
 induction j with
 | zero=>
   intro k xs v K hk hj hx ha
   have hc:¬ ((k:Int)≤IntKind.i64.wrap ((n:Int)-3)):=by rw [aN (by omega)];omega
   refine ⟨v,K,[(12,.int .i64 k),(56,.bool false)],?_,by simpa using ha⟩
   rw [aj (L:=oD) rfl]
   simp [sw,hw,hc]
 | succ j ih=>
   intro k xs v K hk hj hx ha
   have hc:(k:Int)≤IntKind.i64.wrap ((n:Int)-3):=by rw [aN (by omega)];omega
   have hw1:IntKind.i64.wrap ((k:Int)+1)=((k+1:Nat):Int):=by rw [aN (by omega)];simp
   obtain ⟨y,hy⟩:∃ y,V[k+1]? = some y:=⟨V[k+1],List.getElem?_eq_getElem (by omega)⟩
   have hyd:V.getD (k+1) 0=y:=by simp [hy]
   have hvx:(V.map d8)[k+1]? = some (.int .u8 y):=by simp [hy,d8]
   have h01:(0:Int)≤(k:Int)+1:=by omega
   have h02:(k:Int)+1<(n:Int)+3:=by omega
   have htm:(y:Int).tmod 2=((y%2:Nat):Int):=rfl
   generalize V.map d8=VM at *
   rw [List.range'_succ,List.filter_cons,hyd]
   by_cases hodd:y%2=1
   · have hdec:(y:Int)%2=1:=by omega
     obtain ⟨v',K',hap,ha'⟩:=eY (st:=st) (H:=G) (by_:=8) (ag:=false) (ys:=[i6 k]) (t:=st.cur) (tk:=.tight) ha (by omega) (by simp) (by intro z hz;simp only [List.mem_singleton] at hz;subst hz;exact ⟨rfl,rfl,rfl⟩) (by simp [az];omega) (by simp [az];omega)
     obtain ⟨v2,K2,tl,hJ,hA⟩:=ih (k+1) (xs++[k]) v' K' (by omega) (by omega) (by simp;omega) (by simpa using ha')
     refine ⟨v2,K2,tl,?_,by simpa [hodd] using hA⟩
     simp at hJ
     simp only [i6] at hap
     rw [aj (L:=oD) rfl]
     simp [sw,hw,hc,hw1,hr,h01,h02,hvx,htm,hdec,bc,bn,chunk,hap,hJ]
   · have hdec:¬ (y:Int)%2=1:=by omega
     obtain ⟨v2,K2,tl,hJ,hA⟩:=ih (k+1) xs v K (by omega) (by omega) (by omega) ha
     refine ⟨v2,K2,tl,?_,by simpa [hodd] using hA⟩
     simp at hJ
     rw [aj (L:=oD) rfl]
     simp [sw,hw,hc,hw1,hr,h01,h02,hvx,htm,hdec,hJ]
theorem AN {G:List HO} {K:List Nat} {b:Nat} {ps es:List (List UInt8)} (h:oU st G b ps es) (hes:∀ s∈es,s.length≤1000) (w:List UInt8) :
 ∃ v X K',(E tab).F 144 [.ptr (st.heap.length+(b+2)) 0,.str w] (pst st G K)=some (.tuple [v,.int .i64 (if kP w then 0 else 4:Nat)],pst st (G++X) K')∧Lw 1 ((if kP w then points ps es (w.map dx) else []).map i6) v:=by
 rw [eL afU rfl]
 obtain ⟨t,EE,hT,hS,hown,hI,hmap,hrow⟩:=h
 have hwd:=Ep (s:=w) (st:=pst st G K)
 cases hok:kP w with
 | false=>
   rw [hok] at hwd
   refine ⟨.list 0 0 .no false [],[],K,?_,by simpa using Lw.list 0 0 .no false (fun h=>by cases h) (fun _=>rfl)⟩
   simp at hwd
   simp [f144,hrow,eqD,hwd]
 | true=>
   rw [hok] at hwd
   have hwl:w.length≤64:=by simp only [kP,Bool.and_eq_true,decide_eq_true_eq] at hok;exact hok.2.2
   simp only [if_true] at hwd ⊢
   generalize hu:w.map dx=u at *
   have hul:u.length≤64:=by rw [← hu];simpa using hwl
   have hkf:∀ s,gS [.str] (.str s)=true:=fun _=>rfl
   rcases PR (w:=u) (hI.all rfl) 0 with ⟨h1,h2⟩ | ⟨s,j,v,h1,hs,h2,h3⟩
   · have hlk:cP (pst st G K) [.str] (.list 0 0 .no false []) (.map (st.heap.length+(b+1))) (.str u) true=some (.tuple [.list 0 0 .no false [],.bool false]):=by
      simp only [cP,cm,hmap,h2];rfl
     have hv0:rowAt (G++[HO.cells .plain ((List.replicate (u.length+3) 0).map d8)]) G.length=some (.plain,(List.replicate (u.length+3) 0).map d8):=rm _ _ _ _
     have hfd:=AZ (K:=K) (text:=46::(u++[46])) (kh:=b+2) (kv:=G.length) (nV:=u.length+3) (hx:=.map (st.heap.length+(b+1))) (V:=List.replicate (u.length+3) 0) (H:=G++[HO.cells .plain ((List.replicate (u.length+3) 0).map d8)])
      (by simp;omega) (by omega) (by simp) (by have:=bg hrow;omega) (hT.grow _) (eU hrow _) hv0 (by simp)
     have hset:(G++[HO.cells .plain ((List.replicate (u.length+3) 0).map d8)]).set G.length (.cells .plain ((cL t.N t.dg 0 (46::(u++[46])) (List.replicate (u.length+3) 0)).map d8))=G++[.cells .plain ((cL t.N t.dg 0 (46::(u++[46])) (List.replicate (u.length+3) 0)).map d8)]:=by simp
     rw [hset] at hfd
     have hval:∀ m,m<u.length+3→(cL t.N t.dg 0 (46::(u++[46])) (List.replicate (u.length+3) 0)).getD m 0=zH ps (46::(u++[46])) m:=fun m hm=>Af hT hS _ _ _ hm
     have hfl:(cL t.N t.dg 0 (46::(u++[46])) (List.replicate (u.length+3) 0)).length=u.length+3:=by rw [oB];simp
     generalize cL t.N t.dg 0 (46::(u++[46])) (List.replicate (u.length+3) 0)=V at *
     have hr1:rowAt (G++[HO.cells .plain (V.map d8)]) G.length=some (.plain,V.map d8):=rm _ _ _ _
     obtain ⟨v',K',tl,hL,hA⟩:=UW (st:=st) rfl hul hfl hr1 (u.length-4) 2 [] (.list 0 0 .no false []) K (by omega) (by omega) (by simp;omega) (.inl ⟨rfl,0,0,.no,rfl⟩)
     refine ⟨v',[HO.cells .plain (V.map d8)],K',?_,?_⟩
     · have hrep:bn [DV.int .u8 0] (u.length+3)=(List.replicate (u.length+3) 0).map d8:=by rw [pT,List.map_replicate];rfl
       have hwl3:IntKind.i64.wrap ((u.length:Int)+3)=((u.length+3:Nat):Int):=by rw [aN (by omega)];simp
       have hroom:((u.length:Int)+3)≤140737488355328:=by omega
       have hroom2:u.length+3≤140737488355328:=by omega
       have hpos:(0:Int)≤(u.length:Int)+3:=by omega
       have hstr:u.length≤4611686018427387903:=by omega
       have hstr1:1+u.length≤4611686018427387904:=by omega
       have hstr2:u.length+1+1≤4611686018427387904:=by omega
       have htn:((u.length:Int)+3).toNat=u.length+3:=by omega
       generalize (List.replicate (u.length+3) 0).map d8=Z at *
       generalize V.map d8=VM at *
       simp at hwd hfd hL
       simp [f144,hrow,eqD,hwd,hkf,hlk,hwl3,az,hroom,hroom2,hpos,htn,hrep,hstr,hstr1,hstr2,hfd,hL]
     · have e:points ps es u=zO ps u:=by simp only [points,h1]
       rw [e]
       have e2:(List.range' 2 (u.length-4)).filter (fun k=>V.getD (k+1) 0%2==1)=zO ps u:=by
        unfold zO
        apply List.filter_congr
        intro k hk
        rw [List.mem_range'_1] at hk
        rw [hval (k+1) (by omega)]
       rw [List.nil_append,e2] at hA
       exact Cg hA
   · have hlk:cP (pst st G K) [.str] (.list 0 0 .no false []) (.map (st.heap.length+(b+1))) (.str u) true=some (.tuple [v,.bool true]):=by
      simp only [cP,cm,hmap,h2];rfl
     have hpl:(plc 0 s).length≤100000:=by have:=lY s 0;have:=hes s hs;omega
     obtain ⟨v',hcl,hv'⟩:=Ci (st:=pst st G K) h3 hpl
     have e:points ps es u=plc 0 s:=by simp only [points,h1]
     refine ⟨v',[],K,?_,by rw [e];exact hv'⟩
     simp [f144,hrow,eqD,hwd,hkf,hlk,hcl]
end
abbrev Txs (st:St) (l:List (List UInt8)) (v:DV):Prop:=Vw st 1 false (l.map DV.str) v
section
variable {st:St} {l:List (List UInt8)} {v:DV} {H:List HO} {K:List Nat}
end
def NC (s:List UInt8):Prop:=∀ a c c' b,s=a++c::c'::b→isD c=true→isD c'=true→False
theorem NC.pre {s:List UInt8} {c:UInt8} (h:NC (s++[c])):NC s:=fun a x y b hs=>h a x y (b++[c]) (by rw [hs];simp)
section
variable {st:St}
end
section
variable {st:St}
end
section
variable {st:St} {H:List HO} {K:List Nat} {v w:DV} {ps es:List (List UInt8)}
def CI (G:List HO) (b:Nat) (ps es:List (List UInt8)):Prop:=∃ t tk t' tk',rowAt G b=some (.plain,[.list t 1 tk true (ps.map DV.str),.list t' 1 tk' true (es.map DV.str)])
theorem CI.same {G G':List HO} {b:Nat} (h:CI G b ps es) (hs:∀ j,b≤j→j<G.length→G'[j]? = G[j]?):CI G' b ps es:=by
 obtain ⟨t,tk,t',tk',h⟩:=h
 exact ⟨t,tk,t',tk',by rw [aE,hs _ (Nat.le_refl _) (bg h)];exact aE.1 h⟩
end
section
variable {st:St} {G:List HO}
end
theorem ahl:tab 143=some (.code f143):=by kernel_rfl
theorem q9:kp eJ gP=0:=by decide +kernel
theorem j5:∀ s∈gP,s.length≤1000:=by decide +kernel
section
variable {st:St}
theorem BE (G:List HO) (K:List Nat):∃ X,(E tab).F 143 [] (pst st G K)=some (.ptr (st.heap.length+(G.length+2)) 0,pst st (G++X) K)∧oU st (G++X) G.length eJ gP:=by
 rw [eL ahl rfl]
 have hf:=xp (pst st G K)
 have hv:Txs (pst st G K) eJ (.list 0 1 .tight true (eJ.map DV.str)):=.list _ _ _ _ (fun _=>rfl) (fun h=>by cases h)
 have hw:Txs (pst st G K) gP (.list st.cur 1 .tight true (gP.map DV.str)):=.list _ _ _ _ (fun _=>rfl) (fun h=>by cases h)
 obtain ⟨X,hp,hn,h0,_⟩:=Vp (K:=K) j5 hv hw
 obtain ⟨rfl,hok⟩:=h0 q9
 rw [q9] at hn
 refine ⟨X,?_,hok⟩
 generalize eJ.map DV.str=PL at *
 simp [sT] at hf
 simp [gP] at hn
 simp [f143,hf,bc,bn,chunk,hn]
end
theorem yt (ps es:List (List UInt8)) (w:List UInt8) (h:∀ s∈es,s.length≤1000):(points ps es w).length≤100000+w.length:=by
 unfold points
 split
 · rename_i s hs
   have:=List.mem_of_find?_eq_some hs
   have:=lY s 0
   have:=h s (by assumption)
   omega
 · unfold zO
   have:=List.length_filter_le (fun k=>zH ps (46::(w++[46])) (k+1)%2==1) (List.range' 2 (w.length-4))
   simp at this
   omega
theorem zN {ps es:List (List UInt8)} (h:∀ s∈es,s.length≤1000) (w:List UInt8):(if kP w=true then points ps es (w.map dx) else []).length≤140737488355328:=by
 split
 · rename_i hok
   simp only [kP,Bool.and_eq_true,decide_eq_true_eq] at hok
   have h1:=hok.2.2
   have:=yt ps es (w.map dx) h
   simp only [List.length_map] at this
   omega
 · simp
end Go.D.Tab
end
section
set_option linter.unusedSimpArgs false
set_option linter.unusedVariables false
set_option linter.unnecessarySimpa false
namespace Go.D.Tab
structure It where
 k:Int
 f:Int
 t:Int
 w:Int
 s:Int
 h:Int
 c:Int
 y:Bool
def It.cs (x:It):List DV:=[.int .i64 x.k,.int .i64 x.f,.int .i64 x.t,.int .i64 x.w,.int .i64 x.s,.int .i64 x.h,.int .i64 x.c,.bool x.y]
def It.dv (x:It):DV:=.agg x.cs
theorem K9 (x:It):dB 8 true x.dv:=⟨rfl,rfl,rfl⟩
theorem oA {l:List It}:∀ y∈l.map It.dv,dB 8 true y:=fun y hy=>by obtain ⟨x,_,rfl⟩:=List.mem_map.1 hy;exact K9 x
abbrev Its (st:St) (l:List It) (v:DV):Prop:=Vw st 8 true (l.map It.dv) v
section
variable {st:St} {l:List It} {v:DV}
theorem cO (h:Its st l v) (st':St):pS st' .slice v=some (.int .i64 l.length,st'):=by simpa using Vw.len h st'
theorem dL (h:Its st l v) {i:Nat} (hi:i<l.length) (k:IntKind) (st':St):nj st' 8 v (.int k i)=some (elP 8 v i,st'):=Vw.aJ h (by simpa using hi) k st'
theorem oY (h:Its st l v) {i:Nat} {x:It} (hx:l[i]? = some x) (H:List HO) (K:List Nat):cR (pst st H K) 8 true (elP 8 v i)=some x.dv:=Vw.load (Vw.inn h H K) oA rfl (by simp [hx])
theorem gk (h:Its st l v) {i:Nat} {x:It} (hx:l[i]? = some x) {off:Nat} (ho:off≤8) (st':St):nc st' off (elP 8 v i)=some (faP off (elP 8 v i),st'):=Vw.gd h oA (by simpa using (List.getElem?_eq_some_iff.1 hx).1) ho st'
theorem sy (h:Its st l v) {i:Nat} {x:It} (hx:l[i]? = some x) {off:Nat} {y:DV} (ho:x.cs[off]? = some y) (H:List HO) (K:List Nat):cR (pst st H K) 1 false (faP off (elP 8 v i))=some y:=Vw.amR (x:=x.dv) (Vw.inn h H K) oA (by simp [hx]) ho
theorem kB (h:Its st l v) {i:Nat} {x:It} (hx:l[i]? = some x) (H:List HO) (K:List Nat):cR (pst st H K) 1 false (faP 0 (elP 8 v i))=some (.int .i64 x.k):=sy h hx rfl H K
theorem CH (h:Its st l v) {i:Nat} {x:It} (hx:l[i]? = some x) (H:List HO) (K:List Nat):cR (pst st H K) 1 false (faP 3 (elP 8 v i))=some (.int .i64 x.w):=sy h hx rfl H K
theorem alU (h:Its st l v) {i:Nat} {x:It} (hx:l[i]? = some x) (H:List HO) (K:List Nat):cR (pst st H K) 1 false (faP 7 (elP 8 v i))=some (.bool x.y):=sy h hx rfl H K
end
theorem amv:tab 109=some (.code f109):=by kernel_rfl
theorem aiv:tab 120=some (.code f120):=by kernel_rfl
theorem afY:tab 122=some (.code f122):=by kernel_rfl
theorem aiP:tab 110=some (.code f110):=by kernel_rfl
theorem ahX:tab 121=some (.code f121):=by kernel_rfl
theorem ajc:tab 123=some (.code f123):=by kernel_rfl
def bH (n:Int):Bool:=decide (0≤n)&&decide (n≤4095)
theorem rI (n:Int) (st:St):(E tab).F 122 [.int .i64 n] st=some (.bool (bH n),st):=by
 rw [bj afY rfl]
 by_cases h:0≤n
 · simp [f122,bH,h]
 · simp [f122,bH,h]
def Aw (x:It):Bool:=decide (x.k<1)||decide (4<x.k)||decide (x.f<0)||decide (x.t<x.f)||decide (x.w<0)||decide (2097152<x.w) || !bH x.s || !bH x.h || !bH x.c
def pW (x:It):Bool:=(x.k != 3&&(x.y||x.c != 0))||(x.k != 2&&(x.s != 0||x.h != 0))||(x.k==4&&x.w != 0)
def lO (x:It):Bool:=Aw x||pW x
theorem SI (x:It) (st:St):(E tab).F 120 [x.dv] st=some (.bool (lO x),st):=by
 rw [bj aiv rfl]
 have hw:=rI
 cases hA:Aw x with
 | true=>
   have e:lO x=true:=by simp [lO,hA]
   rw [e]
   unfold Aw at hA
   by_cases h1:x.k<1
   · simp [f120,It.dv,It.cs,h1]
   by_cases h2:4<x.k
   · simp [f120,It.dv,It.cs,h1,h2]
   by_cases h3:x.f<0
   · simp [f120,It.dv,It.cs,h1,h2,h3]
   by_cases h4:x.t<x.f
   · simp [f120,It.dv,It.cs,h1,h2,h3,h4]
   by_cases h5:x.w<0
   · simp [f120,It.dv,It.cs,h1,h2,h3,h4,h5]
   by_cases h6:2097152<x.w
   · simp [f120,It.dv,It.cs,h1,h2,h3,h4,h5,h6]
   by_cases h7:bH x.s=false
   · simp [f120,It.dv,It.cs,h1,h2,h3,h4,h5,h6,hw,h7]
   by_cases h8:bH x.h=false
   · simp at h7;simp [f120,It.dv,It.cs,h1,h2,h3,h4,h5,h6,hw,h7,h8]
   by_cases h9:bH x.c=false
   · simp at h7 h8;simp [f120,It.dv,It.cs,h1,h2,h3,h4,h5,h6,hw,h7,h8,h9]
   · simp at h7 h8 h9;simp [h1,h2,h3,h4,h5,h6,h7,h8,h9] at hA
 | false=>
   have e:lO x=pW x:=by simp [lO,hA]
   rw [e]
   unfold Aw at hA
   simp only [Bool.or_eq_false_iff,decide_eq_false_iff_not,Bool.not_eq_false'] at hA
   obtain ⟨⟨⟨⟨⟨⟨⟨⟨h1,h2⟩,h3⟩,h4⟩,h5⟩,h6⟩,h7⟩,h8⟩,h9⟩:=hA
   have w0:bH 0=true:=rfl
   have c3:x.k=3∨x.k≠3:=Decidable.em _
   have c2:x.k=2∨x.k≠2:=Decidable.em _
   have c4:x.k=4∨x.k≠4:=Decidable.em _
   have cc:x.c=0∨x.c≠0:=Decidable.em _
   have cs:x.s=0∨x.s≠0:=Decidable.em _
   rcases c3 with c3 | c3
   · rcases cs with cs | cs
     · by_cases ch:x.h=0<;>simp [f120,It.dv,It.cs,h1,h2,h3,h4,h5,h6,hw,h7,h8,h9,w0,pW,c3,cs,ch]
     · simp [f120,It.dv,It.cs,h1,h2,h3,h4,h5,h6,hw,h7,h8,h9,w0,pW,c3,cs]
   · cases hy:x.y with
     | true=>simp [f120,It.dv,It.cs,h1,h2,h3,h4,h5,h6,hw,h7,h8,h9,w0,pW,c3,hy]
     | false=>
       rcases cc with cc | cc
       · rcases c2 with c2 | c2
         · simp [f120,It.dv,It.cs,h1,h2,h3,h4,h5,h6,hw,h7,h8,h9,w0,pW,c2,hy,cc]
         · rcases cs with cs | cs
           · by_cases ch:x.h=0
             · rcases c4 with c4 | c4
               · simp [f120,It.dv,It.cs,h1,h2,h3,h4,h5,h6,hw,h7,h8,h9,w0,pW,c4,hy,cc,cs,ch]
               · simp [f120,It.dv,It.cs,h1,h2,h3,h4,h5,h6,hw,h7,h8,h9,w0,pW,c3,c2,c4,hy,cc,cs,ch]
             · simp [f120,It.dv,It.cs,h1,h2,h3,h4,h5,h6,hw,h7,h8,h9,w0,pW,c3,c2,hy,cc,cs,ch]
           · simp [f120,It.dv,It.cs,h1,h2,h3,h4,h5,h6,hw,h7,h8,h9,w0,pW,c3,c2,hy,cc,cs]
       · simp [f120,It.dv,It.cs,h1,h2,h3,h4,h5,h6,hw,h7,h8,h9,w0,pW,c3,hy,cc]
def bI (l:List It):Int:=if 8192<l.length then 3 else if l.any lO then 2 else 0
section
variable {st:St} {l:List It} {v:DV}
theorem Ui (hv:Its st l v) (hl:l.length≤8192) (K:List Nat):∀ (r d:List It) (H:List HO),l=d++r →
 ∃ J fr,(E tab).C oy [(8,v),(9,.int .i64 l.length),(10,.int .i64 d.length)] (pst st H K) =
   some (if r.any lO then (.ret,[(2,.int .i64 2)],pst st (H++J) K) else (.exit 0,fr,pst st (H++J) K)):=by
 intro r
 induction r with
 | nil=>
   intro d H hd
   refine ⟨[],[(8,v),(9,.int .i64 l.length),(10,.int .i64 l.length),(11,.bool false)],?_⟩
   rw [aj (L:=oy) rfl]
   simp [rS,hd]
 | cons x r ih=>
   intro d H hd
   have h0:d.length<l.length:=by simp [hd]
   have hx:l[d.length]? = some x:=by simp [hd]
   have hw1:IntKind.i64.wrap ((d.length:Int)+1)=((d++[x]).length:Nat):=by rw [aN (by omega)];simp
   have e1:=fun st'=>dL hv h0 .i64 st'
   have e2:=fun H K=>oY hv hx H K
   have e3:=fun st=>SI x st
   simp only [It.dv,It.cs] at e2 e3
   rw [List.any_cons]
   cases ho:lO x with
   | true=>
     refine ⟨[.cells .plain x.cs],[],?_⟩
     rw [aj (L:=oy) rfl]
     simp [rS,h0,e1,e2,e3,ho,It.cs]
   | false=>
     obtain ⟨J,fr,hJ⟩:=ih (d++[x]) (H++[.cells .plain x.cs]) (by simp [hd])
     refine ⟨.cells .plain x.cs::J,fr,?_⟩
     rw [Bool.false_or]
     generalize r.any lO=b at hJ ⊢
     simp only [List.length_append,List.length_singleton] at hJ hw1
     simp [It.cs] at hJ
     rw [aj (L:=oy) rfl]
     simp [rS,h0,e1,e2,e3,ho,It.cs,hw1,hJ]
theorem vj (hv:Its st l v):(E tab).F 109 [v] st=some (.int .i64 (bI l),st):=by
 rw [bj amv rfl]
 have e0:=fun st'=>cO hv st'
 by_cases h:8192<l.length
 · have h':(8192:Int)<l.length:=by omega
   simp [f109,e0,h,h',bI]
 · have h':¬ (8192:Int)<l.length:=by omega
   obtain ⟨J,fr,hL⟩:=Ui hv (by omega) [] l [] [] rfl
   have e:bI l=if l.any lO then 2 else 0:=by simp only [bI,if_neg h]
   rw [e]
   generalize l.any lO=b at hL ⊢
   simp at hL
   cases b<;>simp at hL<;>simp [f109,e0,h',hL]
def dE (l:List It) (a b:Int):Int:=if bI l=0∧(a<0∨b<a∨l.length<b) then 5 else bI l
theorem qP (hv:Its st l v) (a b:Int):(E tab).F 121 [v,.int .i64 a,.int .i64 b] st=some (.int .i64 (dE l a b),st):=by
 rw [bj ahX rfl]
 have e0:=fun st'=>cO hv st'
 have e1:=vj (hv.inn [] [])
 unfold dE
 by_cases h:bI l=0
 · by_cases h1:a<0
   · simp [f121,e0,e1,h,h1]
   · by_cases h2:b<a
     · simp [f121,e0,e1,h,h1,h2]
     · by_cases h3:(l.length:Int)<b
       · simp [f121,e0,e1,h,h1,h2,h3]
       · simp [f121,e0,e1,h,h1,h2,h3]
 · simp [f121,e1,h]
def bm (l:List It) (a:Nat):Nat→Nat
 | 0=>0
 | b+1=>if a≤b∧(l[b]?.map (·.k))=some 2 then bm l a b else b+1
theorem lQ (l:List It) (a:Nat):∀ b,bm l a b≤b
 | 0=>Nat.le_refl _
 | b+1=>by
   unfold bm
   split
   · exact Nat.le_succ_of_le (lQ l a b)
   · exact Nat.le_refl _
theorem uV (l:List It) (a:Nat):∀ b,a≤b→a≤bm l a b
 | 0,h=>by simp [bm];omega
 | b+1,h=>by
   unfold bm
   split
   · rename_i hc;exact uV l a b hc.1
   · exact h
theorem RX (hv:Its st l v) (a:Nat) (hl:l.length≤140737488355328) (H:List HO) (K:List Nat):∀ b,b≤l.length→a≤b →
 ∃ fr,(E tab).C na [(0,v),(1,.int .i64 a),(2,.int .i64 b)] (pst st H K)=some (.exit 0,[(0,v),(1,.int .i64 a),(2,.int .i64 (bm l a b:Nat))]++fr,pst st H K):=by
 intro b
 induction b with
 | zero=>
   intro hb ha
   obtain rfl:a=0:=by omega
   refine ⟨[(18,.bool false)],?_⟩
   rw [aj (L:=na) rfl]
   simp [oG,bm]
 | succ b ih=>
   intro hb ha
   by_cases hab:a≤b
   · have hw:IntKind.i64.wrap (((b+1:Nat):Int)-1)=b:=by rw [aN (by omega)];omega
     have hlt:(a:Int)<b+1:=by omega
     have hbl:b<l.length:=by omega
     have hx:l[b]? = some l[b]:=List.getElem?_eq_getElem hbl
     have e1:=fun st'=>dL hv hbl .i64 st'
     have e2:=fun st'=>gk hv hx (off:=0) (by omega) st'
     have e3:=fun H K=>kB hv hx H K
     simp at hw
     by_cases hk:l[b].k=2
     · obtain ⟨fr,hJ⟩:=ih (by omega) hab
       refine ⟨fr,?_⟩
       rw [aj (L:=na) rfl]
       have et:bm l a (b+1)=bm l a b:=by rw [bm,if_pos ⟨hab,by simp [hx,hk]⟩]
       rw [et]
       simp at hJ
       simp [oG,hlt,hw,e1,e2,e3,hk,hJ]
     · have et:bm l a (b+1)=b+1:=by rw [bm,if_neg];rintro ⟨_,h⟩;simp [hx] at h;exact hk h
       rw [et]
       refine ⟨[(18,.bool false)],?_⟩
       rw [aj (L:=na) rfl]
       simp [oG,hlt,hw,e1,e2,e3,hk]
   · obtain rfl:a=b+1:=by omega
     have et:bm l (b+1) (b+1)=b+1:=by rw [bm,if_neg];omega
     rw [et]
     refine ⟨[(18,.bool false)],?_⟩
     rw [aj (L:=na) rfl]
     simp [oG]
theorem Vw.ex {n:Nat} {ag:Bool} {xs:List DV} {w:DV} (h:Vw st n ag xs w) (H:List HO) (K:List Nat):∃ w',aZ st (pst st H K) w=some w'∧Vw st n ag xs w':=by
 cases h with
 | list t n' tk nn h1 h2=>exact ⟨_,rfl,.list _ _ _ _ h1 h2⟩
 | hsl b off c g vs hc hl hx hcap=>
   have hh:=iB hc
   have hb:st.nK b=true:=by unfold St.nK;rw [hh]
   refine ⟨_,by simp only [aZ,hb,if_true],.hsl b off c g vs hc hl hx hcap⟩
theorem BY {n:Nat} {ag:Bool} {xs:List DV} {w:DV} {st0 st1 st2:St} (h:Vw st0 n ag xs w):bC st1 st2 w=aZ st1 st2 w:=by
 cases h<;>rfl
theorem ou (hv:Its st l v) (hl:l.length≤140737488355328) (a b:Nat) (hab:a≤b) (hb:b≤l.length):∃ v',(E tab).F 123 [v,.int .i64 a,.int .i64 b] st=some (v',st)∧Its st ((l.drop a).take (bm l a b-a)) v':=by
 rw [bj ajc rfl]
 obtain ⟨fr,hL⟩:=RX hv a hl [] [] b hb hab
 obtain ⟨v',hs,hv'⟩:=Vw.slice hv (by omega) oA (lo:=a) (hi:=bm l a b) (uV l a b hab) (by have:=lQ l a b;simp;omega) .i64 .i64
 obtain ⟨v2,hx,hv2⟩:=Vw.ex hv' [] []
 rw [← List.map_drop,← List.map_take] at hv2
 refine ⟨v2,?_,hv2⟩
 simp at hL
 have hxT:bC st (pst st [] []) v'=some v2:=by rw [BY hv',hx]
 simp [f123,hL,hs,hxT]
end
theorem ahL:tab 124=some (.code f124):=by kernel_rfl
theorem ag5:tab 139=some (.code f139):=by kernel_rfl
theorem af6:tab 145=some (.code f145):=by kernel_rfl
theorem afc:tab 146=some (.code f146):=by kernel_rfl
theorem af0:tab 153=some (.code f153):=by kernel_rfl
def gC (x:Int):Int:=(x/48+1)*48
theorem rn (st:St):(E tab).F 145 [.list 0 0 .no false []] st=some (.int .i64 0,st):=by
 rw [bj af6 rfl]
 have hL:∀ st:St,(E tab).C wN [(3,.int .i64 0),(9,.list 0 0 .no false []),(10,.int .i64 0),(11,.int .i64 0)] st=some (.exit 0,[(3,.int .i64 0),(9,.list 0 0 .no false []),(10,.int .i64 0),(11,.int .i64 0),(12,.bool false)],st):=by
  intro st
  rw [aj (L:=wN) rfl]
  simp [Bd]
 simp [f145,hL]
theorem xM (x f:DV) (st:St):(E tab).F 153 [.list 0 0 .no false [],x,f] st=some (.tuple [.int .i64 0,.bool false],st):=by
 rw [eL af0 rfl]
 have hL:∀ st:St,(E tab).C xX [(0,.list 0 0 .no false []),(1,x),(2,f),(8,.int .i64 0),(9,.int .i64 0),(10,.int .i64 0)] st=some (.exit 0,[(0,.list 0 0 .no false []),(1,x),(2,f),(8,.int .i64 0),(9,.int .i64 0),(10,.int .i64 0),(17,.bool false)],st):=by
  intro st
  rw [aj (L:=xX) rfl]
  simp [CE]
 simp [f153,hL]
theorem AM (x:Int) (hx:0≤x∧x≤1000000000000) (st:St):(E tab).F 146 [.list 0 0 .no false [],.int .i64 x] st=some (.agg [.int .i64 (gC x),.int .i64 0],st):=by
 rw [bj afc rfl]
 have e1:IntKind.i64.wrap (x.tdiv 48)=x/48:=IntWalk.i64_quo _ _ (by omega)
 have e2:IntKind.i64.wrap (x/48+1)=x/48+1:=aN (by omega)
 have e3:IntKind.i64.wrap ((x/48+1)*48)=gC x:=aN (by omega)
 simp [f146,xM,e1,e2,e3]
theorem Ij (x:Int) (hx:0≤x∧x≤1000000000000) (st:St):(E tab).F 139 [.list 0 0 .no false [],.int .i64 x] st=some (if x≤8190 then .tuple [.agg [.int .i64 (gC x),.int .i64 0],.int .i64 0] else .tuple [.agg [.int .i64 0,.int .i64 0],.int .i64 5],st):=by
 rw [bj ag5 rfl]
 have h0:¬ x<0:=by omega
 have e1:=fun st=>AM x hx st
 by_cases h:x≤8190
 · have h1:¬ 8190<x:=by omega
   simp [f139,rn,h0,h1,e1,h]
 · have h1:8190<x:=by omega
   simp [f139,rn,h0,h1,h]
theorem Ew (x:Int) (hx:0≤x∧x≤1000000000000) (st:St):(E tab).F 124 [.int .i64 x] st=some (.int .i64 (gC x),st):=by
 rw [bj ahL rfl]
 have e0:=fun st=>Ij x hx st
 have e1:IntKind.i64.wrap (x.tdiv 48)=x/48:=IntWalk.i64_quo _ _ (by omega)
 have e2:IntKind.i64.wrap (x/48+1)=x/48+1:=aN (by omega)
 have e3:IntKind.i64.wrap ((x/48+1)*48)=gC x:=aN (by omega)
 by_cases h:x≤8190
 · simp only [h,if_true] at e0
   simp [f124,e0]
 · simp only [h,if_false] at e0
   simp [f124,e0,e1,e2,e3]
def cG (at_:Int) (x:It):Int:=if x.k=1∨x.k=2 then at_+x.w else if x.k=4 then gC at_ else at_
def goI (at_:Int):List It→Int
 | []=>at_
 | x::r=>goI (cG at_ x) r
def okW (l:List It):Prop:=∀ x∈l,0≤x.w∧x.w≤2097152
theorem gX {l:List It} (h:bI l=0):okW l∧l.length≤8192:=by
 unfold bI at h
 split at h
 · omega
 · rename_i h1
   split at h
   · omega
   · rename_i h2
     refine ⟨fun x hx => ?_,by omega⟩
     rw [Bool.not_eq_true,List.any_eq_false] at h2
     have:=h2 x hx
     simp [lO,Aw] at this
     omega
theorem pV {x:It} (h:0≤x.w∧x.w≤2097152) {a:Int} (ha:0≤a):a≤cG a x∧cG a x≤a+2097152:=by
 unfold cG gC
 split
 · omega
 · split<;>omega
theorem r7:∀ {l:List It} {a:Int},okW l→0≤a→a≤goI a l∧goI a l≤a+2097152*l.length
 | [],a,_,_=>by simp [goI]
 | x::r,a,h,ha=>by
   have h1:=pV (h x (List.mem_cons_self ..)) ha
   have h2:=r7 (l:=r) (a:=cG a x) (fun y hy=>h y (List.mem_cons_of_mem _ hy)) (by omega)
   simp only [goI,List.length_cons]
   omega
theorem yP:∀ (l r:List It) (a:Int),goI a (l++r)=goI (goI a l) r
 | [],r,a=>rfl
 | x::l,r,a=>by simp only [List.cons_append,goI,yP l r]
def kn (l:List It) (b:Nat):Int:=match l[b]? with | some x=>if x.k=3 then x.w else 0 | none=>0
def dX (l:List It) (a b:Nat) (x:Int):Int:=goI x ((l.drop a).take (bm l a b-a))+kn l b-x
section
variable {st:St} {l:List It} {v:DV}
theorem No (l':List It) {v':DV} (hv':Its st l' v') (hok:okW l') (hl:l'.length≤8192) (y0 y2 y3:DV) (K:List Nat):∀ (r d:List It) (H:List HO) (a:Int),l'=d++r→0≤a→a≤4095+2097152*d.length →
 ∃ J fr,(E tab).C sR [(0,y0),(2,y2),(3,y3),(11,.int .i64 a),(28,v'),(29,.int .i64 l'.length),(30,.int .i64 d.length)] (pst st H K) =
   some (.exit 0,[(0,y0),(2,y2),(3,y3),(11,.int .i64 (goI a r))]++fr,pst st (H++J) K):=by
 intro r
 induction r with
 | nil=>
   intro d H a hd h1 h2
   refine ⟨[],[(28,v'),(29,.int .i64 l'.length),(30,.int .i64 l'.length),(31,.bool false)],?_⟩
   rw [aj (L:=sR) rfl]
   simp [mV,hd,goI]
 | cons x r ih=>
   intro d H a hd h1 h2
   have h0:d.length<l'.length:=by simp [hd]
   have hx:l'[d.length]? = some x:=by simp [hd]
   have hxm:=hok x (by simp [hd])
   have hw1:IntKind.i64.wrap ((d.length:Int)+1)=((d++[x]).length:Nat):=by rw [aN (by omega)];simp
   have e1:=fun st'=>dL hv' h0 .i64 st'
   have e2:=fun H K=>oY hv' hx H K
   simp only [It.dv,It.cs] at e2
   have hs:=pV hxm h1
   obtain ⟨J,fr,hJ⟩:=ih (d++[x]) (H++[.cells .plain x.cs]) (cG a x) (by simp [hd]) (by omega) (by simp;omega)
   refine ⟨.cells .plain x.cs::J,fr,?_⟩
   rw [goI]
   simp only [List.length_append,List.length_singleton] at hJ hw1
   simp [It.cs] at hJ
   rw [aj (L:=sR) rfl]
   by_cases k1:x.k=1
   · have w1:IntKind.i64.wrap (a+x.w)=cG a x:=by rw [aN (by omega)];simp [cG,k1]
     rw [k1] at e2 hJ
     simp [mV,h0,e1,e2,k1,It.cs,hw1,w1,hJ]
   · by_cases k2:x.k=2
     · have w1:IntKind.i64.wrap (a+x.w)=cG a x:=by rw [aN (by omega)];simp [cG,k2]
       rw [k2] at e2 hJ
       simp [mV,h0,e1,e2,k1,k2,It.cs,hw1,w1,hJ]
     · by_cases k4:x.k=4
       · have w1:gC a=cG a x:=by simp [cG,k4]
         have e3:=fun st=>Ew a (by omega) st
         rw [w1] at e3
         rw [k4] at e2 hJ
         simp [mV,h0,e1,e2,e3,k1,k2,k4,It.cs,hw1,hJ]
       · have w1:cG a x=a:=by simp [cG,k1,k2,k4]
         rw [w1] at hJ
         simp [mV,h0,e1,e2,k1,k2,k4,It.cs,hw1,w1,hJ]
def J5 (l:List It) (a b x:Int):DV:=
 if dE l a b≠0 then .tuple [.int .i64 0,.int .i64 (dE l a b)]
 else if bH x=false then .tuple [.int .i64 0,.int .i64 5]
 else .tuple [.int .i64 (dX l a.toNat b.toNat x),.int .i64 0]
theorem lD {a b:Int} (h:dE l a b=0):bI l=0∧0≤a∧a≤b∧b≤l.length:=by
 unfold dE at h
 split at h
 · omega
 · rename_i h1
   refine ⟨h,?_⟩
   have:¬ (a<0∨b<a∨l.length<b):=fun h2=>h1 ⟨h,h2⟩
   omega
theorem Bj (hv:Its st l v) (a b x:Int):(E tab).F 110 [v,.int .i64 a,.int .i64 b,.int .i64 x] st=some (J5 l a b x,st):=by
 rw [bj aiP rfl]
 have e0:=fun st'=>cO hv st'
 have e1:=qP (hv.inn [] []) a b
 have e2:=fun st=>rI x st
 unfold J5
 by_cases h1:dE l a b=0
 · cases h2:bH x with
   | false=>simp [f110,e1,e2,h1,h2]
   | true=>
     obtain ⟨h3,h4,h5,h6⟩:=lD h1
     obtain ⟨hok,hlen⟩:=gX h3
     obtain ⟨A,rfl⟩:=Int.eq_ofNat_of_zero_le h4
     obtain ⟨B,rfl⟩:=Int.eq_ofNat_of_zero_le (show 0≤b by omega)
     simp [bH] at h2
     obtain ⟨v',et,hv'⟩:=ou (hv.inn [] []) (by omega) A B (by omega) (by omega)
     have hv':=Vw.out hv'
     have hlt:=lQ l A B
     have hok':okW ((l.drop A).take (bm l A B-A)):=fun y hy=>hok y (List.mem_of_mem_drop (List.mem_of_mem_take hy))
     have hlen':((l.drop A).take (bm l A B-A)).length≤8192:=by simp;omega
     have hg:=r7 (a:=x) hok' (by omega)
     obtain ⟨J,fr,hL⟩:=No _ hv' hok' hlen' v (.int .i64 B) (.int .i64 x) [] _ [] [] x rfl (by omega) (by omega)
     have e3:=fun st'=>cO hv' st'
     unfold dX
     simp only [Int.toNat_natCast]
     generalize hG:goI x ((l.drop A).take (bm l A B-A))=G at *
     generalize ((l.drop A).take (bm l A B-A))=l' at *
     simp at hL
     by_cases hb:B<l.length
     · have hx:l[B]? = some l[B]:=List.getElem?_eq_getElem hb
       have q1:=fun st'=>dL hv hb .i64 st'
       have q2:=fun st'=>gk hv hx (off:=0) (by omega) st'
       have q3:=fun H K=>kB hv hx H K
       have q4:=fun st'=>gk hv hx (off:=3) (by omega) st'
       have q5:=fun H K=>CH hv hx H K
       have hB:=hok _ (List.getElem_mem hb)
       by_cases k3:l[B].k=3
       · have ep:kn l B=l[B].w:=by simp [kn,hx,k3]
         have w1:IntKind.i64.wrap (G+l[B].w)=G+l[B].w:=aN (by omega)
         have w2:IntKind.i64.wrap (G+l[B].w-x)=G+l[B].w-x:=aN (by omega)
         simp [f110,e0,e1,e2,e3,h1,bH,h2,et,hL,hb,q1,q2,q3,q4,q5,k3,w1,w2,ep,hG]
       · have ep:kn l B=0:=by simp [kn,hx,k3]
         have w2:IntKind.i64.wrap (G-x)=G-x:=aN (by omega)
         simp [f110,e0,e1,e2,e3,h1,bH,h2,et,hL,hb,q1,q2,q3,k3,w2,ep,hG]
     · have ep:kn l B=0:=by simp [kn,hb]
       have w2:IntKind.i64.wrap (G-x)=G-x:=aN (by omega)
       simp [f110,e0,e1,e2,e3,h1,bH,h2,et,hL,hb,w2,ep,hG]
 · simp [f110,e1,h1]
end
section
variable {st:St} {l:List It} {v:DV}
def nw (l:List It) (i:Nat):Bool:=
 i==l.length||(match l[i]? with | some x=>x.k==3||(x.k==2&&decide (0<i)&&(match l[i-1]? with | some y=>y.k != 2 | none=>false)) | none=>false)
def cg (l:List It):Nat→Nat→Nat
 | 0,i=>i
 | f+1,i=>match l[i]? with | some x=>if x.k=2 then cg l f (i+1) else i | none=>i
def jk (l:List It) (i:Nat):Nat:=cg l l.length (match l[i]? with | some x=>if x.k=3 then i+1 else i | none=>i)
end
theorem alc:tab 106=some (.code f106):=by kernel_rfl
theorem agU:tab 117=some (.code f117):=by kernel_rfl
theorem agy:tab 118=some (.code f118):=by kernel_rfl
theorem K0:tab 131=some (.code f131):=by kernel_rfl
theorem alF:tab 132=some (.code f132):=by kernel_rfl
theorem alY:tab 133=some (.code f133):=by kernel_rfl
theorem alG:tab 134=some (.code f134):=by kernel_rfl
theorem aj6:tab 135=some (.code f135):=by kernel_rfl
theorem aif:tab 136=some (.code f136):=by kernel_rfl
theorem al3:tab 137=some (.code f137):=by kernel_rfl
theorem afx:tab 138=some (.code f138):=by kernel_rfl
def mz:ai:=⟨0,0,0,0,0,0⟩
def p5 (m:ai):Bool:=m.k != 3&&(m.k != 4&&m.k != 5)
def hyW (s:Int):Int:=wd 45 s
def gu (L:List ai) (fr to:Nat):It:=⟨1,(L.getD fr mz).a,(L.getD (to-1) mz).b,lX true 0 ((L.drop fr).take (to-fr)),0,0,0,false⟩
def mg (m:ai):It:=if m.k=3 then ⟨2,m.a,m.b,m.w,m.w/2,m.w/3,0,false⟩ else if m.k=4 then ⟨4,m.a,m.b,0,0,0,0,false⟩ else ⟨3,m.a,m.b,hyW m.s,0,0,50,true⟩
def kz (s:List UInt8) (m:ai):Bool:=m.k==2&&bAt s m.a.toNat==45
def JJ (m:ai):It:=⟨3,m.a,m.a,hyW m.s,0,0,100,true⟩
def I9 (m:ai):It:=⟨3,m.a,m.a,0,0,0,50,false⟩
def bW (s:List UInt8) (L:List ai) (pl:List Bool):Nat→Nat→Nat→List ai→List It
 | k,run,fr,[]=>if fr<k then [gu L fr k] else []
 | k,run,fr,m::r=>
   if p5 m=false then (if fr<k then [gu L fr k] else [])++mg m::bW s L pl (k+1) (k+1) (k+1) r
   else if k=fr then bW s L pl (k+1) run fr r
   else if pl.getD k false=true then gu L fr k::JJ m::bW s L pl (k+1) run k r
   else if (kz s (L.getD (k-1) mz) && !kz s m&&decide (run<k-1))=true then gu L fr k::I9 m::bW s L pl (k+1) run k r
   else bW s L pl (k+1) run fr r
structure MOk (s:List UInt8) (L:List ai):Prop where
 len:L.length≤4096
 ok:L.all okM=true
 at_:∀ m∈L,0≤m.a∧m.a<s.length
 sz:∀ m∈L,1≤m.s∧m.s≤64
theorem aaY {m:ai} (h:okM m=true):0≤m.w∧m.w≤4095:=by
 simp only [okM,decide_eq_true_eq] at h;omega
section
variable {st:St}
theorem B4 (m:ai):(E tab).F 136 [m.dv] st=some (.bool (p5 m),st):=by
 rw [bj aif rfl]
 by_cases h1:m.k=3
 · simp [f136,p5,ai.cs,h1]
 by_cases h2:m.k=4
 · simp [f136,p5,ai.cs,h2]
 by_cases h3:m.k=5
 · simp [f136,p5,ai.cs,h3]
 · have b1:(m.k != 3)=true:=by simp [h1]
   have b2:(m.k != 4)=true:=by simp [h2]
   simp [f136,p5,ai.cs,h1,h2,b1,b2]
theorem rq {n:Int} (hn:1≤n∧n≤64):(E tab).F 138 [.int .i64 n] st=some (.int .i64 (hyW n),st):=by
 rw [bj afx rfl]
 have hb:=rp 45 hn.1 hn.2
 have h:∀ st,(E tab).F 17 [.str [45],.int .i64 n] st=some (.tuple [.int .i64 (hyW n),.int .i64 0],st):=by
  intro st
  rw [tn]
  have hw:IntKind.i64.wrap (wd 45 n)=wd 45 n:=aN (by omega)
  simp only [eP,if_pos hn]
  simp [tw,hw,hyW]
 simp [f138,h]
theorem DO (m:ai) (hm:okM m=true) (hs:1≤m.s∧m.s≤64):(E tab).F 137 [m.dv] st=some ((mg m).dv,st):=by
 rw [bj al3 rfl]
 have hw:=aaY hm
 have h2:IntKind.i64.wrap (m.w.tdiv 2)=m.w/2:=by rw [Int.tdiv_eq_ediv_of_nonneg hw.1,aN (by omega)]
 have h3:IntKind.i64.wrap (m.w.tdiv 3)=m.w/3:=by rw [Int.tdiv_eq_ediv_of_nonneg hw.1,aN (by omega)]
 have hh:=fun st=>rq (st:=st) hs
 by_cases k3:m.k=3
 · simp [f137,mg,It.dv,It.cs,ai.cs,k3,h2,h3]
 by_cases k4:m.k=4
 · simp [f137,mg,It.dv,It.cs,ai.cs,k4]
 · simp [f137,mg,It.dv,It.cs,ai.cs,k3,k4,hh]
theorem getM {L:List ai} {i:Nat} (h:i<L.length):L[i]? = some (L.getD i mz):=by rw [List.getD_eq_getElem?_getD,List.getElem?_eq_getElem h];rfl
theorem rh {L:List ai} {i:Nat} (h:i<L.length):(L.map ai.dv)[i]? = some (L.getD i mz).dv:=by rw [List.getElem?_map,getM h];rfl
theorem Xe {s:List UInt8} {L:List ai} (hL:MOk s L) {t n:Nat} {tk:Tk} {nn:Bool} (h6:L≠[]→n=6) (h7:nn=true→n=6) {fr to:Nat} (h1:fr<to) (h2:to≤L.length):(E tab).F 135 [.list t n tk nn (L.map ai.dv),.int .i64 fr,.int .i64 to] st=some ((gu L fr to).dv,st):=by
 rw [bj aj6 rfl]
 have hn:=fun st=>zX L fr to t n tk nn h6 h7 st
 rw [EP hL.len hL.ok fr to (by omega) h2] at hn
 obtain rfl:=h6 (by intro e;simp [e] at h2;omega)
 have hw1:IntKind.i64.wrap ((to:Int)-1)=((to-1:Nat):Int):=by have:=hL.len;rw [aN (by omega)];omega
 have g1:=rh (L:=L) (i:=fr) (by omega)
 have g2:=rh (L:=L) (i:=to-1) (by omega)
 have l1:fr<(L.map ai.dv).length:=by simp;omega
 have l2:to-1<(L.map ai.dv).length:=by simp;omega
 generalize L.map ai.dv=V at *
 have g1':V[fr]'l1=(L.getD fr mz).dv:=by rw [List.getElem?_eq_getElem l1] at g1;exact Option.some.inj g1
 have g2':V[to-1]'l2=(L.getD (to-1) mz).dv:=by rw [List.getElem?_eq_getElem l2] at g2;exact Option.some.inj g2
 simp only [gu]
 generalize L.getD fr mz=a at *
 generalize L.getD (to-1) mz=b at *
 generalize lX true 0 ((L.drop fr).take (to-fr))=rg at *
 simp [f135,It.dv,It.cs,hn,g1,g2,g1',g2',l1,l2,hw1,ai.dv,ai.cs]
end
def loI (st:St) (s:Nat):HO:=.loop (jx [(6,.ptr (st.heap.length+1) 0),(18,.fn 131 [] [.ptr (st.heap.length+2) 0,.ptr (st.heap.length+3) 0])] [19] (.region rY [6,7]) (.block 1 (.region sx [])) s none)
def HI (st:St) (P0 P1:List DV) (ov lv:DV) (fr s:Nat) (J:List HO):List HO:=
 .cells .plain P0::.cells .plain [ov]::.cells .plain P1::.cells .plain [lv]::loI st s::.cells .plain [.yield (st.heap.length+4)]::.cells .plain [.int .i64 fr]::J
section
variable {st:St} {P0 P1:List DV} {lv:DV} {J:List HO} {K:List Nat}
theorem wb {xs:List It} {ov:DV} {fr:Nat} (x:It) (hx:xs.length≤100000) (hA:Acc st K 8 (xs.map It.dv) ov) :
 ∃ ov' K',(E tab).V (.yield (st.heap.length+4)) [x.dv] (pst st (HI st P0 P1 ov lv fr 0 J) K)=some (.bool true,pst st (HI st P0 P1 ov' lv fr 0 (J++[.cells .plain x.cs])) K')∧Acc st K' 8 ((xs++[x]).map It.dv) ov':=by
 obtain ⟨v2,K2,e2,hA2⟩:=eY (H:=HI st P0 P1 ov lv fr 1 (J++[.cells .plain x.cs])) (t:=st.cur) (by_:=64) (ag:=true) (tk:=.tight) (ys:=[x.dv]) hA (by omega) (by simp) (by simp [K9]) (by simp [az];omega) (by simp [az];omega)
 refine ⟨v2,K2,?_,by simpa using hA2⟩
 have hA1:(E tab).C (.region rY [6,7]) (cB [(6,.ptr (st.heap.length+1) 0),(18,.fn 131 [] [.ptr (st.heap.length+2) 0,.ptr (st.heap.length+3) 0])] [19] [x.dv]) (pst st (HI st P0 P1 ov lv fr 0 J) K) =
  some (.normal,[(6,.ptr (st.heap.length+1) 0),(7,.ptr (st.heap.length+(J.length+7)) 0)],pst st (HI st P0 P1 ov lv fr 0 (J++[.cells .plain x.cs])) K):=by
  simp [HI,It.dv,It.cs]
 have hB:(E tab).C (.block 1 (.region sx [])) [(6,.ptr (st.heap.length+1) 0),(7,.ptr (st.heap.length+(J.length+7)) 0)] (pst st ((HI st P0 P1 ov lv fr 0 (J++[.cells .plain x.cs])).set 4 (loI st 1)) K) =
  some (.normal,[],pst st (HI st P0 P1 v2 lv fr 1 (J++[.cells .plain x.cs])) K2):=by
  obtain ⟨t',n',tk',nn',rfl⟩:=eo hA2
  simp [HI,It.dv,It.cs] at e2 ⊢
  simp [bc,bn,chunk,e2]
 exact By (T:=tab) (k:=4) (H:=HI st P0 P1 ov lv fr 0 J) rfl rfl hA1 rfl ⟨_,hB⟩ rfl
theorem ID {L:List ai} {p:bq} {w u:LW} (hL:MOk p.text L) {t n:Nat} {tk:Tk} {nn:Bool} (h6:L≠[]→n=6) {ov:DV} {fr s k:Nat} (hk:k<L.length) :
 (E tab).F 133 [.int .i64 k,.ptr (st.heap.length+3) 0,.ptr (st.heap.length+2) 0] (pst st (HI st P0 (aq p w u) ov (.list t n tk nn (L.map ai.dv)) fr s J) K)=some (.bool (kz p.text (L.getD k mz)),pst st (HI st P0 (aq p w u) ov (.list t n tk nn (L.map ai.dv)) fr s J) K):=by
 rw [eL alY rfl]
 obtain rfl:=h6 (by intro e;simp [e] at hk)
 have g1:=rh (L:=L) hk
 have l1:k<(L.map ai.dv).length:=by simpa using hk
 have hm:=hL.at_ _ (List.mem_of_getElem? (getM hk))
 generalize L.map ai.dv=V at *
 have g1':V[k]'l1=(L.getD k mz).dv:=by rw [List.getElem?_eq_getElem l1] at g1;exact Option.some.inj g1
 generalize L.getD k mz=m at *
 have hb:p.text[m.a.toNat]? = some (bAt p.text m.a.toNat):=wZ (by omega)
 have hlt:m.a.toNat<p.text.length:=by omega
 have hge:p.text[m.a.toNat]'hlt=bAt p.text m.a.toNat:=by rw [List.getElem?_eq_getElem hlt] at hb;exact Option.some.inj hb
 by_cases h2:m.k=2
 · by_cases h45:bAt p.text m.a.toNat=45
   · simp [f133,HI,g1,g1',l1,ai.dv,ai.cs,h2,hb,hge,hlt,hm.1,h45,kz]
   · have h45':(((bAt p.text m.a.toNat).toNat:Int)==45)=(bAt p.text m.a.toNat==45):=Cl _ 45
     simp [f133,HI,g1,g1',l1,ai.dv,ai.cs,h2,hb,hge,hlt,hm.1,h45',kz]
 · simp [f133,HI,g1,g1',l1,ai.dv,ai.cs,h2,kz]
theorem yM {L:List ai} {s:List UInt8} (hL:MOk s L) {t n:Nat} {tk:Tk} {nn:Bool} (h6:L≠[]→n=6) (h7:nn=true→n=6) {xs:List It} {ov:DV} {fr k:Nat} (hk:k≤L.length) (hx:xs.length≤100000) (hA:Acc st K 8 (xs.map It.dv) ov) :
 ∃ ov' J' K',(E tab).F 134 [.int .i64 k,.ptr (st.heap.length+6) 0,.ptr (st.heap.length+5) 0,.ptr (st.heap.length+3) 0] (pst st (HI st P0 P1 ov (.list t n tk nn (L.map ai.dv)) fr 0 J) K) =
   some (.bool true,pst st (HI st P0 P1 ov' (.list t n tk nn (L.map ai.dv)) fr 0 (J++J')) K')∧Acc st K' 8 ((xs++if fr<k then [gu L fr k] else []).map It.dv) ov':=by
 rw [eL alG rfl]
 by_cases h:fr<k
 · have h':¬ (k:Int)≤fr:=by omega
   obtain ⟨ov',K',hy,hA'⟩:=wb (P0:=P0) (P1:=P1) (lv:=.list t n tk nn (L.map ai.dv)) (J:=J) (fr:=fr) (gu L fr k) hx hA
   have hb:=fun st=>Xe (st:=st) hL (t:=t) (n:=n) (tk:=tk) h6 h7 h hk
   refine ⟨ov',[.cells .plain (gu L fr k).cs],K',?_,by simpa [h] using hA'⟩
   generalize gu L fr k=x at *
   generalize L.map ai.dv=V at *
   simp [HI] at hy
   have h'':¬ k≤fr:=by omega
   simp [f134,HI,h',h'',hb,hy]
 · have h':(k:Int)≤fr:=by omega
   have h'':k≤fr:=by omega
   refine ⟨ov,[],K,?_,by simpa [h] using hA⟩
   generalize L.map ai.dv=V at *
   simp [f134,HI,h',h'']
end
def plV (t:Nat) (tk:Tk) (pl:List Bool):DV:=.list t 1 tk true (pl.map DV.bool)
section
variable {st:St} {P0:List DV}
theorem V6 {L:List ai} {p:bq} {w u:LW} (hL:MOk p.text L) {t n:Nat} {tk:Tk} {nn:Bool} (h6:L≠[]→n=6) (h7:nn=true→n=6) {pl:List Bool} (hpl:pl.length=L.length+1) {t2:Nat} {tk2:Tk} :
 ∀ (r d:List ai) (run fr:Nat) (J:List HO) (K:List Nat) (xs:List It) (ov:DV),L=d++r→fr≤d.length→run≤d.length→xs.length≤3*d.length→Acc st K 8 (xs.map It.dv) ov →
 ∃ (ov':DV) (fr':Nat) (J':List HO) (K':List Nat) (X:List It) (y6:DV) (tl:Fr),
   (E tab).C fU [(2,.ptr (st.heap.length+3) 0),(3,.ptr (st.heap.length+5) 0),(4,plV t2 tk2 pl),(5,.fn 133 [] [.ptr (st.heap.length+3) 0,.ptr (st.heap.length+2) 0]),(6,.int .i64 run),(7,.ptr (st.heap.length+6) 0),(8,.fn 134 [] [.ptr (st.heap.length+6) 0,.ptr (st.heap.length+5) 0,.ptr (st.heap.length+3) 0]),(17,.list t n tk nn (L.map ai.dv)),(18,.int .i64 L.length),(19,.int .i64 d.length)]
    (pst st (HI st P0 (aq p w u) ov (.list t n tk nn (L.map ai.dv)) fr 0 J) K) =
   some (.exit 0,[(2,.ptr (st.heap.length+3) 0),(3,.ptr (st.heap.length+5) 0),(4,plV t2 tk2 pl),(5,.fn 133 [] [.ptr (st.heap.length+3) 0,.ptr (st.heap.length+2) 0]),(6,y6),(7,.ptr (st.heap.length+6) 0),(8,.fn 134 [] [.ptr (st.heap.length+6) 0,.ptr (st.heap.length+5) 0,.ptr (st.heap.length+3) 0])]++tl,
    pst st (HI st P0 (aq p w u) ov' (.list t n tk nn (L.map ai.dv)) fr' 0 J') K')∧Acc st K' 8 ((xs++X).map It.dv) ov'∧(xs++X).length≤3*L.length∧bW p.text L pl d.length run fr r=X++(if fr'<L.length then [gu L fr' L.length] else []):=by
 have hlen:=hL.len
 intro r
 induction r with
 | nil=>
   intro d run fr J K xs ov hd hf hr hx hA
   obtain rfl:L=d:=by simpa using hd
   refine ⟨ov,fr,J,K,[],.int .i64 run,[(17,.list t n tk nn (L.map ai.dv)),(18,.int .i64 L.length),(19,.int .i64 L.length),(20,.bool false)],?_,by simpa using hA,by simpa using hx,by simp [bW]⟩
   generalize L.map ai.dv=V at *
   rw [aj (L:=fU) rfl]
   simp [jr]
 | cons m r ih=>
   intro d run fr J K xs ov hd hf hr hx hA
   have h0:d.length<L.length:=by simp [hd]
   have hmem:m∈L:=by simp [hd]
   have hok:=List.all_eq_true.1 hL.ok m hmem
   have hsz:=hL.sz m hmem
   have hgm:L.getD d.length mz=m:=by simp [hd]
   have hw1:IntKind.i64.wrap ((d.length:Int)+1)=(d.length:Int)+1:=by rw [aN (by omega)]
   have hwm:IntKind.i64.wrap ((d.length:Int)-1)=(d.length:Int)-1:=by rw [aN (by omega)]
   obtain rfl:=h6 (by intro e;simp [e] at h0)
   have g1:=rh (L:=L) h0
   rw [hgm] at g1
   have l1:d.length<(L.map ai.dv).length:=by simpa using h0
   have hbx:=fun st=>B4 (st:=st) m
   have hln:=fun st=>DO (st:=st) m hok hsz
   have hhy:=fun st=>rq (st:=st) hsz
   have hsh:=fun (J:List HO)=>yM (st:=st) (P0:=P0) (P1:=aq p w u) (J:=J) (K:=K) (t:=t) (n:=6) (tk:=tk) (nn:=nn) hL (fun _=>rfl) (fun _=>rfl) (k:=d.length) (fr:=fr) (by omega) (by omega) hA
   have hds:=fun (J:List HO) (k:Nat) (hk:k<L.length)=>ID (st:=st) (P0:=P0) (w:=w) (u:=u) (J:=J) (K:=K) (ov:=ov) (fr:=fr) (s:=0) (t:=t) (n:=6) (tk:=tk) (nn:=nn) hL (fun _=>rfl) (k:=k) hk
   have hpd:(pl.map DV.bool)[d.length]? = some (.bool (pl.getD d.length false)):=by
    rw [List.getElem?_map,List.getElem?_eq_getElem (show d.length<pl.length by omega),List.getD_eq_getElem?_getD,List.getElem?_eq_getElem (show d.length<pl.length by omega)];rfl
   have lpd:d.length<(pl.map DV.bool).length:=by simp;omega
   cases hb:p5 m with
   | false=>
     obtain ⟨ov1,J1,K1,hS,hA1⟩:=hsh (J++[.cells .plain m.cs])
     have hxl:(xs++if fr<d.length then [gu L fr d.length] else []).length≤3*d.length+1:=by split<;>simp<;>omega
     obtain ⟨ov2,K2,hY,hA2⟩:=wb (st:=st) (P0:=P0) (P1:=aq p w u) (lv:=.list t 6 tk nn (L.map ai.dv)) (J:=(J++[.cells .plain m.cs])++J1) (fr:=fr) (mg m) (by omega) hA1
     obtain ⟨ov',fr',J',K',X,y6,tl,hJ,a1,a2,a3⟩:=ih (d++[m]) (d.length+1) (d.length+1) (((J++[.cells .plain m.cs])++J1)++[.cells .plain (mg m).cs]) K2 ((xs++if fr<d.length then [gu L fr d.length] else [])++[mg m]) ov2 (by simp [hd]) (by simp) (by simp) (by
      rw [List.length_append];simp only [List.length_append,List.length_singleton] at hxl ⊢;omega) hA2
     refine ⟨ov',fr',J',K',(if fr<d.length then [gu L fr d.length] else [])++mg m::X,y6,tl,?_,by simpa using a1,by simpa using a2,?_⟩
     · generalize L.map ai.dv=V at *
       have g1':V[d.length]'l1=m.dv:=by rw [List.getElem?_eq_getElem l1] at g1;exact Option.some.inj g1
       rw [hb] at hbx
       simp only [HI,List.append_assoc,List.cons_append,List.nil_append] at hS hY hJ ⊢
       simp only [ai.dv,ai.cs] at hbx hln hS hY hJ g1'
       simp at hS hY hJ
       rw [aj (L:=fU) rfl]
       simp [jr,h0,g1,g1',l1,hbx,hln,hS,hY,dc,hw1,hJ,ai.dv,ai.cs]
     · simp only [List.length_append,List.length_singleton] at a3
       simp only [bW,hb,if_true,a3,List.append_assoc,List.cons_append]
   | true=>
     by_cases hkf:fr=d.length
     · obtain ⟨ov',fr',J',K',X,y6,tl,hJ,a1,a2,a3⟩:=ih (d++[m]) run fr (J++[.cells .plain m.cs]) K xs ov (by simp [hd]) (by simp;omega) (by simp;omega) (by simp;omega) hA
       refine ⟨ov',fr',J',K',X,y6,tl,?_,a1,a2,?_⟩
       · generalize L.map ai.dv=V at *
         have g1':V[d.length]'l1=m.dv:=by rw [List.getElem?_eq_getElem l1] at g1;exact Option.some.inj g1
         rw [hb] at hbx
         subst hkf
         simp only [HI,List.append_assoc,List.cons_append,List.nil_append] at hJ ⊢
         simp only [ai.dv,ai.cs] at hbx hJ g1'
         simp at hJ
         rw [aj (L:=fU) rfl]
         simp [jr,h0,g1,g1',l1,hbx,hw1,hJ,ai.dv,ai.cs]
       · simp only [List.length_append,List.length_singleton] at a3
         simp only [bW,hb,hkf,if_true,Bool.true_eq_false,if_false]
         rw [← hkf] at a3 ⊢
         rw [← a3,hkf]
     · have hkf':¬ (d.length:Int)=fr:=by omega
       have hkf2:¬ d.length=fr:=by omega
       have hfl:fr<d.length:=by omega
       have hif:(if fr<d.length then [gu L fr d.length] else [])=[gu L fr d.length]:=if_pos hfl
       rw [hif] at hsh
       have fin:∀ q:It,(bW p.text L pl d.length run fr (m::r)=gu L fr d.length::q::bW p.text L pl (d.length+1) run d.length r) →
        ∃ (ov':DV) (fr':Nat) (J':List HO) (K':List Nat) (X:List It) (y6:DV) (tl:Fr) (ov1 ov2:DV) (J1:List HO) (K1 K2:List Nat),
        (E tab).F 134 [.int .i64 d.length,.ptr (st.heap.length+6) 0,.ptr (st.heap.length+5) 0,.ptr (st.heap.length+3) 0] (pst st (HI st P0 (aq p w u) ov (.list t 6 tk nn (L.map ai.dv)) fr 0 (J++[.cells .plain m.cs,.cells .plain q.cs])) K) =
         some (.bool true,pst st (HI st P0 (aq p w u) ov1 (.list t 6 tk nn (L.map ai.dv)) fr 0 ((J++[.cells .plain m.cs,.cells .plain q.cs])++J1)) K1) ∧
        (E tab).V (.yield (st.heap.length+4)) [q.dv] (pst st (HI st P0 (aq p w u) ov1 (.list t 6 tk nn (L.map ai.dv)) fr 0 ((J++[.cells .plain m.cs,.cells .plain q.cs])++J1)) K1) =
         some (.bool true,pst st (HI st P0 (aq p w u) ov2 (.list t 6 tk nn (L.map ai.dv)) fr 0 (((J++[.cells .plain m.cs,.cells .plain q.cs])++J1)++[.cells .plain q.cs])) K2) ∧
        (E tab).C fU [(2,.ptr (st.heap.length+3) 0),(3,.ptr (st.heap.length+5) 0),(4,plV t2 tk2 pl),(5,.fn 133 [] [.ptr (st.heap.length+3) 0,.ptr (st.heap.length+2) 0]),(6,.int .i64 run),(7,.ptr (st.heap.length+6) 0),(8,.fn 134 [] [.ptr (st.heap.length+6) 0,.ptr (st.heap.length+5) 0,.ptr (st.heap.length+3) 0]),(17,.list t 6 tk nn (L.map ai.dv)),(18,.int .i64 L.length),(19,.int .i64 (d.length+1:Nat))]
         (pst st (HI st P0 (aq p w u) ov2 (.list t 6 tk nn (L.map ai.dv)) d.length 0 (((J++[.cells .plain m.cs,.cells .plain q.cs])++J1)++[.cells .plain q.cs])) K2) =
        some (.exit 0,[(2,.ptr (st.heap.length+3) 0),(3,.ptr (st.heap.length+5) 0),(4,plV t2 tk2 pl),(5,.fn 133 [] [.ptr (st.heap.length+3) 0,.ptr (st.heap.length+2) 0]),(6,y6),(7,.ptr (st.heap.length+6) 0),(8,.fn 134 [] [.ptr (st.heap.length+6) 0,.ptr (st.heap.length+5) 0,.ptr (st.heap.length+3) 0])]++tl,
         pst st (HI st P0 (aq p w u) ov' (.list t 6 tk nn (L.map ai.dv)) fr' 0 J') K')∧Acc st K' 8 ((xs++X).map It.dv) ov'∧(xs++X).length≤3*L.length∧bW p.text L pl d.length run fr (m::r)=X++(if fr'<L.length then [gu L fr' L.length] else []):=by
        intro q hq
        obtain ⟨ov1,J1,K1,hS,hA1⟩:=hsh (J++[.cells .plain m.cs,.cells .plain q.cs])
        obtain ⟨ov2,K2,hY,hA2⟩:=wb (st:=st) (P0:=P0) (P1:=aq p w u) (lv:=.list t 6 tk nn (L.map ai.dv)) (J:=(J++[.cells .plain m.cs,.cells .plain q.cs])++J1) (fr:=fr) q (by simp;omega) hA1
        obtain ⟨ov',fr',J',K',X,y6,tl,hJ,a1,a2,a3⟩:=ih (d++[m]) run d.length (((J++[.cells .plain m.cs,.cells .plain q.cs])++J1)++[.cells .plain q.cs]) K2 ((xs++[gu L fr d.length])++[q]) ov2 (by simp [hd]) (by simp) (by simp;omega) (by simp;omega) hA2
        simp only [List.length_append,List.length_singleton] at hJ a3
        refine ⟨ov',fr',J',K',gu L fr d.length::q::X,y6,tl,ov1,ov2,J1,K1,K2,hS,hY,hJ,by simpa using a1,by simpa using a2,?_⟩
        rw [hq,a3];rfl
       cases hp:pl.getD d.length false with
       | true=>
         have hq:bW p.text L pl d.length run fr (m::r)=gu L fr d.length::JJ m::bW p.text L pl (d.length+1) run d.length r:=by
          simp only [bW,hb,hkf2,hp,if_false,if_true,Bool.true_eq_false]
         obtain ⟨ov',fr',J',K',X,y6,tl,ov1,ov2,J1,K1,K2,hS,hY,hJ,a1,a2,a3⟩:=fin (JJ m) hq
         refine ⟨ov',fr',J',K',X,y6,tl,?_,a1,a2,a3⟩
         rw [hp] at hpd
         generalize L.map ai.dv=V at *
         have g1':V[d.length]'l1=m.dv:=by rw [List.getElem?_eq_getElem l1] at g1;exact Option.some.inj g1
         simp only [plV] at hJ ⊢
         generalize pl.map DV.bool=PL at *
         have p1':PL[d.length]'lpd=.bool true:=by rw [List.getElem?_eq_getElem lpd] at hpd;exact Option.some.inj hpd
         rw [hb] at hbx
         simp only [HI,List.append_assoc,List.cons_append,List.nil_append] at hS hY hJ ⊢
         simp only [ai.dv,ai.cs,JJ,It.dv,It.cs] at hbx hS hY hJ g1'
         simp at hS hY hJ
         rw [aj (L:=fU) rfl]
         simp [jr,h0,g1,g1',l1,hbx,hkf',hkf2,hpd,p1',lpd,hhy,hS,hY,dc,hw1,hJ,ai.dv,ai.cs]
       | false=>
         have hd1:=hds (J++[.cells .plain m.cs,.cells .plain [.int .i64 3,.int .i64 m.a,.int .i64 m.a,.int .i64 0,.int .i64 0,.int .i64 0,.int .i64 0,.bool false]]) (d.length-1) (by omega)
         have hd2:=hds (J++[.cells .plain m.cs,.cells .plain [.int .i64 3,.int .i64 m.a,.int .i64 m.a,.int .i64 0,.int .i64 0,.int .i64 0,.int .i64 0,.bool false]]) d.length h0
         have hcz:((d.length-1:Nat):Int)=(d.length:Int)-1:=by omega
         rw [hcz] at hd1
         rw [hgm] at hd2
         cases hdash:kz p.text (L.getD (d.length-1) mz) && !kz p.text m&&decide (run<d.length-1) with
         | true=>
           have hq:bW p.text L pl d.length run fr (m::r)=gu L fr d.length::I9 m::bW p.text L pl (d.length+1) run d.length r:=by
            simp only [bW,hb,hkf2,hp,hdash,if_false,if_true,Bool.true_eq_false,Bool.false_eq_true]
           obtain ⟨ov',fr',J',K',X,y6,tl,ov1,ov2,J1,K1,K2,hS,hY,hJ,a1,a2,a3⟩:=fin (I9 m) hq
           refine ⟨ov',fr',J',K',X,y6,tl,?_,a1,a2,a3⟩
           simp only [Bool.and_eq_true,Bool.not_eq_true',decide_eq_true_eq] at hdash
           obtain ⟨⟨q1,q2⟩,q3⟩:=hdash
           have q3':(run:Int)<(d.length:Int)-1:=by omega
           rw [q1] at hd1
           rw [q2] at hd2
           rw [hp] at hpd
           generalize L.map ai.dv=V at *
           have g1':V[d.length]'l1=m.dv:=by rw [List.getElem?_eq_getElem l1] at g1;exact Option.some.inj g1
           simp only [plV] at hJ ⊢
           generalize pl.map DV.bool=PL at *
           have p1':PL[d.length]'lpd=.bool false:=by rw [List.getElem?_eq_getElem lpd] at hpd;exact Option.some.inj hpd
           rw [hb] at hbx
           simp only [HI,List.append_assoc,List.cons_append,List.nil_append] at hS hY hJ hd1 hd2 ⊢
           simp only [ai.dv,ai.cs,I9,It.dv,It.cs] at hbx hS hY hJ hd1 hd2 g1'
           simp at hS hY hJ hd1 hd2
           rw [aj (L:=fU) rfl]
           simp [jr,h0,g1,g1',l1,hbx,hkf',hkf2,hpd,p1',lpd,hwm,hd1,hd2,q3',hS,hY,dc,hw1,hJ,ai.dv,ai.cs]
         | false=>
           have hq:bW p.text L pl d.length run fr (m::r)=bW p.text L pl (d.length+1) run fr r:=by
            simp only [bW,hb,hkf2,hp,hdash,if_false,Bool.true_eq_false,Bool.false_eq_true]
           obtain ⟨ov',fr',J',K',X,y6,tl,hJ,a1,a2,a3⟩:=ih (d++[m]) run fr (J++[.cells .plain m.cs,.cells .plain [.int .i64 3,.int .i64 m.a,.int .i64 m.a,.int .i64 0,.int .i64 0,.int .i64 0,.int .i64 0,.bool false]]) K xs ov (by simp [hd]) (by simp;omega) (by simp;omega) (by simp;omega) hA
           simp only [List.length_append,List.length_singleton] at hJ a3
           refine ⟨ov',fr',J',K',X,y6,tl,?_,a1,a2,by rw [hq,a3]⟩
           rw [hp] at hpd
           generalize L.map ai.dv=V at *
           have g1':V[d.length]'l1=m.dv:=by rw [List.getElem?_eq_getElem l1] at g1;exact Option.some.inj g1
           simp only [plV] at hJ ⊢
           generalize pl.map DV.bool=PL at *
           have p1':PL[d.length]'lpd=.bool false:=by rw [List.getElem?_eq_getElem lpd] at hpd;exact Option.some.inj hpd
           rw [hb] at hbx
           simp only [HI,List.append_assoc,List.cons_append,List.nil_append] at hJ hd1 hd2 ⊢
           simp only [ai.dv,ai.cs] at hbx hJ hd1 hd2 g1'
           cases q1:kz p.text (L.getD (d.length-1) mz) with
           | false=>
             rw [q1] at hd1
             simp at hJ hd1
             rw [aj (L:=fU) rfl]
             simp [jr,h0,g1,g1',l1,hbx,hkf',hkf2,hpd,p1',lpd,hwm,hd1,dc,hw1,hJ,ai.dv,ai.cs]
           | true=>
             rw [q1] at hd1 hdash
             cases q2:kz p.text m with
             | true=>
               rw [q2] at hd2
               simp at hJ hd1 hd2
               rw [aj (L:=fU) rfl]
               simp [jr,h0,g1,g1',l1,hbx,hkf',hkf2,hpd,p1',lpd,hwm,hd1,hd2,dc,hw1,hJ,ai.dv,ai.cs]
             | false=>
               rw [q2] at hd2 hdash
               have q3:¬ run<d.length-1:=by simpa using hdash
               have q3':¬ (run:Int)<(d.length:Int)-1:=by omega
               simp at hJ hd1 hd2
               rw [aj (L:=fU) rfl]
               simp [jr,h0,g1,g1',l1,hbx,hkf',hkf2,hpd,p1',lpd,hwm,hd1,hd2,q3',dc,hw1,hJ,ai.dv,ai.cs]
end
def eT (L:List ai) (z:Int):Nat→Nat→Nat
 | 0,b=>b
 | f+1,b=>match L[b]? with | some m=>if m.k=1∧m.s=z then eT L z f (b+1) else b | none=>b
def byL (s:List UInt8) (l:List ai):List UInt8:=l.map fun m=>bAt s m.a.toNat
def l3 (pl:List Bool) (a:Nat) (pts:List Nat):List Bool:=pts.foldl (fun o k=>o.set (a+k) true) pl
def ly (w:List UInt8):List Nat:=if kP w=true then points eJ gP (w.map dx) else []
def dq (s:List UInt8) (L:List ai):Nat→Nat→List Bool→List Bool
 | 0,_,pl=>pl
 | f+1,a,pl=>match L[a]? with
   | none=>pl
   | some m=>if m.k=1 then dq s L f (eT L m.s L.length a) (l3 pl a (ly (byL s ((L.drop a).take (eT L m.s L.length a-a))))) else dq s L f (a+1) pl
def jR (s:List UInt8) (L:List ai) (hy:Int):List Bool:=if hy=0 then List.replicate (L.length+1) false else dq s L (L.length+1) 0 (List.replicate (L.length+1) false)
theorem oP:∀ (pts:List Nat) (pl:List Bool) (a:Nat),(l3 pl a pts).length=pl.length
 | [],_,_=>rfl
 | k::r,pl,a=>by unfold l3;rw [List.foldl_cons];have:=oP r (pl.set (a+k) true) a;unfold l3 at this;rw [this];simp
theorem kN (s:List UInt8) (L:List ai):∀ (f a:Nat) (pl:List Bool),(dq s L f a pl).length=pl.length
 | 0,_,_=>rfl
 | f+1,a,pl=>by
   simp only [dq]
   split
   · rfl
   · split
     · rw [kN s L f,oP]
     · rw [kN s L f]
theorem vD (s:List UInt8) (L:List ai) (hy:Int):(jR s L hy).length=L.length+1:=by
 unfold jR;split
 · simp
 · rw [kN];simp
theorem rV (L:List ai) (z:Int):∀ f b,b≤L.length→b≤eT L z f b∧eT L z f b≤L.length
 | 0,b,h=>⟨Nat.le_refl _,h⟩
 | f+1,b,h=>by
   simp only [eT]
   split
   · rename_i m hm
     have:=(List.getElem?_eq_some_iff.1 hm).1
     split
     · have:=rV L z f (b+1) (by omega);omega
     · exact ⟨Nat.le_refl _,h⟩
   · exact ⟨Nat.le_refl _,h⟩
theorem Kt {L:List ai} {a:Nat} {m:ai} (h:L[a]? = some m) (hk:m.k=1):a<eT L m.s L.length a:=by
 have hl:=(List.getElem?_eq_some_iff.1 h).1
 obtain ⟨f,hf⟩:∃ f,L.length=f+1:=⟨L.length-1,by omega⟩
 rw [hf]
 simp only [eT,h,hk,true_and,if_true]
 have:=(rV L m.s f (a+1) (by omega)).1
 omega
theorem TH:∀ (s:List UInt8) (k:Nat),∀ x∈plc k s,x≤k+(aQ s).length:=by
 intro s
 have h:∀ r:List UInt8,∀ k,∀ x∈plc k r.reverse,x≤k+(aQ r.reverse).length:=by
  intro r
  induction r with
  | nil=>intro k x hx;simp [plc] at hx
  | cons c r ih=>
    intro k x hx
    rw [List.reverse_cons] at hx ⊢
    by_cases hc:c.toNat=45
    · rw [lG _ _ _ hc] at hx
      rw [rk _ _ hc]
      rcases List.mem_append.1 hx with hx | hx
      · exact ih k x hx
      · simp at hx;omega
    · rw [oe _ _ _ hc] at hx
      rw [uB _ _ hc]
      have:=ih k x hx
      simp;omega
 intro k x hx
 have:=h s.reverse k x (by simpa using hx)
 simpa using this
theorem AL (ps es:List (List UInt8)) (w:List UInt8):∀ k∈points ps es w,k≤w.length:=by
 intro k hk
 unfold points at hk
 split at hk
 · rename_i s hs
   have h1:=List.find?_some hs
   simp only [beq_iff_eq] at h1
   have:=TH s 0 k hk
   rw [h1] at this;omega
 · unfold zO at hk
   have:=List.mem_range'_1.1 (List.mem_filter.1 hk).1
   omega
theorem HM (w:List UInt8):∀ k∈ly w,k≤w.length:=by
 intro k hk
 unfold ly at hk
 split at hk
 · have:=AL _ _ _ k hk;simpa using this
 · cases hk
theorem AW (w:List UInt8):(ly w).length≤200000:=by
 unfold ly
 split
 · rename_i hok
   have:=yt eJ gP (w.map dx) j5
   simp only [kP,Bool.and_eq_true,decide_eq_true_eq] at hok
   simp only [List.length_map] at this
   omega
 · simp
section
variable {st:St}
theorem Xx {G:List HO} {K:List Nat} {kO a b n:Nat} {y2 y6:DV} {lv v:DV} {pts:List Nat} (hp:Lw 1 (pts.map i6) v) (hpl:pts.length≤1000000) (hn:n≤100000) (ha:a≤100000) (hb:∀ k∈pts,a+k<n):∀ (r d:List Nat) (pl:List Bool) (G:List HO),pts=d++r→pl.length=n→rowAt G kO=some (.plain,pl.map DV.bool) →
 ∃ tl,(E tab).C tA [(1,lv),(2,y2),(5,.hsl 1 false (st.heap.length+kO) 0 n (some n)),(6,y6),(7,.int .i64 a),(8,.int .i64 b),(82,v),(83,.int .i64 pts.length),(84,.int .i64 d.length)] (pst st G K) =
   some (.exit 4,[(1,lv),(2,y2),(5,.hsl 1 false (st.heap.length+kO) 0 n (some n)),(6,y6),(7,.int .i64 a),(8,.int .i64 b)]++tl,pst st (G.set kO (.cells .plain ((l3 pl a r).map DV.bool))) K):=by
 intro r
 induction r with
 | nil=>
   intro d pl G hd hl hr
   obtain rfl:pts=d:=by simpa using hd
   have hset:G.set kO (.cells .plain ((l3 pl a []).map DV.bool))=G:=by
    have hk:=bg hr
    apply List.ext_getElem?
    intro j
    by_cases hj:j=kO
    · subst hj;rw [List.getElem?_set_self hk,aE.1 hr];rfl
    · rw [List.getElem?_set_ne (fun e=>hj e.symm)]
   rw [hset]
   refine ⟨[(82,v),(83,.int .i64 pts.length),(84,.int .i64 pts.length),(85,.bool false)],?_⟩
   rw [aj (L:=tA) rfl]
   simp [wT]
 | cons x r ih=>
   intro d pl G hd hl hr
   have hk:=bg hr
   have h0:d.length<pts.length:=by simp [hd]
   have hw1:IntKind.i64.wrap ((d.length:Int)+1)=(d.length:Int)+1:=by rw [aN (by omega)]
   have hax:=hb x (by simp [hd])
   have hwa:IntKind.i64.wrap ((a:Int)+x)=((a+x:Nat):Int):=by rw [aN (by omega)];simp
   have v0:Vw (pst st G K) 1 false (pts.map i6) v:=hp.vw
   have e1:=fun st'=>v0.aJ (i:=d.length) (by simpa using h0) .i64 st'
   have e2:=v0.BB K8 (i:=d.length) (x:=.int .i64 x) (by simp [hd,i6])
   have hlt:a+x<(pl.map DV.bool).length:=by simp;omega
   have hsp:=fZ (x:=.bool true) hlt
   have hset:(pl.map DV.bool).set (a+x) (.bool true)=(pl.set (a+x) true).map DV.bool:=by rw [List.map_set]
   rw [hset] at hsp
   have hle:a+x+1≤(pl.map DV.bool).length:=by omega
   obtain ⟨tl,hJ⟩:=ih (d++[x]) (pl.set (a+x) true) (G.set kO (.cells .plain ((pl.set (a+x) true).map DV.bool))) (by simp [hd]) (by simpa using hl) (dd hk _ _)
   refine ⟨tl,?_⟩
   rw [List.set_set] at hJ
   have e3:l3 pl a (x::r)=l3 (pl.set (a+x) true) a r:=rfl
   rw [e3]
   generalize (l3 (pl.set (a+x) true) a r).map DV.bool=W at *
   generalize (pl.set (a+x) true).map DV.bool=W1 at *
   generalize pl.map DV.bool=PM at *
   generalize a+x=ax at *
   simp only [bu] at hsp
   simp at hJ hsp
   have hax2:(ax:Int)<n:=by omega
   rw [aj (L:=tA) rfl]
   simp [wT,h0,e1,e2,hwa,hax,hax2,hr,hle,hsp,hw1,hJ]
theorem AG {L:List ai} {a b:Nat} {m:ai} (h:L[b]? = some m) (hab:a≤b):(L.drop a).take (b+1-a)=(L.drop a).take (b-a)++[m]:=by
 have e:b+1-a=(b-a)+1:=by omega
 rw [e,List.take_add_one,List.getElem?_drop,show a+(b-a)=b by omega,h];rfl
theorem QJ {L:List ai} {p:bq} {w u:LW} (hL:MOk p.text L) {t n:Nat} {tk:Tk} {nn:Bool} (h6:L≠[]→n=6) {H:List HO} (hr:rowAt H 0=some (.plain,aq p w u)) {y5 y6:DV} {a:Nat} {ma:ai} (hma:L[a]? = some ma):∀ (f b:Nat) (K:List Nat) (v:DV),L.length≤b+f→a≤b→b≤L.length→Acc st K 1 ((byL p.text ((L.drop a).take (b-a))).map u8) v →
 ∃ (K':List Nat) (v':DV) (tl:Fr),(E tab).C kX [(1,.list t n tk nn (L.map ai.dv)),(2,.ptr st.heap.length 0),(5,y5),(6,y6),(7,.int .i64 a),(8,.int .i64 b),(9,v)] (pst st H K) =
   some (.exit 2,[(1,.list t n tk nn (L.map ai.dv)),(2,.ptr st.heap.length 0),(5,y5),(6,y6),(7,.int .i64 a),(8,.int .i64 (eT L ma.s f b:Nat)),(9,v')]++tl,pst st H K')∧Acc st K' 1 ((byL p.text ((L.drop a).take (eT L ma.s f b-a))).map u8) v':=by
 have hlen:=hL.len
 have hal:=(List.getElem?_eq_some_iff.1 hma).1
 have hV0:(L.map ai.dv).length=L.length:=by simp
 obtain rfl:=h6 (by intro e;simp [e] at hal)
 have ga:(L.map ai.dv)[a]? = some ma.dv:=by rw [List.getElem?_map,hma];rfl
 have la:a<(L.map ai.dv).length:=by simpa using hal
 have ga':(L.map ai.dv)[a]'la=ma.dv:=by rw [List.getElem?_eq_getElem la] at ga;exact Option.some.inj ga
 intro f
 induction f with
 | zero=>
   intro b K v h1 h2 h3 hA
   obtain rfl:b=L.length:=by omega
   refine ⟨K,v,[(61,.bool false)],?_,hA⟩
   generalize L.map ai.dv=V at *
   rw [aj (L:=kX) rfl]
   simp [mN,eT,hV0]
 | succ f ih=>
   intro b K v h1 h2 h3 hA
   have hw1:IntKind.i64.wrap ((b:Int)+1)=(b:Int)+1:=by rw [aN (by omega)]
   by_cases hb:b<L.length
   · obtain ⟨m,hm⟩:∃ m,L[b]? = some m:=⟨L[b],List.getElem?_eq_getElem hb⟩
     have gb:(L.map ai.dv)[b]? = some m.dv:=by rw [List.getElem?_map,hm];rfl
     have lb:b<(L.map ai.dv).length:=by simpa using hb
     have gb':(L.map ai.dv)[b]'lb=m.dv:=by rw [List.getElem?_eq_getElem lb] at gb;exact Option.some.inj gb
     have hat:=hL.at_ m (List.mem_of_getElem? hm)
     have hbt:p.text[m.a.toNat]? = some (bAt p.text m.a.toNat):=wZ (by omega)
     have hlt:m.a.toNat<p.text.length:=by omega
     have hge:p.text[m.a.toNat]'hlt=bAt p.text m.a.toNat:=by rw [List.getElem?_eq_getElem hlt] at hbt;exact Option.some.inj hbt
     by_cases hk:m.k=1
     · by_cases hz:m.s=ma.s
       · have e:eT L ma.s (f+1) b=eT L ma.s f (b+1):=by simp only [eT,hm,hk,hz,and_self,if_true]
         rw [e]
         have hts:=AG hm h2
         have hbl:(byL p.text ((L.drop a).take (b-a))).length≤4096:=by simp [byL];omega
         obtain ⟨v1,K1,hap,hA1⟩:=eY (st:=st) (H:=H) (by_:=1) (ag:=false) (ys:=[u8 (bAt p.text m.a.toNat)]) (t:=st.cur) (tk:=.tight) hA (by omega) (by simp) (by intro y hy;simp only [List.mem_singleton] at hy;subst hy;exact ⟨rfl,rfl,rfl⟩) (by simp [az];omega) (by simp [az];omega)
         obtain ⟨K',v',tl,hJ,hA2⟩:=ih (b+1) K1 v1 (by omega) (by omega) (by omega) (by rw [hts];simpa [byL] using hA1)
         refine ⟨K',v',tl,?_,hA2⟩
         simp only [u8] at hap
         generalize eT L ma.s f (b+1)=eb at *
         generalize L.map ai.dv=V at *
         simp at hJ
         rw [aj (L:=kX) rfl]
         simp [mN,hV0,hb,ga,ga',la,gb,gb',lb,ai.dv,ai.cs,hk,hz,hr,hat.1,hlt,hbt,hge,bc,bn,chunk,hap,hw1,hJ]
       · have e:eT L ma.s (f+1) b=b:=by simp only [eT,hm,hz,and_false,if_false]
         rw [e]
         refine ⟨K,v,[(61,.bool false)],?_,hA⟩
         generalize L.map ai.dv=V at *
         rw [aj (L:=kX) rfl]
         simp [mN,hV0,hb,ga,ga',la,gb,gb',lb,ai.dv,ai.cs,hk,hz]
     · have e:eT L ma.s (f+1) b=b:=by simp only [eT,hm,hk,false_and,if_false]
       rw [e]
       refine ⟨K,v,[(61,.bool false)],?_,hA⟩
       generalize L.map ai.dv=V at *
       rw [aj (L:=kX) rfl]
       simp [mN,hV0,hb,gb,gb',lb,ai.dv,ai.cs,hk]
   · have hbn:L[b]? = none:=List.getElem?_eq_none (by omega)
     have e:eT L ma.s (f+1) b=b:=by simp only [eT,hbn]
     rw [e]
     refine ⟨K,v,[(61,.bool false)],?_,hA⟩
     have hb':¬ (b:Int)<L.length:=by omega
     generalize L.map ai.dv=V at *
     rw [aj (L:=kX) rfl]
     simp [mN,hV0,hb,hb']
theorem Vq {L:List ai} {p:bq} {w u:LW} (hL:MOk p.text L) {t n:Nat} {tk:Tk} {nn:Bool} (h6:L≠[]→n=6):∀ (f a:Nat) (pl:List Bool) (G:List HO) (K:List Nat),L.length<a+f→a≤L.length→pl.length=L.length+1→rowAt G 0=some (.plain,aq p w u)→rowAt G 1=some (.plain,pl.map DV.bool)→oU st G 2 eJ gP →
 ∃ (G':List HO) (K':List Nat) (tl:Fr),(E tab).C pB [(1,.list t n tk nn (L.map ai.dv)),(2,.ptr st.heap.length 0),(5,.hsl 1 false (st.heap.length+1) 0 (L.length+1) (some (L.length+1))),(6,.ptr (st.heap.length+4) 0),(7,.int .i64 a)] (pst st G K) =
   some (.exit 0,[(1,.list t n tk nn (L.map ai.dv)),(2,.ptr st.heap.length 0),(5,.hsl 1 false (st.heap.length+1) 0 (L.length+1) (some (L.length+1)))]++tl,pst st G' K')∧rowAt G' 1=some (.plain,(dq p.text L f a pl).map DV.bool):=by
 have hlen:=hL.len
 have hV0:(L.map ai.dv).length=L.length:=by simp
 intro f
 induction f with
 | zero=>intro a pl G K h1 h2;omega
 | succ f ih=>
   intro a pl G K h1 h2 h3 hr0 hr1 hH
   have hw1:IntKind.i64.wrap ((a:Int)+1)=(a:Int)+1:=by rw [aN (by omega)]
   by_cases ha:a<L.length
   · obtain ⟨m,hm⟩:∃ m,L[a]? = some m:=⟨L[a],List.getElem?_eq_getElem ha⟩
     obtain rfl:=h6 (by intro e;simp [e] at ha)
     have gb:(L.map ai.dv)[a]? = some m.dv:=by rw [List.getElem?_map,hm];rfl
     have lb:a<(L.map ai.dv).length:=by simpa using ha
     have gb':(L.map ai.dv)[a]'lb=m.dv:=by rw [List.getElem?_eq_getElem lb] at gb;exact Option.some.inj gb
     by_cases hk:m.k=1
     · have hgt:=Kt hm hk
       have hle:=(rV L m.s L.length a (by omega)).2
       have e:dq p.text L (f+1) a pl=dq p.text L f (eT L m.s L.length a) (l3 pl a (ly (byL p.text ((L.drop a).take (eT L m.s L.length a-a))))):=by simp only [dq,hm,hk,if_true]
       rw [e]
       obtain ⟨K1,v1,tl1,hI,hA1⟩:=QJ (K:=K) hL (fun _=>rfl) hr0 (y5:=.hsl 1 false (st.heap.length+1) 0 (L.length+1) (some (L.length+1))) (y6:=.ptr (st.heap.length+4) 0) (t:=t) (tk:=tk) (nn:=nn) (st:=st) hm L.length a (.list 0 0 .no false []) (by omega) (Nat.le_refl _) (by omega) (by rw [Nat.sub_self];simpa [byL] using ef st K 1 0 0 .no)
       have hwl:(byL p.text ((L.drop a).take (eT L m.s L.length a-a))).length=eT L m.s L.length a-a:=by simp [byL];omega
       generalize hW:byL p.text ((L.drop a).take (eT L m.s L.length a-a))=W at *
       generalize eT L m.s L.length a=b at *
       obtain ⟨q1,q2⟩:=tP hA1 (pst st G K1)
       obtain ⟨v2,X2,K2,hP,hl2⟩:=AN (K:=K1) hH j5 W
       have hpts:(if kP W=true then points eJ gP (W.map dx) else [])=ly W:=rfl
       rw [hpts] at hl2
       have hpl:=zN (ps:=eJ) j5 W
       rw [hpts] at hpl
       have hple:=HM W
       have hplen:(ly W).length≤1000000:=by
        have:=AW W;omega
       have hr1':rowAt (G++X2) 1=some (.plain,pl.map DV.bool):=eU hr1 _
       obtain ⟨tl2,hI2⟩:=Xx (st:=st) (G:=G) (K:=K2) (kO:=1) (a:=a) (b:=b) (n:=L.length+1) (y2:=.ptr st.heap.length 0) (y6:=.ptr (st.heap.length+4) 0) (lv:=.list t 6 tk nn (L.map ai.dv)) hl2 hplen (by omega) (by omega) (fun k hk=>by have:=hple k hk;omega) (ly W) [] pl (G++X2) rfl h3 hr1'
       obtain ⟨G',K',tl,hJ,hG'⟩:=ih b (l3 pl a (ly W)) ((G++X2).set 1 (.cells .plain ((l3 pl a (ly W)).map DV.bool))) K2 (by omega) hle (by rw [oP];exact h3) (by
        rw [aE,List.getElem?_set_ne (by omega)];exact aE.1 (eU hr0 _)) (dd (bg hr1') _ _) (by
        refine (hH.same (G':=(G++X2).set 1 (.cells .plain ((l3 pl a (ly W)).map DV.bool))) fun j hj hjl => ?_)
        rw [List.getElem?_set_ne (by omega),List.getElem?_append_left hjl])
       refine ⟨G',K',tl,?_,hG'⟩
       obtain ⟨vt,vn,vtk,vnn,rfl⟩:=eo hA1
       have e2:=(hl2.vw (st:=st) (ag:=false)).len
       simp only [List.length_map] at e2
       have hbb:=jS W
       generalize (l3 pl a (ly W)).map DV.bool=SP at *
       generalize (ly W).length=pw at *
       generalize W.map u8=WU at *
       generalize L.map ai.dv=V at *
       generalize G++X2=G2 at *
       simp at hI hI2 hJ
       rw [aj (L:=pB) rfl]
       simp [tm,hV0,ha,gb,gb',lb,ai.dv,ai.cs,hk,hI,pO,q1,hbb,hP,e2,hI2,hJ]
     · have e:dq p.text L (f+1) a pl=dq p.text L f (a+1) pl:=by simp only [dq,hm,hk,if_false]
       rw [e]
       obtain ⟨G',K',tl,hJ,hG'⟩:=ih (a+1) pl G K (by omega) (by omega) h3 hr0 hr1 hH
       refine ⟨G',K',tl,?_,hG'⟩
       generalize L.map ai.dv=V at *
       simp at hJ
       rw [aj (L:=pB) rfl]
       simp [tm,hV0,ha,gb,gb',lb,ai.dv,ai.cs,hk,hw1,hJ]
   · have hbn:L[a]? = none:=List.getElem?_eq_none (by omega)
     have e:dq p.text L (f+1) a pl=pl:=by simp only [dq,hbn]
     rw [e]
     refine ⟨G,K,[(6,.ptr (st.heap.length+4) 0),(7,.int .i64 a),(27,.bool false)],?_,hr1⟩
     have ha':¬ (a:Int)<L.length:=by omega
     generalize L.map ai.dv=V at *
     rw [aj (L:=pB) rfl]
     simp [tm,hV0,ha,ha']
theorem Cs {L:List ai} {p:bq} {w u:LW} (hL:MOk p.text L) {t n:Nat} {tk:Tk} {nn:Bool} (h6:L≠[]→n=6) :
 ∃ t',(E tab).F 132 [.agg (aq p w u),.list t n tk nn (L.map ai.dv)] st=some (.list t' 1 .tight true ((jR p.text L p.pr.b4).map DV.bool),st):=by
 have hlen:=hL.len
 have hV0:(L.map ai.dv).length=L.length:=by simp
 have hel:∀ (b:List Bool),∀ y∈b.map DV.bool,dB 1 false y:=by intro b y hy;obtain ⟨c,_,rfl⟩:=List.mem_map.1 hy;exact ⟨rfl,rfl,rfl⟩
 have hw1:IntKind.i64.wrap ((L.length:Int)+1)=(L.length:Int)+1:=by rw [aN (by omega)]
 have hroom:((L.length:Int)+1)≤140737488355328:=by omega
 have hroom2:L.length+1≤140737488355328:=by omega
 have hpos:(0:Int)≤(L.length:Int)+1:=by omega
 have htn:((L.length:Int)+1).toNat=L.length+1:=by omega
 have hrep:bn [DV.bool false] (L.length+1)=(List.replicate (L.length+1) false).map DV.bool:=by rw [pT,List.map_replicate]
 have ph:(aq p w u)[14]? = some (.int .i64 p.pr.b4):=rfl
 have hpl:=vD p.text L p.pr.b4
 have hex:∀ (G:List HO) (K:List Nat),rowAt G 1=some (.plain,(jR p.text L p.pr.b4).map DV.bool)→aZ st (pst st G K) (.hsl 1 false (st.heap.length+1) 0 (L.length+1) (some (L.length+1)))=some (.list st.cur 1 .tight true ((jR p.text L p.pr.b4).map DV.bool)):=by
  intro G K h
  have hfl:=ij _ (hel (jR p.text L p.pr.b4))
  have:=wi (st:=st) (H:=G) (K:=K) (k:=1) (n:=1) (ag:=false) (g:=.plain) (ys:=(jR p.text L p.pr.b4).map DV.bool) (cap:=some (L.length+1)) (by rw [hfl];exact h) (by omega) (.inr rfl) (hel _)
  rw [List.length_map,hpl,if_pos rfl] at this
  exact this
 refine ⟨st.cur,?_⟩
 rw [bj alF rfl]
 by_cases hy:p.pr.b4=0
 · have e:jR p.text L p.pr.b4=List.replicate (L.length+1) false:=by simp only [jR,hy,if_true]
   have hx:=hex [.cells .plain (aq p w u),.cells .plain ((List.replicate (L.length+1) false).map DV.bool)] [] (by rw [e];rfl)
   rw [e] at hx ⊢
   rw [hy] at ph
   generalize (List.replicate (L.length+1) false).map DV.bool=Z at *
   generalize L.map ai.dv=V at *
   simp [f132,hV0,hw1,az,hroom,hroom2,hpos,htn,hrep,ph,hx]
 · obtain ⟨X,hP,hH⟩:=BE (st:=st) [.cells .plain (aq p w u),.cells .plain ((List.replicate (L.length+1) false).map DV.bool)] []
   obtain ⟨G',K',tl,hL2,hG'⟩:=Vq (st:=st) (w:=w) (u:=u) hL (t:=t) (tk:=tk) (nn:=nn) h6 (L.length+1) 0 (List.replicate (L.length+1) false) ([.cells .plain (aq p w u),.cells .plain ((List.replicate (L.length+1) false).map DV.bool)]++X) [] (by omega) (by omega) (by simp) rfl rfl hH
   have e:jR p.text L p.pr.b4=dq p.text L (L.length+1) 0 (List.replicate (L.length+1) false):=by simp only [jR,hy,if_false]
   have hx:=hex G' K' (by rw [e];exact hG')
   rw [e] at hx ⊢
   generalize (dq p.text L (L.length+1) 0 (List.replicate (L.length+1) false)).map DV.bool=Y at *
   generalize (List.replicate (L.length+1) false).map DV.bool=Z at *
   generalize L.map ai.dv=V at *
   simp at hP hL2
   simp [f132,hV0,hw1,az,hroom,hroom2,hpos,htn,hrep,ph,hy,hP,hL2,hx]
end
def fe (p:bq):Bool:=decide (2≤p.pr.drop)&&(decide (0<(aK p).length)&&((aK p).getD 0 mz).k==1)
def c6 (p:bq):List ai:=if fe p=true then (aK p).drop 1 else aK p
def db (p:bq):List It:=bW p.text (c6 p) (jR p.text (c6 p) p.pr.b4) 0 0 0 (c6 p)
theorem k8 (p:bq):∀ (l:List Clu) (kr:Bool) (bf:UInt8) (ps:Int) (mk:List (List UInt8)),∀ m∈eI p kr bf ps mk l,∃ c∈l,m.a=c.a∧m.s=sizeOf p c.a
 | [],_,_,_,_,m,h=>by cases h
 | c::r,kr,bf,ps,mk,m,h=>by
   simp only [eI] at h
   rcases List.mem_cons.1 h with rfl | h
   · exact ⟨c,by simp,rfl,rfl⟩
   · obtain ⟨c',h1,h2⟩:=k8 p r _ _ _ _ m h
     exact ⟨c',by simp [h1],h2⟩
theorem mU (p:bq):MOk p.text (aK p):=by
 refine ⟨zM p,Bw p,?_,?_⟩
 · intro m hm
   unfold aK at hm
   split at hm
   · obtain ⟨c,hc,h1,_⟩:=k8 p _ _ _ _ _ m hm
     have:=uq (lM p.text p.text.length 0).1 c hc
     rw [h1];omega
   · cases hm
 · intro m hm
   unfold aK at hm
   split at hm
   · rename_i h0
     obtain ⟨_,_,hsp,hpr,_⟩:=da h0
     obtain ⟨c,hc,_,h2⟩:=k8 p _ _ _ _ _ m hm
     have hS:nX p.aT:=by
      unfold eV at hsp
      cases e:eO p.text.length p.aT with
      | none=>rw [e] at hsp;simp at hsp
      | some k=>exact (j8 _ _ _ e).1
     have:=mE p hpr hS c.a
     rw [h2];exact ⟨this.1,this.2.1⟩
   · cases hm
theorem MOk.drop {s:List UInt8} {L:List ai} (h:MOk s L) (n:Nat):MOk s (L.drop n):=
 ⟨by rw [List.length_drop];have:=h.len;omega,List.all_eq_true.2 fun m hm=>List.all_eq_true.1 h.ok m (List.mem_of_mem_drop hm),fun m hm=>h.at_ m (List.mem_of_mem_drop hm),fun m hm=>h.sz m (List.mem_of_mem_drop hm)⟩
theorem Ap (p:bq):MOk p.text (c6 p):=by
 unfold c6;split
 · exact (mU p).drop 1
 · exact mU p
def s7 (tk:Tk):Tk:=match tk with | .own _ _=>.no | k=>k
theorem exl (st st':St) (tag n:Nat) (tk:Tk) (nn:Bool) (xs:List DV):aZ st st' (.list tag n tk nn xs)=some (.list tag n (s7 tk) nn xs):=by cases tk<;>rfl
@[simp] theorem Hx (l:Nat):(DV.yield l).leaves=[.yield l]:=rfl
section
variable {st:St} {p:bq} {w u:LW}
theorem Bc:(aq p w u)[16]? = some (.int .i64 p.pr.drop):=rfl
theorem G4 (hp:p.small) (hw:w.ok 4 p.aT) (hu:u.ok 1 p.marks):∃ v:LW,(E tab).F 117 [.agg (aq p w u)] st=some (.tuple [.list v.t v.n v.tk v.nn ((if aF p=0 then c6 p else []).map ai.dv),.int .i64 (aF p)],st)∧v.ok 6 (if aF p=0 then c6 p else []):=by
 rw [bj agU rfl]
 obtain ⟨_,hm,v,rfl,hv⟩:=ua p hp w u hw hu (pst st [.cells .plain (aq p w u)] [])
 have hpd:=Bc (p:=p) (w:=w) (u:=u)
 by_cases h0:aF p=0
 · have hV0:((aK p).map ai.dv).length=(aK p).length:=by simp
   rw [if_pos h0]
   unfold c6 fe
   by_cases h1:2≤p.pr.drop
   · by_cases h2:0<(aK p).length
     · have h2':(0:Int)<(aK p).length:=by omega
       have hvn:=hv.n (by intro e;rw [e] at h2;simp at h2)
       have g0:=rh (L:=aK p) h2
       have l0:0<((aK p).map ai.dv).length:=by simpa using h2
       by_cases h3:((aK p).getD 0 mz).k=1
       · rw [if_pos (by simp only [h1,h2,h3,decide_true,Bool.true_and,beq_self_eq_true])]
         have hs:=sH (n:=6) (en:=v.n) (t:=v.t) (tk:=v.tk) (nn:=v.nn) (xs:=(aK p).map ai.dv) (k:=.i64) (lo:=1) (fun _=>hvn) (by omega) (by simp;omega)
         refine ⟨⟨v.t,v.n,s7 (vC v.tk ((aK p).map ai.dv).length 1 ((aK p).map ai.dv).length),v.nn⟩,?_,fun e=>hvn,fun e=>by have:=hv.2 e;simp [this]⟩
         have hdr:((aK p).map ai.dv).drop (1:Int).toNat=((aK p).drop 1).map ai.dv:=by rw [List.map_drop];rfl
         rw [hdr] at hs
         generalize ((aK p).drop 1).map ai.dv=D at *
         generalize (aK p).getD 0 mz=m at *
         generalize (aK p).map ai.dv=V at *
         have g0':V[0]'l0=m.dv:=by rw [List.getElem?_eq_getElem l0] at g0;exact Option.some.inj g0
         rw [hvn] at hm hs ⊢
         have hVl:V.length=(aK p).length:=hV0
         rw [hVl] at hs ⊢
         simp only [show (1:Int).toNat=1 from rfl] at hs
         simp [-fH,exl,f117,hm,h0,hpd,h1,hV0,h2,h2',g0,g0',l0,ai.dv,ai.cs,h3,hs]
       · have h3b:(((aK p).getD 0 mz).k==1)=false:=by rw [beq_eq_false_iff_ne];exact h3
         rw [if_neg (by rw [h3b];simp)]
         refine ⟨⟨v.t,v.n,s7 v.tk,v.nn⟩,?_,hv⟩
         generalize (aK p).getD 0 mz=m at *
         generalize (aK p).map ai.dv=V at *
         have g0':V[0]'l0=m.dv:=by rw [List.getElem?_eq_getElem l0] at g0;exact Option.some.inj g0
         rw [hvn] at hm
         simp [-fH,exl,f117,hm,h0,hpd,h1,hV0,h2,h2',g0,g0',l0,ai.dv,ai.cs,h3,hvn]
     · have h2':¬ (0:Int)<(aK p).length:=by omega
       rw [if_neg (by simp [h2])]
       refine ⟨⟨v.t,v.n,s7 v.tk,v.nn⟩,?_,hv⟩
       generalize (aK p).map ai.dv=V at *
       simp [-fH,exl,f117,hm,h0,hpd,h1,hV0,h2,h2']
   · rw [if_neg (by simp [h1])]
     refine ⟨⟨v.t,v.n,s7 v.tk,v.nn⟩,?_,hv⟩
     generalize (aK p).map ai.dv=V at *
     simp [-fH,exl,f117,hm,h0,hpd,h1]
 · have hm0:aK p=[]:=by unfold aK;rw [if_neg h0]
   rw [hm0] at hm hv
   rw [if_neg h0]
   refine ⟨⟨v.t,v.n,s7 v.tk,v.nn⟩,?_,hv⟩
   simp at hm
   simp [-fH,exl,f117,hm,h0]
theorem Dx {L:List ai} (hL:MOk p.text L) {t n:Nat} {tk:Tk} {nn:Bool} (h6:L≠[]→n=6) (h7:nn=true→n=6) (P0:List DV):∃ (ov:DV) (fr:Nat) (J:List HO) (K:List Nat),
 (E tab).F 131 [.yield (st.heap.length+4),.ptr (st.heap.length+2) 0,.ptr (st.heap.length+3) 0] (pst st [.cells .plain P0,.cells .plain [.list 0 0 .no false []],.cells .plain (aq p w u),.cells .plain [.list t n tk nn (L.map ai.dv)],loI st 0] []) =
  some (.tuple [],pst st (HI st P0 (aq p w u) ov (.list t n tk nn (L.map ai.dv)) fr 0 J) K)∧Acc st K 8 ((bW p.text L (jR p.text L p.pr.b4) 0 0 0 L).map It.dv) ov:=by
 obtain ⟨t2,hwd⟩:=Cs (st:=pst st [.cells .plain P0,.cells .plain [.list 0 0 .no false []],.cells .plain (aq p w u),.cells .plain [.list t n tk nn (L.map ai.dv)],loI st 0,.cells .plain [.yield (st.heap.length+4)]] []) (w:=w) (u:=u) hL (t:=t) (n:=n) (tk:=tk) (nn:=nn) h6
 obtain ⟨ov',fr',J',K',X,y6,tl,hJ,a1,a2,a3⟩:=V6 (st:=st) (P0:=P0) (w:=w) (u:=u) hL (t:=t) (n:=n) (tk:=tk) (nn:=nn) h6 h7 (vD p.text L p.pr.b4) (t2:=t2) (tk2:=.tight) L [] 0 0 [] [] [] (.list 0 0 .no false []) rfl (Nat.le_refl _) (Nat.le_refl _) (by simp) (ef _ _ _ _ _ _)
 simp only [List.nil_append] at a1 a2
 obtain ⟨ov2,J2,K2,hS,hA2⟩:=yM (st:=st) (P0:=P0) (P1:=aq p w u) (J:=J') (t:=t) (n:=n) (tk:=tk) (nn:=nn) (fr:=fr') hL h6 h7 (k:=L.length) (Nat.le_refl _) (by have:=hL.len;omega) a1
 refine ⟨ov2,fr',J'++J2,K2,?_,by rw [List.length_nil] at a3;rw [a3];exact hA2⟩
 rw [eL K0 rfl]
 have hV0:(L.map ai.dv).length=L.length:=by simp
 simp only [plV] at hJ
 generalize (jR p.text L p.pr.b4).map DV.bool=PL at *
 generalize L.map ai.dv=V at *
 simp only [HI] at hS hJ ⊢
 simp at hS hJ
 have hpa:takeN (aq p w u) 0 21 true=some (.agg (aq p w u)):=rfl
 simp [f131,hwd,hV0,hJ,dc,hS]
theorem Dj (hp:p.small) (hw:w.ok 4 p.aT) (hu:u.ok 1 p.marks):∃ v,(E tab).F 106 [.agg (aq p w u)] st=some (.tuple [v,.int .i64 (aF p)],st)∧Lw 8 ((if aF p=0 then db p else []).map It.dv) v:=by
 rw [bj alc rfl]
 obtain ⟨v,hb,hv⟩:=G4 (st:=pst st [.cells .plain (aq p w u)] []) hp hw hu
 by_cases h0:aF p=0
 · rw [if_pos h0] at hb hv ⊢
   obtain ⟨ov,fr,J,K,hwk,hA⟩:=Dx (st:=st) (p:=p) (w:=w) (u:=u) (Ap p) (t:=v.t) (tk:=v.tk) hv.n hv.1 (aq p w u)
   have hrf:=tQ (T:=tab) (st:=st) (H:=[.cells .plain (aq p w u),.cells .plain [.list 0 0 .no false []],.cells .plain (aq p w u),.cells .plain [.list v.t v.n v.tk v.nn ((c6 p).map ai.dv)]]) (K:=[]) (f:=.t 18) (params:=[19]) (live:=[6,18]) (assign:=.region rY [6,7]) (body:=.block 1 (.region sx []))
    (fr:=[(6,.ptr (st.heap.length+1) 0),(18,.fn 131 [] [.ptr (st.heap.length+2) 0,.ptr (st.heap.length+3) 0])]) (g:=131) (first:=[]) (captured:=[.ptr (st.heap.length+2) 0,.ptr (st.heap.length+3) 0]) rfl K0 hwk rfl (by decide)
   have h118:(E tab).F 118 [.agg (aq p w u),.list v.t v.n v.tk v.nn ((c6 p).map ai.dv)] (pst st [.cells .plain (aq p w u),.cells .plain [.list 0 0 .no false []]] [])=some (.fn 131 [] [.ptr (st.heap.length+2) 0,.ptr (st.heap.length+3) 0],pst st [.cells .plain (aq p w u),.cells .plain [.list 0 0 .no false []],.cells .plain (aq p w u),.cells .plain [.list v.t v.n v.tk v.nn ((c6 p).map ai.dv)]] []):=by
    rw [eL agy rfl]
    simp [f118]
   have hA':=sN (st':=pst st ((HI st (aq p w u) (aq p w u) ov (.list v.t v.n v.tk v.nn ((c6 p).map ai.dv)) fr 0 J).set 4 (loI st 3)) K) hA
   obtain ⟨t',n',tk',nn',e1,e2,e3,e4⟩:=hA'
   refine ⟨.list t' n' tk' nn' ((db p).map It.dv),?_,.list _ _ _ _ e3 e2⟩
   obtain ⟨q1,q2,q3,q4,rfl⟩:=eo hA
   rw [h0] at hb ⊢
   have e1':bR st (pst st ((HI st (aq p w u) (aq p w u) (.list q1 q2 q3 q4 ((bW p.text (c6 p) (jR p.text (c6 p) p.pr.b4) 0 0 0 (c6 p)).map It.dv)) (.list v.t v.n v.tk v.nn ((c6 p).map ai.dv)) fr 0 J).set 4 (loI st 3)) K) (.list q1 q2 q3 q4 ((bW p.text (c6 p) (jR p.text (c6 p) p.pr.b4) 0 0 0 (c6 p)).map It.dv))=_:=e1
   unfold db
   generalize (bW p.text (c6 p) (jR p.text (c6 p) p.pr.b4) 0 0 0 (c6 p)).map It.dv=X at *
   generalize (c6 p).map ai.dv=V at *
   simp only [HI] at hrf e1'
   simp only [loI] at hrf e1'
   simp at hrf e1'
   simp [f106,hb,h118,hrf,e1']
 · rw [if_neg h0] at hb hv ⊢
   refine ⟨.list 0 0 .no false [],?_,.list _ _ _ _ (fun h=>by cases h) (fun _=>rfl)⟩
   simp at hb
   simp [f106,hb,h0]
end
section
variable {st:St}
end
section
variable {st:St} {p:bq} {w u:LW}
end
section
variable {st:St}
end
section
variable {st:St}
theorem pM {n:Nat} {xs:List DV} {v:DV} (h:Lw n xs v):∃ t n' tk nn,v=.list t n' tk nn xs∧(xs≠[]→n'=n)∧(nn=true→n'=n)∧(nn=false→xs=[]):=by
 cases h with
 | list t n' tk nn h1 h2=>exact ⟨t,n',tk,nn,rfl,fun hx=>h1 (by cases nn with | true=>rfl | false=>exact absurd (h2 rfl) hx),h1,h2⟩
end
theorem alu:tab 234=some (.code f234):=by kernel_rfl
theorem ahN:tab 211=some (.code f211):=by kernel_rfl
theorem anT (x y:Int):ee l5 [.int .i64 x,.int .i64 y]=some (.int .i64 (min x y)):=by
 have:(if y<x then y else x)=min x y:=by split<;>omega
 simp [ee,l5,this]
def n7 (p:bq):Int:=if fe p=true then wd (bAt p.text 0) (min (p.pr.size*p.pr.drop) 64)+4 else 0
theorem dh {p:bq} (h:aF p=0):1≤p.pr.size∧p.pr.size≤64∧0≤p.pr.drop∧p.pr.drop≤4∧0≤p.pr.align∧p.pr.align≤3∧p.text.length≤4096:=by
 obtain ⟨h1,_,_,hpr,_⟩:=da h
 have:=(fc h1).1
 simp only [cM,fb,Bool.and_eq_true,decide_eq_true_eq] at hpr
 omega
theorem kV {p:bq} (h:fe p=true):aF p=0∧0<p.text.length∧0<(aK p).length:=by
 simp only [fe,Bool.and_eq_true,decide_eq_true_eq] at h
 have h0:aF p=0:=by
  refine Classical.byContradiction fun hc => ?_
  have:aK p=[]:=by unfold aK;rw [if_neg hc]
  rw [this] at h;simp at h
 have hm:=(mU p).at_ ((aK p)[0]'h.2.1) (List.getElem_mem _)
 exact ⟨h0,by omega,h.2.1⟩
theorem EL (p:bq):0≤n7 p∧n7 p≤68∧(fe p=true→4≤n7 p):=by
 unfold n7
 by_cases h:fe p=true
 · have hc:=dh (kV h).1
   have h2:2≤p.pr.drop:=by simp only [fe,Bool.and_eq_true,decide_eq_true_eq] at h;exact h.1
   have hm:(2:Int)≤p.pr.size*p.pr.drop:=by
    have:=Int.mul_le_mul hc.1 h2 (by omega) (by omega);omega
   have h1:1≤min (p.pr.size*p.pr.drop) 64:=by omega
   have h3:min (p.pr.size*p.pr.drop) 64≤64:=by omega
   have:=rp (bAt p.text 0) h1 h3
   rw [if_pos h];omega
 · rw [if_neg h];exact ⟨by omega,by omega,fun e=>absurd e h⟩
section
variable {st:St} {p:bq} {w u:LW}
theorem w8 {t n:Nat} {tk:Tk} {nn:Bool} (h6:aK p≠[]→n=6):(E tab).F 234 [.agg (aq p w u),.list t n tk nn ((aK p).map ai.dv)] st=some (.int .i64 (n7 p),st):=by
 rw [bj alu rfl]
 have hV0:((aK p).map ai.dv).length=(aK p).length:=by simp
 have hpd:=Bc (p:=p) (w:=w) (u:=u)
 unfold n7
 by_cases h1:2≤p.pr.drop
 · have h1':¬ p.pr.drop<2:=by omega
   by_cases h2:0<(aK p).length
   · have h2':¬ ((aK p).length:Int)=0:=by omega
     have h2b:¬ aK p=[]:=by intro e;rw [e] at h2;simp at h2
     obtain rfl:=h6 h2b
     have g0:=rh (L:=aK p) h2
     have l0:0<((aK p).map ai.dv).length:=by simpa using h2
     by_cases h3:((aK p).getD 0 mz).k=1
     · have hb:fe p=true:=by simp only [fe,h1,h2,h3,decide_true,Bool.true_and,beq_self_eq_true]
       rw [if_pos hb]
       obtain ⟨h0,ht,_⟩:=kV hb
       have hc:=dh h0
       have hm:(2:Int)≤p.pr.size*p.pr.drop∧p.pr.size*p.pr.drop≤256:=by
        have a:=Int.mul_le_mul hc.1 h1 (by omega) (by omega)
        have b:=Int.mul_le_mul hc.2.1 hc.2.2.2.1 hc.2.2.1 (by omega)
        omega
       have hm1:1≤min (p.pr.size*p.pr.drop) 64:=by omega
       have hm3:min (p.pr.size*p.pr.drop) 64≤64:=by omega
       have hww:=rp (bAt p.text 0) hm1 hm3
       have hmin:=anT (p.pr.size*p.pr.drop) 64
       have hsl:cN true 1 (.str p.text) none (some (.int .i64 1)) none=some (.str (p.text.take 1)):=by rw [Bz (by omega) (by omega)];simp
       have hW:∀ st,(E tab).F 17 [.str (p.text.take 1),.int .i64 (min (p.pr.size*p.pr.drop) 64)] st=some (.tuple [.int .i64 (wd (bAt p.text 0) (min (p.pr.size*p.pr.drop) 64)),.int .i64 0],st):=by
        intro st
        have e:p.text.take 1=[bAt p.text 0]:=by
         cases hs:p.text with
         | nil=>rw [hs] at ht;simp at ht
         | cons a r=>simp [bAt]
        rw [tn,e]
        have hw:IntKind.i64.wrap (wd (bAt p.text 0) (min (p.pr.size*p.pr.drop) 64))=wd (bAt p.text 0) (min (p.pr.size*p.pr.drop) 64):=aN (by omega)
        simp only [eP]
        rw [if_pos ⟨hm1,hm3⟩]
        simp [tw,hw]
       have hw2:IntKind.i64.wrap (p.pr.size*p.pr.drop)=p.pr.size*p.pr.drop:=aN (by omega)
       have hw3:IntKind.i64.wrap (wd (bAt p.text 0) (min (p.pr.size*p.pr.drop) 64)+4)=wd (bAt p.text 0) (min (p.pr.size*p.pr.drop) 64)+4:=aN (by omega)
       generalize (aK p).getD 0 mz=m at *
       generalize (aK p).map ai.dv=V at *
       have g0':V[0]'l0=m.dv:=by rw [List.getElem?_eq_getElem l0] at g0;exact Option.some.inj g0
       generalize wd (bAt p.text 0) (min (p.pr.size*p.pr.drop) 64)=W at *
       have ht1:(1:Int)≤p.text.length:=by omega
       simp [f234,hpd,h1',hV0,h2b,h2',g0,g0',l0,ai.dv,ai.cs,h3,hw2,hw3,hW,hsl,hmin]
     · have hb:¬ fe p=true:=by
        simp only [fe,Bool.and_eq_true]
        rintro ⟨_,_,h⟩
        exact h3 (by simpa using h)
       rw [if_neg hb]
       generalize (aK p).getD 0 mz=m at *
       generalize (aK p).map ai.dv=V at *
       have g0':V[0]'l0=m.dv:=by rw [List.getElem?_eq_getElem l0] at g0;exact Option.some.inj g0
       simp [f234,hpd,h1',hV0,h2b,h2',g0,g0',l0,ai.dv,ai.cs,h3]
   · have h2':aK p=[]:=List.length_eq_zero_iff.1 (by omega)
     have hb:¬ fe p=true:=by simp [fe,h2']
     rw [if_neg hb,h2']
     simp [f234,hpd,h1']
 · have h1':p.pr.drop<2:=by omega
   have hb:¬ fe p=true:=by simp only [fe,Bool.and_eq_true,decide_eq_true_eq];rintro ⟨h,_⟩;exact h1 h
   rw [if_neg hb]
   generalize (aK p).map ai.dv=V at *
   simp [f234,hpd,h1']
theorem Gr (hp:p.small) (hw:w.ok 4 p.aT) (hu:u.ok 1 p.marks):(E tab).F 211 [.agg (aq p w u)] st=some (.tuple [.int .i64 (n7 p),.int .i64 (aF p)],st):=by
 rw [bj ahN rfl]
 obtain ⟨_,hm,v,rfl,hv⟩:=ua p hp w u hw hu (pst st [.cells .plain (aq p w u)] [])
 have hc:=fun st=>w8 (st:=st) (p:=p) (w:=w) (u:=u) (t:=v.t) (tk:=v.tk) (nn:=v.nn) hv.n
 by_cases h0:aF p=0
 · generalize (aK p).map ai.dv=V at *
   simp [f211,hm,h0,hc]
 · have hb:¬ fe p=true:=fun h=>h0 (kV h).1
   have hcp:n7 p=0:=by unfold n7;rw [if_neg hb]
   generalize (aK p).map ai.dv=V at *
   simp [f211,hm,h0,hcp]
structure Ln where
 f:Int
 t:Int
 x:Int
 w:Int
 n:Int
 h:Bool
 g:Int
def Ln.cs (l:Ln):List DV:=[.int .i64 l.f,.int .i64 l.t,.int .i64 l.x,.int .i64 l.w,.int .i64 l.n,.bool l.h,.int .i64 l.g]
def Ln.dv (l:Ln):DV:=.agg l.cs
end
section
variable {st:St} {l:List It} {v:DV} {H:List HO} {K:List Nat}
end
theorem ago:tab 322=some (.code AJ):=by kernel_rfl
def iL:List It→Int
 | []=>0
 | x::r=>x.s+iL r
def je:List It→Int
 | []=>0
 | x::r=>x.h+je r
theorem uP:∀ a b,iL (a++b)=iL a+iL b
 | [],b=>by simp [iL]
 | x::a,b=>by simp only [List.cons_append,iL,uP a b];omega
theorem u2:∀ a b,je (a++b)=je a+je b
 | [],b=>by simp [je]
 | x::a,b=>by simp only [List.cons_append,je,u2 a b];omega
def okS (l:List It):Prop:=∀ x∈l,0≤x.s∧x.s≤4095∧0≤x.h∧x.h≤4095
theorem YB {l:List It} (h:bI l=0):okS l:=by
 unfold bI at h
 split at h
 · omega
 · split at h
   · omega
   · rename_i h2
     intro x hx
     rw [Bool.not_eq_true,List.any_eq_false] at h2
     have:=h2 x hx
     simp [lO,Aw,bH] at this
     omega
theorem B0:∀ {l:List It},okS l→0≤iL l∧iL l≤4095*l.length∧0≤je l∧je l≤4095*l.length
 | [],_=>by simp [iL,je]
 | x::r,h=>by
   have h1:=h x (List.mem_cons_self ..)
   have h2:=B0 (l:=r) fun y hy=>h y (List.mem_cons_of_mem _ hy)
   simp only [iL,je,List.length_cons]
   omega
def yR (l:List It) (a b:Int):DV:=
 if dE l a b≠0 then .tuple [.int .i64 0,.int .i64 0,.int .i64 (dE l a b)]
 else .tuple [.int .i64 (iL ((l.drop a.toNat).take (bm l a.toNat b.toNat-a.toNat))),.int .i64 (je ((l.drop a.toNat).take (bm l a.toNat b.toNat-a.toNat))),.int .i64 0]
section
variable {st:St} {l:List It} {v:DV}
theorem O3 (l':List It) {v':DV} (hv':Its st l' v') (hok:okS l') (hl:l'.length≤8192) (K:List Nat):∀ (r d:List It) (H:List HO),l'=d++r →
 ∃ J fr,(E tab).C tc [(10,.int .i64 (iL d)),(11,.int .i64 (je d)),(24,v'),(25,.int .i64 l'.length),(26,.int .i64 d.length)] (pst st H K) =
   some (.exit 0,[(10,.int .i64 (iL l')),(11,.int .i64 (je l'))]++fr,pst st (H++J) K):=by
 intro r
 induction r with
 | nil=>
   intro d H hd
   refine ⟨[],[(24,v'),(25,.int .i64 l'.length),(26,.int .i64 l'.length),(27,.bool false)],?_⟩
   rw [aj (L:=tc) rfl]
   simp [xN,hd]
 | cons x r ih=>
   intro d H hd
   have h0:d.length<l'.length:=by simp [hd]
   have hx:l'[d.length]? = some x:=by simp [hd]
   have hw1:IntKind.i64.wrap ((d.length:Int)+1)=((d++[x]).length:Nat):=by rw [aN (by omega)];simp
   have e1:=fun st'=>dL hv' h0 .i64 st'
   have e2:=fun H K=>oY hv' hx H K
   simp only [It.dv,It.cs] at e2
   have hs:=B0 (l:=d++[x]) fun y hy=>hok y (by rw [hd];simp at hy ⊢;rcases hy with h | h;exact .inl h;exact .inr (.inl h))
   have hlen:(d++[x]).length≤8192:=by have:=congrArg List.length hd;simp at this ⊢;omega
   have eS:iL (d++[x])=iL d+x.s:=by rw [uP];simp [iL]
   have eH:je (d++[x])=je d+x.h:=by rw [u2];simp [je]
   have w2:IntKind.i64.wrap (iL d+x.s)=iL (d++[x]):=by rw [eS,aN (by omega)]
   have w3:IntKind.i64.wrap (je d+x.h)=je (d++[x]):=by rw [eH,aN (by omega)]
   obtain ⟨J,fr,hJ⟩:=ih (d++[x]) (H++[.cells .plain x.cs]) (by simp [hd])
   refine ⟨.cells .plain x.cs::J,fr,?_⟩
   simp only [List.length_append,List.length_singleton] at hJ hw1
   simp [It.cs] at hJ
   rw [aj (L:=tc) rfl]
   simp [xN,h0,e1,e2,It.cs,hw1,w2,w3,hJ]
theorem Et (hv:Its st l v) (a b:Int):(E tab).F 322 [v,.int .i64 a,.int .i64 b] st=some (yR l a b,st):=by
 rw [bj ago rfl]
 have e0:=fun st'=>cO hv st'
 have e1:=qP (hv.inn [] []) a b
 unfold yR
 by_cases h1:dE l a b=0
 · obtain ⟨h3,h4,h5,h6⟩:=lD h1
   obtain ⟨hok,hlen⟩:=gX h3
   have hok2:=YB h3
   obtain ⟨A,rfl⟩:=Int.eq_ofNat_of_zero_le h4
   obtain ⟨B,rfl⟩:=Int.eq_ofNat_of_zero_le (show 0≤b by omega)
   obtain ⟨v',et,hv'⟩:=ou (hv.inn [] []) (by omega) A B (by omega) (by omega)
   have hv':=Vw.out hv'
   have hlt:=lQ l A B
   have hok':okS ((l.drop A).take (bm l A B-A)):=fun y hy=>hok2 y (List.mem_of_mem_drop (List.mem_of_mem_take hy))
   have hlen':((l.drop A).take (bm l A B-A)).length≤8192:=by simp;omega
   obtain ⟨J,fr,hL⟩:=O3 _ hv' hok' hlen' [] _ [] [] rfl
   have e3:=fun st'=>cO hv' st'
   simp only [Int.toNat_natCast]
   generalize ((l.drop A).take (bm l A B-A))=l' at *
   simp [iL,je] at hL
   simp [AJ,e0,e1,e3,h1,et,hL]
 · simp [AJ,e1,h1]
end
structure Sl where
 x:Int
 w:Int
def Sl.cs (s:Sl):List DV:=[.int .i64 s.x,.int .i64 s.w]
def Sl.dv (s:Sl):DV:=.agg s.cs
theorem vL (s:Sl):dB 2 true s.dv:=⟨rfl,rfl,rfl⟩
theorem mI {l:List Sl}:∀ y∈l.map Sl.dv,dB 2 true y:=fun y hy=>by obtain ⟨x,_,rfl⟩:=List.mem_map.1 hy;exact vL x
abbrev Sls (st:St) (l:List Sl) (v:DV):Prop:=Vw st 2 true (l.map Sl.dv) v
structure Pc where
 a:Int
 b:Int
 wide:Bool
 hy:Bool
 n:Int
def Pc.cs (p:Pc):List DV:=[.int .i64 p.a,.int .i64 p.b,.bool p.wide,.bool p.hy,.int .i64 p.n]
def Pc.dv (p:Pc):DV:=.agg p.cs
theorem anb (p:Pc):dB 5 true p.dv:=⟨rfl,rfl,rfl⟩
theorem akz:tab 113=some (.code f113):=by kernel_rfl
theorem ajN:tab 114=some (.code f114):=by kernel_rfl
theorem ahG:tab 126=some (.code f126):=by kernel_rfl
theorem aiZ:tab 127=some (.code f127):=by kernel_rfl
theorem agG:tab 128=some (.code f128):=by kernel_rfl
theorem agM:tab 129=some (.code f129):=by kernel_rfl
theorem alS:tab 130=some (.code f130):=by kernel_rfl
theorem aiw:tab 140=some (.code f140):=by kernel_rfl
theorem ae9:tab 141=some (.code f141):=by kernel_rfl
theorem ajO:tab 142=some (.code f142):=by kernel_rfl
def kj (s:Sl):Bool:=bH s.x&&bH s.w
theorem MP (s:Sl) (st:St):(E tab).F 140 [s.dv] st=some (.bool (kj s),st):=by
 rw [bj aiw rfl]
 unfold kj bH
 by_cases h1:0≤s.x
 · by_cases h2:s.x≤4095
   · by_cases h3:0≤s.w
     · simp [f140,Sl.dv,Sl.cs,h1,h2,h3]
     · simp [f140,Sl.dv,Sl.cs,h1,h2,h3]
   · simp [f140,Sl.dv,Sl.cs,h1,h2]
 · simp [f140,Sl.dv,Sl.cs,h1]
def kF (l:List Sl) (rest:Sl) (n:Nat):Sl:=(l[n]?).getD rest
def aW (l:List Sl) (rest:Sl) (n:Int):Sl:=if n<0 then ⟨0,0⟩ else kF l rest n.toNat
section
variable {st:St} {l:List It} {v:DV} {sl:List Sl} {sv:DV} {rest:Sl}
theorem rK (hv:Sls st sl sv) (n:Int):(E tab).F 114 [sv,rest.dv,.int .i64 n] st=some ((aW sl rest n).dv,st):=by
 rw [bj ajN rfl]
 have e0:=fun st'=>Vw.len hv st'
 simp only [List.length_map] at e0
 unfold aW kF
 by_cases h1:n<0
 · simp [f114,Sl.dv,Sl.cs,h1]
 · obtain ⟨n,rfl⟩:=Int.eq_ofNat_of_zero_le (show 0≤n by omega)
   by_cases h2:n<sl.length
   · have hx:sl[n]? = some sl[n]:=List.getElem?_eq_getElem h2
     have e1:=fun st'=>Vw.aJ hv (i:=n) (by simpa using h2) .i64 st'
     have e2:=fun H K=>Vw.load (Vw.inn hv H K) mI rfl (i:=n) (x:=sl[n].dv) (by simp [hx])
     simp only [Sl.dv,Sl.cs] at e2
     simp [f114,Sl.dv,Sl.cs,e0,h2,e1,e2]
   · simp [f114,Sl.dv,Sl.cs,e0,h2]
def b8 (sl:List Sl) (rest:Sl):Int:=if 256<sl.length then 3 else if sl.all kj&&kj rest then 0 else 2
theorem Yc (all:List Sl) (hl:all.length≤1000) (t:Nat) (tk:Tk) (K:List Nat):∀ (r d:List Sl) (H:List HO),all=d++r →
 ∃ J fr,(E tab).C mw [(14,.list t 2 tk true (all.map Sl.dv)),(15,.int .i64 all.length),(16,.int .i64 d.length)] (pst st H K) =
   some (if r.all kj then (.exit 0,fr,pst st (H++J) K) else (.ret,[(4,.int .i64 2)],pst st (H++J) K)):=by
 intro r
 induction r with
 | nil=>
   intro d H hd
   refine ⟨[],[(14,.list t 2 tk true (all.map Sl.dv)),(15,.int .i64 all.length),(16,.int .i64 all.length),(17,.bool false)],?_⟩
   rw [aj (L:=mw) rfl]
   simp [rW,hd]
 | cons x r ih=>
   intro d H hd
   have h0:d.length<all.length:=by simp [hd]
   have hg:all[d.length]=x:=by simp [hd]
   have hw1:IntKind.i64.wrap ((d.length:Int)+1)=((d++[x]).length:Nat):=by rw [aN (by omega)];simp
   have e1:=fun st=>MP x st
   simp only [Sl.dv,Sl.cs] at e1
   rw [List.all_cons]
   cases hm:kj x with
   | false=>
     rw [hm] at e1
     refine ⟨[.cells .plain x.cs],[],?_⟩
     rw [aj (L:=mw) rfl]
     simp [rW,h0,hg,Sl.dv,Sl.cs,e1]
   | true=>
     rw [hm] at e1
     obtain ⟨J,fr,hJ⟩:=ih (d++[x]) (H++[.cells .plain x.cs]) (by simp [hd])
     refine ⟨.cells .plain x.cs::J,fr,?_⟩
     rw [Bool.true_and]
     generalize r.all kj=b at hJ ⊢
     simp only [List.length_append,List.length_singleton] at hJ hw1
     simp [Sl.cs,Sl.dv] at hJ
     rw [aj (L:=mw) rfl]
     simp [rW,h0,hg,Sl.dv,Sl.cs,e1,hw1,hJ]
theorem um (hv:Sls st sl sv):(E tab).F 126 [sv,rest.dv] st=some (.int .i64 (b8 sl rest),st):=by
 rw [bj ahG rfl]
 have e0:=fun st'=>Vw.len hv st'
 simp only [List.length_map] at e0
 unfold b8
 by_cases h:256<sl.length
 · have h':(256:Int)<sl.length:=by omega
   simp [f126,Sl.dv,Sl.cs,e0,h,h']
 have h':¬ (256:Int)<sl.length:=by omega
 have hn:=Vw.news (Vw.inn hv [.cells .plain rest.cs] [])
 simp only [List.length_map] at hn
 have hfl:=iF (n:=2) (ag:=true) (ys:=sl.map Sl.dv) mI
 have hdm:=dm hfl
 have hch:=eQ (n:=2) (ag:=true) (ys:=sl.map Sl.dv) mI
 simp only [List.length_map] at hch
 have hL:=Yc (st:=st) (sl++[rest]) (by simp;omega) st.cur (.own st.aU.length (if sl.length=0 then 0 else 1)) [if sl.length=0 then 0 else 1] (sl++[rest]) [] [.cells .plain rest.cs] rfl
 obtain ⟨J,fr,hL⟩:=hL
 have ea:((sl++[rest]).all kj)=(sl.all kj&&kj rest):=by simp
 rw [ea] at hL
 have hb1:sl.length*16≤140737488355328:=by omega
 have hb2:sl.length≤140737488355328:=by omega
 have hb3:(sl.length+1)*16≤140737488355328:=by omega
 have hb4:sl.length+1≤140737488355328:=by omega
 generalize (sl.all kj&&kj rest)=b at *
 have hreg:(E tab).C (.au wv [] [(2,[0]),(3,[0])] [14,15,16]) [(0,sv),(3,.ptr st.heap.length 0),(9,.bool false)] (pst st [.cells .plain rest.cs] []) =
  some (.normal,[(14,.list st.cur 2 (.own st.aU.length (if sl.length=0 then 0 else 1)) true ((sl++[rest]).map Sl.dv)),(15,.int .i64 (sl++[rest]).length),(16,.int .i64 0)],pst st [.cells .plain rest.cs] [if sl.length=0 then 0 else 1]):=by
  have hvi:=hv.inn [.cells .plain rest.cs] []
  by_cases hz:sl=[]
  · subst hz
    have a1:=Ax (t:=0) (n':=0) (by_:=16) (tk:=.no) (nn:=false) (ys:=[]) hvi
    have a2:=oo (st:=st) (H:=[.cells .plain rest.cs]) (K:=[]) (n:=2) (n':=0) (t:=0) (t':=st.cur) (by_:=16) (ag:=true) (tk:=.no) (tk':=.tight) (nn:=false) (xs:=[]) (ys:=[rest.dv]) (.inl rfl) (by omega) (by simp) (by simp [vL]) (by simp [az]) (by simp [az])
    simp [Sl.dv,Sl.cs] at a1 a2
    have hp4:bb (ab tab) (.append 2 true 16 (.c (.list 0 0 .no false [])) (.t 10))=true:=rfl
    simp [c9,gO,jO,jW,bb,bc,bn,chunk,Sl.dv,Sl.cs,a1,a2]
  · have hp:0<sl.length:=List.length_pos_iff.2 hz
    have hne:¬ sl.length=0:=by omega
    have a1:=A9 (t:=0) (n':=0) (by_:=16) (tk:=.no) hvi mI (by simpa using hz) (by omega) (by simp [az];omega) (by simp [az];omega)
    have a2:=s8 (st:=st) (H:=[.cells .plain rest.cs]) (K:=[0]) (n:=2) (t:=st.cur) (t':=st.cur) (by_:=16) (k:=0) (s:=0) (ag:=true) (tk':=.tight) (xs:=sl.map Sl.dv) (ys:=[rest.dv]) rfl (by omega) (by simp) (by simp [vL]) (by simp [az];omega) (by simp [az];omega)
    simp [Sl.dv,Sl.cs] at a1 a2
    have w1:((sl.length:Int)+1)=((sl.length+1:Nat):Int):=by simp
    simp [c9,gO,jO,jW,bb,bc,bn,chunk,Sl.dv,Sl.cs,a1,a2,hne,hz]
 have h0:(E tab).C (.region xY [0,3]) (bw [sv,rest.dv] 0) (pst st [] [])=some (.normal,[(0,sv),(3,.ptr st.heap.length 0)],pst st [.cells .plain rest.cs] []):=by simp [Sl.dv,Sl.cs]
 have h1:(E tab).C (.seq (.region xA [0,3,9]) (.cond (.t 9) (.seq (.region xZ [4]) .ret) .skip)) [(0,sv),(3,.ptr st.heap.length 0)] (pst st [.cells .plain rest.cs] [])=some (.normal,[(0,sv),(3,.ptr st.heap.length 0),(9,.bool false)],pst st [.cells .plain rest.cs] []):=by simp [e0,h,h']
 rw [show f126.body=(.seq (.region xY [0,3]) (.seq (.seq (.region xA [0,3,9]) (.cond (.t 9) (.seq (.region xZ [4]) .ret) .skip)) (.seq (.seq (.au wv [] [(2,[0]),(3,[0])] [14,15,16]) (.block 0 mw)) (.seq (.region A4 [4]) .ret)))) from rfl,cI,h0]
 simp only
 rw [cI,h1]
 simp only
 rw [cI,cI,hreg]
 simp only [List.length_nil] at hL
 simp only [od]
 have hL':=hL
 simp only [Int.natCast_zero] at hL'
 erw [hL']
 cases b<;>simp [f126,h]
end
structure BrS (N:Nat) (lv sv ov:DV) (rest:Sl) (G:List HO):Prop where
 r0:rowAt G 0=some (.plain,[sv])
 r1:rowAt G 1=some (.plain,rest.cs)
 r2:rowAt G 2=some (.plain,[lv,.fn 127 [] [.ptr N 0,.ptr (N+1) 0],ov])
theorem BrS.app {N:Nat} {lv sv ov:DV} {rest:Sl} {G:List HO} (h:BrS N lv sv ov rest G) (X:List HO):BrS N lv sv ov rest (G++X):=⟨eU h.r0 X,eU h.r1 X,eU h.r2 X⟩
section
variable {st:St} {l:List It} {lv sv ov:DV} {sl:List Sl} {rest:Sl} {G:List HO} {K:List Nat}
theorem IW (hs:Sls st sl sv) (hG:BrS st.heap.length lv sv ov rest G) (n:Int):(E tab).F 127 [.int .i64 n,.ptr st.heap.length 0,.ptr (st.heap.length+1) 0] (pst st G K)=some ((aW sl rest n).dv,pst st (G++[.cells .plain (aW sl rest n).cs]) K):=by
 rw [eL aiZ rfl]
 have e1:=rK (rest:=rest) (hs.inn (G++[.cells .plain [.int .i64 0,.int .i64 0]]) K) n
 have hr0:=eU hG.r0 [.cells .plain [.int .i64 0,.int .i64 0]]
 have hr1:=eU hG.r1 [.cells .plain [.int .i64 0,.int .i64 0]]
 generalize aW sl rest n=s at *
 simp only [Sl.cs,Sl.dv] at hr1 e1
 simp [f127,hr0,hr1,e1,Sl.cs,Sl.dv]
theorem z8 (hv:Its st l lv) (hl:l.length≤140737488355328) (hG:BrS st.heap.length lv sv ov rest G) (i:Nat) (hi:i≤l.length):(E tab).F 141 [.ptr (st.heap.length+2) 0,.int .i64 i] (pst st G K)=some (.bool (nw l i),pst st G K):=by
 have e0:=fun st'=>cO hv st'
 have hr:=hG.r2
 rw [eL ae9 rfl]
 unfold nw
 by_cases h:i=l.length
 · simp [f141,hr,e0,h]
 have h0:i<l.length:=by omega
 have hb:(i==l.length)=false:=by simp [h]
 have h':¬ (i:Int)=l.length:=by omega
 have hx:l[i]? = some l[i]:=List.getElem?_eq_getElem h0
 have e1:=fun st'=>dL hv h0 .i64 st'
 have e2:=fun st'=>gk hv hx (off:=0) (by omega) st'
 have e3:=fun H K=>kB hv hx H K
 rw [hx,hb]
 generalize l[i]=x at *
 by_cases k3:x.k=3
 · simp [f141,hr,e0,h,h',e1,e2,e3,k3]
 by_cases k2:x.k=2
 · by_cases hp:0<i
   · have h1:i-1<l.length:=by omega
     have hy:l[i-1]? = some l[i-1]:=List.getElem?_eq_getElem h1
     have q1:=fun st'=>dL hv h1 .i64 st'
     have q2:=fun st'=>gk hv hy (off:=0) (by omega) st'
     have q3:=fun H K=>kB hv hy H K
     have w:IntKind.i64.wrap ((i:Int)-1)=((i-1:Nat):Int):=by rw [aN (by omega)];omega
     rw [hy]
     generalize l[i-1]=y at *
     simp [f141,hr,e0,h,h',e1,e2,e3,k2,hp,w,q1,q2,q3]
   · simp [f141,hr,e0,h,h',e1,e2,e3,k2,hp]
 · simp [f141,hr,e0,h,h',e1,e2,e3,k3,k2]
theorem HY (hv:Its st l lv) (hc:bI l=0) (hG:BrS st.heap.length lv sv ov rest G) (i:Nat) (hi:i<l.length) (a:Int) (ha:0≤a∧a≤100000000000):(E tab).F 142 [.ptr (st.heap.length+2) 0,.int .i64 i,.int .i64 a] (pst st G K)=some (.int .i64 (cG a l[i]),pst st G K):=by
 have hr:=hG.r2
 obtain ⟨hok,hlen⟩:=gX hc
 rw [eL ajO rfl]
 have hx:l[i]? = some l[i]:=List.getElem?_eq_getElem hi
 have hxm:=hok _ (List.getElem_mem hi)
 have e1:=fun st'=>dL hv hi .i64 st'
 have e2:=fun st'=>gk hv hx (off:=0) (by omega) st'
 have e3:=fun H K=>kB hv hx H K
 have e4:=fun st'=>gk hv hx (off:=3) (by omega) st'
 have e5:=fun H K=>CH hv hx H K
 have hd:(l.drop i).take (i+1-i)=[l[i]]:=by rw [show i+1-i=1 by omega,List.drop_eq_getElem_cons hi];rfl
 have hs:=pV hxm ha.1
 by_cases k1:l[i].k=1
 · have w1:IntKind.i64.wrap (a+l[i].w)=cG a l[i]:=by simp only [cG,k1,true_or,if_true] at hs ⊢;exact aN (by omega)
   generalize l[i]=x at *
   simp [f142,hr,e1,e2,e3,e4,e5,k1,w1]
 by_cases k2:l[i].k=2
 · have w1:IntKind.i64.wrap (a+l[i].w)=cG a l[i]:=by simp only [cG,k2,or_true,if_true] at hs ⊢;exact aN (by omega)
   generalize l[i]=x at *
   simp [f142,hr,e1,e2,e3,e4,e5,k1,k2,w1]
 by_cases k4:l[i].k=4
 · obtain ⟨v',hsl,hv'⟩:=Vw.slice hv (by omega) oA (lo:=i) (hi:=i+1) (by omega) (by simp;omega) .i64 .i64
   have w1:IntKind.i64.wrap ((i:Int)+1)=((i+1:Nat):Int):=by rw [aN (by omega)];simp
   rw [← List.map_drop,← List.map_take,hd] at hv'
   have hc1:bI [l[i]]=0:=by
    have:l.any lO=false:=by
     unfold bI at hc
     split at hc
     · omega
     · split at hc
       · omega
       · rename_i h;simpa using h
    have ho:=List.any_eq_false.1 this _ (List.getElem_mem hi)
    simp only [Bool.not_eq_true] at ho
    simp [bI,ho]
   have eS:cG a l[i]=gC a:=by simp [cG,k4]
   have hmin:ee l5 [.int .i64 a,.int .i64 4095]=some (.int .i64 (min a 4095)):=by
    have:(if (4095:Int)<a then (4095:Int) else a)=min a 4095:=by split<;>omega
    simp [ee,l5,this]
   have hmw:bH (min a 4095)=true:=by simp [bH];omega
   have hwid:=Bj (hv'.inn G K) 0 1 (min a 4095)
   have hrg:dE [l[i]] 0 1=0:=by unfold dE;rw [if_neg (by simp),hc1]
   have hwv:J5 [l[i]] 0 1 (min a 4095)=.tuple [.int .i64 (gC (min a 4095)-min a 4095),.int .i64 0]:=by
    unfold J5
    rw [hrg,hmw]
    simp [dX,bm,kn,k4,goI,cG]
   rw [hwv] at hwid
   rw [eS]
   by_cases hm:4095<a
   · have q1:IntKind.i64.wrap (a.tdiv 48)=a/48:=IntWalk.i64_quo _ _ (by omega)
     have q2:IntKind.i64.wrap (a/48+1)=a/48+1:=aN (by omega)
     have q3:IntKind.i64.wrap ((a/48+1)*48)=gC a:=aN (by omega)
     simp at hsl w1
     simp [f142,hr,e1,e2,e3,k1,k2,k4,hsl,w1,hmin,hwid,hm,q1,q2,q3]
   · have em:min a 4095=a:=by omega
     rw [em] at hwid hmin
     have q1:IntKind.i64.wrap (a+(gC a-a))=gC a:=by rw [aN (by unfold gC;omega)];omega
     simp at hsl w1
     simp [f142,hr,e1,e2,e3,k1,k2,k4,hsl,w1,hmin,hwid,hm,q1]
 · have w1:cG a l[i]=a:=by simp [cG,k1,k2,k4]
   rw [w1]
   simp [f142,hr,e1,e2,e3,k1,k2,k4]
theorem xe (x y z:DV) (st:St):(E tab).C iW [(0,x),(1,y),(26,z)] st=(E tab).C iW [(0,x),(1,y)] st:=by
 unfold iW;rw [u1];rfl
theorem xg (hv:Its st l lv) (hl:l.length≤140737488355328) (hG:BrS st.heap.length lv sv ov rest G):∀ (f i:Nat),l.length≤i+f→i≤l.length →
 ∃ fr,(E tab).C iW [(0,.ptr (st.heap.length+2) 0),(1,.int .i64 i)] (pst st G K)=some (.exit 0,[(0,.ptr (st.heap.length+2) 0),(1,.int .i64 (cg l f i:Nat))]++fr,pst st G K):=by
 have e0:=fun st'=>cO hv st'
 have hr:=hG.r2
 intro f
 induction f with
 | zero=>
   intro i h1 h2
   obtain rfl:i=l.length:=by omega
   refine ⟨[(46,.bool false)],?_⟩
   rw [aj (L:=iW) rfl]
   simp [pH,hr,e0,cg]
 | succ f ih=>
   intro i h1 h2
   by_cases h0:i<l.length
   · have hx:l[i]? = some l[i]:=List.getElem?_eq_getElem h0
     have e1:=fun st'=>dL hv h0 .i64 st'
     have e2:=fun st'=>gk hv hx (off:=0) (by omega) st'
     have e3:=fun H K=>kB hv hx H K
     have hw1:IntKind.i64.wrap ((i:Int)+1)=(i+1:Nat):=by rw [aN (by omega)];simp
     by_cases hk:l[i].k=2
     · have eg:cg l (f+1) i=cg l f (i+1):=by simp [cg,hx,hk]
       obtain ⟨fr,hJ⟩:=ih (i+1) (by omega) (by omega)
       rw [eg]
       refine ⟨fr,?_⟩
       simp at hJ
       rw [aj (L:=iW) rfl]
       simp [pH,hr,e0,h0,e1,e2,e3,hk,hw1,hJ]
     · have eg:cg l (f+1) i=i:=by simp [cg,hx,hk]
       rw [eg]
       refine ⟨[(46,.bool false)],?_⟩
       rw [aj (L:=iW) rfl]
       simp [pH,hr,e0,h0,e1,e2,e3,hk]
   · have eg:cg l (f+1) i=i:=by simp [cg,h0]
     have h0':¬ (i:Int)<l.length:=by omega
     rw [eg]
     refine ⟨[(46,.bool false)],?_⟩
     rw [aj (L:=iW) rfl]
     simp [pH,hr,e0,h0,h0']
theorem BF (hv:Its st l lv) (hl:l.length≤140737488355328) (hG:BrS st.heap.length lv sv ov rest G) (i:Nat) (hi:i≤l.length):(E tab).F 130 [.ptr (st.heap.length+2) 0,.int .i64 i] (pst st G K)=some (.int .i64 (jk l i:Nat),pst st G K):=by
 have e0:=fun st'=>cO hv st'
 have hr:=hG.r2
 rw [eL alS rfl]
 unfold jk
 by_cases h0:i<l.length
 · have hx:l[i]? = some l[i]:=List.getElem?_eq_getElem h0
   have e1:=fun st'=>dL hv h0 .i64 st'
   have e2:=fun st'=>gk hv hx (off:=0) (by omega) st'
   have e3:=fun H K=>kB hv hx H K
   have hw1:IntKind.i64.wrap ((i:Int)+1)=(i+1:Nat):=by rw [aN (by omega)];simp
   rw [hx]
   by_cases hk:l[i].k=3
   · obtain ⟨fr,hL⟩:=xg (K:=K) hv hl hG l.length (i+1) (by omega) (by omega)
     simp at hL
     simp [f130,hr,e0,h0,e1,e2,e3,hk,hw1,xe,hL]
   · obtain ⟨fr,hL⟩:=xg (K:=K) hv hl hG l.length i (by omega) hi
     simp at hL
     simp [f130,hr,e0,h0,e1,e2,e3,hk,xe,hL]
 · obtain ⟨fr,hL⟩:=xg (K:=K) hv hl hG l.length i (by omega) hi
   simp at hL
   simp [f130,hr,e0,h0,xe,hL]
end
def qf (l:List It) (a:Nat) (X W:Int):Nat→Nat→Option Nat→Option (Nat×Bool)
 | 0,_,best=>best.map (·,false)
 | f+1,i,best=>
   if a<i∧nw l i=true then
    if W<dX l a i X then (match best with | none=>some (i,true) | some c=>some (c,false))
    else qf l a X W f (i+1) (some i)
   else qf l a X W f (i+1) best
theorem Bt (l:List It):nw l l.length=true:=by simp [nw]
theorem mD (l:List It) (a:Nat) (X W:Int) (h:a<l.length):∀ (f i:Nat) (best:Option Nat),i+f=l.length+1→(best=none→i≤l.length)→a≤i→(∀ c,best=some c→a<c∧c≤l.length)→∃ b w,qf l a X W f i best=some (b,w)∧a<b∧b≤l.length
 | 0,i,best,h1,h2,h3,h4=>by
   cases best with
   | none=>have:=h2 rfl;omega
   | some c=>exact ⟨c,false,rfl,h4 c rfl⟩
 | f+1,i,best,h1,h2,h3,h4=>by
   unfold qf
   split
   · rename_i hc
     split
     · cases best with
       | none=>exact ⟨i,true,rfl,hc.1,h2 rfl⟩
       | some c=>exact ⟨c,false,rfl,h4 c rfl⟩
     · exact mD l a X W h f (i+1) (some i) (by omega) (fun e=>by cases e) (by omega) (fun c e=>by cases e;omega)
   · rename_i hc
     refine mD l a X W h f (i+1) best (by omega) (fun e => ?_) (by omega) h4
     have:=h2 e
     by_cases hi:i=l.length
     · subst hi;exact absurd ⟨by omega,Bt l⟩ hc
     · omega
def dO:Option Nat→Int
 | none => -1
 | some c=>c
def iw (l:List It) (a:Nat) (X:Int):Option Nat→Int
 | none=>0
 | some c=>dX l a c X
def hyI (l:List It) (b:Nat):Bool:=match l[b]? with | some x=>x.y | none=>false
def fj (l:List It) (a:Nat) (s:Sl):Pc:=
 match qf l a s.x s.w (l.length+1-a) a none with
 | some (b,w)=>⟨a,b,w,hyI l b,dX l a b s.x⟩
 | none=>⟨a,-1,false,false,0⟩
section
variable {st:St} {l:List It} {lv sv ov:DV} {sl:List Sl} {rest:Sl} {G:List HO} {K:List Nat}
theorem FA (l:List It) (a:Nat) (X:Int) (i:Nat) (ha:a≤i) (hi:i<l.length) :
 goI X ((l.drop a).take (i+1-a))=cG (goI X ((l.drop a).take (i-a))) l[i] ∧
 goI X ((l.drop a).take (bm l a (i+1)-a))=(if l[i].k=2 then goI X ((l.drop a).take (bm l a i-a)) else cG (goI X ((l.drop a).take (i-a))) l[i]):=by
 have ed:(l.drop a).take (i+1-a)=(l.drop a).take (i-a)++[l[i]]:=by
  rw [show i+1-a=(i-a)+1 by omega,List.take_succ_eq_append_getElem (by simp;omega)]
  congr 2
  rw [List.getElem_drop];congr 1;omega
 have e1:goI X ((l.drop a).take (i+1-a))=cG (goI X ((l.drop a).take (i-a))) l[i]:=by rw [ed,yP];rfl
 refine ⟨e1,?_⟩
 have hx:l[i]? = some l[i]:=List.getElem?_eq_getElem hi
 by_cases hk:l[i].k=2
 · rw [if_pos hk,bm,if_pos ⟨ha,by simp [hx,hk]⟩]
 · rw [if_neg hk,bm,if_neg (by rintro ⟨_,h⟩;simp [hx] at h;exact hk h),e1]
theorem Y7 (hv:Its st l lv) (hc:bI l=0) (hG:BrS st.heap.length lv sv ov rest G) (i:Nat) (hi:i≤l.length) (w0:Int) (hw:-100000000000≤w0∧w0≤100000000000) (y1 y5 y6 y7 y8 y9 y10:DV) :
 ∃ ex,(E tab).C (.seq (.region sn [0,1,5,6,7,8,9,10,11,12,67]) (.cond (.t 67) (.region oj [0,1,5,6,7,8,9,10,11,12]) .skip)) [(0,.ptr (st.heap.length+2) 0),(1,y1),(5,y5),(6,y6),(7,y7),(8,y8),(9,y9),(10,y10),(11,.int .i64 i),(12,.int .i64 w0)] (pst st G K) =
   some (.normal,[(0,.ptr (st.heap.length+2) 0),(1,y1),(5,y5),(6,y6),(7,y7),(8,y8),(9,y9),(10,y10),(11,.int .i64 i),(12,.int .i64 (w0+kn l i))]++ex,pst st G K):=by
 have e0:=fun st'=>cO hv st'
 have hr:=hG.r2
 by_cases h0:i<l.length
 · have hx:l[i]? = some l[i]:=List.getElem?_eq_getElem h0
   have e1:=fun st'=>dL hv h0 .i64 st'
   have e2:=fun st'=>gk hv hx (off:=0) (by omega) st'
   have e3:=fun H K=>kB hv hx H K
   have e4:=fun st'=>gk hv hx (off:=3) (by omega) st'
   have e5:=fun H K=>CH hv hx H K
   have hb:=(gX hc).1 _ (List.getElem_mem h0)
   by_cases k3:l[i].k=3
   · have ep:kn l i=l[i].w:=by simp [kn,hx,k3]
     have w1:IntKind.i64.wrap (w0+l[i].w)=w0+l[i].w:=aN (by omega)
     rw [ep]
     generalize l[i]=x at *
     refine ⟨[],?_⟩
     simp [hr,e0,h0,e1,e2,e3,e4,e5,k3,w1]
   · have ep:kn l i=0:=by simp [kn,hx,k3]
     rw [ep]
     generalize l[i]=x at *
     refine ⟨[(67,.bool false)],?_⟩
     simp [hr,e0,h0,e1,e2,e3,k3]
 · have ep:kn l i=0:=by simp [kn,h0]
   rw [ep]
   refine ⟨[(67,.bool false)],?_⟩
   simp [hr,e0,h0]
theorem abj (hv:Its st l lv) (hc:bI l=0) (hG:BrS st.heap.length lv sv ov rest G) (a:Nat) (ha:a<l.length) (X W:Int) (hX:0≤X∧X≤4095) (h:Nat) (hh:rowAt G h=some (.plain,[.int .i64 X,.int .i64 W])) (i:Nat) (hi:i≤l.length) (hai:a≤i) (best:Option Nat) (y9:DV) (ex0:Fr) :
 ∃ ex,(E tab).C (.seq (.region s9 [0,1,5,6,7,8,9,10,11,45]) (.cond (.t 45) (.seq (.region sI [0,1,5,6,7,8,9,10,11,12]) (.seq (.seq (.region sn [0,1,5,6,7,8,9,10,11,12,67]) (.cond (.t 67) (.region oj [0,1,5,6,7,8,9,10,11,12]) .skip)) (.seq (.seq (.region tB [0,1,5,6,7,8,9,10,11,12,85]) (.cond (.t 85) (.seq (.seq (.region tr [0,1,5,8,9,10,11,12,89]) (.cond (.t 89) (.region sO [0,1,5,8,9,10,11,12]) .skip)) (.region tC [0,1,5,6,7,8,9,10,11,12])) .skip)) (.seq (.region so [0,1,5,6,7,8,9,10,11,95]) (.cond (.t 95) (.exit 0) .skip))))) .skip))
  ([(0,.ptr (st.heap.length+2) 0),(1,.int .i64 a),(5,.ptr (st.heap.length+h) 0),(6,.int .i64 (dO best)),(7,.int .i64 (iw l a X best)),(8,.bool false),(9,y9),(10,.int .i64 (goI X ((l.drop a).take (bm l a i-a)))),(11,.int .i64 i)]++ex0) (pst st G K) =
  some (if a<i∧nw l i=true then
   (if W<dX l a i X then (.exit 0,(match best with
       | none=>[(0,.ptr (st.heap.length+2) 0),(1,.int .i64 a),(5,.ptr (st.heap.length+h) 0),(6,.int .i64 i),(7,.int .i64 (dX l a i X)),(8,.bool true)]
       | some c=>[(0,.ptr (st.heap.length+2) 0),(1,.int .i64 a),(5,.ptr (st.heap.length+h) 0),(6,.int .i64 c),(7,.int .i64 (dX l a c X)),(8,.bool false)])++ex,pst st G K)
   else (.normal,[(0,.ptr (st.heap.length+2) 0),(1,.int .i64 a),(5,.ptr (st.heap.length+h) 0),(6,.int .i64 i),(7,.int .i64 (dX l a i X)),(8,.bool false),(9,y9),(10,.int .i64 (goI X ((l.drop a).take (bm l a i-a)))),(11,.int .i64 i)]++ex,pst st G K))
   else (.normal,[(0,.ptr (st.heap.length+2) 0),(1,.int .i64 a),(5,.ptr (st.heap.length+h) 0),(6,.int .i64 (dO best)),(7,.int .i64 (iw l a X best)),(8,.bool false),(9,y9),(10,.int .i64 (goI X ((l.drop a).take (bm l a i-a)))),(11,.int .i64 i)]++ex,pst st G K)):=by
 obtain ⟨hok,hlen⟩:=gX hc
 have hleg:=z8 (K:=K) hv (by omega) hG i hi
 by_cases h1:a<i
 · cases h2:nw l i with
   | false=>
     rw [h2] at hleg
     simp only [Bool.false_eq_true,and_false,if_false]
     refine ⟨[(45,.bool false)],?_⟩
     simp [h1,hleg]
   | true=>
     rw [h2] at hleg
     simp only [h1,and_self,if_true]
     have hp:okW ((l.drop a).take (bm l a i-a)):=fun y hy=>hok y (List.mem_of_mem_drop (List.mem_of_mem_take hy))
     have hlen':((l.drop a).take (bm l a i-a)).length≤8192:=by simp;omega
     have hg:=r7 (a:=X) hp (by omega)
     have hwid:dX l a i X=goI X ((l.drop a).take (bm l a i-a))-X+kn l i:=by unfold dX;omega
     generalize goI X ((l.drop a).take (bm l a i-a))=g at *
     obtain ⟨ex9,h9⟩:=Y7 (K:=K) hv hc hG i hi (g-X) (by omega) (.int .i64 a) (.ptr (st.heap.length+h) 0) (.int .i64 (dO best)) (.int .i64 (iw l a X best)) (.bool false) y9 (.int .i64 g)
     have w1:IntKind.i64.wrap (g-X)=g-X:=aN (by omega)
     have hr7:(E tab).C (.region s9 [0,1,5,6,7,8,9,10,11,45]) ([(0,.ptr (st.heap.length+2) 0),(1,.int .i64 a),(5,.ptr (st.heap.length+h) 0),(6,.int .i64 (dO best)),(7,.int .i64 (iw l a X best)),(8,.bool false),(9,y9),(10,.int .i64 g),(11,.int .i64 i)]++ex0) (pst st G K) =
      some (.normal,[(0,.ptr (st.heap.length+2) 0),(1,.int .i64 a),(5,.ptr (st.heap.length+h) 0),(6,.int .i64 (dO best)),(7,.int .i64 (iw l a X best)),(8,.bool false),(9,y9),(10,.int .i64 g),(11,.int .i64 i),(45,.bool true)],pst st G K):=by simp [h1,hleg]
     have hr8:(E tab).C (.region sI [0,1,5,6,7,8,9,10,11,12]) [(0,.ptr (st.heap.length+2) 0),(1,.int .i64 a),(5,.ptr (st.heap.length+h) 0),(6,.int .i64 (dO best)),(7,.int .i64 (iw l a X best)),(8,.bool false),(9,y9),(10,.int .i64 g),(11,.int .i64 i),(45,.bool true)] (pst st G K) =
      some (.normal,[(0,.ptr (st.heap.length+2) 0),(1,.int .i64 a),(5,.ptr (st.heap.length+h) 0),(6,.int .i64 (dO best)),(7,.int .i64 (iw l a X best)),(8,.bool false),(9,y9),(10,.int .i64 g),(11,.int .i64 i),(12,.int .i64 (g-X))],pst st G K):=by simp [hh,w1]
     rw [← hwid] at h9
     rw [cI,hr7]
     simp only
     rw [Rl _ _ _ _ _ true rfl]
     simp only [if_true]
     rw [cI,hr8]
     simp only
     rw [cI,h9]
     simp only
     generalize dX l a i X=w at *
     by_cases hW:W<w
     · have hW':¬ w≤W:=by omega
       simp only [hW,if_true]
       cases best with
       | none=>
         refine ⟨[(9,y9),(10,.int .i64 g),(11,.int .i64 i),(95,.bool true)],?_⟩
         simp [dO,iw,hh,hW]
       | some c=>
         refine ⟨[(9,y9),(10,.int .i64 g),(11,.int .i64 i),(95,.bool true)],?_⟩
         simp [dO,iw,hh,hW,hW']
     · have hW':w≤W:=by omega
       simp only [hW,if_false]
       cases best with
       | none=>
         refine ⟨[(95,.bool false)],?_⟩
         simp [dO,iw,hh,hW]
       | some c=>
         refine ⟨[(95,.bool false)],?_⟩
         simp [dO,iw,hh,hW,hW']
 · simp only [h1,false_and,if_false]
   refine ⟨[(45,.bool false)],?_⟩
   simp [h1]
end
section
variable {st:St} {l:List It} {lv sv ov:DV} {sl:List Sl} {rest:Sl} {G:List HO} {K:List Nat}
theorem ac8 (hv:Its st l lv) (hc:bI l=0) (hG:BrS st.heap.length lv sv ov rest G) (a:Nat) (X:Int) (hX:0≤X∧X≤4095) (i:Nat) (hi:i≤l.length) (hai:a≤i) (y1 y5 y6 y7 y8:DV) (ex:Fr) :
 ∃ ex',(E tab).C (.seq (.region yO [0,1,5,6,7,8,9,10,11,102]) (.cond (.t 102) (.seq (.region yU [0,1,5,6,7,8,9,10,11]) (.seq (.region yl [0,1,5,6,7,8,9,10,11,115]) (.cond (.t 115) (.region yv [0,1,5,6,7,8,9,10,11]) .skip))) .skip))
  ([(0,.ptr (st.heap.length+2) 0),(1,y1),(5,y5),(6,y6),(7,y7),(8,y8),(9,.int .i64 (goI X ((l.drop a).take (i-a)))),(10,.int .i64 (goI X ((l.drop a).take (bm l a i-a)))),(11,.int .i64 i)]++ex) (pst st G K) =
  some (.normal,[(0,.ptr (st.heap.length+2) 0),(1,y1),(5,y5),(6,y6),(7,y7),(8,y8),(9,.int .i64 (goI X ((l.drop a).take ((if i<l.length then i+1 else i)-a)))),(10,.int .i64 (goI X ((l.drop a).take (bm l a (if i<l.length then i+1 else i)-a)))),(11,.int .i64 i)]++ex',pst st G K):=by
 obtain ⟨hok,hlen⟩:=gX hc
 have e0:=fun st'=>cO hv st'
 have hr:=hG.r2
 by_cases h0:i<l.length
 · obtain ⟨g1,g2⟩:=FA l a X i hai h0
   simp only [h0,if_true]
   rw [g1,g2]
   have hp:okW ((l.drop a).take (i-a)):=fun y hy=>hok y (List.mem_of_mem_drop (List.mem_of_mem_take hy))
   have hlen':((l.drop a).take (i-a)).length≤8192:=by simp;omega
   have hg:=r7 (a:=X) hp (by omega)
   generalize goI X ((l.drop a).take (i-a))=g at *
   generalize goI X ((l.drop a).take (bm l a i-a))=e at *
   have hpa:=HY (K:=K) hv hc hG i h0 g (by omega)
   have hx:l[i]? = some l[i]:=List.getElem?_eq_getElem h0
   have e1:=fun st'=>dL hv h0 .i64 st'
   have e2:=fun st'=>gk hv hx (off:=0) (by omega) st'
   have e3:=fun H K=>kB hv hx H K
   generalize l[i]=x at *
   by_cases hk:x.k=2
   · refine ⟨[(115,.bool false)],?_⟩
     simp [hr,e0,h0,hpa,e1,e2,e3,hk]
   · refine ⟨[],?_⟩
     simp [hr,e0,h0,hpa,e1,e2,e3,hk]
 · simp only [h0,if_false]
   refine ⟨[(102,.bool false)],?_⟩
   simp [hr,e0,h0]
theorem aaS (hv:Its st l lv) (hc:bI l=0) (hG:BrS st.heap.length lv sv ov rest G) (a:Nat) (ha:a<l.length) (X W:Int) (hX:0≤X∧X≤4095) (h:Nat) (hh:rowAt G h=some (.plain,[.int .i64 X,.int .i64 W])) :
 ∀ (m i:Nat) (best:Option Nat) (y9 y10:DV),i+m=l.length+1→a≤i→(i≤l.length→y9=.int .i64 (goI X ((l.drop a).take (i-a)))∧y10=.int .i64 (goI X ((l.drop a).take (bm l a i-a)))) →
 ∀ b w,qf l a X W m i best=some (b,w)→∃ fr,(E tab).C iP [(0,.ptr (st.heap.length+2) 0),(1,.int .i64 a),(5,.ptr (st.heap.length+h) 0),(6,.int .i64 (dO best)),(7,.int .i64 (iw l a X best)),(8,.bool false),(9,y9),(10,y10),(11,.int .i64 i)] (pst st G K) =
   some (.exit 0,[(0,.ptr (st.heap.length+2) 0),(1,.int .i64 a),(5,.ptr (st.heap.length+h) 0),(6,.int .i64 b),(7,.int .i64 (dX l a b X)),(8,.bool w)]++fr,pst st G K):=by
 obtain ⟨hok,hlen⟩:=gX hc
 have e0:=fun st'=>cO hv st'
 have hr:=hG.r2
 intro m
 induction m with
 | zero=>
   intro i best y9 y10 hi hai hy b w ho
   have h0:¬ i≤l.length:=by omega
   cases best with
   | none=>simp [qf] at ho
   | some c=>
     simp only [qf,Option.map_some,Option.some.injEq,Prod.mk.injEq] at ho
     obtain ⟨rfl,rfl⟩:=ho
     refine ⟨[(9,y9),(10,y10),(11,.int .i64 i),(35,.bool false)],?_⟩
     rw [aj (L:=iP) rfl]
     simp [pY,hr,e0,h0,dO,iw]
 | succ m ih=>
   intro i best y9 y10 hi hai hy b w ho
   have h0:i≤l.length:=by omega
   obtain ⟨rfl,rfl⟩:=hy h0
   have hw1:IntKind.i64.wrap ((i:Int)+1)=((i+1:Nat):Int):=by rw [aN (by omega)];simp
   obtain ⟨ex,hA⟩:=abj (K:=K) hv hc hG a ha X W hX h hh i h0 hai best (.int .i64 (goI X ((l.drop a).take (i-a)))) [(35,.bool true)]
   have h6:(E tab).C (.seq (.region BW [0,1,5,6,7,8,9,10,11,35]) (.cond (.t 35) .skip (.exit 0))) (Fr.bD [(0,.ptr (st.heap.length+2) 0),(1,.int .i64 a),(5,.ptr (st.heap.length+h) 0),(6,.int .i64 (dO best)),(7,.int .i64 (iw l a X best)),(8,.bool false),(9,.int .i64 (goI X ((l.drop a).take (i-a)))),(10,.int .i64 (goI X ((l.drop a).take (bm l a i-a)))),(11,.int .i64 i)] [0,1,5,6,7,8,9,10,11]) (pst st G K) =
    some (.normal,[(0,.ptr (st.heap.length+2) 0),(1,.int .i64 a),(5,.ptr (st.heap.length+h) 0),(6,.int .i64 (dO best)),(7,.int .i64 (iw l a X best)),(8,.bool false),(9,.int .i64 (goI X ((l.drop a).take (i-a)))),(10,.int .i64 (goI X ((l.drop a).take (bm l a i-a)))),(11,.int .i64 i)]++[(35,.bool true)],pst st G K):=by simp [hr,e0,h0]
   have turn:∀ (best':Option Nat) (ex:Fr) ,(E tab).C (.seq (.region s9 [0,1,5,6,7,8,9,10,11,45]) (.cond (.t 45) (.seq (.region sI [0,1,5,6,7,8,9,10,11,12]) (.seq (.seq (.region sn [0,1,5,6,7,8,9,10,11,12,67]) (.cond (.t 67) (.region oj [0,1,5,6,7,8,9,10,11,12]) .skip)) (.seq (.seq (.region tB [0,1,5,6,7,8,9,10,11,12,85]) (.cond (.t 85) (.seq (.seq (.region tr [0,1,5,8,9,10,11,12,89]) (.cond (.t 89) (.region sO [0,1,5,8,9,10,11,12]) .skip)) (.region tC [0,1,5,6,7,8,9,10,11,12])) .skip)) (.seq (.region so [0,1,5,6,7,8,9,10,11,95]) (.cond (.t 95) (.exit 0) .skip))))) .skip)) ([(0,.ptr (st.heap.length+2) 0),(1,.int .i64 a),(5,.ptr (st.heap.length+h) 0),(6,.int .i64 (dO best)),(7,.int .i64 (iw l a X best)),(8,.bool false),(9,.int .i64 (goI X ((l.drop a).take (i-a)))),(10,.int .i64 (goI X ((l.drop a).take (bm l a i-a)))),(11,.int .i64 i)]++[(35,.bool true)]) (pst st G K) =
    some (.normal,[(0,.ptr (st.heap.length+2) 0),(1,.int .i64 a),(5,.ptr (st.heap.length+h) 0),(6,.int .i64 (dO best')),(7,.int .i64 (iw l a X best')),(8,.bool false),(9,.int .i64 (goI X ((l.drop a).take (i-a)))),(10,.int .i64 (goI X ((l.drop a).take (bm l a i-a)))),(11,.int .i64 i)]++ex,pst st G K) →
    qf l a X W m (i+1) best'=some (b,w)→∃ fr,(E tab).C iP [(0,.ptr (st.heap.length+2) 0),(1,.int .i64 a),(5,.ptr (st.heap.length+h) 0),(6,.int .i64 (dO best)),(7,.int .i64 (iw l a X best)),(8,.bool false),(9,.int .i64 (goI X ((l.drop a).take (i-a)))),(10,.int .i64 (goI X ((l.drop a).take (bm l a i-a)))),(11,.int .i64 i)] (pst st G K) =
    some (.exit 0,[(0,.ptr (st.heap.length+2) 0),(1,.int .i64 a),(5,.ptr (st.heap.length+h) 0),(6,.int .i64 b),(7,.int .i64 (dX l a b X)),(8,.bool w)]++fr,pst st G K):=by
    intro best' ex hA' ho'
    obtain ⟨ex2,hB⟩:=ac8 (K:=K) hv hc hG a X hX i h0 hai (.int .i64 a) (.ptr (st.heap.length+h) 0) (.int .i64 (dO best')) (.int .i64 (iw l a X best')) (.bool false) ex
    obtain ⟨fr,hJ⟩:=ih (i+1) best' (.int .i64 (goI X ((l.drop a).take ((if i<l.length then i+1 else i)-a)))) (.int .i64 (goI X ((l.drop a).take (bm l a (if i<l.length then i+1 else i)-a)))) (by omega) (by omega) (fun hle=>by rw [if_pos (by omega)];exact ⟨rfl,rfl⟩) b w ho'
    refine ⟨fr,?_⟩
    rw [aj (L:=iP) rfl,pY,cI,h6]
    simp only
    rw [cI,od,cI,hA']
    simp only
    rw [hB]
    simp at hJ
    simp [hw1,hJ]
   unfold qf at ho
   by_cases hle:a<i∧nw l i=true
   · rw [if_pos hle] at ho hA
     by_cases hW:W<dX l a i X
     · rw [if_pos hW] at ho hA
       cases best with
       | none=>
         simp only [Option.some.injEq,Prod.mk.injEq] at ho
         obtain ⟨rfl,rfl⟩:=ho
         refine ⟨ex,?_⟩
         rw [aj (L:=iP) rfl,pY,cI,h6]
         simp only
         rw [cI,od,cI,hA]
         simp
       | some c=>
         simp only [Option.some.injEq,Prod.mk.injEq] at ho
         obtain ⟨rfl,rfl⟩:=ho
         refine ⟨ex,?_⟩
         rw [aj (L:=iP) rfl,pY,cI,h6]
         simp only
         rw [cI,od,cI,hA]
         simp
     · rw [if_neg hW] at ho hA
       exact turn (some i) ex hA ho
   · rw [if_neg hle] at ho hA
     exact turn best ex hA ho
end
section
variable {st:St} {l:List It} {lv sv ov:DV} {sl:List Sl} {rest:Sl} {G:List HO} {K:List Nat}
def tp (N h:Nat):List al:=[
 ⟨some 14,.mv (.t 0),none⟩,
 ⟨some 15,.ak (.t 14),none⟩,
 ⟨some 16,.gd 1 (.t 15),none⟩,
 ⟨some 17,.load 1 false (.t 16),none⟩,
 ⟨some 18,.mv (.t 0),none⟩,
 ⟨some 19,.ak (.t 18),none⟩,
 ⟨some 20,.gd 2 (.t 19),none⟩,
 ⟨some 21,.load 1 false (.t 20),none⟩,
 ⟨some 22,.len .slice (.t 21),none⟩,
 ⟨some 23,.br (.t 17) [(.t 22)],none⟩,
 ⟨some 5,.got (.ptr (N+h) 0) [],none⟩,
 ⟨none,.store 2 (.t 5) (.t 23),none⟩]
theorem zG (hs:Sls st sl sv) (hG:BrS st.heap.length lv sv ov rest G) {ps:List Pc} (hA:Acc st K 5 (ps.map Pc.dv) ov) (y1:DV) :
 ∃ J,(E tab).C (.au sP [10] [] [0,1,5]) [(0,.ptr (st.heap.length+2) 0),(1,y1)] (pst st G K) =
   some (.normal,[(0,.ptr (st.heap.length+2) 0),(1,y1),(5,.ptr (st.heap.length+G.length) 0)],pst st (G++.cells .plain (aW sl rest ps.length).cs::J) K):=by
 have hr:=hG.r2
 have hG2:=hG.app [.cells .plain [.int .i64 0,.int .i64 0]]
 have hr2:=hG2.r2
 obtain ⟨t,n',tk,nn,rfl⟩:=eo hA
 have hc:=IW (K:=K) hs hG2 ps.length
 have hV:=dc (T:=tab) 127 [] [.ptr st.heap.length 0,.ptr (st.heap.length+1) 0] [.int .i64 (ps.length:Nat)] (pst st (G++[.cells .plain [.int .i64 0,.int .i64 0]]) K)
 simp only [List.nil_append,List.singleton_append] at hV
 rw [hc] at hV
 have hp:gg [(0,.ptr (st.heap.length+2) 0),(1,y1)] [10] (pst st G K) sP=some (pst st (G++[.cells .plain [.int .i64 0,.int .i64 0]]) K,tp st.heap.length G.length):=by
  simp [gg,CF,CV,bb,qt,ie,l6,tp,hr]
 refine ⟨[.cells .plain (aW sl rest ps.length).cs],?_⟩
 rw [wA hp]
 generalize aW sl rest ps.length=s at *
 simp only [Sl.cs,Sl.dv] at hV
 simp [gO,tp,bb,hr2,hV,Sl.cs]
theorem BrS.aoS {N:Nat} (h:BrS N lv sv ov rest G) (ov':DV):BrS N lv sv ov' rest (G.set 2 (.cells .plain [lv,.fn 127 [] [.ptr N 0,.ptr (N+1) 0],ov'])):=by
 have k2:=bg h.r2
 refine ⟨?_,?_,dd k2 _ _⟩
 · have:=h.r0;unfold rowAt at this ⊢;rw [List.getElem?_set_ne (by omega)];exact this
 · have:=h.r1;unfold rowAt at this ⊢;rw [List.getElem?_set_ne (by omega)];exact this
theorem H5 (hs:Sls st sl sv) (hv:Its st l lv) (hc:bI l=0) (hG:BrS st.heap.length lv sv ov rest G) {ps:List Pc} (hA:Acc st K 5 (ps.map Pc.dv) ov) (hps:ps.length≤10000) (a:Nat) (ha:a<l.length)
 (hX:0≤(aW sl rest ps.length).x∧(aW sl rest ps.length).x≤4095) :
 ∃ (b:Nat) (G':List HO) (K':List Nat) (ov':DV),a<b∧b≤l.length∧(fj l a (aW sl rest ps.length)).b=b∧(E tab).F 129 [.ptr (st.heap.length+2) 0,.int .i64 a] (pst st G K)=some (.int .i64 b,pst st G' K')∧BrS st.heap.length lv sv ov' rest G' ∧
   Acc st K' 5 ((ps++[fj l a (aW sl rest ps.length)]).map Pc.dv) ov':=by
 have e0:=fun st'=>cO hv st'
 obtain ⟨hok,hlen⟩:=gX hc
 obtain ⟨J,hH⟩:=zG hs hG hA (.int .i64 a)
 generalize hsl:aW sl rest ps.length=s at *
 obtain ⟨b,w,ho,hab,hbl⟩:=mD l a s.x s.w ha (l.length+1-a) a none (by omega) (fun _=>by omega) (Nat.le_refl _) (fun c e=>by cases e)
 have hpc:fj l a s=⟨a,b,w,hyI l b,dX l a b s.x⟩:=by unfold fj;rw [ho]
 have hG1:=hG.app (.cells .plain s.cs::J)
 have hh:rowAt (G++.cells .plain s.cs::J) G.length=some (.plain,[.int .i64 s.x,.int .i64 s.w]):=by rw [show G.length=G.length+0 from rfl,dS];rfl
 generalize hG1e:G++HO.cells .plain s.cs::J=G1 at *
 obtain ⟨fr,hL⟩:=aaS (K:=K) hv hc hG1 a ha s.x s.w hX G.length hh (l.length+1-a) a none (.int .i64 s.x) (.int .i64 s.x) (by omega) (Nat.le_refl _) (fun _=>by
  have ht:bm l a a=a:=by
   cases a with
   | zero=>rfl
   | succ k=>rw [bm,if_neg (by omega)]
  rw [ht];simp [goI]) b w ho
 have hG2:=hG1.app [.cells .plain (Pc.cs ⟨a,b,w,false,dX l a b s.x⟩)]
 have hG3:=hG1.app [.cells .plain (Pc.cs ⟨a,b,w,hyI l b,dX l a b s.x⟩)]
 obtain ⟨ov',K',hap,hA'⟩:=eY (H:=G1++[.cells .plain (Pc.cs ⟨a,b,w,hyI l b,dX l a b s.x⟩)]) (by_:=32) (ag:=true) (tk:=.tight) (t:=st.cur) (ys:=[Pc.dv ⟨a,b,w,hyI l b,dX l a b s.x⟩]) hA (by omega) (by simp) (by simp [anb]) (by simp [az];omega) (by simp [az];omega)
 refine ⟨b,(G1++[HO.cells .plain (Pc.cs ⟨a,b,w,hyI l b,dX l a b s.x⟩)]).set 2 (.cells .plain [lv,.fn 127 [] [.ptr st.heap.length 0,.ptr (st.heap.length+1) 0],ov']),K',ov',hab,hbl,by rw [hpc],?_,hG3.aoS ov',by rw [hpc];simpa using hA'⟩
 have hr2:=hG2.r2
 have hr3:=hG3.r2
 have k3:=bg hr3
 have hov:ov'.leaves=[ov']∧ov'.bh=true:=by
  rcases hA' with ⟨_,t,n',tk,rfl⟩ | ⟨k,s,rfl,_⟩<;>exact ⟨rfl,rfl⟩
 have h22:(E tab).C (.region sE [0,6,13]) [(0,.ptr (st.heap.length+2) 0),(6,.int .i64 b),(13,.ptr (st.heap.length+G1.length) 0)] (pst st (G1++[.cells .plain (Pc.cs ⟨a,b,w,false,dX l a b s.x⟩)]) K) =
  some (.normal,[(0,.ptr (st.heap.length+2) 0),(6,.int .i64 b),(13,.ptr (st.heap.length+G1.length) 0)],pst st (G1++[.cells .plain (Pc.cs ⟨a,b,w,hyI l b,dX l a b s.x⟩)]) K):=by
  by_cases hb:b<l.length
  · have hx:l[b]? = some l[b]:=List.getElem?_eq_getElem hb
    have e1:=fun st'=>dL hv hb .i64 st'
    have e2:=fun st'=>gk hv hx (off:=7) (by omega) st'
    have e3:=fun H K=>alU hv hx H K
    have eh:hyI l b=l[b].y:=by simp [hyI,hx]
    rw [eh]
    generalize l[b]=x at *
    simp only [Pc.cs] at hr2
    simp [hr2,e0,hb,e1,e2,e3,Pc.cs]
  · have eh:hyI l b=false:=by simp [hyI,hb]
    rw [eh]
    simp only [Pc.cs] at hr2
    simp [hr2,e0,hb,Pc.cs]
 have h23:(E tab).C (.au tD [] [] [6]) [(0,.ptr (st.heap.length+2) 0),(6,.int .i64 b),(13,.ptr (st.heap.length+G1.length) 0)] (pst st (G1++[.cells .plain (Pc.cs ⟨a,b,w,hyI l b,dX l a b s.x⟩)]) K) =
  some (.normal,[(6,.int .i64 b)],pst st ((G1++[HO.cells .plain (Pc.cs ⟨a,b,w,hyI l b,dX l a b s.x⟩)]).set 2 (.cells .plain [lv,.fn 127 [] [.ptr st.heap.length 0,.ptr (st.heap.length+1) 0],ov'])) K'):=by
  simp only [Pc.cs,Pc.dv] at hr3 hap k3
  simp [hr3,bc,bn,chunk,Pc.cs,hap,hov.1,hov.2]
 rw [eL agM rfl]
 have h0:(E tab).C (.region xC [0,1]) (bw [.ptr (st.heap.length+2) 0,.int .i64 a] 0) (pst st G K)=some (.normal,[(0,.ptr (st.heap.length+2) 0),(1,.int .i64 a)],pst st G K):=by simp
 have hmid:(E tab).C (.seq (.region xS [0,1,5,6,7,8]) (.seq (.region xu [0,1,5,6,7,8,9]) (.seq (.region wg [0,1,5,6,7,8,9,10]) (.seq (.region wE [0,1,5,6,7,8,9,10,11]) (.block 0 iP))))) [(0,.ptr (st.heap.length+2) 0),(1,.int .i64 a),(5,.ptr (st.heap.length+G.length) 0)] (pst st G1 K) =
  some (.normal,[(0,.ptr (st.heap.length+2) 0),(1,.int .i64 a),(5,.ptr (st.heap.length+G.length) 0),(6,.int .i64 b),(7,.int .i64 (dX l a b s.x)),(8,.bool w)]++fr,pst st G1 K):=by
  have e1:(-1:Int)=Int.negSucc 0:=rfl
  simp [dO,iw] at hL
  simp [hh,hL]
 have h21:(E tab).C (.region sf [0,6,13]) ([(0,.ptr (st.heap.length+2) 0),(1,.int .i64 a),(5,.ptr (st.heap.length+G.length) 0),(6,.int .i64 b),(7,.int .i64 (dX l a b s.x)),(8,.bool w)]++fr) (pst st G1 K) =
  some (.normal,[(0,.ptr (st.heap.length+2) 0),(6,.int .i64 b),(13,.ptr (st.heap.length+G1.length) 0)],pst st (G1++[.cells .plain (Pc.cs ⟨a,b,w,false,dX l a b s.x⟩)]) K):=by
  simp [Pc.cs]
 rw [show f129.body=(.seq (.region xC [0,1]) (.seq (.au sP [10] [] [0,1,5]) (.seq (.region xS [0,1,5,6,7,8]) (.seq (.region xu [0,1,5,6,7,8,9]) (.seq (.region wg [0,1,5,6,7,8,9,10]) (.seq (.seq (.region wE [0,1,5,6,7,8,9,10,11]) (.block 0 iP)) (.seq (.region sf [0,6,13]) (.seq (.region sE [0,6,13]) (.seq (.au tD [] [] [6]) (.seq (.region yS [4]) .ret)))))))))) from rfl,cI,h0]
 simp only
 rw [cI,hH]
 simp only
 obtain ⟨fu1,S1,m1,m2⟩:=mY hmid
 obtain ⟨fu2,S2,m3,m4⟩:=mY m2
 obtain ⟨fu3,S3,m5,m6⟩:=mY m4
 rw [cI,m1]
 simp only
 rw [cI,m3]
 simp only
 rw [cI,m5]
 simp only
 rw [cI,m6]
 simp only
 rw [cI,h21]
 simp only
 rw [cI,h22]
 simp only
 rw [cI,h23]
 simp [f129]
end
theorem jY (l:List It):∀ f i,i≤l.length→i≤cg l f i∧cg l f i≤l.length
 | 0,i,h=>⟨Nat.le_refl _,h⟩
 | f+1,i,h=>by
   unfold cg
   split
   · rename_i x hx
     have hi:=(List.getElem?_eq_some_iff.1 hx).1
     split
     · have:=jY l f (i+1) hi;omega
     · exact ⟨Nat.le_refl _,h⟩
   · exact ⟨Nat.le_refl _,h⟩
theorem Az (l:List It) (i:Nat) (h:i≤l.length):i≤jk l i∧jk l i≤l.length:=by
 unfold jk
 cases hx:l[i]? with
 | none=>exact jY l _ _ h
 | some x=>
   have hi:=(List.getElem?_eq_some_iff.1 hx).1
   simp only
   split
   · have:=jY l l.length (i+1) hi;omega
   · exact jY l _ _ h
def iJ (l:List It) (sl:List Sl) (rest:Sl):Nat→Nat→Nat→List Pc
 | 0,_,_=>[]
 | f+1,a,n=>if a<l.length then fj l a (aW sl rest n)::iJ l sl rest f (jk l (fj l a (aW sl rest n)).b.toNat) (n+1) else []
def OB (sl:List Sl) (rest:Sl):Prop:=∀ n:Nat,0≤(aW sl rest n).x∧(aW sl rest n).x≤4095∧0≤(aW sl rest n).w∧(aW sl rest n).w≤4095
theorem mh {sl:List Sl} {rest:Sl} (h:b8 sl rest=0):OB sl rest∧sl.length≤256:=by
 unfold b8 at h
 split at h
 · omega
 · split at h
   · rename_i h1 h2
     simp only [Bool.and_eq_true,List.all_eq_true] at h2
     refine ⟨fun n => ?_,by omega⟩
     have hm:kj (aW sl rest n)=true:=by
      unfold aW kF
      rw [if_neg (by omega)]
      cases hx:sl[((n:Nat):Int).toNat]? with
      | none=>exact h2.2
      | some s=>exact h2.1 s (List.mem_of_getElem? hx)
     simp [kj,bH] at hm
     omega
   · omega
section
variable {st:St} {l:List It} {lv sv ov:DV} {sl:List Sl} {rest:Sl} {G:List HO} {K:List Nat}
theorem P2 (hs:Sls st sl sv) (hv:Its st l lv) (hc:bI l=0) (hso:OB sl rest):∀ (f a:Nat) (ps:List Pc) (ov:DV) (G:List HO) (K:List Nat),l.length≤a+f→a≤l.length→ps.length≤a→BrS st.heap.length lv sv ov rest G→Acc st K 5 (ps.map Pc.dv) ov →
 ∃ G' K' ov' fr,(E tab).C pJ [(1,.int .i64 l.length),(2,.fn 129 [.ptr (st.heap.length+2) 0] []),(3,.fn 130 [.ptr (st.heap.length+2) 0] []),(8,.int .i64 a)] (pst st G K)=some (.exit 0,fr,pst st G' K') ∧
   BrS st.heap.length lv sv ov' rest G'∧Acc st K' 5 ((ps++iJ l sl rest f a ps.length).map Pc.dv) ov':=by
 obtain ⟨hok,hlen⟩:=gX hc
 intro f
 induction f with
 | zero=>
   intro a ps ov G K h1 h2 h3 hG hA
   refine ⟨G,K,ov,[(1,.int .i64 l.length),(2,.fn 129 [.ptr (st.heap.length+2) 0] []),(3,.fn 130 [.ptr (st.heap.length+2) 0] []),(8,.int .i64 a),(12,.bool false)],?_,hG,by simpa [iJ] using hA⟩
   have h0:¬ a<l.length:=by omega
   rw [aj (L:=pJ) rfl]
   simp [si,h0]
 | succ f ih=>
   intro a ps ov G K h1 h2 h3 hG hA
   by_cases h0:a<l.length
   · have hX:=hso ps.length
     obtain ⟨b,G1,K1,ov1,hab,hbl,hpb,hF,hG1,hA1⟩:=H5 hs hv hc hG hA (by omega) a h0 ⟨hX.1,hX.2.1⟩
     have hS:=BF (K:=K1) hv (by omega) hG1 b hbl
     have hbe:=Az l b hbl
     obtain ⟨G2,K2,ov2,fr,hJ,hG2,hA2⟩:=ih (jk l b) (ps++[fj l a (aW sl rest ps.length)]) ov1 G1 K1 (by omega) hbe.2 (by simp;omega) hG1 hA1
     refine ⟨G2,K2,ov2,fr,?_,hG2,?_⟩
     · have hV1:=dc (T:=tab) 129 [.ptr (st.heap.length+2) 0] [] [.int .i64 (a:Nat)] (pst st G K)
       have hV2:=dc (T:=tab) 130 [.ptr (st.heap.length+2) 0] [] [.int .i64 (b:Nat)] (pst st G1 K1)
       simp only [List.singleton_append,List.append_nil] at hV1 hV2
       rw [hF] at hV1
       rw [hS] at hV2
       rw [aj (L:=pJ) rfl]
       simp [si,h0,hV1,hV2,hJ]
     · rw [iJ,if_pos h0,hpb,Int.toNat_natCast]
       simpa using hA2
   · refine ⟨G,K,ov,[(1,.int .i64 l.length),(2,.fn 129 [.ptr (st.heap.length+2) 0] []),(3,.fn 130 [.ptr (st.heap.length+2) 0] []),(8,.int .i64 a),(12,.bool false)],?_,hG,by simpa [iJ,h0] using hA⟩
     rw [aj (L:=pJ) rfl]
     simp [si,h0]
theorem WO (hv:Its st l lv) (hl:l.length≤140737488355328) (y10:DV) (H:List HO) (K:List Nat):∀ (f i:Nat),l.length≤i+f→i≤l.length →
 ∃ fr,(E tab).C mP [(0,lv),(10,y10),(11,.int .i64 i)] (pst st H K)=some (.exit 0,[(0,lv),(10,y10),(11,.int .i64 (cg l f i:Nat))]++fr,pst st H K):=by
 have e0:=fun st'=>cO hv st'
 intro f
 induction f with
 | zero=>
   intro i h1 h2
   obtain rfl:i=l.length:=by omega
   refine ⟨[(38,.bool false)],?_⟩
   rw [aj (L:=mP) rfl]
   simp [oz,e0,cg]
 | succ f ih=>
   intro i h1 h2
   by_cases h0:i<l.length
   · have hx:l[i]? = some l[i]:=List.getElem?_eq_getElem h0
     have e1:=fun st'=>dL hv h0 .i64 st'
     have e2:=fun st'=>gk hv hx (off:=0) (by omega) st'
     have e3:=fun H K=>kB hv hx H K
     have hw1:IntKind.i64.wrap ((i:Int)+1)=(i+1:Nat):=by rw [aN (by omega)];simp
     by_cases hk:l[i].k=2
     · have eg:cg l (f+1) i=cg l f (i+1):=by simp [cg,hx,hk]
       obtain ⟨fr,hJ⟩:=ih (i+1) (by omega) (by omega)
       rw [eg]
       refine ⟨fr,?_⟩
       simp at hJ
       rw [aj (L:=mP) rfl]
       simp [oz,e0,h0,e1,e2,e3,hk,hw1,hJ]
     · have eg:cg l (f+1) i=i:=by simp [cg,hx,hk]
       rw [eg]
       refine ⟨[(38,.bool false)],?_⟩
       rw [aj (L:=mP) rfl]
       simp [oz,e0,h0,e1,e2,e3,hk]
   · have eg:cg l (f+1) i=i:=by simp [cg,h0]
     rw [eg]
     refine ⟨[(38,.bool false)],?_⟩
     rw [aj (L:=mP) rfl]
     simp [oz,e0,h0]
def fu (l:List It) (sl:List Sl) (rest:Sl):Int:=if bI l≠0 then bI l else b8 sl rest
def jj (l:List It) (sl:List Sl) (rest:Sl):List Pc:=
 if fu l sl rest≠0 then [] else if cg l l.length 0=l.length then [⟨l.length,l.length,false,false,0⟩] else iJ l sl rest l.length (cg l l.length 0) 0
theorem CW (hs:Sls st sl sv) (hv:Its st l lv):∃ v,(E tab).F 113 [lv,sv,rest.dv] st=some (.tuple [v,.int .i64 (fu l sl rest)],st)∧Lw 5 ((jj l sl rest).map Pc.dv) v:=by
 rw [bj akz rfl]
 have e0:=fun st'=>cO hv st'
 have c1:=vj (hv.inn [.cells .plain [sv],.cells .plain rest.cs] [])
 have c2:=um (rest:=rest) (hs.inn [.cells .plain [sv],.cells .plain rest.cs] [])
 have hsv:sv.leaves=[sv]∧sv.bh=true:=by cases hs<;>exact ⟨rfl,rfl⟩
 have hlv:lv.leaves=[lv]∧lv.bh=true:=by cases hv<;>exact ⟨rfl,rfl⟩
 unfold jj
 by_cases hc:bI l=0
 · have hE:fu l sl rest=b8 sl rest:=by simp [fu,hc]
   rw [hE]
   by_cases hd:b8 sl rest=0
   · obtain ⟨hok,hlen⟩:=gX hc
     obtain ⟨hso,_⟩:=mh hd
     have hG:BrS st.heap.length lv sv (.list 0 0 .no false []) rest [.cells .plain [sv],.cells .plain rest.cs,.cells .plain [lv,.fn 127 [] [.ptr st.heap.length 0,.ptr (st.heap.length+1) 0],.list 0 0 .no false []]]:=⟨rfl,rfl,rfl⟩
     obtain ⟨fr,hL0⟩:=WO hv (by omega) (.ptr (st.heap.length+2) 0) [.cells .plain [sv],.cells .plain rest.cs,.cells .plain [lv,.fn 127 [] [.ptr st.heap.length 0,.ptr (st.heap.length+1) 0],.list 0 0 .no false []]] [] l.length 0 (by omega) (by omega)
     have hg:=jY l l.length 0 (by omega)
     simp only [hd,ne_eq,not_true_eq_false,if_false]
     generalize cg l l.length 0=g at *
     by_cases hgl:g=l.length
     · simp only [hgl,if_true]
       rw [hgl] at hL0
       refine ⟨.list st.cur 5 .tight true [Pc.dv ⟨l.length,l.length,false,false,0⟩],?_,.list _ _ _ _ (fun _=>rfl) (fun e=>by cases e)⟩
       simp only [Sl.cs,Sl.dv] at c1 c2 hL0
       simp at hL0
       simp [f113,Sl.cs,Sl.dv,hsv.1,hsv.2,hlv.1,hlv.2,c1,c2,hc,hd,hL0,e0,bc,bn,chunk,Pc.dv,Pc.cs]
     · simp only [hgl,if_false]
       obtain ⟨G',K',ov',fr2,hL,hG',hA'⟩:=P2 hs hv hc hso l.length g [] (.list 0 0 .no false []) _ [] (by omega) (by omega) (by simp) hG (ef st [] 5 0 0 .no)
       obtain ⟨t,n',tk,nn,hx,hx1,hx2,_⟩:=sN (st':=pst st G' K') hA'
       have hF:(E tab).F 128 [.int .i64 g,.int .i64 l.length,.fn 129 [.ptr (st.heap.length+2) 0] [],.fn 130 [.ptr (st.heap.length+2) 0] []] (pst st [.cells .plain [sv],.cells .plain rest.cs,.cells .plain [lv,.fn 127 [] [.ptr st.heap.length 0,.ptr (st.heap.length+1) 0],.list 0 0 .no false []]] [])=some (.tuple [],pst st G' K'):=by
        rw [eL agG rfl]
        simp [f128,hL]
       have hr2:=hG'.r2
       have hgl':¬ (g:Int)=l.length:=by omega
       refine ⟨.list t n' tk nn ((iJ l sl rest l.length g 0).map Pc.dv),?_,.list _ _ _ _ (fun h=>hx2 h) (fun h=>hx1 h)⟩
       simp only [Sl.cs,Sl.dv] at c1 c2 hL0 hF
       simp at hL0 hx
       have hxA:bR st (pst st G' K') ov'=aZ st (pst st G' K') ov':=by
        rcases hA' with ⟨_,t,n',tk,rfl⟩ | ⟨k,s,rfl,_⟩<;>rfl
       simp [f113,Sl.cs,Sl.dv,hsv.1,hsv.2,hlv.1,hlv.2,c1,c2,hc,hd,hL0,e0,hgl,hgl',hF,hr2,hxA,hx]
   · simp only [ne_eq,hd,not_false_eq_true,if_true]
     refine ⟨.list 0 0 .no false [],?_,.list _ _ _ _ (fun e=>by cases e) (fun _=>rfl)⟩
     simp only [Sl.cs,Sl.dv] at c1 c2
     simp [f113,Sl.cs,Sl.dv,hsv.1,hsv.2,c1,c2,hc,hd]
 · have hE:fu l sl rest=bI l:=by simp [fu,hc]
   rw [hE]
   simp only [ne_eq,hc,not_false_eq_true,if_true]
   refine ⟨.list 0 0 .no false [],?_,.list _ _ _ _ (fun e=>by cases e) (fun _=>rfl)⟩
   simp only [Sl.cs,Sl.dv] at c1
   simp [f113,Sl.cs,Sl.dv,hsv.1,hsv.2,c1,hc]
end
section
variable {st:St} {l:List Sl} {v:DV}
end
section
variable {st:St} {l:List Sl} {v:DV} {H:List HO} {K:List Nat}
end
end Go.D.Tab
end
