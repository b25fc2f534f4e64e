import Derived.Test.YtlohmlkafemifaaGreatDoorM3
/-! Texts 4 of this claim, joined. -/
section
set_option linter.unusedSimpArgs false
set_option linter.unusedVariables false
set_option linter.unnecessarySimpa false
namespace Go.D.Tab
theorem acc_view {st:St} {H:List HO} {K:List Nat} {n by_:Nat} {ag:Bool} {xs ys:List DV} {v w:DV} (h:Acc st K n xs v) (hw:Vw (pst st H K) n ag ys w) (hn:0<n) (hy:ys≠[]) (he:∀ y∈ys,IsEl n ag y)
 (hr:(xs.length+ys.length)*by_≤roomD) (hr2:xs.length+ys.length≤roomD) :
 ∃ v' K',appendD (pst st H K) n ag by_ v w=some (v',pst st H K')∧Acc st K' n (xs++ys) v':=by
 obtain ⟨v',K',h1,h2⟩:=acc_app (H:=H) (t:=0) (tk:=.no) h hn hy he hr hr2
 refine ⟨v',K',?_,h2⟩
 rw [← h1]
 have e1:=hw.news
 have e2:newsD (pst st H K) n (.list 0 n .no true ys)=some (ys.length,flat ys):=by simp [newsD]
 unfold appendD
 rw [e1,e2]
def isS (c:UInt8):Bool:=decide (97≤c.toNat)&&decide (c.toNat≤122)
def isD (c:UInt8):Bool:=decide (48≤c.toNat)&&decide (c.toNat≤57)
def u8 (c:UInt8):DV:=.int .u8 c.toNat
def d8 (d:Nat):DV:=.int .u8 d
theorem at161:tab 161=some (.code f161):=by kernel_rfl
theorem at163:tab 163=some (.code f163):=by kernel_rfl
theorem at156:tab 156=some (.code f156):=by kernel_rfl
theorem small161 (c:UInt8) (st:St):(E tab).F 161 [.int .u8 c.toNat] st=some (.bool (isS c),st):=by
 rw [F_run at161 rfl]
 by_cases h:97≤c.toNat
 · have h':(97:Int)≤c.toNat:=by omega
   simp [f161,isS,h,h'];omega
 · have h':¬ (97:Int)≤c.toNat:=by omega
   simp [f161,isS,h,h']
theorem digit163 (c:UInt8) (st:St):(E tab).F 163 [.int .u8 c.toNat] st=some (.bool (isD c),st):=by
 rw [F_run at163 rfl]
 by_cases h:48≤c.toNat
 · have h':(48:Int)≤c.toNat:=by omega
   simp [f163,isD,h,h'];omega
 · have h':¬ (48:Int)≤c.toNat:=by omega
   simp [f163,isD,h,h']
def letL (s:List UInt8):List UInt8:=s.filter fun c => !isD c
def digs:Nat→List UInt8→List Nat
 | d,[]=>[d]
 | d,c::r=>if isD c then digs (c.toNat-48) r else d::digs 0 r
theorem digs_len:∀ (s:List UInt8) (d:Nat),(digs d s).length=(letL s).length+1
 | [],_=>rfl
 | c::r,d=>by
   have ih:=digs_len r
   by_cases h:isD c=true
   · simp [digs,letL,h] at ih ⊢;exact ih _
   · simp [digs,letL,h] at ih ⊢;exact ih _
theorem digs_dig:∀ (s:List UInt8) (d:Nat) (c:UInt8),isD c=true→digs d (s++[c])=(digs d s).set (letL s).length (c.toNat-48)
 | [],d,c,h=>by simp [digs,letL,h]
 | x::r,d,c,h=>by
   have ih:=digs_dig r
   by_cases hx:isD x=true
   · simp [digs,letL,hx] at ih ⊢;exact ih _ _ h
   · simp [digs,letL,hx] at ih ⊢;exact ih _ _ h
theorem digs_let:∀ (s:List UInt8) (d:Nat) (c:UInt8),isD c=false→digs d (s++[c])=digs d s++[0]
 | [],d,c,h=>by simp [digs,h]
 | x::r,d,c,h=>by
   have ih:=digs_let r
   by_cases hx:isD x=true
   · simp [digs,hx] at ih ⊢;exact ih _ _ h
   · simp [digs,hx] at ih ⊢;exact ih _ _ h
theorem let_dig (s:List UInt8) (c:UInt8) (h:isD c=true):letL (s++[c])=letL s:=by simp [letL,h]
theorem let_let (s:List UInt8) (c:UInt8) (h:isD c=false):letL (s++[c])=letL s++[c]:=by simp [letL,h]
def scan (n:Nat):Nat→Bool→Bool→List UInt8→Option Bool
 | _,sm,_,[]=>some sm
 | i,sm,rd,c::r=>
   if c.toNat=46 then if i≠0∧i+1≠n then none else scan n (i+1) sm true r
   else if isS c then scan n (i+1) true true r
   else if isD c&&rd then scan n (i+1) sm false r
   else none
inductive DgR (st:St) (H:List HO) (D:List Nat):DV→Prop
 | one (k:Nat) (h1:k≠1) (hr:rowAt H k=some (.plain,D.map d8)) (hl:D.length=1):DgR st H D (.hsl 1 false (st.heap.length+k) 0 D.length (some D.length))
 | more (k:Nat) (h1:k≠1) (hr:rowAt H k=some (.grown,D.map d8)):DgR st H D (.hsl 1 false (st.heap.length+k) 0 D.length none)
theorem DgR.len {st:St} {H:List HO} {D:List Nat} {v:DV} (h:DgR st H D v) (st':St):lenV st' .slice v=some (.int .i64 D.length,st'):=by cases h<;>rfl
theorem DgR.app {st:St} {H:List HO} {D:List Nat} {v:DV} (h:DgR st H D v) (X:List HO):DgR st (H++X) D v:=by
 cases h with
 | one k h1 hr hl=>exact .one k h1 (by rw [rowAt_left (rowAt_lt hr)];exact hr) hl
 | more k h1 hr=>exact .more k h1 (by rw [rowAt_left (rowAt_lt hr)];exact hr)
theorem DgR.app0 {st:St} {H:List HO} {K:List Nat} {D:List Nat} {v w:DV} {g:CK} {vs:List DV} (h:DgR st H D v) (hD:D.length≤1000) (h2:rowAt H 1=some (g,vs)) (hw:newsD (pst st H K) 1 w=some (1,[d8 0])) :
 ∃ v' H',appendD (pst st H K) 1 false 1 v w=some (v',pst st H' K)∧DgR st H' (D++[0]) v'∧rowAt H' 1=some (g,vs):=by
 have hlen:=rowAt_lt h2
 cases h with
 | one k h1 hr hl=>
   refine ⟨.hsl 1 false (st.heap.length+H.length) 0 (D++[0]).length none,H++[.cells .grown ((D++[0]).map d8)],?_,.more _ (by omega) ?_,?_⟩
   · have hc:=pst_cells st H K k
     rw [hr] at hc
     have e:(D.map d8).take 1=D.map d8:=List.take_of_length_le (by simp [hl])
     have e2:¬ (1+1≤1):=by omega
     simp only [appendD,hw,hl]
     simp [hc,roomD,e,hl]
     simp [pst]
   · have:=rowAt_right (H:=H) (X:=[.cells .grown ((D++[0]).map d8)]) 0
     simpa using this
   · rw [rowAt_left hlen];exact h2
 | more k h1 hr=>
   refine ⟨.hsl 1 false (st.heap.length+H.length) 0 (D++[0]).length none,H.set k .gone++[.cells .grown ((D++[0]).map d8)],?_,.more _ (by omega) ?_,?_⟩
   · have hc:=pst_cells st H K k
     rw [hr] at hc
     have h3:D.length+1≤140737488355328:=by omega
     simp only [appendD,hw]
     simp [hc,roomD,h3]
     simp [pst,List.set_append_right]
   · have:=rowAt_right (H:=H.set k .gone) (X:=[.cells .grown ((D++[0]).map d8)]) 0
     simpa using this
   · rw [rowAt_left (by simpa using hlen)]
     unfold rowAt at h2 ⊢
     rw [List.getElem?_set_ne h1];exact h2
theorem DgR.store {st:St} {H:List HO} {K:List Nat} {D:List Nat} {v:DV} {g:CK} {vs:List DV} (h:DgR st H D v) {j:Nat} (hj:j<D.length) (h2:rowAt H 1=some (g,vs)) (x:Nat) :
 ∃ p H',(∀ st',iaddrV st' 1 v (.int .i64 j)=some (p,st'))∧storeD (pst st H K) 1 p (d8 x)=some (pst st H' K)∧DgR st H' (D.set j x) v∧rowAt H' 1=some (g,vs):=by
 have hlen:=rowAt_lt h2
 have hs:∀ k g',k≠1→rowAt (H.set k (.cells g' ((D.set j x).map d8))) 1=some (g,vs):=by
  intro k g' h1
  unfold rowAt at h2 ⊢
  rw [List.getElem?_set_ne h1];exact h2
 have hsp:=splice_one (x:=d8 x) (vs:=D.map d8) (i:=j) (by simpa using hj)
 cases h with
 | one k h1 hr hl=>
   refine ⟨.ptr (st.heap.length+k) (0+j*1),H.set k (.cells .plain ((D.set j x).map d8)),fun st'=>by simp [hj],?_,?_,hs _ _ h1⟩
   · rw [pst_store,hr]
     simp only [Nat.zero_add,Nat.mul_one]
     rw [show (d8 x).leaves=[d8 x] from rfl,hsp,if_pos ⟨rfl,rfl,by simp;omega,rfl⟩,List.map_set]
   · have:=DgR.one (st:=st) (D:=D.set j x) k h1 (rowAt_set (rowAt_lt hr) .plain ((D.set j x).map d8)) (by simpa using hl)
     simpa using this
 | more k h1 hr=>
   refine ⟨.ptr (st.heap.length+k) (0+j*1),H.set k (.cells .grown ((D.set j x).map d8)),fun st'=>by simp [hj],?_,?_,hs _ _ h1⟩
   · rw [pst_store,hr]
     simp only [Nat.zero_add,Nat.mul_one]
     rw [show (d8 x).leaves=[d8 x] from rfl,hsp,if_pos ⟨rfl,rfl,by simp;omega,rfl⟩,List.map_set]
   · have:=DgR.more (st:=st) (D:=D.set j x) k h1 (rowAt_set (rowAt_lt hr) .grown ((D.set j x).map d8))
     simpa using this
section
variable {st:St} {s:List UInt8}
theorem L156_0 {C:List DV} (hC:C=s.map u8) (hs:s.length≤16):∀ (r d:List UInt8) (sm rd:Bool) (H:List HO) (K:List Nat) (v vd:DV),s=d++r→Acc st K 1 ((letL d).map u8) v→DgR st H (digs 0 d) vd→rowAt H 1=some (.grown,C) →
 (∀ b,scan s.length d.length sm rd r=some b→∃ H' K' v' vd' rd',(E tab).C f156L0 [(0,.str s),(5,v),(6,vd),(7,.bool sm),(8,.bool rd),(21,.hsl 1 false (st.heap.length+1) 0 s.length none),(22,.int .i64 s.length),(23,.int .i64 d.length)] (pst st H K) =
  some (.exit 0,[(0,.str s),(5,v'),(6,vd'),(7,.bool b),(8,.bool rd'),(21,.hsl 1 false (st.heap.length+1) 0 s.length none),(22,.int .i64 s.length),(23,.int .i64 s.length),(24,.bool false)],pst st H' K')∧Acc st K' 1 ((letL s).map u8) v'∧DgR st H' (digs 0 s) vd') ∧
 (scan s.length d.length sm rd r=none→∃ H' K',(E tab).C f156L0 [(0,.str s),(5,v),(6,vd),(7,.bool sm),(8,.bool rd),(21,.hsl 1 false (st.heap.length+1) 0 s.length none),(22,.int .i64 s.length),(23,.int .i64 d.length)] (pst st H K) =
  some (.ret,[(2,.str []),(3,.list 0 0 .no false []),(4,.bool false)],pst st H' K')):=by
 intro r
 induction r with
 | nil=>
   intro d sm rd H K v vd hd hv hvd h1
   obtain rfl:s=d:=by simpa using hd
   refine ⟨fun b hb => ?_,fun hb=>by simp [scan] at hb⟩
   simp only [scan,Option.some.injEq] at hb
   subst hb
   refine ⟨H,K,v,vd,rd,?_,hv,hvd⟩
   rw [C_turn (L:=f156L0) rfl]
   simp [f156B0]
 | cons c r ih=>
   intro d sm rd H K v vd hd hv hvd h1
   have h0:d.length<s.length:=by simp [hd]
   have hx:C[d.length]? = some (.int .u8 c.toNat):=by simp [hC,hd,u8]
   have hw1:IntKind.i64.wrap ((d.length:Int)+1)=((d++[c]).length:Nat):=by rw [i64w (by omega)];simp
   have hwm:IntKind.i64.wrap ((s.length:Int)-1)=(s.length:Int)-1:=i64w (by omega)
   have hd':s=(d++[c])++r:=by simp [hd]
   have hll:(letL d).length≤d.length:=List.length_filter_le _ _
   have hdl:=digs_len d 0
   have sm1:=small161 c
   have dg1:=digit163 c
   have hlet:isD c=false→∃ v' K' vd' H',appendD (pst st (H++[.cells .plain [.int .u8 c.toNat]]) K) 1 false 1 v (.hsl 1 false (st.heap.length+H.length) 0 1 (some 1))=some (v',pst st (H++[.cells .plain [.int .u8 c.toNat]]) K') ∧
    appendD (pst st (H++[.cells .plain [.int .u8 c.toNat],.cells .plain [.int .u8 0]]) K') 1 false 1 vd (.hsl 1 false (st.heap.length+(H.length+1)) 0 1 (some 1))=some (vd',pst st H' K') ∧
    Acc st K' 1 ((letL (d++[c])).map u8) v'∧DgR st H' (digs 0 (d++[c])) vd'∧rowAt H' 1=some (.grown,C):=by
    intro hc
    have hvw:Vw (pst st (H++[.cells .plain [.int .u8 c.toNat]]) K) 1 false [u8 c] (.hsl 1 false (st.heap.length+H.length) 0 1 (some 1)):=by
     have hcell:(pst st (H++[.cells .plain [.int .u8 c.toNat]]) K).cells (st.heap.length+H.length)=some (.plain,[.int .u8 c.toNat]):=by rw [pst_cells];simp
     exact Vw.hsl (xs:=[u8 c]) _ 0 1 _ _ hcell (by simp) (by simp [flat,u8,DV.leaves]) (by simp)
    obtain ⟨v',K',e1,e2⟩:=acc_view (by_:=1) hv hvw (by omega) (by simp) (fun y hy=>by simp at hy;subst hy;exact ⟨rfl,rfl,rfl⟩) (by simp [roomD];omega) (by simp [roomD];omega)
    have hr2:rowAt (H++[.cells .plain [.int .u8 c.toNat],.cells .plain [.int .u8 0]]) 1=some (.grown,C):=by rw [rowAt_left (rowAt_lt h1)];exact h1
    have hnw:newsD (pst st (H++[.cells .plain [.int .u8 c.toNat],.cells .plain [.int .u8 0]]) K') 1 (.hsl 1 false (st.heap.length+(H.length+1)) 0 1 (some 1))=some (1,[d8 0]):=by
     have hcell:(pst st (H++[.cells .plain [.int .u8 c.toNat],.cells .plain [.int .u8 0]]) K').cells (st.heap.length+(H.length+1))=some (.plain,[.int .u8 0]):=by
      rw [pst_cells];have:=rowAt_right (H:=H) (X:=[.cells .plain [.int .u8 c.toNat],.cells .plain [.int .u8 0]]) 1;simpa using this
     simp [newsD,hcell,d8]
    obtain ⟨vd',H',e3,e4,e5⟩:=(hvd.app [.cells .plain [.int .u8 c.toNat],.cells .plain [.int .u8 0]]).app0 (by omega) hr2 hnw
    refine ⟨v',K',vd',H',e1,e3,?_,?_,e5⟩
    · rw [let_let _ _ hc];simpa using e2
    · rw [digs_let _ _ _ hc];exact e4
   simp only [List.length_append,List.length_singleton] at hw1
   by_cases hdot:c.toNat=46
   · have hdi:((c.toNat:Int)=46)=True:=eq_true (by omega)
     have hcD:isD c=false:=by simp [isD,hdot]
     by_cases hbad:d.length≠0∧d.length+1≠s.length
     · have hsc:scan s.length d.length sm rd (c::r)=none:=by simp only [scan,if_pos hdot,if_pos hbad]
       refine ⟨fun b hb=>(by rw [hsc] at hb;cases hb),fun _=>⟨H,K,?_⟩⟩
       have b1:¬ ((d.length:Int)=0):=by omega
       have b2:¬ ((d.length:Int)=(s.length:Int)-1):=by omega
       have b3:¬ d=[]:=fun e=>hbad.1 (by simp [e])
       rw [C_turn (L:=f156L0) rfl]
       simp [f156B0,h0,h1,hx,hdi,hwm,b1,b2,b3]
     · have hsc:scan s.length d.length sm rd (c::r)=scan s.length (d++[c]).length sm true r:=by rw [List.length_append];simp only [scan,if_pos hdot,if_neg hbad,List.length_singleton]
       obtain ⟨v',K',vd',H',a1,a2,a3,a4,a5⟩:=hlet hcD
       obtain ⟨j1,j2⟩:=ih (d++[c]) sm true H' K' v' vd' hd' a3 a4 a5
       rw [hsc]
       simp only [List.length_append,List.length_singleton] at j1 j2 ⊢
       have fin:∀ X,(E tab).C f156L0 [(0,.str s),(5,v'),(6,vd'),(7,.bool sm),(8,.bool true),(21,.hsl 1 false (st.heap.length+1) 0 s.length none),(22,.int .i64 s.length),(23,.int .i64 (d.length+1:Nat))] (pst st H' K')=X →
        (E tab).C f156L0 [(0,.str s),(5,v),(6,vd),(7,.bool sm),(8,.bool rd),(21,.hsl 1 false (st.heap.length+1) 0 s.length none),(22,.int .i64 s.length),(23,.int .i64 d.length)] (pst st H K)=X:=by
        intro X hX
        simp at hX
        rw [C_turn (L:=f156L0) rfl]
        by_cases hz:d=[]
        · subst hz
          simp at a1 a2 hX hx h0
          have w1:IntKind.i64.wrap 1=1:=i64w (by omega)
          simp [f156B0,h0,h1,hx,hdi,w1,op_hlit,repl,fillD,splice,a1,a2,hw1,hX]
        · have hz':¬ d.length=0:=by simpa using hz
          have b2:((d.length:Int) != (s.length:Int)-1)=false:=by rw [bne_eq_false_iff_eq];omega
          simp at hw1
          simp [f156B0,h0,h1,hx,hdi,hwm,hz,b2,op_hlit,repl,fillD,splice,a1,a2,hw1,hX]
       refine ⟨fun b hb => ?_,fun hb => ?_⟩
       · obtain ⟨H2,K2,v2,vd2,rd2,hJ,q⟩:=j1 b hb
         exact ⟨H2,K2,v2,vd2,rd2,fin _ hJ,q⟩
       · obtain ⟨H2,K2,hJ⟩:=j2 hb
         exact ⟨H2,K2,fin _ hJ⟩
   have hdi:((c.toNat:Int)=46)=False:=eq_false (by omega)
   by_cases hS:isS c=true
   · have hcD:isD c=false:=by simp [isS,isD] at hS ⊢;omega
     have hsc:scan s.length d.length sm rd (c::r)=scan s.length (d++[c]).length true true r:=by rw [List.length_append];simp only [scan,if_neg hdot,if_pos hS,List.length_singleton]
     obtain ⟨v',K',vd',H',a1,a2,a3,a4,a5⟩:=hlet hcD
     obtain ⟨j1,j2⟩:=ih (d++[c]) true true H' K' v' vd' hd' a3 a4 a5
     rw [hsc]
     simp only [List.length_append,List.length_singleton] at j1 j2 ⊢
     rw [hS] at sm1
     have fin:∀ X,(E tab).C f156L0 [(0,.str s),(5,v'),(6,vd'),(7,.bool true),(8,.bool true),(21,.hsl 1 false (st.heap.length+1) 0 s.length none),(22,.int .i64 s.length),(23,.int .i64 (d.length+1:Nat))] (pst st H' K')=X →
      (E tab).C f156L0 [(0,.str s),(5,v),(6,vd),(7,.bool sm),(8,.bool rd),(21,.hsl 1 false (st.heap.length+1) 0 s.length none),(22,.int .i64 s.length),(23,.int .i64 d.length)] (pst st H K)=X:=by
      intro X hX
      simp at hX hw1
      rw [C_turn (L:=f156L0) rfl]
      simp [f156B0,h0,h1,hx,hdi,sm1,op_hlit,repl,fillD,splice,a1,a2,hw1,hX]
     refine ⟨fun b hb => ?_,fun hb => ?_⟩
     · obtain ⟨H2,K2,v2,vd2,rd2,hJ,q⟩:=j1 b hb
       exact ⟨H2,K2,v2,vd2,rd2,fin _ hJ,q⟩
     · obtain ⟨H2,K2,hJ⟩:=j2 hb
       exact ⟨H2,K2,fin _ hJ⟩
   have hS':isS c=false:=by simpa using hS
   rw [hS'] at sm1
   by_cases hD:isD c=true∧rd=true
   · obtain ⟨hcD,rfl⟩:=hD
     have hsc:scan s.length d.length sm true (c::r)=scan s.length (d++[c]).length sm false r:=by rw [List.length_append];simp only [scan,if_neg hdot,if_neg hS,hcD,Bool.and_self,if_true,List.length_singleton]
     obtain ⟨p,H',a1,a2,a3,a4⟩:=hvd.store (K:=K) (j:=(letL d).length) (by omega) h1 (c.toNat-48)
     have hlen:=hvd.len
     rw [← digs_dig _ _ _ hcD] at a3
     obtain ⟨j1,j2⟩:=ih (d++[c]) sm false H' K v vd hd' (by rw [let_dig _ _ hcD];exact hv) a3 a4
     rw [hsc]
     simp only [List.length_append,List.length_singleton] at j1 j2 ⊢
     rw [hcD] at dg1
     have hl2:IntKind.i64.wrap (((digs 0 d).length:Int)-1)=((letL d).length:Int):=by rw [i64w (by omega)];omega
     have hu8:IntKind.u8.wrap ((c.toNat:Int)-48)=((c.toNat-48:Nat):Int):=by
      have h8:c.toNat<256:=c.toNat_lt
      have h48:48≤c.toNat:=by simp [isD] at hcD;omega
      rw [IntWalk.u8_in _ ⟨by omega,by omega⟩];omega
     simp only [d8] at a2
     have fin:∀ X,(E tab).C f156L0 [(0,.str s),(5,v),(6,vd),(7,.bool sm),(8,.bool false),(21,.hsl 1 false (st.heap.length+1) 0 s.length none),(22,.int .i64 s.length),(23,.int .i64 (d.length+1:Nat))] (pst st H' K)=X →
      (E tab).C f156L0 [(0,.str s),(5,v),(6,vd),(7,.bool sm),(8,.bool true),(21,.hsl 1 false (st.heap.length+1) 0 s.length none),(22,.int .i64 s.length),(23,.int .i64 d.length)] (pst st H K)=X:=by
      intro X hX
      simp at hX hw1
      rw [C_turn (L:=f156L0) rfl]
      simp [f156B0,h0,h1,hx,hdi,sm1,dg1,hlen,hl2,hu8,a1,a2,hw1,hX]
     refine ⟨fun b hb => ?_,fun hb => ?_⟩
     · obtain ⟨H2,K2,v2,vd2,rd2,hJ,q⟩:=j1 b hb
       exact ⟨H2,K2,v2,vd2,rd2,fin _ hJ,q⟩
     · obtain ⟨H2,K2,hJ⟩:=j2 hb
       exact ⟨H2,K2,fin _ hJ⟩
   · have hsc:scan s.length d.length sm rd (c::r)=none:=by
      have:¬ (isD c&&rd)=true:=by simpa using hD
      simp only [scan,if_neg hdot,if_neg hS,if_neg this]
     refine ⟨fun b hb=>(by rw [hsc] at hb;cases hb),fun _=>⟨H,K,?_⟩⟩
     rw [C_turn (L:=f156L0) rfl]
     by_cases hcD:isD c=true
     · rw [hcD] at dg1
       have hrd:rd=false:=by cases rd<;>simp_all
       simp [f156B0,h0,h1,hx,hdi,sm1,dg1,hrd]
     · have hcD':isD c=false:=by simpa using hcD
       rw [hcD'] at dg1
       simp [f156B0,h0,h1,hx,hdi,sm1,dg1]
theorem bytes_u8:∀ l:List UInt8,bytesOfD (l.map u8)=some l
 | []=>rfl
 | c::r=>by
   have:=bytes_u8 r
   show (bytesOfD (r.map u8)).map (fun l=>UInt8.ofNat ((c.toNat:Int)).toNat::l)=_
   rw [this];simp
theorem acc_b2s {st:St} {K:List Nat} {l:List UInt8} {v:DV} (h:Acc st K 1 (l.map u8) v) (st':St):newsD st' 1 v=some (l.length,l.map u8)∧∀ s,v≠.str s:=by
 rcases h with ⟨hl,t,n',tk,rfl⟩ | ⟨k,s,rfl,hk⟩
 · have:l=[]:=by simpa using hl
   subst this;exact ⟨rfl,fun s e=>by cases e⟩
 · refine ⟨?_,fun s e=>by cases e⟩
   have:flat (l.map u8)=l.map u8:=flat_scal _ (by intro y hy;obtain ⟨c,_,rfl⟩:=List.mem_map.1 hy;exact ⟨rfl,rfl,rfl⟩)
   simp [newsD,this]
def okP (s:List UInt8):Bool:=decide (1≤s.length)&&decide (s.length≤16)&&(scan s.length 0 false true s==some true)
theorem pattern156 (s:List UInt8) (st:St):(okP s=true→∃ t tk,(E tab).F 156 [.str s] st=some (.tuple [.str (letL s),.list t 1 tk true ((digs 0 s).map d8),.bool true],st)) ∧
 (okP s=false→∃ l v,(E tab).F 156 [.str s] st=some (.tuple [.str l,v,.bool false],st)):=by
 by_cases h1:s.length<1
 · have h1':(s.length:Int)<1:=by omega
   have hz:s=[]:=by simpa using h1
   refine ⟨fun h=>by simp [okP,hz] at h,fun _=>⟨[],.list 0 0 .no false [],?_⟩⟩
   rw [F_run at156 rfl]
   subst hz
   simp [f156]
 by_cases h2:16<s.length
 · have h2':(16:Int)<s.length:=by omega
   have h1':¬ (s.length:Int)<1:=by omega
   refine ⟨fun h=>by simp [okP] at h;omega,fun _=>⟨[],.list 0 0 .no false [],?_⟩⟩
   rw [F_run at156 rfl]
   simp [f156,h1',h2']
 have h1':¬ (s.length:Int)<1:=by omega
 have h2':¬ (16:Int)<s.length:=by omega
 obtain ⟨j1,j2⟩:=L156_0 (st:=st) (s:=s) rfl (by omega) s [] false true [.cells .plain [d8 0],.cells .grown (s.map u8)] [] (.list 0 0 .no false []) (.hsl 1 false (st.heap.length+0) 0 1 (some 1)) rfl (acc_nil ..) (DgR.one (D:=[0]) 0 (by omega) rfl rfl) rfl
 simp only [d8] at j1 j2
 have hu:(fun b:UInt8=>DV.int .u8 (b.toNat:Int))=u8:=rfl
 have hok:okP s=(scan s.length 0 false true s==some true):=by
  simp only [okP]
  rw [decide_eq_true (by omega:1≤s.length),decide_eq_true (by omega:s.length≤16)];simp
 cases hsc:scan s.length 0 false true s with
 | none=>
   obtain ⟨H',K',hL⟩:=j2 hsc
   refine ⟨fun h=>(by rw [hok,hsc] at h;cases h),fun _=>⟨[],.list 0 0 .no false [],?_⟩⟩
   simp at hL
   rw [F_run at156 rfl]
   simp [f156,h1',h2',op_hlit,repl,fillD,splice,hu,hL]
 | some b=>
   obtain ⟨H',K',v',vd',rd',hL,a1,a2⟩:=j1 b hsc
   obtain ⟨b1,b2⟩:=acc_b2s a1 (pst st H' K')
   have b3:=bytes_u8 (letL s)
   have hex:∃ t tk,exportA st (pst st H' K') vd'=some (.list t 1 tk true ((digs 0 s).map d8)):=by
    have hel:∀ y∈(digs 0 s).map d8,IsEl 1 false y:=by intro y hy;obtain ⟨c,_,rfl⟩:=List.mem_map.1 hy;exact ⟨rfl,rfl,rfl⟩
    have hfl:=flat_scal _ hel
    cases a2 with
    | one k q1 hr hl=>
      have:=ex_row (st:=st) (K:=K') (cap:=some (digs 0 s).length) (n:=1) (ag:=false) (ys:=(digs 0 s).map d8) (by rw [hfl];exact hr) (by omega) (.inr rfl) hel
      simp only [List.length_map] at this
      exact ⟨_,_,this⟩
    | more k q1 hr=>
      have:=ex_row (st:=st) (K:=K') (cap:=none) (n:=1) (ag:=false) (ys:=(digs 0 s).map d8) (by rw [hfl];exact hr) (by omega) (.inr rfl) hel
      simp only [List.length_map] at this
      exact ⟨_,_,this⟩
   obtain ⟨t,tk,hex⟩:=hex
   simp at hL
   have hrun:(E tab).F 156 [.str s] st=some (.tuple [.str (letL s),.list t 1 tk true ((digs 0 s).map d8),.bool b],st):=by
    rw [F_run at156 rfl]
    simp [f156,h1',h2',op_hlit,repl,fillD,splice,hu,hL,op_b2s,b1,b3,hex]
   refine ⟨fun h => ?_,fun h => ?_⟩
   · rw [hok,hsc] at h
     obtain rfl:b=true:=by simpa using h
     exact ⟨t,tk,hrun⟩
   · rw [hok,hsc] at h
     obtain rfl:b=false:=by cases b with | false=>rfl | true=>simp at h
     exact ⟨_,_,hrun⟩
end
section
variable {s:List UInt8} {st:St}
def bareL (s:List UInt8):List UInt8:=s.filter fun c=>decide (c.toNat≠45)
def lowB (c:UInt8):UInt8:=if 65≤c.toNat∧c.toNat≤90 then UInt8.ofNat (c.toNat+32) else c
theorem lowB_up {c:UInt8} (h:65≤c.toNat∧c.toNat≤90):(lowB c).toNat=c.toNat+32:=by
 unfold lowB;rw [if_pos h]
 show (c.toNat+32)%256=_
 omega
theorem lowB_no {c:UInt8} (h:¬ (65≤c.toNat∧c.toNat≤90)):lowB c=c:=by unfold lowB;rw [if_neg h]
def allS (s:List UInt8):Bool:=s.all fun c=>isS (lowB c)
end
theorem at149:tab 149=some (.code f149):=by kernel_rfl
section
variable {s:List UInt8} {st:St}
theorem L149_0 (hs:s.length≤64) (K:List Nat):∀ (r d:List UInt8) (X:List DV),s=d++r→X=(d.map lowB++r).map u8 →
 (allS r=true→(E tab).C f149L0 [(4,.hsl 1 false st.heap.length 0 s.length none),(17,.hsl 1 false st.heap.length 0 s.length none),(18,.int .i64 s.length),(19,.int .i64 d.length)] (pst st [.cells .grown X] K) =
  some (.exit 0,[(4,.hsl 1 false st.heap.length 0 s.length none),(17,.hsl 1 false st.heap.length 0 s.length none),(18,.int .i64 s.length),(19,.int .i64 s.length),(20,.bool false)],pst st [.cells .grown ((s.map lowB).map u8)] K)) ∧
 (allS r=false→∃ X',(E tab).C f149L0 [(4,.hsl 1 false st.heap.length 0 s.length none),(17,.hsl 1 false st.heap.length 0 s.length none),(18,.int .i64 s.length),(19,.int .i64 d.length)] (pst st [.cells .grown X] K) =
  some (.ret,[(2,.str []),(3,.bool false)],pst st [.cells .grown X'] K)):=by
 intro r
 induction r with
 | nil=>
   intro d X hd hX
   obtain rfl:s=d:=by simpa using hd
   refine ⟨fun _ => ?_,fun h=>by cases h⟩
   rw [C_turn (L:=f149L0) rfl]
   simp [f149B0,hX]
 | cons c r ih=>
   intro d X hd hX
   have h0:d.length<s.length:=by simp [hd]
   have hx:X[d.length]? = some (.int .u8 c.toNat):=by simp [hX,u8]
   have hlX:X.length=s.length:=by simp [hX,hd]
   have hlt:d.length<X.length:=by omega
   have hge:X[d.length]'hlt=.int .u8 c.toNat:=by have:=hx;rw [List.getElem?_eq_getElem hlt] at this;exact Option.some.inj this
   have hw1:IntKind.i64.wrap ((d.length:Int)+1)=(d.length:Int)+1:=by rw [i64w (by omega)]
   have hsp:=splice_one (x:=.int .u8 (lowB c).toNat) (vs:=X) hlt
   have hset:X.set d.length (.int .u8 (lowB c).toNat)=((d++[c]).map lowB++r).map u8:=by
    rw [hX]
    simp [u8,List.set_append_right]
   have sm:=small161 (lowB c)
   have hall:allS (c::r)=(isS (lowB c)&&allS r):=rfl
   by_cases hA:65≤c.toNat∧c.toNat≤90
   · have a1:(65:Int)≤c.toNat:=by omega
     have a2:(c.toNat:Int)≤90:=by omega
     have a4:IntKind.u8.wrap ((c.toNat:Int)+97)=(c.toNat:Int)+97:=IntWalk.u8_in _ ⟨by omega,by omega⟩
     have a3:IntKind.u8.wrap ((c.toNat:Int)+97-65)=((lowB c).toNat:Int):=by rw [IntWalk.u8_in _ ⟨by omega,by omega⟩,lowB_up hA];omega
     have hlt2:d.length<(X.set d.length (.int .u8 (lowB c).toNat)).length:=by simpa using hlt
     have hx2:(X.set d.length (.int .u8 (lowB c).toNat))[d.length]? = some (.int .u8 (lowB c).toNat):=List.getElem?_set_self hlt
     obtain ⟨j1,j2⟩:=ih (d++[c]) (X.set d.length (.int .u8 (lowB c).toNat)) (by simp [hd]) hset
     generalize X.set d.length (.int .u8 (lowB c).toNat)=Y at *
     have hge2:Y[d.length]'hlt2=.int .u8 (lowB c).toNat:=by have:=hx2;rw [List.getElem?_eq_getElem hlt2] at this;exact Option.some.inj this
     simp only [List.length_append,List.length_singleton] at j1 j2
     simp at j1 j2
     simp only [splice,List.length_singleton] at hsp
     simp at hsp
     have hle:d.length+1≤X.length:=by omega
     by_cases hS:isS (lowB c)=true
     · rw [hS] at sm
       rw [hall,hS,Bool.true_and]
       refine ⟨fun h => ?_,fun h => ?_⟩
       · rw [C_turn (L:=f149L0) rfl]
         simp [f149B0,h0,hx,hge,hlt,hle,a1,a2,a3,a4,hsp,hx2,hge2,hlt2,sm,hw1,j1 h]
       · obtain ⟨X',hL⟩:=j2 h
         refine ⟨X',?_⟩
         rw [C_turn (L:=f149L0) rfl]
         simp [f149B0,h0,hx,hge,hlt,hle,a1,a2,a3,a4,hsp,hx2,hge2,hlt2,sm,hw1,hL]
     · have hS':isS (lowB c)=false:=by simpa using hS
       rw [hS'] at sm
       rw [hall,hS',Bool.false_and]
       refine ⟨fun h=>(by cases h),fun _=>⟨Y,?_⟩⟩
       rw [C_turn (L:=f149L0) rfl]
       simp [f149B0,h0,hx,hge,hlt,hle,a1,a2,a3,a4,hsp,hx2,hge2,hlt2,sm]
   · have hl:=lowB_no hA
     rw [hl] at sm hall
     obtain ⟨j1,j2⟩:=ih (d++[c]) X (by simp [hd]) (by rw [hX];simp [hl])
     simp only [List.length_append,List.length_singleton] at j1 j2
     simp at j1 j2
     by_cases hS:isS c=true
     · rw [hS] at sm
       rw [hall,hS,Bool.true_and]
       have a1:(65:Int)≤c.toNat:=by simp [isS] at hS;omega
       have a2:¬ (c.toNat:Int)≤90:=by omega
       refine ⟨fun h => ?_,fun h => ?_⟩
       · rw [C_turn (L:=f149L0) rfl]
         simp [f149B0,h0,hx,hge,hlt,a1,a2,sm,hw1,j1 h]
       · obtain ⟨X',hL⟩:=j2 h
         refine ⟨X',?_⟩
         rw [C_turn (L:=f149L0) rfl]
         simp [f149B0,h0,hx,hge,hlt,a1,a2,sm,hw1,hL]
     · have hS':isS c=false:=by simpa using hS
       rw [hS'] at sm
       rw [hall,hS',Bool.false_and]
       refine ⟨fun h=>(by cases h),fun _=>⟨X,?_⟩⟩
       rw [C_turn (L:=f149L0) rfl]
       by_cases a1:(65:Int)≤c.toNat
       · have a2:¬ (c.toNat:Int)≤90:=by omega
         simp [f149B0,h0,hx,hge,hlt,a1,a2,sm]
       · simp [f149B0,h0,hx,hge,hlt,a1,sm]
def okWd (s:List UInt8):Bool:=allS s&&(decide (1≤s.length)&&decide (s.length≤64))
theorem word149:(E tab).F 149 [.str s] st=some (if okWd s then .tuple [.str (s.map lowB),.bool true] else .tuple [.str [],.bool false],st):=by
 rw [F_run at149 rfl]
 by_cases h1:s.length<1
 · have h1':(s.length:Int)<1:=by omega
   have hz:s=[]:=by simpa using h1
   subst hz
   simp [f149,okWd]
 have h1':¬ (s.length:Int)<1:=by omega
 by_cases h2:64<s.length
 · have h2':(64:Int)<s.length:=by omega
   have:okWd s=false:=by simp [okWd];omega
   simp [f149,h1',h2',this]
 have h2':¬ (64:Int)<s.length:=by omega
 have hok:okWd s=allS s:=by simp [okWd];omega
 have hu:(fun b:UInt8=>DV.int .u8 (b.toNat:Int))=u8:=rfl
 obtain ⟨j1,j2⟩:=L149_0 (st:=st) (s:=s) (by omega) [] s [] (s.map u8) rfl (by simp)
 simp at j1 j2
 rw [hok]
 by_cases h:allS s=true
 · have hL:=j1 h
   have hb:=bytes_u8 (s.map lowB)
   simp at hb
   have ht:List.take s.length (List.map (u8∘lowB) s)=List.map (u8∘lowB) s:=List.take_of_length_le (by simp)
   simp [f149,h1',h2',hu,hL,h,op_b2s,newsD,ht,hb]
 · have h':allS s=false:=by simpa using h
   obtain ⟨X',hL⟩:=j2 h'
   simp [f149,h1',h2',hu,hL,h']
end
section
variable {s:List UInt8} {st:St}
end
section
variable {s:List UInt8} {st:St}
def okAll (f:Nat→UInt8→Bool):Nat→List UInt8→Bool
 | _,[]=>true
 | i,c::r=>f i c&&okAll f (i+1) r
end
theorem at158:tab 158=some (.code f158):=by kernel_rfl
def i6 (k:Nat):DV:=.int .i64 k
def plc:Nat→List UInt8→List Nat
 | _,[]=>[]
 | k,c::r=>if c.toNat=45 then k::plc k r else plc (k+1) r
theorem plc_sign:∀ (d:List UInt8) (k:Nat) (c:UInt8),c.toNat=45→plc k (d++[c])=plc k d++[k+(bareL d).length]
 | [],k,c,h=>by simp [plc,bareL,h]
 | x::r,k,c,h=>by
   by_cases hx:x.toNat=45
   · have:=plc_sign r k c h;simp [plc,bareL,hx] at this ⊢;exact this
   · have:=plc_sign r (k+1) c h;simp [plc,bareL,hx] at this ⊢;rw [this];simp;omega
theorem plc_let:∀ (d:List UInt8) (k:Nat) (c:UInt8),c.toNat≠45→plc k (d++[c])=plc k d
 | [],k,c,h=>by simp [plc,h]
 | x::r,k,c,h=>by
   by_cases hx:x.toNat=45
   · have:=plc_let r k c h;simp [plc,hx] at this ⊢;exact this
   · have:=plc_let r (k+1) c h;simp [plc,hx] at this ⊢;exact this
theorem plc_len:∀ (d:List UInt8) (k:Nat),(plc k d).length≤d.length
 | [],k=>by simp [plc]
 | x::r,k=>by
   by_cases hx:x.toNat=45
   · have:=plc_len r k;simp [plc,hx];omega
   · have:=plc_len r (k+1);simp [plc,hx];omega
theorem bare_len (d:List UInt8):(bareL d).length≤d.length:=List.length_filter_le _ _
theorem bare_sign (d:List UInt8) (c:UInt8) (h:c.toNat=45):bareL (d++[c])=bareL d:=by simp [bareL,h]
theorem bare_let (d:List UInt8) (c:UInt8) (h:c.toNat≠45):bareL (d++[c])=bareL d++[c]:=by simp [bareL,h]
def okE0 (s:List UInt8) (i:Nat) (c:UInt8):Bool:=isS c||(decide (c.toNat=45)&&decide (0<i)&&decide (i+1<s.length)&&decide ((s.getD (i-1) 0).toNat≠45))
section
variable {s:List UInt8} {st:St}
set_option maxHeartbeats 2000000 in
theorem L158_0 {C:List DV} (hC:C=s.map u8) (hs:s.length≤1000) (H:List HO):∀ (r d:List UInt8) (K:List Nat) (v1 v2:DV) (o1 o2:Option Nat),s=d++r→Ac st K 1 ((bareL d).map u8) v1 o1→Ac st K 1 ((plc 0 d).map i6) v2 o2→(∀ k,o1=some k→o2≠some k) →
 (okAll (okE0 s) d.length r=true→∃ K' w1 w2,(E tab).C f158L0 [(0,.str s),(5,v1),(6,v2),(10,.list st.cur 1 .no true C),(11,.int .i64 s.length),(12,.int .i64 d.length)] (pst st H K) =
  some (.exit 0,[(0,.str s),(5,w1),(6,w2),(10,.list st.cur 1 .no true C),(11,.int .i64 s.length),(12,.int .i64 s.length),(13,.bool false)],pst st H K')∧(∃ p1,Ac st K' 1 ((bareL s).map u8) w1 p1)∧∃ p2,Ac st K' 1 ((plc 0 s).map i6) w2 p2) ∧
 (okAll (okE0 s) d.length r=false→∃ K',(E tab).C f158L0 [(0,.str s),(5,v1),(6,v2),(10,.list st.cur 1 .no true C),(11,.int .i64 s.length),(12,.int .i64 d.length)] (pst st H K) =
  some (.ret,[(2,.str []),(3,.list 0 0 .no false []),(4,.bool false)],pst st H K')):=by
 intro r
 induction r with
 | nil=>
   intro d K v1 v2 o1 o2 hd h1 h2 hdis
   obtain rfl:s=d:=by simpa using hd
   refine ⟨fun _=>⟨K,v1,v2,?_,⟨o1,h1⟩,⟨o2,h2⟩⟩,fun h=>by cases h⟩
   rw [C_turn (L:=f158L0) rfl]
   simp [f158B0]
 | cons c r ih=>
   intro d K v1 v2 o1 o2 hd h1 h2 hdis
   have h0:d.length<s.length:=by simp [hd]
   have hx:C[d.length]? = some (.int .u8 c.toNat):=by simp [hC,hd,u8]
   have hlC:C.length=s.length:=by simp [hC]
   have hltC:d.length<C.length:=by omega
   have hgeC:C[d.length]'hltC=.int .u8 c.toNat:=by have:=hx;rw [List.getElem?_eq_getElem hltC] at this;exact Option.some.inj this
   have hw1:IntKind.i64.wrap ((d.length:Int)+1)=(d.length:Int)+1:=by rw [i64w (by omega)]
   have hwm:IntKind.i64.wrap ((s.length:Int)-1)=(s.length:Int)-1:=i64w (by omega)
   have hbl:=bare_len d
   have hpl:=plc_len d 0
   have sm:=small161 c
   have hof:okAll (okE0 s) d.length (c::r)=(okE0 s d.length c&&okAll (okE0 s) (d.length+1) r):=rfl
   obtain ⟨t1,n1,k1,m1,hv1⟩:=acc_len h1.acc
   rw [hof]
   by_cases hS:isS c=true
   · have hc45:c.toNat≠45:=by simp [isS] at hS;omega
     have hB:okE0 s d.length c=true:=by simp [okE0,hS]
     rw [hS] at sm
     obtain ⟨w1,K',k,a1,a2,a3,a4⟩:=ac_app (H:=H) (by_:=1) (ag:=false) (ys:=[u8 c]) (w:=.list st.cur 1 .tight true [u8 c]) h1 (.list _ _ _ _ (fun _=>rfl) (fun e=>by cases e)) (by omega) (by simp) (fun y hy=>by simp at hy;subst hy;exact ⟨rfl,rfl,rfl⟩) (by simp [roomD];omega) (by simp [roomD];omega)
     have hne:o2≠some k:=by
      rcases a3 with h | ⟨_,rfl⟩
      · exact hdis k h
      · intro e
        rw [e] at h2
        obtain ⟨_,_,q⟩:=h2
        have:=(List.getElem?_eq_some_iff.1 q).1
        omega
     obtain ⟨j1,j2⟩:=ih (d++[c]) K' w1 v2 (some k) o2 (by simp [hd]) (by rw [bare_let _ _ hc45];simpa using a2) (by rw [plc_let _ _ _ hc45];exact h2.stay hne a4) (fun k' e=>by cases e;exact hne)
     rw [hB,Bool.true_and]
     simp only [List.length_append,List.length_singleton] at j1 j2
     simp [u8] at j1 j2 a1
     refine ⟨fun h => ?_,fun h => ?_⟩
     · obtain ⟨K2,x1,x2,hJ,q⟩:=j1 h
       refine ⟨K2,x1,x2,?_,q⟩
       rw [C_turn (L:=f158L0) rfl]
       simp [f158B0,h0,hx,hgeC,hltC,sm,op_lit,repl,fillD,splice,chunk,a1,hw1,hJ]
     · obtain ⟨K2,hJ⟩:=j2 h
       refine ⟨K2,?_⟩
       rw [C_turn (L:=f158L0) rfl]
       simp [f158B0,h0,hx,hgeC,hltC,sm,op_lit,repl,fillD,splice,chunk,a1,hw1,hJ]
   have hS':isS c=false:=by simpa using hS
   rw [hS'] at sm
   by_cases hc:c.toNat=45
   · have hci:((c.toNat:Int)==45)=true:=by rw [beq_iff_eq];omega
     by_cases hz:d.length=0
     · have hB:okE0 s d.length c=false:=by simp [okE0,hS',hz]
       have hnp:¬ 0<d.length:=by omega
       rw [hB,Bool.false_and]
       refine ⟨fun h=>(by cases h),fun h=>⟨K,?_⟩⟩
       rw [C_turn (L:=f158L0) rfl]
       simp [f158B0,h0,hx,hgeC,hltC,sm,hci,hnp]
     have hp:0<d.length:=by omega
     by_cases hl:d.length+1<s.length
     · have hl':(d.length:Int)<(s.length:Int)-1:=by omega
       have hlt:d.length-1<s.length:=by omega
       have hwp:IntKind.i64.wrap ((d.length:Int)-1)=((d.length-1:Nat):Int):=by rw [i64w (by omega)];omega
       obtain ⟨q,hq⟩:∃ q,s[d.length-1]? = some q:=⟨s[d.length-1],List.getElem?_eq_getElem hlt⟩
       have hqe:s[d.length-1]'hlt=q:=by have:=hq;rw [List.getElem?_eq_getElem hlt] at this;exact Option.some.inj this
       have hqd:s.getD (d.length-1) 0=q:=by simp [hq]
       have hB:okE0 s d.length c=decide (q.toNat≠45):=by simp [okE0,hS',hc,hp,hl,hq]
       by_cases hq45:q.toNat=45
       · have hqi:((q.toNat:Int)==45)=true:=by rw [beq_iff_eq];omega
         have hqb:((q.toNat:Int) != 45)=false:=by rw [bne_eq_false_iff_eq];omega
         rw [hB,decide_eq_false (by simpa using hq45),Bool.false_and]
         refine ⟨fun h=>(by cases h),fun h=>⟨K,?_⟩⟩
         rw [C_turn (L:=f158L0) rfl]
         simp [f158B0,h0,hx,hgeC,hltC,sm,hci,hp,hl',hwm,hwp,hlt,hq,hqe,hqi,hqb]
       · have hqi:((q.toNat:Int)==45)=false:=by rw [beq_eq_false_iff_ne];omega
         have hqb:((q.toNat:Int) != 45)=true:=by rw [bne_iff_ne];omega
         obtain ⟨w2,K',k,a1,a2,a3,a4⟩:=ac_app (H:=H) (by_:=8) (ag:=false) (ys:=[i6 (bareL d).length]) (w:=.list st.cur 1 .tight true [i6 (bareL d).length]) h2 (.list _ _ _ _ (fun _=>rfl) (fun e=>by cases e)) (by omega) (by simp) (fun y hy=>by simp at hy;subst hy;exact ⟨rfl,rfl,rfl⟩) (by simp [roomD];omega) (by simp [roomD];omega)
         have hne:o1≠some k:=by
          intro e
          rcases a3 with h | ⟨_,rfl⟩
          · exact hdis k e h
          · rw [e] at h1
            obtain ⟨_,_,q⟩:=h1
            have:=(List.getElem?_eq_some_iff.1 q).1
            omega
         obtain ⟨j1,j2⟩:=ih (d++[c]) K' v1 w2 o1 (some k) (by simp [hd]) (by rw [bare_sign _ _ hc];exact h1.stay hne a4) (by rw [plc_sign _ _ _ hc];simpa using a2) (fun k' e e2=>by cases e2;exact hne e)
         have hlen:∀ st',lenV st' .slice v1=some (.int .i64 (bareL d).length,st'):=by
          intro st';rw [hv1];simp
         rw [hB,decide_eq_true (by simpa using hq45),Bool.true_and]
         simp only [List.length_append,List.length_singleton] at j1 j2
         simp [i6] at j1 j2 a1
         refine ⟨fun h => ?_,fun h => ?_⟩
         · obtain ⟨K2,x1,x2,hJ,q⟩:=j1 h
           refine ⟨K2,x1,x2,?_,q⟩
           rw [C_turn (L:=f158L0) rfl]
           simp [f158B0,h0,hx,hgeC,hltC,sm,hci,hp,hl',hwm,hwp,hlt,hq,hqe,hqi,hqb,hlen,op_lit,repl,fillD,splice,chunk,a1,hw1,hJ]
         · obtain ⟨K2,hJ⟩:=j2 h
           refine ⟨K2,?_⟩
           rw [C_turn (L:=f158L0) rfl]
           simp [f158B0,h0,hx,hgeC,hltC,sm,hci,hp,hl',hwm,hwp,hlt,hq,hqe,hqi,hqb,hlen,op_lit,repl,fillD,splice,chunk,a1,hw1,hJ]
     · have hl':¬ (d.length:Int)<(s.length:Int)-1:=by omega
       have hB:okE0 s d.length c=false:=by simp [okE0,hS'];intro _ _ h;omega
       rw [hB,Bool.false_and]
       refine ⟨fun h=>(by cases h),fun h=>⟨K,?_⟩⟩
       rw [C_turn (L:=f158L0) rfl]
       simp [f158B0,h0,hx,hgeC,hltC,sm,hci,hp,hl',hwm]
   · have hci:((c.toNat:Int)==45)=false:=by rw [beq_eq_false_iff_ne];omega
     have hB:okE0 s d.length c=false:=by simp [okE0,hS',hc]
     rw [hB,Bool.false_and]
     refine ⟨fun h=>(by cases h),fun h=>⟨K,?_⟩⟩
     rw [C_turn (L:=f158L0) rfl]
     simp [f158B0,h0,hx,hgeC,hltC,sm,hci]
theorem ac_ex {st st':St} {K:List Nat} {n:Nat} {xs:List DV} {v:DV} {o:Option Nat} (h:Ac st K n xs v o):∃ w,exportA st st' v=some w∧Lw n xs w:=by
 cases o with
 | none=>
   obtain ⟨rfl,t,n',tk,rfl⟩:=h
   exact ⟨_,rfl,.list _ _ _ _ (fun e=>by cases e) (fun _=>rfl)⟩
 | some k=>
   obtain ⟨s,rfl,_⟩:=h
   exact ⟨_,rfl,.list _ _ _ _ (fun _=>rfl) (fun e=>by cases e)⟩
def okE (s:List UInt8):Bool:=okAll (okE0 s) 0 s&&(decide (2≤(bareL s).length)&&decide ((bareL s).length≤64))
theorem exception158 (hs:s.length≤1000):∃ l v,(E tab).F 158 [.str s] st=some (.tuple [.str l,v,.bool (okE s)],st)∧(okE s=true→l=bareL s∧Lw 1 ((plc 0 s).map i6) v):=by
 have hu:(fun b:UInt8=>DV.int .u8 (b.toNat:Int))=u8:=rfl
 obtain ⟨j1,j2⟩:=L158_0 (st:=st) (s:=s) rfl hs [] s [] [] (.list 0 0 .no false []) (.list 0 0 .no false []) none none rfl ⟨rfl,0,0,.no,rfl⟩ ⟨rfl,0,0,.no,rfl⟩ (fun k e=>by cases e)
 cases h:okAll (okE0 s) 0 s with
 | false=>
   have ho:okE s=false:=by simp [okE,h]
   obtain ⟨K',hL⟩:=j2 h
   simp at hL
   refine ⟨[],.list 0 0 .no false [],?_,fun e=>by rw [ho] at e;cases e⟩
   rw [ho,F_run at158 rfl]
   simp [f158,hu,hL]
 | true=>
   have ho:okE s=(decide (2≤(bareL s).length)&&decide ((bareL s).length≤64)):=by simp [okE,h]
   obtain ⟨K',w1,w2,hL,⟨p1,g1⟩,⟨p2,g2⟩⟩:=j1 h
   simp at hL
   obtain ⟨b1,b2⟩:=acc_b2s g1.acc (pst st [] K')
   have b3:=bytes_u8 (bareL s)
   obtain ⟨w,e1,e2⟩:=ac_ex (st':=pst st [] K') g2
   obtain ⟨t1,n1,k1,m1,hv1⟩:=acc_len g1.acc
   have hlen:∀ st',lenV st' .slice w1=some (.int .i64 (bareL s).length,st'):=by
    intro st';rw [hv1];simp
   refine ⟨bareL s,w,?_,fun _=>⟨rfl,e2⟩⟩
   rw [ho,F_run at158 rfl]
   by_cases h2:2≤(bareL s).length
   · have h2':(2:Int)≤(bareL s).length:=by omega
     simp [f158,hu,hL,op_b2s,b1,b3,hlen,e1,h2,h2']
     omega
   · have h2':¬ (2:Int)≤(bareL s).length:=by omega
     simp [f158,hu,hL,op_b2s,b1,b3,hlen,e1,h2,h2']
end
section
variable {s:List UInt8} {st:St}
end
theorem at152:tab 152=some (.code f152):=by kernel_rfl
theorem fmax8 (x y:Nat):foldD max2D [.int .u8 x,.int .u8 y]=some (.int .u8 (max x y:Nat)):=by
 rcases Nat.lt_or_ge x y with h | h
 · have e:max x y=y:=by omega
   simp [foldD,max2D,h,e]
 · have e:max x y=x:=by omega
   have h':¬ x<y:=by omega
   simp [foldD,max2D,h',e]
def layV:List Nat→Nat→List Nat→List Nat
 | V,_,[]=>V
 | V,a,d::r=>layV (V.set a (max (V.getD a 0) d)) (a+1) r
theorem layV_len:∀ (D V:List Nat) (a:Nat),(layV V a D).length=V.length
 | [],V,a=>rfl
 | d::r,V,a=>by simp [layV,layV_len r]
section
variable {st:St}
theorem L152_0 {K:List Nat} {k kd n a:Nat} {D:List Nat} (hkd:kd≠k) (hn:n≤1000) (ha:a+D.length≤n):∀ (r d:List Nat) (V:List Nat) (H:List HO),D=d++r→V.length=n→rowAt H k=some (.plain,V.map d8)→rowAt H kd=some (.grown,D.map d8) →
 ∃ fr,(E tab).C f152L0 [(0,.hsl 1 false (st.heap.length+k) 0 n (some n)),(1,.int .i64 a),(8,.hsl 1 false (st.heap.length+kd) 0 D.length none),(9,.int .i64 D.length),(10,.int .i64 d.length)] (pst st H K) =
   some (.exit 0,fr,pst st (H.set k (.cells .plain ((layV V (a+d.length) r).map d8))) K):=by
 intro r
 induction r with
 | nil=>
   intro d V H hd hV h1 h2
   obtain rfl:D=d:=by simpa using hd
   have hset:H.set k (.cells .plain ((layV V (a+D.length) []).map d8))=H:=by
    have hk:=rowAt_lt h1
    apply List.ext_getElem?
    intro j
    by_cases hj:j=k
    · subst hj
      rw [List.getElem?_set_self hk]
      unfold rowAt at h1
      split at h1
      · rename_i e;simp only [Option.some.injEq,Prod.mk.injEq] at h1;rw [e,h1.1,h1.2];rfl
      · cases h1
    · rw [List.getElem?_set_ne (fun e=>hj e.symm)]
   rw [hset]
   refine ⟨[(0,.hsl 1 false (st.heap.length+k) 0 n (some n)),(1,.int .i64 a),(8,.hsl 1 false (st.heap.length+kd) 0 D.length none),(9,.int .i64 D.length),(10,.int .i64 D.length),(11,.bool false)],?_⟩
   rw [C_turn (L:=f152L0) rfl]
   simp [f152B0]
 | cons x r ih=>
   intro d V H hd hV h1 h2
   have hk:=rowAt_lt h1
   have hkd':=rowAt_lt h2
   have h0:d.length<D.length:=by simp [hd]
   have hw1:IntKind.i64.wrap ((d.length:Int)+1)=(d.length:Int)+1:=by rw [i64w (by omega)]
   have hwa:IntKind.i64.wrap ((a:Int)+d.length)=((a+d.length:Nat):Int):=by rw [i64w (by omega)];simp
   have had:a+d.length<n:=by omega
   generalize hp:a+d.length=p at *
   generalize hDm:D.map d8=DM at *
   have hx:DM[d.length]? = some (.int .u8 x):=by rw [← hDm];simp [hd,d8]
   have hlt:d.length<DM.length:=(List.getElem?_eq_some_iff.1 hx).1
   have hge:DM[d.length]'hlt=.int .u8 x:=by have:=hx;rw [List.getElem?_eq_getElem hlt] at this;exact Option.some.inj this
   obtain ⟨y,hy⟩:∃ y,V[p]? = some y:=⟨V[p],List.getElem?_eq_getElem (by omega)⟩
   have hyd:V.getD p 0=y:=by simp [hy]
   generalize hVm:V.map d8=VM at *
   have hvx:VM[p]? = some (.int .u8 y):=by rw [← hVm];simp [hy,d8]
   have hvl:VM.length=n:=by rw [← hVm];simpa using hV
   have hvlt:p<VM.length:=by omega
   have hvge:VM[p]'hvlt=.int .u8 y:=by have:=hvx;rw [List.getElem?_eq_getElem hvlt] at this;exact Option.some.inj this
   have hmx:=fmax8 y x
   have hsp:=splice_one (x:=.int .u8 (max y x:Nat)) (vs:=VM) hvlt
   have hset:VM.set p (.int .u8 (max y x:Nat))=(V.set p (max y x)).map d8:=by rw [← hVm,List.map_set];rfl
   rw [hset] at hsp
   obtain ⟨fr,hJ⟩:=ih (d++[x]) (V.set p (max y x)) (H.set k (.cells .plain ((V.set p (max y x)).map d8))) (by simp [hd]) (by simpa using hV) (rowAt_set hk _ _) (by
    unfold rowAt at h2 ⊢;rw [List.getElem?_set_ne (fun e=>hkd e.symm)];exact h2)
   refine ⟨fr,?_⟩
   have e1:a+(d++[x]).length=p+1:=by simp;omega
   rw [e1,List.set_set] at hJ
   simp only [List.length_append,List.length_singleton] at hJ
   have e2:layV V p (x::r)=layV (V.set p (max y x)) (p+1) r:=by simp only [layV,hyd]
   rw [e2]
   generalize (layV (V.set p (max y x)) (p+1) r).map d8=W at *
   generalize (V.set p (max y x)).map d8=VN at *
   simp only [splice,List.length_singleton] at hsp
   simp at hJ hsp
   have hle:p+1≤VM.length:=by omega
   rw [C_turn (L:=f152L0) rfl]
   simp [f152B0,h0,h1,h2,hx,hge,hlt,hwa,had,hvx,hvge,hvlt,hmx,hle,hsp,hw1,hJ]
theorem lay152 {K:List Nat} {k kd n a:Nat} {D V:List Nat} {H:List HO} (hkd:kd≠k) (hn:n≤1000) (ha:a+D.length≤n) (hV:V.length=n) (h1:rowAt H k=some (.plain,V.map d8)) (h2:rowAt H kd=some (.grown,D.map d8)) :
 (E tab).F 152 [.hsl 1 false (st.heap.length+k) 0 n (some n),.int .i64 a,.hsl 1 false (st.heap.length+kd) 0 D.length none] (pst st H K)=some (.tuple [],pst st (H.set k (.cells .plain ((layV V a D).map d8))) K):=by
 rw [F_go at152 rfl]
 obtain ⟨fr,hL⟩:=L152_0 (st:=st) (K:=K) hkd hn ha D [] V H rfl hV h1 h2
 simp at hL
 simp [f152,hL]
end
abbrev Path:=List UInt8
def mapV (st:St):Option (Nat×List (UInt8×Nat))→DV
 | none=>.nilmap
 | some (m,_)=>.map (st.heap.length+m)
def digV (st:St):Option (Nat×List Nat)→DV
 | none=>.list 0 0 .no false []
 | some (k,D)=>.hsl 1 false (st.heap.length+k) 0 D.length none
def entV (st:St) (x:UInt8×Nat):DV×DV:=(.int .u8 x.1.toNat,.ptr (st.heap.length+x.2) 0)
def kidOf:List (UInt8×Nat)→UInt8→Option Nat
 | [],_=>none
 | (a,k)::r,c=>if c=a then some k else kidOf r c
structure Trie (st:St) (H:List HO) (root:Nat) (N:Path→Option Nat) (es:Path→Option (Nat×List (UInt8×Nat))) (dg:Path→Option (Nat×List Nat)):Prop where
 top:N []=some root
 nInj:∀ {p q k},N p=some k→N q=some k→p=q
 row:∀ {p k},N p=some k→rowAt H k=some (.plain,[mapV st (es p),digV st (dg p)])
 mrow:∀ {p m l},es p=some (m,l)→H[m]? = some (.map (l.map (entV st)))
 mInj:∀ {p q m l l'},es p=some (m,l)→es q=some (m,l')→p=q
 kid:∀ {p k} (c:UInt8),N p=some k→N (p++[c])=match es p with | some (_,l)=>kidOf l c | none=>none
 drow:∀ {p k D},dg p=some (k,D)→rowAt H k=some (.grown,D.map d8)
 dInj:∀ {p q k D D'},dg p=some (k,D)→dg q=some (k,D')→p=q
 dlen:∀ {p k D},dg p=some (k,D)→D.length=p.length+1
 off:∀ {p},N p=none→es p=none∧dg p=none∧∀ c,N (p++[c])=none
theorem u8_ieq (a c:UInt8):((c.toNat:Int)=(a.toNat:Int))↔c=a:=by
 constructor
 · intro h;exact UInt8.toNat_inj.1 (by omega)
 · rintro rfl;rfl
theorem findD_kid (st:St):∀ (l:List (UInt8×Nat)) (c:UInt8) (i:Nat),∃ j,findD [.int] (.int .u8 c.toNat) (l.map (entV st)) i=some ((kidOf l c).map fun k=>(j,.ptr (st.heap.length+k) 0))
 | [],c,i=>⟨0,rfl⟩
 | (a,k)::r,c,i=>by
   obtain ⟨j,hj⟩:=findD_kid st r c (i+1)
   have h8:=u8_ieq a c
   by_cases h:c=a
   · refine ⟨i,?_⟩
     subst h
     simp [findD,entV,keyEq,scalEq,kidOf]
   · refine ⟨j,?_⟩
     have h':¬ ((c.toNat:Int)=(a.toNat:Int)):=fun e=>h (h8.1 e)
     have hn:¬ (c.toNat=a.toNat):=fun e=>h' (by omega)
     simp only [List.map_cons,entV,kidOf,if_neg h]
     have hb:((c.toNat:Int)==(a.toNat:Int))=false:=by rw [beq_eq_false_iff_ne];exact h'
     simp [findD,keyEq,scalEq,hb]
     exact hj
def nodeV (st:St):Option Nat→DV
 | some k=>.ptr (st.heap.length+k) 0
 | none=>.nilp
section
variable {st:St} {H:List HO} {root:Nat} {N:Path→Option Nat} {es:Path→Option (Nat×List (UInt8×Nat))} {dg:Path→Option (Nat×List Nat)}
theorem Trie.look (h:Trie st H root N es dg) {p:Path} {k:Nat} (hp:N p=some k) (c:UInt8) (K:List Nat):lookupD (pst st H K) [.int] .nilp (mapV st (es p)) (.int .u8 c.toNat) false=some (nodeV st (N (p++[c]))):=by
 rw [h.kid c hp]
 cases he:es p with
 | none=>simp [mapV,lookupD,findD,nodeV]
 | some x=>
   obtain ⟨m,l⟩:=x
   obtain ⟨j,hj⟩:=findD_kid st l c 0
   have hm:=h.mrow he
   simp only [mapV,lookupD,pst_heap,hm,hj]
   cases kidOf l c<;>simp [nodeV]
theorem Trie.setV (h:Trie st H root N es dg) {kv:Nat} {V W:List Nat} (hv:rowAt H kv=some (.plain,V.map d8)):Trie st (H.set kv (.cells .plain (W.map d8))) root N es dg:=by
 have hrow:∀ {k g vs},rowAt H k=some (g,vs)→k≠kv→rowAt (H.set kv (.cells .plain (W.map d8))) k=some (g,vs):=by
  intro k g vs h1 h2
  unfold rowAt at h1 ⊢
  rw [List.getElem?_set_ne (fun e=>h2 e.symm)];exact h1
 refine ⟨h.top,h.nInj,?_,?_,h.mInj,h.kid,?_,h.dInj,h.dlen,h.off⟩
 · intro p k hp
   have h1:=h.row hp
   refine hrow h1 ?_
   rintro rfl
   rw [hv] at h1
   simp only [Option.some.injEq,Prod.mk.injEq,true_and] at h1
   cases V with
   | nil=>simp at h1
   | cons x r=>
     simp only [List.map_cons,List.cons.injEq] at h1
     have h2:d8 x=mapV st (es p):=h1.1
     generalize es p=y at h2
     rcases y with _ | ⟨m,l⟩<;>simp [d8,mapV] at h2
 · intro p m l he
   have h1:=h.mrow he
   rw [List.getElem?_set_ne]
   · exact h1
   · rintro rfl
     unfold rowAt at hv
     rw [h1] at hv
     cases hv
 · intro p k D hd
   have h1:=h.drow hd
   refine hrow h1 ?_
   rintro rfl
   rw [hv] at h1
   cases h1
theorem at151:tab 151=some (.code f151):=by kernel_rfl
def runV (N:Path→Option Nat) (dg:Path→Option (Nat×List Nat)) (a:Nat):Path→List UInt8→List Nat→List Nat
 | _,[],V=>V
 | p,c::r,V=>if N (p++[c])=none then V else runV N dg a (p++[c]) r (match dg (p++[c]) with | some (_,D)=>layV V a D | none=>V)
end
section
variable {st:St} {root:Nat} {N:Path→Option Nat} {es:Path→Option (Nat×List (UInt8×Nat))} {dg:Path→Option (Nat×List Nat)}
theorem L151_0 {K:List Nat} {hp':DV} {text tx:List UInt8} {a kv nV:Nat} {C:List DV} (hC:C=tx.map u8) (htl:tx.length≤1000) (hnV:nV≤1000) (hfit:a+tx.length+1≤nV):∀ (r d:List UInt8) (V:List Nat) (k:Nat) (H:List HO),tx=d++r→Trie st H root N es dg→N d=some k→rowAt H kv=some (.plain,V.map d8)→V.length=nV →
 ∃ x7 x24 tl,(E tab).C f151L0 [(0,hp'),(1,.str text),(2,.fn 152 [.hsl 1 false (st.heap.length+kv) 0 nV (some nV)] []),(6,.int .i64 a),(7,.ptr (st.heap.length+k) 0),(11,.int .i64 text.length),(12,.int .i64 a),(22,.list st.cur 1 .no true C),(23,.int .i64 tx.length),(24,.int .i64 d.length)] (pst st H K) =
   some (.exit 2,[(0,hp'),(1,.str text),(2,.fn 152 [.hsl 1 false (st.heap.length+kv) 0 nV (some nV)] []),(6,.int .i64 a),(7,x7),(11,.int .i64 text.length),(12,.int .i64 a),(22,.list st.cur 1 .no true C),(23,.int .i64 tx.length),(24,x24),tl],pst st (H.set kv (.cells .plain ((runV N dg a d r V).map d8))) K):=by
 intro r
 induction r with
 | nil=>
   intro d V k H hd hT hN hv hV
   obtain rfl:tx=d:=by simpa using hd
   have hset:H.set kv (.cells .plain ((runV N dg a tx [] V).map d8))=H:=by
    have hk:=rowAt_lt hv
    apply List.ext_getElem?
    intro j
    by_cases hj:j=kv
    · subst hj
      rw [List.getElem?_set_self hk]
      unfold rowAt at hv
      split at hv
      · rename_i e;simp only [Option.some.injEq,Prod.mk.injEq] at hv;rw [e,hv.1,hv.2];rfl
      · cases hv
    · rw [List.getElem?_set_ne (fun e=>hj e.symm)]
   rw [hset]
   refine ⟨.ptr (st.heap.length+k) 0,.int .i64 tx.length,(25,.bool false),?_⟩
   rw [C_turn (L:=f151L0) rfl]
   simp [f151B0]
 | cons c r ih=>
   intro d V k H hd hT hN hv hV
   have h0:d.length<tx.length:=by simp [hd]
   have hx:C[d.length]? = some (.int .u8 c.toNat):=by simp [hC,hd,u8]
   have hlt:d.length<C.length:=(List.getElem?_eq_some_iff.1 hx).1
   have hge:C[d.length]'hlt=.int .u8 c.toNat:=by have:=hx;rw [List.getElem?_eq_getElem hlt] at this;exact Option.some.inj this
   have hw1:IntKind.i64.wrap ((d.length:Int)+1)=(d.length:Int)+1:=by rw [i64w (by omega)]
   have hrow:=hT.row hN
   have hlk:=hT.look hN c K
   have hkf:keyFit [.int] (.int .u8 c.toNat)=true:=rfl
   cases hn:N (d++[c]) with
   | none=>
     rw [hn] at hlk
     have e:runV N dg a d (c::r) V=V:=by simp only [runV,hn,if_true]
     have hset:H.set kv (.cells .plain (V.map d8))=H:=by
      have hk:=rowAt_lt hv
      apply List.ext_getElem?
      intro j
      by_cases hj:j=kv
      · subst hj
        rw [List.getElem?_set_self hk]
        unfold rowAt at hv
        split at hv
        · rename_i e;simp only [Option.some.injEq,Prod.mk.injEq] at hv;rw [e,hv.1,hv.2]
        · cases hv
      · rw [List.getElem?_set_ne (fun e=>hj e.symm)]
     rw [e,hset]
     simp only [nodeV] at hlk
     refine ⟨.nilp,.int .i64 d.length,(35,.bool true),?_⟩
     rw [C_turn (L:=f151L0) rfl]
     simp [f151B0,h0,hx,hge,hlt,hrow,hlk,hkf,eqD]
   | some k2=>
     rw [hn] at hlk
     simp only [nodeV] at hlk
     have hrow2:=hT.row hn
     cases hdg:dg (d++[c]) with
     | none=>
       have e:runV N dg a d (c::r) V=runV N dg a (d++[c]) r V:=by simp [runV,hn,hdg]
       rw [e]
       rw [hdg] at hrow2
       simp only [digV] at hrow2
       obtain ⟨x7,x24,tl,hJ⟩:=ih (d++[c]) V k2 H (by simp [hd]) hT hn hv hV
       refine ⟨x7,x24,tl,?_⟩
       simp at hJ
       rw [C_turn (L:=f151L0) rfl]
       simp [f151B0,h0,hx,hge,hlt,hrow,hrow2,hlk,hkf,eqD,hw1,hJ]
     | some y=>
       obtain ⟨kd,D⟩:=y
       have hD:=hT.dlen hdg
       have hdr:=hT.drow hdg
       have hne:kd≠kv:=by rintro rfl;rw [hv] at hdr;cases hdr
       have e:runV N dg a d (c::r) V=runV N dg a (d++[c]) r (layV V a D):=by simp [runV,hn,hdg]
       rw [e]
       rw [hdg] at hrow2
       simp only [digV] at hrow2
       simp at hD
       have hly:=lay152 (st:=st) (K:=K) (a:=a) (n:=nV) hne hnV (by omega) hV hv hdr
       obtain ⟨x7,x24,tl,hJ⟩:=ih (d++[c]) (layV V a D) k2 (H.set kv (.cells .plain ((layV V a D).map d8))) (by simp [hd]) (hT.setV hv) hn (rowAt_set (rowAt_lt hv) _ _) (by rw [layV_len];exact hV)
       refine ⟨x7,x24,tl,?_⟩
       rw [List.set_set] at hJ
       simp at hJ
       rw [C_turn (L:=f151L0) rfl]
       simp [f151B0,h0,hx,hge,hlt,hrow,hrow2,hlk,hkf,eqD,V_fn,hly,hw1,hJ]
def foundV (N:Path→Option Nat) (dg:Path→Option (Nat×List Nat)):Nat→List UInt8→List Nat→List Nat
 | _,[],V=>V
 | a,c::r,V=>foundV N dg (a+1) r (runV N dg a [] (c::r) V)
theorem runV_len (N:Path→Option Nat) (dg:Path→Option (Nat×List Nat)) (a:Nat):∀ (r p:List UInt8) (V:List Nat),(runV N dg a p r V).length=V.length
 | [],p,V=>rfl
 | c::r,p,V=>by
   simp only [runV]
   split
   · rfl
   · rw [runV_len N dg a r]
     split
     · rw [layV_len]
     · rfl
theorem L151_1 {K:List Nat} {text:List UInt8} {kh kv nV:Nat} {hx:DV} (htl:text.length≤900) (hnV:nV≤1000) (hfit:text.length+1≤nV) (hne:kh≠kv):∀ (r d:List UInt8) (V:List Nat) (H:List HO),text=d++r→Trie st H root N es dg→rowAt H kh=some (.plain,[.ptr (st.heap.length+root) 0,hx])→rowAt H kv=some (.plain,V.map d8)→V.length=nV →
 ∃ fr,(E tab).C f151L1 [(0,.ptr (st.heap.length+kh) 0),(1,.str text),(2,.fn 152 [.hsl 1 false (st.heap.length+kv) 0 nV (some nV)] []),(11,.int .i64 text.length),(12,.int .i64 d.length)] (pst st H K) =
   some (.exit 0,fr,pst st (H.set kv (.cells .plain ((foundV N dg d.length r V).map d8))) K):=by
 intro r
 induction r with
 | nil=>
   intro d V H hd hT hh hv hV
   obtain rfl:text=d:=by simpa using hd
   have hset:H.set kv (.cells .plain ((foundV N dg text.length [] V).map d8))=H:=by
    have hk:=rowAt_lt hv
    apply List.ext_getElem?
    intro j
    by_cases hj:j=kv
    · subst hj
      rw [List.getElem?_set_self hk]
      unfold rowAt at hv
      split at hv
      · rename_i e;simp only [Option.some.injEq,Prod.mk.injEq] at hv;rw [e,hv.1,hv.2];rfl
      · cases hv
    · rw [List.getElem?_set_ne (fun e=>hj e.symm)]
   rw [hset]
   refine ⟨[(0,.ptr (st.heap.length+kh) 0),(1,.str text),(2,.fn 152 [.hsl 1 false (st.heap.length+kv) 0 nV (some nV)] []),(11,.int .i64 text.length),(12,.int .i64 text.length),(13,.bool false)],?_⟩
   rw [C_turn (L:=f151L1) rfl]
   simp [f151B1]
 | cons c r ih=>
   intro d V H hd hT hh hv hV
   have h0:d.length<text.length:=by simp [hd]
   have hw1:IntKind.i64.wrap ((d.length:Int)+1)=(d.length:Int)+1:=by rw [i64w (by omega)]
   have hlen:text.length=d.length+(c::r).length:=by simp [hd]
   have hsl:sliceD true 1 (.str text) (some (.int .i64 d.length)) none none=some (.str (c::r)):=by
    rw [slice_s (by omega) (by omega)];simp [hd]
   have hu:(fun b:UInt8=>DV.int .u8 (b.toNat:Int))=u8:=rfl
   obtain ⟨x7,x24,tl,hI⟩:=L151_0 (K:=K) (hp':=.ptr (st.heap.length+kh) 0) (text:=text) (a:=d.length) (kv:=kv) (nV:=nV) (tx:=c::r) rfl (by omega) hnV (by omega) (c::r) [] V root H rfl hT hT.top hv hV
   have hT2:=hT.setV (W:=runV N dg d.length [] (c::r) V) hv
   have hh2:rowAt (H.set kv (.cells .plain ((runV N dg d.length [] (c::r) V).map d8))) kh=some (.plain,[.ptr (st.heap.length+root) 0,hx]):=by
    unfold rowAt at hh ⊢;rw [List.getElem?_set_ne (fun e=>hne e.symm)];exact hh
   obtain ⟨fr,hJ⟩:=ih (d++[c]) (runV N dg d.length [] (c::r) V) (H.set kv (.cells .plain ((runV N dg d.length [] (c::r) V).map d8))) (by simp [hd]) hT2 hh2 (rowAt_set (rowAt_lt hv) _ _) (by rw [runV_len];exact hV)
   refine ⟨fr,?_⟩
   have e:foundV N dg d.length (c::r) V=foundV N dg (d++[c]).length r (runV N dg d.length [] (c::r) V):=by simp [foundV]
   rw [e]
   rw [List.set_set] at hJ
   generalize (foundV N dg (d++[c]).length r (runV N dg d.length [] (c::r) V)).map d8=W at *
   generalize (runV N dg d.length [] (c::r) V).map d8=W1 at *
   simp at hJ hI
   rw [C_turn (L:=f151L1) rfl]
   simp [f151B1,h0,hh,hsl,hu,hI,hw1,hJ]
theorem found151 {K:List Nat} {text:List UInt8} {kh kv nV:Nat} {hx:DV} {V:List Nat} {H:List HO} (htl:text.length≤900) (hnV:nV≤1000) (hfit:text.length+1≤nV) (hne:kh≠kv) (hT:Trie st H root N es dg) (hh:rowAt H kh=some (.plain,[.ptr (st.heap.length+root) 0,hx])) (hv:rowAt H kv=some (.plain,V.map d8)) (hV:V.length=nV) :
 (E tab).F 151 [.ptr (st.heap.length+kh) 0,.str text,.fn 152 [.hsl 1 false (st.heap.length+kv) 0 nV (some nV)] []] (pst st H K)=some (.tuple [],pst st (H.set kv (.cells .plain ((foundV N dg 0 text V).map d8))) K):=by
 rw [F_go at151 rfl]
 obtain ⟨fr,hL⟩:=L151_1 (K:=K) htl hnV hfit hne text [] V H rfl hT hh hv hV
 simp at hL
 simp [f151,hL]
end
theorem at164:tab 164=some (.code f164):=by kernel_rfl
theorem at157:tab 157=some (.code f157):=by kernel_rfl
section
variable {st:St} {H:List HO} {K:List Nat}
theorem clone164 {t:Nat} {tk:Tk} {D:List Nat} (hD:D≠[]) (hl:D.length≤1000):(E tab).F 164 [.list t 1 tk true (D.map d8)] (pst st H K)=some (.hsl 1 false (st.heap.length+H.length) 0 D.length none,pst st (H++[.cells .grown (D.map d8)]) K):=by
 rw [F_go at164 rfl]
 have hel:∀ y∈D.map d8,IsEl 1 false y:=by intro y hy;obtain ⟨c,_,rfl⟩:=List.mem_map.1 hy;exact ⟨rfl,rfl,rfl⟩
 have hfl:=flat_scal _ hel
 have hlen:D.length≠0:=fun e=>hD (List.length_eq_zero_iff.1 e)
 have hr:D.length≤140737488355328:=by omega
 have hn:newsD (pst st H K) 1 (.list t 1 tk true (D.map d8))=some (D.length,D.map d8):=by simp [newsD,hfl]
 have ha:∀ c,appendHD (pst st H K) 1 false 1 (.list c 1 .tight true []) (.list t 1 tk true (D.map d8))=some (.hsl 1 false (st.heap.length+H.length) 0 D.length none,pst st (H++[.cells .grown (D.map d8)]) K):=by
  intro c
  simp only [appendHD,hn,if_neg hlen]
  rw [if_pos ⟨⟨by omega,trivial⟩,by simp [roomD];omega,by simp [roomD];omega⟩]
  simp [pst]
 simp [f164,eqD,op_lit,repl,chunk,ha]
end
structure TS where
 N:Path→Option Nat
 es:Path→Option (Nat×List (UInt8×Nat))
 dg:Path→Option (Nat×List Nat)
abbrev TS.ok (st:St) (H:List HO) (root:Nat) (t:TS):Prop:=Trie st H root t.N t.es t.dg
def TS.own (t:TS) (j:Nat):Prop:=(∃ p,t.N p=some j)∨(∃ p l,t.es p=some (j,l))∨(∃ p D,t.dg p=some (j,D))
structure Grows (H:List HO) (t:TS) (H':List HO) (t':TS):Prop where
 len:H.length≤H'.length
 fr:∀ j,j<H.length→¬ t.own j→H'[j]? = H[j]?
 own:∀ j,t'.own j→t.own j∨H.length≤j
theorem Grows.refl (H:List HO) (t:TS):Grows H t H t:=⟨Nat.le_refl _,fun _ _ _=>rfl,fun _ h=>.inl h⟩
theorem Grows.trans {H H' H'':List HO} {t t' t'':TS} (a:Grows H t H' t') (b:Grows H' t' H'' t''):Grows H t H'' t'':=by
 refine ⟨Nat.le_trans a.len b.len,?_,?_⟩
 · intro j hj ho
   rw [b.fr j (Nat.lt_of_lt_of_le hj a.len) (fun h=>(a.own j h).elim ho (fun h=>by omega)),a.fr j hj ho]
 · intro j h
   rcases b.own j h with h | h
   · exact a.own j h
   · exact .inr (Nat.le_trans a.len h)
def upd {α β:Type} [DecidableEq α] (f:α→β) (a:α) (b:β):α→β:=fun x=>if x=a then b else f x
@[simp] theorem upd_self {α β:Type} [DecidableEq α] (f:α→β) (a:α) (b:β):upd f a b a=b:=by simp [upd]
theorem upd_ne {α β:Type} [DecidableEq α] (f:α→β) {a x:α} (b:β) (h:x≠a):upd f a b x=f x:=by simp [upd,h]
theorem rowAt_iff {H:List HO} {k:Nat} {g:CK} {vs:List DV}:rowAt H k=some (g,vs)↔H[k]? = some (.cells g vs):=by
 unfold rowAt
 constructor
 · intro h
   split at h
   · rename_i e;simp only [Option.some.injEq,Prod.mk.injEq] at h;rw [e,h.1,h.2]
   · cases h
 · intro h;rw [h]
theorem app_lt {H X:List HO} {j:Nat} {o:HO} (h:H[j]? = some o):(H++X)[j]? = some o:=by
 rw [List.getElem?_append_left (List.getElem?_eq_some_iff.1 h).1];exact h
theorem set_other {H:List HO} {j k:Nat} {o x:HO} (h:H[j]? = some o) (hk:j≠k):(H.set k x)[j]? = some o:=by
 rw [List.getElem?_set_ne (fun e=>hk e.symm)];exact h
section
variable {st:St} {H:List HO} {root:Nat} {t:TS}
theorem Trie.nrow (h:t.ok st H root) {p:Path} {k:Nat} (hp:t.N p=some k):H[k]? = some (.cells .plain [mapV st (t.es p),digV st (t.dg p)]):=rowAt_iff.1 (h.row hp)
theorem Trie.drow' (h:t.ok st H root) {p:Path} {k:Nat} {D:List Nat} (hp:t.dg p=some (k,D)):H[k]? = some (.cells .grown (D.map d8)):=rowAt_iff.1 (h.drow hp)
theorem Trie.lt_n (h:t.ok st H root) {p:Path} {k:Nat} (hp:t.N p=some k):k<H.length:=(List.getElem?_eq_some_iff.1 (h.nrow hp)).1
theorem Trie.lt_m (h:t.ok st H root) {p:Path} {m:Nat} {l:List (UInt8×Nat)} (hp:t.es p=some (m,l)):m<H.length:=(List.getElem?_eq_some_iff.1 (h.mrow hp)).1
theorem Trie.lt_d (h:t.ok st H root) {p:Path} {k:Nat} {D:List Nat} (hp:t.dg p=some (k,D)):k<H.length:=(List.getElem?_eq_some_iff.1 (h.drow' hp)).1
theorem Trie.nm (h:t.ok st H root) {p q:Path} {k m:Nat} {l:List (UInt8×Nat)} (hp:t.N p=some k) (hq:t.es q=some (m,l)):k≠m:=by
 rintro rfl;have h1:=h.nrow hp;rw [h.mrow hq] at h1;cases h1
theorem Trie.nd (h:t.ok st H root) {p q:Path} {k m:Nat} {D:List Nat} (hp:t.N p=some k) (hq:t.dg q=some (m,D)):k≠m:=by
 rintro rfl;have h1:=h.nrow hp;rw [h.drow' hq] at h1;cases h1
theorem Trie.md (h:t.ok st H root) {p q:Path} {k m:Nat} {l:List (UInt8×Nat)} {D:List Nat} (hp:t.es p=some (k,l)) (hq:t.dg q=some (m,D)):k≠m:=by
 rintro rfl;have h1:=h.mrow hp;rw [h.drow' hq] at h1;cases h1
theorem Trie.grow (h:t.ok st H root) (X:List HO):t.ok st (H++X) root:=
 ⟨h.top,h.nInj,fun hp=>rowAt_iff.2 (app_lt (h.nrow hp)),fun hp=>app_lt (h.mrow hp),h.mInj,h.kid,fun hp=>rowAt_iff.2 (app_lt (h.drow' hp)),h.dInj,h.dlen,h.off⟩
theorem Trie.mkm (h:t.ok st H root) {p:Path} {k:Nat} (hp:t.N p=some k) (he:t.es p=none) :
 TS.ok st ((H++[HO.map []]).set k (HO.cells .plain [.map (st.heap.length+H.length),digV st (t.dg p)])) root ⟨t.N,upd t.es p (some (H.length,[])),t.dg⟩ ∧
 Grows H t ((H++[HO.map []]).set k (HO.cells .plain [.map (st.heap.length+H.length),digV st (t.dg p)])) ⟨t.N,upd t.es p (some (H.length,[])),t.dg⟩:=by
 have hk:=h.lt_n hp
 have hnew:(H++[HO.map []])[H.length]? = some (.map []):=by simp
 refine ⟨⟨h.top,h.nInj,?_,?_,?_,?_,?_,h.dInj,h.dlen,?_⟩,⟨by simp,?_,?_⟩⟩
 · intro q j hq
   rw [rowAt_iff]
   by_cases hqp:q=p
   · subst hqp
     have:j=k:=by rw [hp] at hq;exact (Option.some.inj hq).symm
     subst this
     rw [List.getElem?_set_self (by simp;omega)]
     simp [mapV]
   · have hne:j≠k:=by rintro rfl;exact hqp (h.nInj hq hp)
     rw [set_other (app_lt (h.nrow hq)) hne]
     simp only [upd_ne _ _ hqp]
 · intro q m l hq
   by_cases hqp:q=p
   · subst hqp
     simp only [upd_self,Option.some.injEq,Prod.mk.injEq] at hq
     obtain ⟨rfl,rfl⟩:=hq
     rw [set_other hnew (Nat.ne_of_gt (by assumption))];rfl
   · simp only [upd_ne _ _ hqp] at hq
     exact set_other (app_lt (h.mrow hq)) (fun e=>h.nm hp hq e.symm)
 · intro q q' m l l' hq hq'
   by_cases hqp:q=p<;>by_cases hqp':q'=p
   · rw [hqp,hqp']
   · exfalso;subst hqp;simp only [upd_self,upd_ne _ _ hqp',Option.some.injEq,Prod.mk.injEq] at hq hq'
     have:=h.lt_m hq';omega
   · exfalso;subst hqp';simp only [upd_self,upd_ne _ _ hqp,Option.some.injEq,Prod.mk.injEq] at hq hq'
     have:=h.lt_m hq;omega
   · simp only [upd_ne _ _ hqp,upd_ne _ _ hqp'] at hq hq';exact h.mInj hq hq'
 · intro q j c hq
   by_cases hqp:q=p
   · subst hqp
     simp only [upd_self,kidOf]
     have:=h.kid c hq
     rw [he] at this;exact this
   · simp only [upd_ne _ _ hqp];exact h.kid c hq
 · intro q j D hq
   rw [rowAt_iff]
   exact set_other (app_lt (h.drow' hq)) (fun e=>h.nd hp hq e.symm)
 · intro q hq
   have hqp:q≠p:=by rintro rfl;simp only at hq;rw [hp] at hq;cases hq
   obtain ⟨a,b,c⟩:=h.off hq
   exact ⟨by simp only [upd_ne _ _ hqp];exact a,b,c⟩
 · intro j hj ho
   have:j≠k:=by rintro rfl;exact ho (.inl ⟨p,hp⟩)
   rw [List.getElem?_set_ne (fun e=>this e.symm),List.getElem?_append_left hj]
 · intro j hj
   rcases hj with ⟨q,hq⟩ | ⟨q,l,hq⟩ | ⟨q,D,hq⟩
   · exact .inl (.inl ⟨q,hq⟩)
   · by_cases hqp:q=p
     · subst hqp;simp only [upd_self,Option.some.injEq,Prod.mk.injEq] at hq;right;omega
     · simp only [upd_ne _ _ hqp] at hq;exact .inl (.inr (.inl ⟨q,l,hq⟩))
   · exact .inl (.inr (.inr ⟨q,D,hq⟩))
theorem kidOf_app:∀ (l:List (UInt8×Nat)) (c d:UInt8) (x:Nat),kidOf l c=none→kidOf (l++[(c,x)]) d=if d=c then some x else kidOf l d
 | [],c,d,x,_=>rfl
 | (a,k)::r,c,d,x,h=>by
   have hca:c≠a:=by rintro rfl;simp [kidOf] at h
   simp only [kidOf,if_neg hca] at h
   have ih:=kidOf_app r c d x h
   simp only [List.cons_append,kidOf,ih]
   by_cases hda:d=a
   · subst hda
     rw [if_pos rfl,if_neg (fun e=>hca e.symm),if_pos rfl]
   · rw [if_neg hda]
     by_cases hdc:d=c
     · rw [if_pos hdc,if_pos hdc]
     · rw [if_neg hdc,if_neg hdc,if_neg hda]
theorem Trie.kidn (h:t.ok st H root) {p:Path} {k m:Nat} {l:List (UInt8×Nat)} {c:UInt8} (hp:t.N p=some k) (he:t.es p=some (m,l)) (hc:kidOf l c=none) :
 TS.ok st ((H++[HO.cells .plain [.nilmap,.list 0 0 .no false []]]).set m (HO.map ((l++[(c,H.length)]).map (entV st)))) root ⟨upd t.N (p++[c]) (some H.length),upd t.es p (some (m,l++[(c,H.length)])),t.dg⟩ ∧
 Grows H t ((H++[HO.cells .plain [.nilmap,.list 0 0 .no false []]]).set m (HO.map ((l++[(c,H.length)]).map (entV st)))) ⟨upd t.N (p++[c]) (some H.length),upd t.es p (some (m,l++[(c,H.length)])),t.dg⟩:=by
 have hm:=h.lt_m he
 have hN0:t.N (p++[c])=none:=by rw [h.kid c hp,he];exact hc
 obtain ⟨o1,o2,o3⟩:=h.off hN0
 have hpp:p++[c]≠p:=by intro e;have:=congrArg List.length e;simp at this
 have hnp:[]≠p++[c]:=by simp
 have hnew:(H++[HO.cells .plain [.nilmap,.list 0 0 .no false []]])[H.length]? = some (.cells .plain [.nilmap,.list 0 0 .no false []]):=by simp
 refine ⟨⟨?_,?_,?_,?_,?_,?_,?_,h.dInj,h.dlen,?_⟩,⟨by simp,?_,?_⟩⟩
 · simp only [upd_ne _ _ hnp];exact h.top
 · intro q q' j hq hq'
   by_cases a:q=p++[c]<;>by_cases b:q'=p++[c]
   · rw [a,b]
   · exfalso;subst a;simp only [upd_self,upd_ne _ _ b,Option.some.injEq] at hq hq'
     have:=h.lt_n hq';omega
   · exfalso;subst b;simp only [upd_self,upd_ne _ _ a,Option.some.injEq] at hq hq'
     have:=h.lt_n hq;omega
   · simp only [upd_ne _ _ a,upd_ne _ _ b] at hq hq';exact h.nInj hq hq'
 · intro q j hq
   rw [rowAt_iff]
   by_cases a:q=p++[c]
   · subst a
     simp only [upd_self,Option.some.injEq] at hq
     subst hq
     rw [set_other hnew (Nat.ne_of_gt (by assumption))]
     simp only [upd_ne _ _ hpp,o1,o2,mapV,digV]
   · simp only [upd_ne _ _ a] at hq
     rw [set_other (app_lt (h.nrow hq)) (h.nm hq he)]
     by_cases b:q=p
     · subst b;simp only [upd_self,he,mapV]
     · simp only [upd_ne _ _ b]
 · intro q m' l' hq
   by_cases b:q=p
   · subst b
     simp only [upd_self,Option.some.injEq,Prod.mk.injEq] at hq
     obtain ⟨rfl,rfl⟩:=hq
     rw [List.getElem?_set_self (by simp;omega)]
   · simp only [upd_ne _ _ b] at hq
     exact set_other (app_lt (h.mrow hq)) (by rintro rfl;exact b (h.mInj hq he))
 · intro q q' m' l' l'' hq hq'
   by_cases a:q=p<;>by_cases b:q'=p
   · rw [a,b]
   · subst a;simp only [upd_self,upd_ne _ _ b,Option.some.injEq,Prod.mk.injEq] at hq hq'
     obtain ⟨rfl,_⟩:=hq
     exact h.mInj he hq'
   · subst b;simp only [upd_self,upd_ne _ _ a,Option.some.injEq,Prod.mk.injEq] at hq hq'
     obtain ⟨rfl,_⟩:=hq'
     exact h.mInj hq he
   · simp only [upd_ne _ _ a,upd_ne _ _ b] at hq hq';exact h.mInj hq hq'
 · intro q j d hq
   by_cases a:q=p++[c]
   · subst a
     have:(p++[c])++[d]≠p++[c]:=by intro e;have:=congrArg List.length e;simp at this
     simp only [upd_ne _ _ this,upd_ne _ _ hpp,o1,o3 d]
   · simp only [upd_ne _ _ a] at hq
     have hk:=h.kid d hq
     by_cases b:q=p
     · subst b
       rw [he] at hk
       simp only at hk
       simp only [upd_self,kidOf_app l c d _ hc]
       by_cases hd:d=c
       · subst hd;simp
       · have:q++[d]≠q++[c]:=by simpa using hd
         rw [if_neg hd,← hk];simp only [upd_ne _ _ this]
     · have:q++[d]≠p++[c]:=by intro e;exact b (List.append_inj_left' e rfl)
       simp only [upd_ne _ _ this,upd_ne _ _ b];exact hk
 · intro q j D hq
   rw [rowAt_iff]
   exact set_other (app_lt (h.drow' hq)) (fun e=>h.md he hq e.symm)
 · intro q hq
   by_cases a:q=p++[c]
   · subst a;simp only [upd_self] at hq;cases hq
   · simp only [upd_ne _ _ a] at hq
     obtain ⟨x,y,z⟩:=h.off hq
     have b:q≠p:=by rintro rfl;rw [hp] at hq;cases hq
     refine ⟨by simp only [upd_ne _ _ b];exact x,y,fun d => ?_⟩
     have:q++[d]≠p++[c]:=by intro e;exact b (List.append_inj_left' e rfl)
     simp only [upd_ne _ _ this];exact z d
 · intro j hj ho
   have:j≠m:=by rintro rfl;exact ho (.inr (.inl ⟨p,l,he⟩))
   rw [List.getElem?_set_ne (fun e=>this e.symm),List.getElem?_append_left hj]
 · intro j hj
   rcases hj with ⟨q,hq⟩ | ⟨q,l',hq⟩ | ⟨q,D,hq⟩
   · by_cases a:q=p++[c]
     · subst a;simp only [upd_self,Option.some.injEq] at hq;right;omega
     · simp only [upd_ne _ _ a] at hq;exact .inl (.inl ⟨q,hq⟩)
   · by_cases b:q=p
     · subst b;simp only [upd_self,Option.some.injEq,Prod.mk.injEq] at hq
       obtain ⟨rfl,_⟩:=hq
       exact .inl (.inr (.inl ⟨q,l,he⟩))
     · simp only [upd_ne _ _ b] at hq;exact .inl (.inr (.inl ⟨q,l',hq⟩))
   · exact .inl (.inr (.inr ⟨q,D,hq⟩))
theorem Trie.dign (h:t.ok st H root) {p:Path} {k:Nat} {D:List Nat} (hp:t.N p=some k) (he:t.dg p=none) (hD:D.length=p.length+1) :
 TS.ok st ((H++[HO.cells .grown (D.map d8)]).set k (HO.cells .plain [mapV st (t.es p),.hsl 1 false (st.heap.length+H.length) 0 D.length none])) root ⟨t.N,t.es,upd t.dg p (some (H.length,D))⟩ ∧
 Grows H t ((H++[HO.cells .grown (D.map d8)]).set k (HO.cells .plain [mapV st (t.es p),.hsl 1 false (st.heap.length+H.length) 0 D.length none])) ⟨t.N,t.es,upd t.dg p (some (H.length,D))⟩:=by
 have hk:=h.lt_n hp
 have hnew:(H++[HO.cells .grown (D.map d8)])[H.length]? = some (.cells .grown (D.map d8)):=by simp
 refine ⟨⟨h.top,h.nInj,?_,?_,h.mInj,h.kid,?_,?_,?_,?_⟩,⟨by simp,?_,?_⟩⟩
 · intro q j hq
   rw [rowAt_iff]
   by_cases hqp:q=p
   · subst hqp
     have:j=k:=by rw [hp] at hq;exact (Option.some.inj hq).symm
     subst this
     rw [List.getElem?_set_self (by simp;omega)]
     simp [digV]
   · have hne:j≠k:=by rintro rfl;exact hqp (h.nInj hq hp)
     rw [set_other (app_lt (h.nrow hq)) hne]
     simp only [upd_ne _ _ hqp]
 · intro q m l hq
   exact set_other (app_lt (h.mrow hq)) (fun e=>h.nm hp hq e.symm)
 · intro q j D' hq
   rw [rowAt_iff]
   by_cases hqp:q=p
   · subst hqp
     simp only [upd_self,Option.some.injEq,Prod.mk.injEq] at hq
     obtain ⟨rfl,rfl⟩:=hq
     exact set_other hnew (Nat.ne_of_gt (by assumption))
   · simp only [upd_ne _ _ hqp] at hq
     exact set_other (app_lt (h.drow' hq)) (fun e=>h.nd hp hq e.symm)
 · intro q q' m D1 D2 hq hq'
   by_cases hqp:q=p<;>by_cases hqp':q'=p
   · rw [hqp,hqp']
   · exfalso;subst hqp;simp only [upd_self,upd_ne _ _ hqp',Option.some.injEq,Prod.mk.injEq] at hq hq'
     have:=h.lt_d hq';omega
   · exfalso;subst hqp';simp only [upd_self,upd_ne _ _ hqp,Option.some.injEq,Prod.mk.injEq] at hq hq'
     have:=h.lt_d hq;omega
   · simp only [upd_ne _ _ hqp,upd_ne _ _ hqp'] at hq hq';exact h.dInj hq hq'
 · intro q j D' hq
   by_cases hqp:q=p
   · subst hqp
     simp only [upd_self,Option.some.injEq,Prod.mk.injEq] at hq
     rw [← hq.2];exact hD
   · simp only [upd_ne _ _ hqp] at hq;exact h.dlen hq
 · intro q hq
   have hqp:q≠p:=by rintro rfl;simp only at hq;rw [hp] at hq;cases hq
   obtain ⟨a,b,c⟩:=h.off hq
   exact ⟨a,by simp only [upd_ne _ _ hqp];exact b,c⟩
 · intro j hj ho
   have:j≠k:=by rintro rfl;exact ho (.inl ⟨p,hp⟩)
   rw [List.getElem?_set_ne (fun e=>this e.symm),List.getElem?_append_left hj]
 · intro j hj
   rcases hj with ⟨q,hq⟩ | ⟨q,l,hq⟩ | ⟨q,D',hq⟩
   · exact .inl (.inl ⟨q,hq⟩)
   · exact .inl (.inr (.inl ⟨q,l,hq⟩))
   · by_cases hqp:q=p
     · subst hqp;simp only [upd_self,Option.some.injEq,Prod.mk.injEq] at hq;right;omega
     · simp only [upd_ne _ _ hqp] at hq;exact .inl (.inr (.inr ⟨q,D',hq⟩))
theorem Trie.digm (h:t.ok st H root) {p:Path} {kd:Nat} {D D':List Nat} (hd:t.dg p=some (kd,D)) (hl:D'.length=D.length) :
 TS.ok st (H.set kd (HO.cells .grown (D'.map d8))) root ⟨t.N,t.es,upd t.dg p (some (kd,D'))⟩∧Grows H t (H.set kd (HO.cells .grown (D'.map d8))) ⟨t.N,t.es,upd t.dg p (some (kd,D'))⟩:=by
 have hk:=h.lt_d hd
 refine ⟨⟨h.top,h.nInj,?_,?_,h.mInj,h.kid,?_,?_,?_,?_⟩,⟨by simp,?_,?_⟩⟩
 · intro q j hq
   rw [rowAt_iff,set_other (h.nrow hq) (h.nd hq hd)]
   by_cases hqp:q=p
   · subst hqp;simp only [upd_self,hd,digV,hl]
   · simp only [upd_ne _ _ hqp]
 · intro q m l hq
   exact set_other (h.mrow hq) (h.md hq hd)
 · intro q j D1 hq
   rw [rowAt_iff]
   by_cases hqp:q=p
   · subst hqp
     simp only [upd_self,Option.some.injEq,Prod.mk.injEq] at hq
     obtain ⟨rfl,rfl⟩:=hq
     rw [List.getElem?_set_self hk]
   · simp only [upd_ne _ _ hqp] at hq
     exact set_other (h.drow' hq) (by rintro rfl;exact hqp (h.dInj hq hd))
 · intro q q' m D1 D2 hq hq'
   by_cases hqp:q=p<;>by_cases hqp':q'=p
   · rw [hqp,hqp']
   · subst hqp;simp only [upd_self,upd_ne _ _ hqp',Option.some.injEq,Prod.mk.injEq] at hq hq'
     obtain ⟨rfl,_⟩:=hq;exact h.dInj hd hq'
   · subst hqp';simp only [upd_self,upd_ne _ _ hqp,Option.some.injEq,Prod.mk.injEq] at hq hq'
     obtain ⟨rfl,_⟩:=hq';exact h.dInj hq hd
   · simp only [upd_ne _ _ hqp,upd_ne _ _ hqp'] at hq hq';exact h.dInj hq hq'
 · intro q j D1 hq
   by_cases hqp:q=p
   · subst hqp
     simp only [upd_self,Option.some.injEq,Prod.mk.injEq] at hq
     rw [← hq.2,hl];exact h.dlen hd
   · simp only [upd_ne _ _ hqp] at hq;exact h.dlen hq
 · intro q hq
   obtain ⟨a,b,c⟩:=h.off hq
   have hqp:q≠p:=by rintro rfl;rw [hd] at b;cases b
   exact ⟨a,by simp only [upd_ne _ _ hqp];exact b,c⟩
 · intro j hj ho
   have:j≠kd:=by rintro rfl;exact ho (.inr (.inr ⟨p,D,hd⟩))
   rw [List.getElem?_set_ne (fun e=>this e.symm)]
 · intro j hj
   rcases hj with ⟨q,hq⟩ | ⟨q,l,hq⟩ | ⟨q,D1,hq⟩
   · exact .inl (.inl ⟨q,hq⟩)
   · exact .inl (.inr (.inl ⟨q,l,hq⟩))
   · by_cases hqp:q=p
     · subst hqp;simp only [upd_self,Option.some.injEq,Prod.mk.injEq] at hq
       obtain ⟨rfl,_⟩:=hq
       exact .inl (.inr (.inr ⟨q,D,hd⟩))
     · simp only [upd_ne _ _ hqp] at hq;exact .inl (.inr (.inr ⟨q,D1,hq⟩))
end
theorem pst_mapset {st:St} {H:List HO} {K:List Nat} {ks:List LK} {m:Nat} {es:List (DV×DV)} {key v:DV} (h:H[m]? = some (.map es)) (hf:findD ks key es 0=some none) :
 mapsetD (pst st H K) ks (.map (st.heap.length+m)) key v=some (pst st (H.set m (.map (es++[(key,v)]))) K):=by
 have hb:(pst st H K).base≤st.heap.length+m:=by simp
 simp only [mapsetD,pst_heap,h,hf,hb,if_true]
 simp [pst,List.set_append_right]
theorem Trie.letter {st:St} {H:List HO} {root:Nat} {t:TS} (h:t.ok st H root) {p:Path} {k:Nat} {c:UInt8} (hp:t.N p=some k) :
 (∃ m l k2,t.es p=some (m,l)∧kidOf l c=some k2∧t.N (p++[c])=some k2) ∨
 (∃ m l,t.es p=some (m,l)∧kidOf l c=none)∨t.es p=none:=by
 cases he:t.es p with
 | none=>exact .inr (.inr rfl)
 | some x=>
   obtain ⟨m,l⟩:=x
   cases hc:kidOf l c with
   | none=>exact .inr (.inl ⟨m,l,rfl,hc⟩)
   | some k2=>
     refine .inl ⟨m,l,k2,rfl,hc,?_⟩
     have:=h.kid c hp
     rw [he] at this;simp only at this;rw [this,hc]
theorem findD_none (st:St) {l:List (UInt8×Nat)} {c:UInt8} (h:kidOf l c=none):findD [.int] (.int .u8 c.toNat) (l.map (entV st)) 0=some none:=by
 obtain ⟨j,hj⟩:=findD_kid st l c 0
 rw [hj,h];rfl
section
variable {st:St} {root:Nat}
theorem L157_0 {K:List Nat} {dv:DV} {L:List UInt8} {C:List DV} (hC:C=L.map u8) (hl:L.length≤1000):∀ (r d:List UInt8) (k:Nat) (H:List HO) (t:TS),L=d++r→t.ok st H root→t.N d=some k →
 ∃ tl k' H' t',(E tab).C f157L0 [(0,.ptr (st.heap.length+k) 0),(2,dv),(11,.list st.cur 1 .no true C),(12,.int .i64 L.length),(13,.int .i64 d.length)] (pst st H K) =
   some (.exit 0,(0,.ptr (st.heap.length+k') 0)::(2,dv)::tl,pst st H' K)∧t'.ok st H' root∧t'.N L=some k'∧Grows H t H' t'∧t'.dg=t.dg:=by
 intro r
 induction r with
 | nil=>
   intro d k H t hd hT hN
   obtain rfl:L=d:=by simpa using hd
   refine ⟨[(11,.list st.cur 1 .no true C),(12,.int .i64 L.length),(13,.int .i64 L.length),(14,.bool false)],k,H,t,?_,hT,hN,Grows.refl _ _,rfl⟩
   rw [C_turn (L:=f157L0) rfl]
   simp [f157B0]
 | cons c r ih=>
   intro d k H t hd hT hN
   have h0:d.length<L.length:=by simp [hd]
   have hx:C[d.length]? = some (.int .u8 c.toNat):=by simp [hC,hd,u8]
   have hlt:d.length<C.length:=(List.getElem?_eq_some_iff.1 hx).1
   have hge:C[d.length]'hlt=.int .u8 c.toNat:=by have:=hx;rw [List.getElem?_eq_getElem hlt] at this;exact Option.some.inj this
   have hw1:IntKind.i64.wrap ((d.length:Int)+1)=(d.length:Int)+1:=by rw [i64w (by omega)]
   have hrow:=hT.row hN
   have hlk:=hT.look hN c K
   have hkf:keyFit [.int] (.int .u8 c.toNat)=true:=rfl
   rcases hT.letter (c:=c) hN with ⟨m,l,k2,he,hk,hn⟩ | ⟨m,l,he,hk⟩ | he
   · rw [hn] at hlk
     rw [he] at hlk hrow
     obtain ⟨tl,k',H',t',hJ,a1,a2,a3,a4⟩:=ih (d++[c]) k2 H t (by simp [hd]) hT hn
     refine ⟨tl,k',H',t',?_,a1,a2,a3,a4⟩
     simp only [mapV,nodeV] at hlk hrow
     simp at hJ
     rw [C_turn (L:=f157L0) rfl]
     simp [f157B0,h0,hx,hge,hlt,hrow,hlk,hkf,eqD,hw1,hJ]
   · obtain ⟨hT1,hG1⟩:=hT.kidn hN he hk
     have hm:=hT.mrow he
     have hnone:t.N (d++[c])=none:=by rw [hT.kid c hN,he];exact hk
     rw [hnone,he] at hlk
     rw [he] at hrow
     have hN1:(upd t.N (d++[c]) (some H.length)) d=some k:=by
      rw [upd_ne _ _ (by intro e;have:=congrArg List.length e;simp at this)];exact hN
     have hN2:(upd t.N (d++[c]) (some H.length)) (d++[c])=some H.length:=upd_self _ _ _
     have hrow1:=hT1.row hN1
     have hlk1:=hT1.look hN1 c K
     simp only [upd_self] at hrow1 hlk1
     have hms:mapsetD (pst st (H++[HO.cells .plain [.nilmap,.list 0 0 .no false []]]) K) [.int] (.map (st.heap.length+m)) (.int .u8 c.toNat) (.ptr (st.heap.length+H.length) 0) =
      some (pst st ((H++[HO.cells .plain [.nilmap,.list 0 0 .no false []]]).set m (HO.map ((l++[(c,H.length)]).map (entV st)))) K):=by
      rw [pst_mapset (app_lt hm) (findD_none st hk)]
      simp [entV]
     obtain ⟨tl,k',H',t',hJ,a1,a2,a3,a4⟩:=ih (d++[c]) H.length _ ⟨upd t.N (d++[c]) (some H.length),upd t.es d (some (m,l++[(c,H.length)])),t.dg⟩ (by simp [hd]) hT1 hN2
     refine ⟨tl,k',H',t',?_,a1,a2,hG1.trans a3,a4⟩
     generalize hH1:(H++[HO.cells .plain [.nilmap,.list 0 0 .no false []]]).set m (HO.map ((l++[(c,H.length)]).map (entV st)))=H1 at *
     simp only [mapV,nodeV] at hlk hrow hrow1 hlk1
     simp at hJ
     rw [C_turn (L:=f157L0) rfl]
     simp [f157B0,h0,hx,hge,hlt,hrow,hlk,hkf,eqD,hw1,hms,hrow1,hlk1,hJ]
   · obtain ⟨hT1,hG1⟩:=hT.mkm hN he
     obtain ⟨hT2,hG2⟩:=hT1.kidn (c:=c) hN (upd_self _ _ _) rfl
     have hnone:t.N (d++[c])=none:=by rw [hT.kid c hN,he]
     rw [hnone,he] at hlk
     rw [he] at hrow
     have hrow1:=hT1.row hN
     have hlk1:=hT1.look hN c K
     have hm1:=hT1.mrow (upd_self t.es d (some (H.length,[])))
     simp only [upd_self] at hrow1 hlk1
     rw [hnone] at hlk1
     generalize hH1:(H++[HO.map []]).set k (HO.cells .plain [.map (st.heap.length+H.length),digV st (t.dg d)])=H1 at *
     have hN1:(upd t.N (d++[c]) (some H1.length)) d=some k:=by
      rw [upd_ne _ _ (by intro e;have:=congrArg List.length e;simp at this)];exact hN
     have hN2:(upd t.N (d++[c]) (some H1.length)) (d++[c])=some H1.length:=upd_self _ _ _
     have hrow2:=hT2.row hN1
     have hlk2:=hT2.look hN1 c K
     simp only [upd_self] at hrow2 hlk2
     have hms:mapsetD (pst st (H1++[HO.cells .plain [.nilmap,.list 0 0 .no false []]]) K) [.int] (.map (st.heap.length+H.length)) (.int .u8 c.toNat) (.ptr (st.heap.length+H1.length) 0) =
      some (pst st ((H1++[HO.cells .plain [.nilmap,.list 0 0 .no false []]]).set H.length (HO.map (([]++[(c,H1.length)]).map (entV st)))) K):=by
      rw [pst_mapset (app_lt hm1) rfl]
      simp [entV]
     obtain ⟨tl,k',H',t',hJ,a1,a2,a3,a4⟩:=ih (d++[c]) H1.length _ ⟨upd t.N (d++[c]) (some H1.length),upd (upd t.es d (some (H.length,[]))) d (some (H.length,[]++[(c,H1.length)])),t.dg⟩ (by simp [hd]) hT2 hN2
     refine ⟨tl,k',H',t',?_,a1,a2,(hG1.trans hG2).trans a3,a4⟩
     generalize hH2:(H1++[HO.cells .plain [.nilmap,.list 0 0 .no false []]]).set H.length (HO.map (([]++[(c,H1.length)]).map (entV st)))=H2 at *
     simp only [mapV,nodeV] at hlk hrow hrow1 hlk1 hrow2 hlk2
     simp at hJ
     have hroww:rowAt (H++[HO.map []]) k=some (.plain,[.nilmap,digV st (t.dg d)]):=row_at hrow _
     rw [C_turn (L:=f157L0) rfl]
     simp [f157B0,h0,hx,hge,hlt,hrow,hroww,hlk,hkf,eqD,hw1,hH1,hms,hrow1,hlk1,hrow2,hlk2,hJ]
end
section
variable {st:St} {root:Nat}
theorem L157_1 {K:List Nat} {k kd n t:Nat} {tk:Tk} {mv:DV} {D:List Nat} (hkd:kd≠k) (hn:n≤1000) (ha:D.length≤n):∀ (r d:List Nat) (V:List Nat) (H:List HO),D=d++r→V.length=n →
 rowAt H k=some (.plain,[mv,.hsl 1 false (st.heap.length+kd) 0 n none])→rowAt H kd=some (.grown,V.map d8) →
 ∃ fr,(E tab).C f157L1 [(0,.ptr (st.heap.length+k) 0),(57,.list t 1 tk true (D.map d8)),(58,.int .i64 D.length),(59,.int .i64 d.length)] (pst st H K) =
   some (.exit 2,fr,pst st (H.set kd (.cells .grown ((layV V d.length r).map d8))) K):=by
 intro r
 induction r with
 | nil=>
   intro d V H hd hV h1 h2
   obtain rfl:D=d:=by simpa using hd
   have hset:H.set kd (.cells .grown ((layV V D.length []).map d8))=H:=by
    have hk:=rowAt_lt h2
    apply List.ext_getElem?
    intro j
    by_cases hj:j=kd
    · subst hj
      rw [List.getElem?_set_self hk,rowAt_iff.1 h2];rfl
    · rw [List.getElem?_set_ne (fun e=>hj e.symm)]
   rw [hset]
   refine ⟨[(0,.ptr (st.heap.length+k) 0),(57,.list t 1 tk true (D.map d8)),(58,.int .i64 D.length),(59,.int .i64 D.length),(60,.bool false)],?_⟩
   rw [C_turn (L:=f157L1) rfl]
   simp [f157B1]
 | cons x r ih=>
   intro d V H hd hV h1 h2
   have hk:=rowAt_lt h2
   have h0:d.length<D.length:=by simp [hd]
   have hw1:IntKind.i64.wrap ((d.length:Int)+1)=(d.length:Int)+1:=by rw [i64w (by omega)]
   have had:d.length<n:=by omega
   generalize hDm:D.map d8=DM at *
   have hx:DM[d.length]? = some (.int .u8 x):=by rw [← hDm];simp [hd,d8]
   have hlt:d.length<DM.length:=(List.getElem?_eq_some_iff.1 hx).1
   have hge:DM[d.length]'hlt=.int .u8 x:=by have:=hx;rw [List.getElem?_eq_getElem hlt] at this;exact Option.some.inj this
   obtain ⟨y,hy⟩:∃ y,V[d.length]? = some y:=⟨V[d.length],List.getElem?_eq_getElem (by omega)⟩
   have hyd:V.getD d.length 0=y:=by simp [hy]
   generalize hVm:V.map d8=VM at *
   have hvx:VM[d.length]? = some (.int .u8 y):=by rw [← hVm];simp [hy,d8]
   have hvl:VM.length=n:=by rw [← hVm];simpa using hV
   have hvlt:d.length<VM.length:=by omega
   have hvge:VM[d.length]'hvlt=.int .u8 y:=by have:=hvx;rw [List.getElem?_eq_getElem hvlt] at this;exact Option.some.inj this
   have hmx:=fmax8 y x
   have hsp:=splice_one (x:=.int .u8 (max y x:Nat)) (vs:=VM) hvlt
   have hset:VM.set d.length (.int .u8 (max y x:Nat))=(V.set d.length (max y x)).map d8:=by rw [← hVm,List.map_set];rfl
   rw [hset] at hsp
   obtain ⟨fr,hJ⟩:=ih (d++[x]) (V.set d.length (max y x)) (H.set kd (.cells .grown ((V.set d.length (max y x)).map d8))) (by simp [hd]) (by simpa using hV) (by
    unfold rowAt at h1 ⊢;rw [List.getElem?_set_ne hkd];exact h1) (rowAt_set hk _ _)
   refine ⟨fr,?_⟩
   have e1:(d++[x]).length=d.length+1:=by simp
   rw [e1,List.set_set] at hJ
   have e2:layV V d.length (x::r)=layV (V.set d.length (max y x)) (d.length+1) r:=by simp only [layV,hyd]
   rw [e2]
   generalize (layV (V.set d.length (max y x)) (d.length+1) r).map d8=W at *
   generalize (V.set d.length (max y x)).map d8=VN at *
   simp only [splice,List.length_singleton] at hsp
   simp at hJ hsp
   have hle:d.length+1≤VM.length:=by omega
   rw [C_turn (L:=f157L1) rfl]
   simp [f157B1,h0,h1,h2,hx,hge,hlt,had,hvx,hvge,hvlt,hmx,hle,hsp,hw1,hJ]
def addT (t:TS) (L:List UInt8) (D:List Nat) (t':TS):Prop:=
 (∀ q,q≠L→t'.dg q=t.dg q)∧∃ kd,t'.dg L=some (kd,match t.dg L with | some (_,D0)=>layV D0 0 D | none=>D)
theorem add157 {K:List Nat} {H:List HO} {t:TS} {L:List UInt8} {D:List Nat} {tg:Nat} {tk:Tk} (hl:L.length≤900) (hD:D.length=L.length+1) (hT:t.ok st H root) :
 ∃ H' t',(E tab).F 157 [.ptr (st.heap.length+root) 0,.str L,.list tg 1 tk true (D.map d8)] (pst st H K)=some (.tuple [],pst st H' K)∧t'.ok st H' root∧Grows H t H' t'∧addT t L D t':=by
 rw [F_go at157 rfl]
 obtain ⟨tl,k,H1,t1,hL,hT1,hN1,hG1,hd1⟩:=L157_0 (K:=K) (dv:=.list tg 1 tk true (D.map d8)) (L:=L) rfl (by omega) L [] root H t rfl hT hT.top
 simp at hL
 have hu:(fun b:UInt8=>DV.int .u8 (b.toNat:Int))=u8:=rfl
 have hrow:=hT1.row hN1
 cases hdg:t1.dg L with
 | none=>
   obtain ⟨hT2,hG2⟩:=hT1.dign hN1 hdg hD
   refine ⟨_,_,?_,hT2,hG1.trans hG2,?_⟩
   · rw [hdg] at hrow
     simp only [digV] at hrow
     have hcl:=clone164 (st:=st) (H:=H1) (K:=K) (t:=tg) (tk:=tk) (D:=D) (by intro e;simp [e] at hD) (by omega)
     have hrow2:rowAt (H1++[HO.cells .grown (D.map d8)]) k=_:=row_at hrow _
     simp [f157,hu,hL,hrow,eqD,hcl,hrow2]
   · refine ⟨fun q hq=>by simp only [upd_ne _ _ hq,hd1],H1.length,?_⟩
     rw [← hd1,hdg];simp
 | some x=>
   obtain ⟨kd,D0⟩:=x
   have hlen:=hT1.dlen hdg
   have hlay:(layV D0 0 D).length=D0.length:=layV_len _ _ _
   obtain ⟨hT2,hG2⟩:=hT1.digm hdg hlay
   refine ⟨_,_,?_,hT2,hG1.trans hG2,?_⟩
   · rw [hdg] at hrow
     simp only [digV] at hrow
     obtain ⟨fr,hL2⟩:=L157_1 (st:=st) (K:=K) (k:=k) (kd:=kd) (t:=tg) (tk:=tk) (mv:=mapV st (t1.es L)) (D:=D) (n:=D0.length) (fun e=>hT1.nd hN1 hdg e.symm) (by omega) (by omega) D [] D0 H1 rfl rfl hrow (hT1.drow hdg)
     simp at hL2
     simp [f157,hu,hL,hrow,eqD,hL2]
   · refine ⟨fun q hq=>by simp only [upd_ne _ _ hq,hd1],kd,?_⟩
     rw [← hd1,hdg];simp
end
theorem layV_le (x:Nat):∀ (D V:List Nat) (a m:Nat),m<V.length→((layV V a D).getD m 0≤x↔V.getD m 0≤x∧(a≤m→D.getD (m-a) 0≤x))
 | [],V,a,m,hm=>by simp [layV]
 | d::r,V,a,m,hm=>by
   rw [layV,layV_le x r _ (a+1) m (by simpa using hm)]
   by_cases h:a=m
   · subst h
     have e:(V.set a (max (V.getD a 0) d)).getD a 0=max (V.getD a 0) d:=by simp [List.getD_eq_getElem?_getD,hm]
     rw [e]
     have h1:¬ (a+1≤a):=by omega
     simp only [h1,false_implies,and_true,Nat.le_refl,Nat.sub_self,true_implies]
     simp;omega
   · have e:(V.set a (max (V.getD a 0) d)).getD m 0=V.getD m 0:=by simp [List.getD_eq_getElem?_getD,List.getElem?_set_ne h]
     rw [e]
     by_cases h2:a≤m
     · have h3:a+1≤m:=by omega
       have e2:m-a=(m-(a+1))+1:=by omega
       simp only [h2,h3,true_implies,e2]
       simp
     · have h3:¬ (a+1≤m):=by omega
       simp only [h2,h3,false_implies]
def Sem (t:TS) (ps:List (List UInt8)):Prop:=
 ∀ q,match t.dg q with
   | none=>∀ s∈ps,letL s≠q
   | some (_,D)=>D.length=q.length+1∧∀ m,m<q.length+1→∀ x,(D.getD m 0≤x↔∀ s∈ps,letL s=q→(digs 0 s).getD m 0≤x)
theorem Sem.add {t t':TS} {ps:List (List UInt8)} {s:List UInt8} (h:Sem t ps) (ha:addT t (letL s) (digs 0 s) t'):Sem t' (ps++[s]):=by
 intro q
 obtain ⟨h1,kd,h2⟩:=ha
 have hl:=digs_len s 0
 have hq:=h q
 by_cases e:q=letL s
 · subst e
   rw [h2]
   simp only
   cases hd:t.dg (letL s) with
   | none=>
     rw [hd] at hq
     refine ⟨hl,fun m hm x => ?_⟩
     simp only [List.mem_append,List.mem_singleton]
     constructor
     · rintro a s' (hs | rfl) e
       · exact absurd e (hq s' hs)
       · exact a
     · intro a;exact a s (.inr rfl) rfl
   | some y=>
     obtain ⟨k0,D0⟩:=y
     rw [hd] at hq
     obtain ⟨hq1,hq2⟩:=hq
     refine ⟨by simp only [layV_len];exact hq1,fun m hm x => ?_⟩
     simp only
     rw [layV_le x _ _ 0 m (by omega),hq2 m hm x]
     simp only [List.mem_append,List.mem_singleton,Nat.zero_le,true_implies,Nat.sub_zero]
     constructor
     · rintro ⟨a,b⟩ s' (hs | rfl) e
       · exact a s' hs e
       · exact b
     · intro a;exact ⟨fun s' hs e=>a s' (.inl hs) e,a s (.inr rfl) rfl⟩
 · rw [h1 q e]
   cases hd:t.dg q with
   | none=>
     rw [hd] at hq
     intro s' hs
     rcases List.mem_append.1 hs with hs | hs
     · exact hq s' hs
     · simp only [List.mem_singleton] at hs;subst hs;exact fun e'=>e e'.symm
   | some y=>
     obtain ⟨k0,D0⟩:=y
     rw [hd] at hq
     obtain ⟨hq1,hq2⟩:=hq
     refine ⟨hq1,fun m hm x => ?_⟩
     rw [hq2 m hm x]
     simp only [List.mem_append,List.mem_singleton]
     constructor
     · rintro a s' (hs | rfl) e'
       · exact a s' hs e'
       · exact absurd e'.symm e
     · intro a s' hs e';exact a s' (.inl hs) e'
theorem Grows.split {H X H':List HO} {t t':TS} (h:Grows (H++X) t H' t') (ho:∀ j,t.own j→H.length≤j):∃ X',H'=H++X'∧(∀ j,t'.own j→H.length≤j)∧X.length≤X'.length:=by
 have hl:=h.len
 rw [List.length_append] at hl
 have e:H'.take H.length=H:=by
  apply List.ext_getElem?
  intro j
  by_cases hj:j<H.length
  · rw [List.getElem?_take_of_lt hj,h.fr j (by simp;omega) (fun hh=>by have:=ho j hh;omega),List.getElem?_append_left hj]
  · rw [List.getElem?_eq_none (by simp;omega),List.getElem?_eq_none (by omega)]
 refine ⟨H'.drop H.length,?_,?_,by simp;omega⟩
 · conv=>lhs;rw [← List.take_append_drop H.length H',e]
 · intro j hj
   rcases h.own j hj with h1 | h1
   · exact ho j h1
   · rw [List.length_append] at h1;omega
theorem Trie.same {st:St} {H H':List HO} {root:Nat} {t:TS} (h:t.ok st H root) (hs:∀ j,t.own j→H'[j]? = H[j]?):t.ok st H' root:=
 ⟨h.top,h.nInj,fun hp=>rowAt_iff.2 (by rw [hs _ (.inl ⟨_,hp⟩)];exact h.nrow hp),fun hp=>by rw [hs _ (.inr (.inl ⟨_,_,hp⟩))];exact h.mrow hp,h.mInj,h.kid,
  fun hp=>rowAt_iff.2 (by rw [hs _ (.inr (.inr ⟨_,_,hp⟩))];exact h.drow' hp),h.dInj,h.dlen,h.off⟩
def t0 (root:Nat):TS:=⟨fun p=>if p=[] then some root else none,fun _=>none,fun _=>none⟩
theorem t0_ok {st:St} {H:List HO} {root:Nat} (h:H[root]? = some (.cells .plain [.nilmap,.list 0 0 .no false []])):(t0 root).ok st H root:=by
 refine ⟨by simp [t0],?_,?_,?_,?_,?_,?_,?_,?_,?_⟩
 · intro p q k hp hq
   simp only [t0] at hp hq
   split at hp
   · split at hq
     · rename_i a b;rw [a,b]
     · cases hq
   · cases hp
 · intro p k hp
   simp only [t0] at hp
   split at hp
   · cases hp;rw [rowAt_iff,h];rfl
   · cases hp
 · intro p m l hp;cases hp
 · intro p q m l l' hp;cases hp
 · intro p k c hp;simp [t0]
 · intro p k D hp;cases hp
 · intro p q k D D' hp;cases hp
 · intro p k D hp;cases hp
 · intro p hp
   exact ⟨rfl,rfl,fun c=>by simp [t0]⟩
theorem t0_sem (root:Nat):Sem (t0 root) []:=by intro q;simp [t0]
theorem t0_own {root j:Nat} (h:(t0 root).own j):j=root:=by
 rcases h with ⟨p,hp⟩ | ⟨p,l,hp⟩ | ⟨p,D,hp⟩
 · simp only [t0] at hp
   split at hp
   · exact (Option.some.inj hp).symm
   · cases hp
 · cases hp
 · cases hp
theorem at147:tab 147=some (.code f147):=by kernel_rfl
theorem str_el {ps:List (List UInt8)}:∀ y∈ps.map DV.str,IsEl 1 false y:=by
 intro y hy;obtain ⟨c,_,rfl⟩:=List.mem_map.1 hy;exact ⟨rfl,rfl,rfl⟩
section
variable {st:St} {K:List Nat}
theorem L147_0 {H:List HO} {v w:DV} {ps:List (List UInt8)} (hps:ps.length≤256) (hv:Vw (pst st H K) 1 false (ps.map DV.str) v) {kh me root:Nat} {hx:DV} (hkh:H.length≤kh) (hme:H.length≤me) (hroot:H.length≤root) :
 ∀ (r d:List (List UInt8)) (X:List HO) (t:TS),ps=d++r→t.ok st (H++X) root→Sem t d→(∀ j,t.own j→H.length≤j)→¬ t.own kh→¬ t.own me→kh<(H++X).length→me<(H++X).length →
   rowAt (H++X) kh=some (.plain,[.ptr (st.heap.length+root) 0,hx]) →
 ∃ e fr X' t',(E tab).C f147L0 [(1,w),(6,.ptr (st.heap.length+kh) 0),(33,v),(34,.int .i64 ps.length),(35,.int .i64 d.length)] (pst st (H++X) K)=some (e,fr,pst st (H++X') K) ∧
   t'.ok st (H++X') root∧(∀ j,t'.own j→H.length≤j)∧¬ t'.own kh∧¬ t'.own me∧X.length≤X'.length∧(H++X')[me]? = (H++X)[me]? ∧ (H++X')[kh]? = (H++X)[kh]? ∧
   if r.all okP=true then e=.exit 0∧Sem t' ps∧∃ tl,fr=(1,w)::(6,.ptr (st.heap.length+kh) 0)::tl
   else e=.ret∧fr=[(4,.nilp),(5,.int .i64 4)]:=by
 intro r
 induction r with
 | nil=>
   intro d X t hd hT hS ho hk hm hkl hml hrow
   obtain rfl:ps=d:=by simpa using hd
   refine ⟨.exit 0,[(1,w),(6,.ptr (st.heap.length+kh) 0),(33,v),(34,.int .i64 ps.length),(35,.int .i64 ps.length),(36,.bool false)],X,t,?_,hT,ho,hk,hm,Nat.le_refl _,rfl,rfl,?_⟩
   · rw [C_turn (L:=f147L0) rfl]
     simp [f147B0]
   · simp [hS]
 | cons s r ih=>
   intro d X t hd hT hS ho hk hm hkl hml hrow
   have h0:d.length<ps.length:=by simp [hd]
   have hw1:IntKind.i64.wrap ((d.length:Int)+1)=(d.length:Int)+1:=by rw [i64w (by omega)]
   have hxs:(ps.map DV.str)[d.length]? = some (.str s):=by simp [hd]
   have hv':=hv.app X K
   have hia:=hv'.iaddr (i:=d.length) (by simpa using h0) .i64 (pst st (H++X) K)
   have hld:=hv'.load1 str_el hxs
   obtain ⟨hp1,hp2⟩:=pattern156 s (pst st (H++X) K)
   by_cases hok:okP s=true
   · obtain ⟨tg,tk,hpat⟩:=hp1 hok
     have hsl:s.length≤16:=by simp only [okP,Bool.and_eq_true,decide_eq_true_eq] at hok;exact hok.1.2
     have hll:(letL s).length≤s.length:=List.length_filter_le _ _
     obtain ⟨H2,t2,hadd,hT2,hG2,hA2⟩:=add157 (K:=K) (tg:=tg) (tk:=tk) (by omega) (digs_len s 0) hT
     obtain ⟨X2,rfl,ho2,hx2⟩:=hG2.split ho
     have hS2:=hS.add hA2
     have hk2:¬ t2.own kh:=fun h=>(hG2.own kh h).elim hk (fun h=>by omega)
     have hm2:¬ t2.own me:=fun h=>(hG2.own me h).elim hm (fun h=>by omega)
     have ek:=hG2.fr kh hkl hk
     have em:=hG2.fr me hml hm
     have hrow2:rowAt (H++X2) kh=some (.plain,[.ptr (st.heap.length+root) 0,hx]):=by rw [rowAt_iff,ek];exact rowAt_iff.1 hrow
     obtain ⟨e,fr,X',t',hJ,a1,a2,a3,a4,a5,a6,a7,a8⟩:=ih (d++[s]) X2 t2 (by simp [hd]) hT2 hS2 ho2 hk2 hm2 (by have:=rowAt_lt hrow2;exact this) (by have:=hG2.len;omega) hrow2
     refine ⟨e,fr,X',t',?_,a1,a2,a3,a4,by omega,by rw [a6,em],by rw [a7,ek],?_⟩
     · simp at hJ
       rw [C_turn (L:=f147L0) rfl]
       simp [f147B0,h0,hia,hld,hpat,hrow,hadd,hw1,hJ]
     · simpa [hok] using a8
   · simp only [Bool.not_eq_true] at hok
     obtain ⟨l,w',hpat⟩:=hp2 hok
     refine ⟨.ret,[(4,.nilp),(5,.int .i64 4)],X,t,?_,hT,ho,hk,hm,Nat.le_refl _,rfl,rfl,?_⟩
     · rw [C_turn (L:=f147L0) rfl]
       simp [f147B0,h0,hia,hld,hpat]
     · simp [hok]
end
def exV (x:List UInt8×DV):DV×DV:=(.str x.1,x.2)
theorem findS (w:List UInt8):∀ (EE:List (List UInt8×DV)) (i:Nat),((∀ x∈EE,x.1≠w)∧findD [.str] (.str w) (EE.map exV) i=some none) ∨
 ∃ j v,EE[j]? = some (w,v)∧(∀ k x,k<j→EE[k]? = some x→x.1≠w)∧findD [.str] (.str w) (EE.map exV) i=some (some (i+j,v))
 | [],i=>.inl ⟨by simp,rfl⟩
 | (a,v)::r,i=>by
   by_cases h:w=a
   · subst h
     exact .inr ⟨0,v,rfl,by intro k x hk;omega,by simp [findD,exV,keyEq,scalEq]⟩
   · have hb:(w==a)=false:=by rw [beq_eq_false_iff_ne];exact h
     have e:∀ r,findD [.str] (.str w) (exV (a,v)::r) i=findD [.str] (.str w) r (i+1):=by
      intro r;simp [findD,exV,keyEq,scalEq,hb]
     rcases findS w r (i+1) with ⟨h1,h2⟩ | ⟨j,v',h1,h2,h3⟩
     · refine .inl ⟨?_,by rw [List.map_cons,e];exact h2⟩
       intro x hx
       rcases List.mem_cons.1 hx with rfl | hx
       · exact fun e=>h e.symm
       · exact h1 x hx
     · refine .inr ⟨j+1,v',h1,?_,by rw [List.map_cons,e,h3];congr 3;omega⟩
       intro k x hk hx
       cases k with
       | zero=>simp only [List.getElem?_cons_zero,Option.some.injEq] at hx;rw [← hx];exact fun e=>h e.symm
       | succ k=>exact h2 k x (by omega) hx
theorem pst_mapset2 {st:St} {H:List HO} {K:List Nat} {ks:List LK} {m i:Nat} {es:List (DV×DV)} {key v v0:DV} (h:H[m]? = some (.map es)) (hf:findD ks key es 0=some (some (i,v0))) :
 mapsetD (pst st H K) ks (.map (st.heap.length+m)) key v=some (pst st (H.set m (.map (es.modify i fun _=>(key,v)))) K):=by
 have hb:(pst st H K).base≤st.heap.length+m:=by simp
 simp only [mapsetD,pst_heap,h,hf,hb,if_true]
 simp [pst,List.set_append_right]
theorem map_mod (w:List UInt8) (v:DV):∀ (EE:List (List UInt8×DV)) (i:Nat),(EE.map exV).modify i (fun _=>(.str w,v))=(EE.modify i fun _=>(w,v)).map exV
 | [],i=>by simp
 | x::r,0=>rfl
 | x::r,i+1=>by simp [List.modify_succ_cons,map_mod w v r i]
inductive F2 {α β:Type} (R:α→β→Prop):List α→List β→Prop
 | nil:F2 R [] []
 | cons {a:α} {b:β} {l:List α} {m:List β} (h:R a b) (t:F2 R l m):F2 R (a::l) (b::m)
structure ExI (d:List (List UInt8)) (EE:List (List UInt8×DV)) (tw:Bool):Prop where
 mem:∀ w,(∃ x∈EE,x.1=w)↔∃ s∈d,bareL s=w
 tws:tw=true↔¬ (d.map bareL).Nodup
 all:tw=false→F2 (fun s x=>x.1=bareL s∧Lw 1 ((plc 0 s).map i6) x.2) d EE
theorem ExI.nil:ExI [] [] false:=⟨by simp,by simp,fun _=>.nil⟩
theorem nodup_snoc (l:List (List UInt8)) (a:List UInt8):(l++[a]).Nodup↔l.Nodup∧a∉l:=by
 rw [List.nodup_append]
 constructor
 · rintro ⟨h1,_,h2⟩;exact ⟨h1,fun h=>h2 a h a (by simp) rfl⟩
 · rintro ⟨h1,h2⟩;refine ⟨h1,by simp,?_⟩
   intro x hx y hy e
   simp only [List.mem_singleton] at hy;subst hy;subst e;exact h2 hx
theorem forall2_snoc {α β:Type} {R:α→β→Prop}:∀ {l:List α} {m:List β} {a:α} {b:β},F2 R l m→R a b→F2 R (l++[a]) (m++[b])
 | [],[],_,_,.nil,h=>.cons h .nil
 | _::_,_::_,_,_,.cons h1 h2,h=>.cons h1 (forall2_snoc h2 h)
theorem ExI.new {d:List (List UInt8)} {EE:List (List UInt8×DV)} {tw:Bool} (h:ExI d EE tw) {s:List UInt8} {v:DV} (hn:∀ x∈EE,x.1≠bareL s) (hv:Lw 1 ((plc 0 s).map i6) v):ExI (d++[s]) (EE++[(bareL s,v)]) tw:=by
 have hnd:bareL s∉d.map bareL:=by
  intro hm
  obtain ⟨s',h1,h2⟩:=List.mem_map.1 hm
  obtain ⟨x,hx,e⟩:=(h.mem (bareL s)).2 ⟨s',h1,h2⟩
  exact hn x hx e
 refine ⟨?_,?_,fun e=>forall2_snoc (h.all e) ⟨rfl,hv⟩⟩
 · intro w
   have:=h.mem w
   constructor
   · rintro ⟨x,hx,e⟩
     rcases List.mem_append.1 hx with hx | hx
     · obtain ⟨s',h1,h2⟩:=this.1 ⟨x,hx,e⟩;exact ⟨s',List.mem_append_left _ h1,h2⟩
     · simp only [List.mem_singleton] at hx;subst hx;exact ⟨s,by simp,e⟩
   · rintro ⟨s',hs,e⟩
     rcases List.mem_append.1 hs with hs | hs
     · obtain ⟨x,hx,e⟩:=this.2 ⟨s',hs,e⟩;exact ⟨x,List.mem_append_left _ hx,e⟩
     · simp only [List.mem_singleton] at hs;subst hs;exact ⟨(bareL s',v),List.mem_append_right _ (by simp),e⟩
 · rw [h.tws,List.map_append,List.map_singleton,nodup_snoc]
   simp [hnd]
theorem ExI.old {d:List (List UInt8)} {EE:List (List UInt8×DV)} {tw:Bool} (h:ExI d EE tw) {s:List UInt8} {v v0:DV} {j:Nat} (hj:EE[j]? = some (bareL s,v0)):ExI (d++[s]) (EE.modify j fun _=>(bareL s,v)) true:=by
 have hnd:bareL s∈d.map bareL:=by
  obtain ⟨s',h1,h2⟩:=(h.mem (bareL s)).1 ⟨_,List.mem_of_getElem? hj,rfl⟩
  exact List.mem_map.2 ⟨s',h1,h2⟩
 have hf:∀ w,(∃ x∈EE.modify j (fun _=>(bareL s,v)),x.1=w)↔∃ x∈EE,x.1=w:=by
  intro w
  have e:(EE.modify j (fun _=>(bareL s,v))).map Prod.fst=EE.map Prod.fst:=by
   apply List.ext_getElem?
   intro k
   rw [List.getElem?_map,List.getElem?_map,List.getElem?_modify]
   by_cases hk:j=k
   · subst hk;rw [hj];simp
   · simp [hk]
  have e2:∀ l:List (List UInt8×DV),(∃ x∈l,x.1=w)↔w∈l.map Prod.fst:=by intro l;simp
  rw [e2,e2,e]
 refine ⟨?_,?_,fun e=>by cases e⟩
 · intro w
   rw [hf w,h.mem w]
   constructor
   · rintro ⟨s',hs,e⟩;exact ⟨s',List.mem_append_left _ hs,e⟩
   · rintro ⟨s',hs,e⟩
     rcases List.mem_append.1 hs with hs | hs
     · exact ⟨s',hs,e⟩
     · simp only [List.mem_singleton] at hs;subst hs;subst e
       obtain ⟨s',h1,h2⟩:=List.mem_map.1 hnd;exact ⟨s',h1,h2⟩
 · rw [List.map_append,List.map_singleton,nodup_snoc]
   simp only [true_iff]
   exact fun h=>h.2 hnd
section
variable {st:St} {K:List Nat}
theorem L147_1 {H:List HO} {w:DV} {es:List (List UInt8)} (hes:es.length≤256) (hsl:∀ s∈es,s.length≤1000) (hv:Vw (pst st H K) 1 false (es.map DV.str) w) {a b:Nat} {np:DV} (hab:a≠b) :
 ∀ (r d:List (List UInt8)) (X:List HO) (EE:List (List UInt8×DV)) (tw:Bool),es=d++r→X[b]? = some (.map (EE.map exV))→rowAt X a=some (.plain,[np,.map (st.heap.length+(H.length+b))])→ExI d EE tw →
 ∃ e fr EE',(E tab).C f147L1 [(6,.ptr (st.heap.length+(H.length+a)) 0),(12,.bool tw),(55,w),(56,.int .i64 es.length),(57,.int .i64 d.length)] (pst st (H++X) K)=some (e,fr,pst st (H++X.set b (.map (EE'.map exV))) K) ∧
   if r.all okE=true then e=.exit 2∧∃ tw' tl,fr=(6,.ptr (st.heap.length+(H.length+a)) 0)::(12,.bool tw')::tl∧ExI es EE' tw'
   else e=.ret∧fr=[(4,.nilp),(5,.int .i64 4)]:=by
 intro r
 induction r with
 | nil=>
   intro d X EE tw hd hb ha hI
   obtain rfl:es=d:=by simpa using hd
   have hset:X.set b (.map (EE.map exV))=X:=by
    apply List.ext_getElem?
    intro j
    by_cases hj:j=b
    · subst hj;rw [List.getElem?_set_self (List.getElem?_eq_some_iff.1 hb).1,hb]
    · rw [List.getElem?_set_ne (fun e=>hj e.symm)]
   refine ⟨.exit 2,[(6,.ptr (st.heap.length+(H.length+a)) 0),(12,.bool tw),(55,w),(56,.int .i64 es.length),(57,.int .i64 es.length),(58,.bool false)],EE,?_,?_⟩
   · rw [hset,C_turn (L:=f147L1) rfl]
     simp [f147B1]
   · simp [hI]
 | cons s r ih=>
   intro d X EE tw hd hb ha hI
   have h0:d.length<es.length:=by simp [hd]
   have hw1:IntKind.i64.wrap ((d.length:Int)+1)=(d.length:Int)+1:=by rw [i64w (by omega)]
   have hxs:(es.map DV.str)[d.length]? = some (.str s):=by simp [hd]
   have hv':=hv.app X K
   have hia:=hv'.iaddr (i:=d.length) (by simpa using h0) .i64 (pst st (H++X) K)
   have hld:=hv'.load1 str_el hxs
   obtain ⟨l,pv,hexc,hok1⟩:=exception158 (s:=s) (st:=pst st (H++X) K) (hsl s (by simp [hd]))
   have hbl:=(List.getElem?_eq_some_iff.1 hb).1
   have hra:rowAt (H++X) (H.length+a)=some (.plain,[np,.map (st.heap.length+(H.length+b))]):=by rw [rowAt_right];exact ha
   have hkf:∀ s,keyFit [.str] (.str s)=true:=fun _=>rfl
   by_cases hok:okE s=true
   · obtain ⟨rfl,hlw⟩:=hok1 hok
     have hHb:(H++X)[H.length+b]? = some (.map (EE.map exV)):=by rw [app_at];exact hb
     have hset2:∀ o o',(X.set b o).set b o'=X.set b o':=fun o o'=>List.set_set ..
     rw [hok] at hexc
     rcases findS (bareL s) EE 0 with ⟨h1,h2⟩ | ⟨j,v0,h1,_,h2⟩
     · have hlk:lookupD (pst st (H++X) K) [.str] (.list 0 0 .no false []) (.map (st.heap.length+(H.length+b))) (.str (bareL s)) true=some (.tuple [.list 0 0 .no false [],.bool false]):=by
        simp only [lookupD,pst_heap,hHb,h2];rfl
       have hms:=pst_mapset (st:=st) (K:=K) (v:=pv) hHb h2
       have e1:EE.map exV++[(.str (bareL s),pv)]=(EE++[(bareL s,pv)]).map exV:=by simp [exV]
       rw [e1,set_right] at hms
       obtain ⟨e,fr,EE',hJ,hR⟩:=ih (d++[s]) (X.set b (.map ((EE++[(bareL s,pv)]).map exV))) (EE++[(bareL s,pv)]) tw (by simp [hd]) (by rw [List.getElem?_set_self hbl]) (by
        rw [rowAt_iff,List.getElem?_set_ne (fun e=>hab e.symm)];exact rowAt_iff.1 ha) (hI.new h1 hlw)
       refine ⟨e,fr,EE',?_,by simpa [hok] using hR⟩
       rw [List.set_set] at hJ
       generalize (EE++[(bareL s,pv)]).map exV=Y at *
       generalize EE'.map exV=Y' at *
       simp at hJ
       rw [C_turn (L:=f147L1) rfl]
       cases tw<;>simp [f147B1,h0,hia,hld,hexc,hra,hlk,hkf,hms,hw1,hJ]
     · have hlk:lookupD (pst st (H++X) K) [.str] (.list 0 0 .no false []) (.map (st.heap.length+(H.length+b))) (.str (bareL s)) true=some (.tuple [v0,.bool true]):=by
        simp only [lookupD,pst_heap,hHb,h2];rfl
       have hms:=pst_mapset2 (st:=st) (K:=K) (v:=pv) hHb h2
       rw [Nat.zero_add,map_mod,set_right] at hms
       obtain ⟨e,fr,EE',hJ,hR⟩:=ih (d++[s]) (X.set b (.map ((EE.modify j fun _=>(bareL s,pv)).map exV))) (EE.modify j fun _=>(bareL s,pv)) true (by simp [hd]) (by rw [List.getElem?_set_self hbl]) (by
        rw [rowAt_iff,List.getElem?_set_ne (fun e=>hab e.symm)];exact rowAt_iff.1 ha) (hI.old h1)
       refine ⟨e,fr,EE',?_,by simpa [hok] using hR⟩
       rw [List.set_set] at hJ
       generalize (EE.modify j fun _=>(bareL s,pv)).map exV=Y at *
       generalize EE'.map exV=Y' at *
       simp at hJ
       rw [C_turn (L:=f147L1) rfl]
       cases tw<;>simp [f147B1,h0,hia,hld,hexc,hra,hlk,hkf,hms,hw1,hJ]
   · simp only [Bool.not_eq_true] at hok
     rw [hok] at hexc
     have hset:X.set b (.map (EE.map exV))=X:=by
      apply List.ext_getElem?
      intro j
      by_cases hj:j=b
      · subst hj;rw [List.getElem?_set_self hbl,hb]
      · rw [List.getElem?_set_ne (fun e=>hj e.symm)]
     refine ⟨.ret,[(4,.nilp),(5,.int .i64 4)],EE,?_,?_⟩
     · rw [hset,C_turn (L:=f147L1) rfl]
       simp [f147B1,h0,hia,hld,hexc]
     · simp [hok]
end
def errN (ps es:List (List UInt8)):Nat:=if 256<ps.length∨64<es.length then 3 else if ps.all okP=true∧es.all okE=true then (if (es.map bareL).Nodup then 0 else 7) else 4
def HypOk (st:St) (G:List HO) (b:Nat) (ps es:List (List UInt8)):Prop:=
 ∃ t EE,t.ok st G b∧Sem t ps∧(∀ j,t.own j→b≤j)∧ExI es EE false∧G[b+1]? = some (.map (EE.map exV))∧rowAt G (b+2)=some (.plain,[.ptr (st.heap.length+b) 0,.map (st.heap.length+(b+1))])
theorem HypOk.same {st:St} {G G':List HO} {b:Nat} {ps es:List (List UInt8)} (h:HypOk st G b ps es) (hs:∀ j,b≤j→j<G.length→G'[j]? = G[j]?):HypOk st G' b ps es:=by
 obtain ⟨t,EE,h1,h2,h3,h4,h5,h6⟩:=h
 refine ⟨t,EE,h1.same fun j hj => ?_,h2,h3,h4,?_,?_⟩
 · refine hs j (h3 j hj) ?_
   rcases hj with ⟨p,hp⟩ | ⟨p,l,hp⟩ | ⟨p,D,hp⟩
   · exact h1.lt_n hp
   · exact h1.lt_m hp
   · exact h1.lt_d hp
 · rw [hs _ (by omega) (List.getElem?_eq_some_iff.1 h5).1];exact h5
 · rw [rowAt_iff,hs _ (by omega) (rowAt_lt h6)];exact rowAt_iff.1 h6
section
variable {st:St} {K:List Nat}
theorem new147 {H:List HO} {v w:DV} {ps es:List (List UInt8)} (hsl:∀ s∈es,s.length≤1000) (hv:Vw (pst st H K) 1 false (ps.map DV.str) v) (hw:Vw (pst st H K) 1 false (es.map DV.str) w) :
 ∃ X hp,(E tab).F 147 [v,w] (pst st H K)=some (.tuple [hp,.int .i64 (errN ps es:Nat)],pst st (H++X) K)∧(errN ps es=0→hp=.ptr (st.heap.length+(H.length+2)) 0∧HypOk st (H++X) H.length ps es)∧(errN ps es≠0→hp=.nilp):=by
 rw [F_go at147 rfl]
 have hlv:=hv.len
 have hlw:=hw.len
 simp only [List.length_map] at hlv hlw
 by_cases h1:256<ps.length
 · have h1':(256:Int)<ps.length:=by omega
   have he:errN ps es=3:=by simp [errN,h1]
   refine ⟨[],.nilp,?_,by simp [he],fun _=>rfl⟩
   rw [he]
   simp [f147,hlv,h1']
 by_cases h2:64<es.length
 · have h1':¬ (256:Int)<ps.length:=by omega
   have h2':(64:Int)<es.length:=by omega
   have he:errN ps es=3:=by simp [errN,h2]
   refine ⟨[],.nilp,?_,by simp [he],fun _=>rfl⟩
   rw [he]
   simp [f147,hlv,hlw,h1',h2']
 have h1':¬ (256:Int)<ps.length:=by omega
 have h2':¬ (64:Int)<es.length:=by omega
 have hX0:H++[HO.cells .plain [.nilmap,.list 0 0 .no false []],.map [],.cells .plain [.ptr (st.heap.length+H.length) 0,.map (st.heap.length+(H.length+1))]] =
  H++[HO.cells .plain [.nilmap,.list 0 0 .no false []],.map [],.cells .plain [.ptr (st.heap.length+H.length) 0,.map (st.heap.length+(H.length+1))]]:=rfl
 have hg:∀ j,(H++[HO.cells .plain [.nilmap,.list 0 0 .no false []],.map [],.cells .plain [.ptr (st.heap.length+H.length) 0,.map (st.heap.length+(H.length+1))]])[H.length+j]? =
  [HO.cells .plain [.nilmap,.list 0 0 .no false []],.map [],.cells .plain [.ptr (st.heap.length+H.length) 0,.map (st.heap.length+(H.length+1))]][j]?:=fun j=>app_at _ _ j
 have hT0:(t0 H.length).ok st (H++[HO.cells .plain [.nilmap,.list 0 0 .no false []],.map [],.cells .plain [.ptr (st.heap.length+H.length) 0,.map (st.heap.length+(H.length+1))]]) H.length:=t0_ok (hg 0)
 obtain ⟨e,fr,X1,t1,hL,a1,a2,a3,a4,a5,a6,a7,a8⟩:=L147_0 (K:=K) (H:=H) (v:=v) (w:=w) (ps:=ps) (by omega) hv (kh:=H.length+2) (me:=H.length+1) (root:=H.length) (by omega) (by omega) (Nat.le_refl _) ps [] _ (t0 H.length) rfl hT0 (t0_sem _)
  (fun j hj=>by rw [t0_own hj];exact Nat.le_refl _) (fun h=>by have:=t0_own h;omega) (fun h=>by have:=t0_own h;omega) (by simp) (by simp) (by rw [rowAt_iff];exact hg 2)
 rw [hg 1] at a6
 rw [hg 2] at a7
 simp at hL
 by_cases hp:ps.all okP=true
 · rw [if_pos hp] at a8
   obtain ⟨rfl,hS,tl,rfl⟩:=a8
   have b1:X1[1]? = some (.map (([]:List (List UInt8×DV)).map exV)):=by rw [← app_at H X1];exact a6
   have b2:rowAt X1 2=some (.plain,[.ptr (st.heap.length+H.length) 0,.map (st.heap.length+(H.length+1))]):=by rw [rowAt_iff,← app_at H X1];exact a7
   obtain ⟨e,fr,EE,hL2,c⟩:=L147_1 (K:=K) (H:=H) (w:=w) (es:=es) (by omega) hsl hw (a:=2) (b:=1) (by omega) es [] X1 [] false rfl b1 b2 ExI.nil
   simp at hL2
   by_cases hq:es.all okE=true
   · rw [if_pos hq] at c
     obtain ⟨rfl,tw,tl2,rfl,hI⟩:=c
     cases tw with
     | true=>
       have hn:=hI.tws.1 rfl
       have he:errN ps es=7:=by simp only [errN,if_neg (show ¬ (256<ps.length∨64<es.length) by omega),hp,hq,and_self,if_true,if_neg hn]
       refine ⟨X1.set 1 (.map (EE.map exV)),.nilp,?_,by simp [he],fun _=>rfl⟩
       rw [he]
       simp [f147,hlv,hlw,h1',h2',hL,hL2]
     | false=>
       have hn:(es.map bareL).Nodup:=by
        by_cases h:(es.map bareL).Nodup
        · exact h
        · have:=hI.tws.2 h;cases this
       have he:errN ps es=0:=by simp only [errN,if_neg (show ¬ (256<ps.length∨64<es.length) by omega),hp,hq,and_self,if_true,if_pos hn]
       refine ⟨X1.set 1 (.map (EE.map exV)),.ptr (st.heap.length+(H.length+2)) 0,?_,fun _=>⟨rfl,t1,EE,?_,hS,a2,hI,?_,?_⟩,by simp [he]⟩
       · rw [he]
         simp [f147,hlv,hlw,h1',h2',hL,hL2]
       · refine a1.same fun j hj => ?_
         rw [← set_right,List.getElem?_set_ne (by rintro rfl;exact a4 hj)]
       · rw [app_at,List.getElem?_set_self (List.getElem?_eq_some_iff.1 b1).1]
       · rw [rowAt_iff,app_at,List.getElem?_set_ne (by omega)];exact rowAt_iff.1 b2
   · rw [if_neg hq] at c
     obtain ⟨rfl,rfl⟩:=c
     have he:errN ps es=4:=by rw [errN,if_neg (show ¬ (256<ps.length∨64<es.length) by omega),if_neg (fun h=>hq h.2)]
     refine ⟨X1.set 1 (.map (EE.map exV)),.nilp,?_,by simp [he],fun _=>rfl⟩
     rw [he]
     simp [f147,hlv,hlw,h1',h2',hL,hL2]
 · rw [if_neg hp] at a8
   obtain ⟨rfl,rfl⟩:=a8
   have he:errN ps es=4:=by rw [errN,if_neg (show ¬ (256<ps.length∨64<es.length) by omega),if_neg (fun h=>hp h.1)]
   refine ⟨X1,.nilp,?_,by simp [he],fun _=>rfl⟩
   rw [he]
   simp [f147,hlv,hlw,h1',h2',hL]
end
def Con (ps:List (List UInt8)) (text:List UInt8) (m x:Nat):Prop:=∀ s∈ps,∀ i,letL s≠[]→letL s <+: text.drop i→i≤m→(digs 0 s).getD (m-i) 0≤x
def oneV (text:List UInt8) (m:Nat) (s:List UInt8) (i:Nat):Nat:=if letL s≠[]∧(letL s).isPrefixOf (text.drop i)=true∧i≤m then (digs 0 s).getD (m-i) 0 else 0
def valN (ps:List (List UInt8)) (text:List UInt8) (m:Nat):Nat:=(ps.flatMap fun s=>(List.range (text.length+1)).map (oneV text m s)).foldr max 0
theorem foldr_max_le (x:Nat):∀ l:List Nat,l.foldr max 0≤x↔∀ y∈l,y≤x
 | []=>by simp
 | a::r=>by simp only [List.foldr_cons,List.mem_cons,forall_eq_or_imp,← foldr_max_le x r];omega
theorem valN_le (ps:List (List UInt8)) (text:List UInt8) (m x:Nat):valN ps text m≤x↔Con ps text m x:=by
 unfold valN
 rw [foldr_max_le]
 constructor
 · intro h s hs i h1 h2 h3
   have hi:i<text.length+1:=by
    apply Nat.lt_succ_of_le
    apply Nat.le_of_not_lt
    intro hlt
    rw [List.drop_eq_nil_of_le (by omega)] at h2
    exact h1 (List.prefix_nil.1 h2)
   have:=h (oneV text m s i) (List.mem_flatMap.2 ⟨s,hs,List.mem_map.2 ⟨i,List.mem_range.2 hi,rfl⟩⟩)
   unfold oneV at this
   rw [if_pos ⟨h1,List.isPrefixOf_iff_prefix.2 h2,h3⟩] at this
   exact this
 · intro h y hy
   obtain ⟨s,hs,hy⟩:=List.mem_flatMap.1 hy
   obtain ⟨i,_,rfl⟩:=List.mem_map.1 hy
   unfold oneV
   split
   · rename_i h1;exact h s hs i h1.1 (List.isPrefixOf_iff_prefix.1 h1.2.1) h1.2.2
   · exact Nat.zero_le _
theorem eq_of_le {a b:Nat} (h:∀ x,a≤x↔b≤x):a=b:=Nat.le_antisymm ((h b).2 (Nat.le_refl _)) ((h a).1 (Nat.le_refl _))
section
variable {st:St} {H:List HO} {root:Nat} {t:TS}
theorem Trie.offs (h:t.ok st H root) {p:Path} (hp:t.N p=none):∀ u,t.N (p++u)=none:=by
 intro u
 induction u generalizing p with
 | nil=>simpa using hp
 | cons c r ih=>have:=ih ((h.off hp).2.2 c);simpa using this
theorem runV_le (h:t.ok st H root) {ps:List (List UInt8)} (hS:Sem t ps) (a m x:Nat):∀ (r p:List UInt8) (V:List Nat),m<V.length →
 ((runV t.N t.dg a p r V).getD m 0≤x↔V.getD m 0≤x∧∀ s∈ps,∀ u,u≠[]→u <+: r→letL s=p++u→a≤m→(digs 0 s).getD (m-a) 0≤x)
 | [],p,V,hm=>by
   simp only [runV]
   constructor
   · intro h1;exact ⟨h1,fun s _ u hu hp=>absurd (List.prefix_nil.1 hp) hu⟩
   · intro h1;exact h1.1
 | c::r,p,V,hm=>by
   simp only [runV]
   split
   · rename_i hn
     constructor
     · intro h1
       refine ⟨h1,fun s hs u hu hp e => ?_⟩
       exfalso
       cases u with
       | nil=>exact hu rfl
       | cons c' u=>
         obtain ⟨rfl,_⟩:=List.cons_prefix_cons.1 hp
         have h2:=h.offs hn u
         have h3:p++[c']++u=letL s:=by rw [e];simp
         rw [h3] at h2
         have h4:=hS (letL s)
         rw [(h.off h2).2.1] at h4
         exact h4 s hs rfl
     · intro h1;exact h1.1
   · have hq:=hS (p++[c])
     have key:∀ W:List Nat,m<W.length→(W.getD m 0≤x↔V.getD m 0≤x∧∀ s∈ps,letL s=p++[c]→a≤m→(digs 0 s).getD (m-a) 0≤x) →
      ((runV t.N t.dg a (p++[c]) r W).getD m 0≤x↔V.getD m 0≤x∧∀ s∈ps,∀ u,u≠[]→u <+: c::r→letL s=p++u→a≤m→(digs 0 s).getD (m-a) 0≤x):=by
      intro W hW hk
      rw [runV_le h hS a m x r (p++[c]) W hW,hk]
      constructor
      · rintro ⟨⟨h1,h2⟩,h3⟩
        refine ⟨h1,fun s hs u hu hp e ham => ?_⟩
        cases u with
        | nil=>exact absurd rfl hu
        | cons c' u=>
          obtain ⟨rfl,hp'⟩:=List.cons_prefix_cons.1 hp
          cases u with
          | nil=>exact h2 s hs e ham
          | cons d u=>exact h3 s hs (d::u) (by simp) hp' (by rw [e];simp) ham
      · rintro ⟨h1,h2⟩
        refine ⟨⟨h1,fun s hs e ham=>h2 s hs [c] (by simp) (by simp) e ham⟩,fun s hs u hu hp e ham => ?_⟩
        exact h2 s hs (c::u) (by simp) (List.cons_prefix_cons.2 ⟨rfl,hp⟩) (by rw [e];simp) ham
     cases hd:t.dg (p++[c]) with
     | none=>
       rw [hd] at hq
       simp only
       refine key V hm ⟨fun h1=>⟨h1,fun s hs e=>absurd e (hq s hs)⟩,fun h1=>h1.1⟩
     | some y=>
       obtain ⟨kd,D⟩:=y
       rw [hd] at hq
       simp only
       obtain ⟨hq1,hq2⟩:=hq
       refine key _ (by rw [layV_len];exact hm) ?_
       rw [layV_le x _ _ a m hm]
       have e:(a≤m→D.getD (m-a) 0≤x)↔∀ s∈ps,letL s=p++[c]→a≤m→(digs 0 s).getD (m-a) 0≤x:=by
        by_cases hma:m-a<(p++[c]).length+1
        · have:=hq2 (m-a) hma x
          constructor
          · intro h1 s hs e ham;exact this.1 (h1 ham) s hs e
          · intro h1 ham;exact this.2 fun s hs e=>h1 s hs e ham
        · constructor
          · intro _ s hs e ham
            have hl:=digs_len s 0
            rw [e] at hl
            simp [List.getD_eq_getElem?_getD,List.getElem?_eq_none (show (digs 0 s).length≤m-a by omega)]
          · intro _ ham
            simp [List.getD_eq_getElem?_getD,List.getElem?_eq_none (show D.length≤m-a by omega)]
       rw [e]
theorem foundV_le (h:t.ok st H root) {ps:List (List UInt8)} (hS:Sem t ps) (m x:Nat):∀ (r:List UInt8) (a:Nat) (V:List Nat),m<V.length →
 ((foundV t.N t.dg a r V).getD m 0≤x↔V.getD m 0≤x∧∀ s∈ps,∀ i,letL s≠[]→letL s <+: r.drop i→a+i≤m→(digs 0 s).getD (m-(a+i)) 0≤x)
 | [],a,V,hm=>by
   simp only [foundV]
   constructor
   · intro h1;exact ⟨h1,fun s _ i hn hp=>absurd (List.prefix_nil.1 (by simpa using hp)) hn⟩
   · intro h1;exact h1.1
 | c::r,a,V,hm=>by
   simp only [foundV]
   rw [foundV_le h hS m x r (a+1) _ (by rw [runV_len];exact hm),runV_le h hS a m x (c::r) [] V hm]
   constructor
   · rintro ⟨⟨h1,h2⟩,h3⟩
     refine ⟨h1,fun s hs i hn hp ham => ?_⟩
     cases i with
     | zero=>exact h2 s hs (letL s) hn (by simpa using hp) (by simp) (by omega)
     | succ i=>
       have:=h3 s hs i hn (by simpa using hp) (by omega)
       have e:a+1+i=a+(i+1):=by omega
       rw [e] at this;exact this
   · rintro ⟨h1,h2⟩
     refine ⟨⟨h1,fun s hs u hu hp e ham => ?_⟩,fun s hs i hn hp ham => ?_⟩
     · have e':letL s=u:=by simpa using e
       subst e'
       exact h2 s hs 0 hu (by simpa using hp) (by omega)
     · have:=h2 s hs (i+1) hn (by simpa using hp) (by omega)
       have e:a+1+i=a+(i+1):=by omega
       rw [e];exact this
theorem found_val (h:t.ok st H root) {ps:List (List UInt8)} (hS:Sem t ps) (text:List UInt8) (n m:Nat) (hm:m<n):(foundV t.N t.dg 0 text (List.replicate n 0)).getD m 0=valN ps text m:=by
 apply eq_of_le
 intro x
 rw [foundV_le h hS m x text 0 _ (by simpa using hm),valN_le]
 have e:(List.replicate n 0).getD m 0=0:=by simp [List.getD_eq_getElem?_getD,hm]
 rw [e]
 simp only [Nat.zero_le,true_and,Nat.zero_add]
 rfl
theorem foundV_len (N:Path→Option Nat) (dg:Path→Option (Nat×List Nat)):∀ (r:List UInt8) (a:Nat) (V:List Nat),(foundV N dg a r V).length=V.length
 | [],a,V=>rfl
 | c::r,a,V=>by rw [foundV,foundV_len N dg r,runV_len]
end
def ptsN (ps:List (List UInt8)) (w:List UInt8):List Nat:=(List.range' 2 (w.length-4)).filter fun k=>valN ps (46::(w++[46])) (k+1)%2==1
def points (ps es:List (List UInt8)) (w:List UInt8):List Nat:=match es.find? (fun s=>bareL s==w) with | some s=>plc 0 s | none=>ptsN ps w
theorem at150:tab 150=some (.code f150):=by kernel_rfl
theorem at144:tab 144=some (.code f144):=by kernel_rfl
theorem i6_el {ys:List Nat}:∀ y∈ys.map i6,IsEl 1 false y:=by
 intro y hy;obtain ⟨c,_,rfl⟩:=List.mem_map.1 hy;exact ⟨rfl,rfl,rfl⟩
theorem clone150 {st:St} {ys:List Nat} {v:DV} (h:Lw 1 (ys.map i6) v) (hl:ys.length≤100000):∃ v',(E tab).F 150 [v] st=some (v',st)∧Lw 1 (ys.map i6) v':=by
 rw [F_run at150 rfl]
 cases h with
 | list t n' tk nn h1 h2=>
   cases nn with
   | false=>
     refine ⟨.list 0 0 .no false [],?_,by rw [h2 rfl];exact .list _ _ _ _ (fun h=>by cases h) (fun _=>rfl)⟩
     simp [f150,eqD]
   | true=>
     obtain rfl:=h1 rfl
     by_cases hy:ys.map i6=[]
     · refine ⟨.list st.cur 1 .tight true [],?_,by rw [hy];exact .list _ _ _ _ (by simp) (by simp)⟩
       have ha:∀ K,appendD (pst st [] K) 1 false 8 (.list st.cur 1 .tight true []) (.list t 1 tk true (ys.map i6))=some (.list st.cur 1 .tight true [],pst st [] K):=by
        intro K;refine app_none ?_;rw [hy];simp [newsD,flat]
       simp [f150,eqD,op_lit,repl,chunk,ha]
     · have ha:=app_new (st:=st) (H:=[]) (K:=[]) (t:=st.cur) (n':=1) (tk:=.tight) (nn:=true) (xs:=[]) (t':=t) (tk':=tk) (by_:=8) (.inr ⟨rfl,rfl,rfl⟩) (by omega) hy i6_el (by simp [roomD];omega) (by simp [roomD];omega)
       refine ⟨.list st.cur 1 .no true (ys.map i6),?_,.list _ _ _ _ (by simp) (by simp)⟩
       simp at ha
       simp [f150,eqD,op_lit,repl,chunk,ha]
theorem acc_lw {st:St} {K:List Nat} {n:Nat} {xs:List DV} {v:DV} (h:Acc st K n xs v):Lw n xs v:=by
 rcases h with ⟨rfl,t,n',tk,rfl⟩ | ⟨k,s,rfl,_⟩
 · exact .list _ _ _ _ (fun h=>by cases h) (fun _=>rfl)
 · exact .list _ _ _ _ (fun _=>rfl) (fun h=>by cases h)
theorem findF2 {w:List UInt8}:∀ {es:List (List UInt8)} {EE:List (List UInt8×DV)},F2 (fun s x=>x.1=bareL s∧Lw 1 ((plc 0 s).map i6) x.2) es EE→∀ i,
 (es.find? (fun s=>bareL s==w)=none∧findD [.str] (.str w) (EE.map exV) i=some none) ∨
 ∃ s j v,es.find? (fun s=>bareL s==w)=some s∧s∈es∧findD [.str] (.str w) (EE.map exV) i=some (some (j,v))∧Lw 1 ((plc 0 s).map i6) v:=by
 intro es EE h
 induction h with
 | nil=>intro i;exact .inl ⟨rfl,rfl⟩
 | @cons s x l m hx h ih=>
   intro i
   obtain ⟨a,v⟩:=x
   obtain ⟨rfl,hx2⟩:=hx
   by_cases e:bareL s=w
   · refine .inr ⟨s,i,v,by simp [e],by simp,?_,hx2⟩
     simp [findD,exV,keyEq,scalEq,e]
   · have hb:(w==bareL s)=false:=by rw [beq_eq_false_iff_ne];exact fun h=>e h.symm
     have hb2:(bareL s==w)=false:=by rw [beq_eq_false_iff_ne];exact e
     have e2:∀ r,findD [.str] (.str w) (exV (bareL s,v)::r) i=findD [.str] (.str w) r (i+1):=by
      intro r;simp [findD,exV,keyEq,scalEq,hb]
     rcases ih (i+1) with ⟨h1,h2⟩ | ⟨s',j,v',h1,h1',h2,h3⟩
     · exact .inl ⟨by rw [List.find?_cons,hb2];exact h1,by rw [List.map_cons,e2];exact h2⟩
     · exact .inr ⟨s',j,v',by rw [List.find?_cons,hb2];exact h1,List.mem_cons_of_mem _ h1',by rw [List.map_cons,e2];exact h2,h3⟩
section
variable {st:St}
theorem L144_0 {G:List HO} {kv n:Nat} {w:List UInt8} {V:List Nat} (hw:w.length=n) (hn:n≤64) (hV:V.length=n+3) (hr:rowAt G kv=some (.plain,V.map d8)):∀ (j k:Nat) (xs:List Nat) (v:DV) (K:List Nat),2≤k→k+j=n-4+2→xs.length+j≤100→Acc st K 1 (xs.map i6) v →
 ∃ v' K' tl,(E tab).C f144L0 [(6,.str w),(10,.hsl 1 false (st.heap.length+kv) 0 (n+3) (some (n+3))),(11,v),(12,.int .i64 k)] (pst st G K) =
   some (.exit 0,(6,.str w)::(10,.hsl 1 false (st.heap.length+kv) 0 (n+3) (some (n+3)))::(11,v')::tl,pst st G K')∧Acc st K' 1 ((xs++(List.range' k j).filter fun k=>V.getD (k+1) 0%2==1).map i6) v':=by
 intro j
 induction j with
 | zero=>
   intro k xs v K hk hj hx ha
   have hc:¬ ((k:Int)≤IntKind.i64.wrap ((n:Int)-3)):=by rw [i64w (by omega)];omega
   refine ⟨v,K,[(12,.int .i64 k),(56,.bool false)],?_,by simpa using ha⟩
   rw [C_turn (L:=f144L0) rfl]
   simp [f144B0,hw,hc]
 | succ j ih=>
   intro k xs v K hk hj hx ha
   have hc:(k:Int)≤IntKind.i64.wrap ((n:Int)-3):=by rw [i64w (by omega)];omega
   have hw1:IntKind.i64.wrap ((k:Int)+1)=((k+1:Nat):Int):=by rw [i64w (by omega)];simp
   obtain ⟨y,hy⟩:∃ y,V[k+1]? = some y:=⟨V[k+1],List.getElem?_eq_getElem (by omega)⟩
   have hyd:V.getD (k+1) 0=y:=by simp [hy]
   have hvx:(V.map d8)[k+1]? = some (.int .u8 y):=by simp [hy,d8]
   have h01:(0:Int)≤(k:Int)+1:=by omega
   have h02:(k:Int)+1<(n:Int)+3:=by omega
   have htm:(y:Int).tmod 2=((y%2:Nat):Int):=rfl
   generalize V.map d8=VM at *
   rw [List.range'_succ,List.filter_cons,hyd]
   by_cases hodd:y%2=1
   · have hdec:(y:Int)%2=1:=by omega
     obtain ⟨v',K',hap,ha'⟩:=acc_app (st:=st) (H:=G) (by_:=8) (ag:=false) (ys:=[i6 k]) (t:=st.cur) (tk:=.tight) ha (by omega) (by simp) (by intro z hz;simp only [List.mem_singleton] at hz;subst hz;exact ⟨rfl,rfl,rfl⟩) (by simp [roomD];omega) (by simp [roomD];omega)
     obtain ⟨v2,K2,tl,hJ,hA⟩:=ih (k+1) (xs++[k]) v' K' (by omega) (by omega) (by simp;omega) (by simpa using ha')
     refine ⟨v2,K2,tl,?_,by simpa [hodd] using hA⟩
     simp at hJ
     simp only [i6] at hap
     rw [C_turn (L:=f144L0) rfl]
     simp [f144B0,hw,hc,hw1,hr,h01,h02,hvx,htm,hdec,op_lit,repl,chunk,hap,hJ]
   · have hdec:¬ (y:Int)%2=1:=by omega
     obtain ⟨v2,K2,tl,hJ,hA⟩:=ih (k+1) xs v K (by omega) (by omega) (by omega) ha
     refine ⟨v2,K2,tl,?_,by simpa [hodd] using hA⟩
     simp at hJ
     rw [C_turn (L:=f144L0) rfl]
     simp [f144B0,hw,hc,hw1,hr,h01,h02,hvx,htm,hdec,hJ]
theorem points144 {G:List HO} {K:List Nat} {b:Nat} {ps es:List (List UInt8)} (h:HypOk st G b ps es) (hes:∀ s∈es,s.length≤1000) (w:List UInt8) :
 ∃ v X K',(E tab).F 144 [.ptr (st.heap.length+(b+2)) 0,.str w] (pst st G K)=some (.tuple [v,.int .i64 (if okWd w then 0 else 4:Nat)],pst st (G++X) K')∧Lw 1 ((if okWd w then points ps es (w.map lowB) else []).map i6) v:=by
 rw [F_go at144 rfl]
 obtain ⟨t,EE,hT,hS,hown,hI,hmap,hrow⟩:=h
 have hwd:=word149 (s:=w) (st:=pst st G K)
 cases hok:okWd w with
 | false=>
   rw [hok] at hwd
   refine ⟨.list 0 0 .no false [],[],K,?_,by simpa using Lw.list 0 0 .no false (fun h=>by cases h) (fun _=>rfl)⟩
   simp at hwd
   simp [f144,hrow,eqD,hwd]
 | true=>
   rw [hok] at hwd
   have hwl:w.length≤64:=by simp only [okWd,Bool.and_eq_true,decide_eq_true_eq] at hok;exact hok.2.2
   simp only [if_true] at hwd ⊢
   generalize hu:w.map lowB=u at *
   have hul:u.length≤64:=by rw [← hu];simpa using hwl
   have hkf:∀ s,keyFit [.str] (.str s)=true:=fun _=>rfl
   rcases findF2 (w:=u) (hI.all rfl) 0 with ⟨h1,h2⟩ | ⟨s,j,v,h1,hs,h2,h3⟩
   · have hlk:lookupD (pst st G K) [.str] (.list 0 0 .no false []) (.map (st.heap.length+(b+1))) (.str u) true=some (.tuple [.list 0 0 .no false [],.bool false]):=by
      simp only [lookupD,pst_heap,hmap,h2];rfl
     have hv0:rowAt (G++[HO.cells .plain ((List.replicate (u.length+3) 0).map d8)]) G.length=some (.plain,(List.replicate (u.length+3) 0).map d8):=rowAt_app _ _ _ _
     have hfd:=found151 (K:=K) (text:=46::(u++[46])) (kh:=b+2) (kv:=G.length) (nV:=u.length+3) (hx:=.map (st.heap.length+(b+1))) (V:=List.replicate (u.length+3) 0) (H:=G++[HO.cells .plain ((List.replicate (u.length+3) 0).map d8)])
      (by simp;omega) (by omega) (by simp) (by have:=rowAt_lt hrow;omega) (hT.grow _) (row_at hrow _) hv0 (by simp)
     have hset:(G++[HO.cells .plain ((List.replicate (u.length+3) 0).map d8)]).set G.length (.cells .plain ((foundV t.N t.dg 0 (46::(u++[46])) (List.replicate (u.length+3) 0)).map d8))=G++[.cells .plain ((foundV t.N t.dg 0 (46::(u++[46])) (List.replicate (u.length+3) 0)).map d8)]:=by simp
     rw [hset] at hfd
     have hval:∀ m,m<u.length+3→(foundV t.N t.dg 0 (46::(u++[46])) (List.replicate (u.length+3) 0)).getD m 0=valN ps (46::(u++[46])) m:=fun m hm=>found_val hT hS _ _ _ hm
     have hfl:(foundV t.N t.dg 0 (46::(u++[46])) (List.replicate (u.length+3) 0)).length=u.length+3:=by rw [foundV_len];simp
     generalize foundV t.N t.dg 0 (46::(u++[46])) (List.replicate (u.length+3) 0)=V at *
     have hr1:rowAt (G++[HO.cells .plain (V.map d8)]) G.length=some (.plain,V.map d8):=rowAt_app _ _ _ _
     obtain ⟨v',K',tl,hL,hA⟩:=L144_0 (st:=st) rfl hul hfl hr1 (u.length-4) 2 [] (.list 0 0 .no false []) K (by omega) (by omega) (by simp;omega) (.inl ⟨rfl,0,0,.no,rfl⟩)
     refine ⟨v',[HO.cells .plain (V.map d8)],K',?_,?_⟩
     · have hrep:repl [DV.int .u8 0] (u.length+3)=(List.replicate (u.length+3) 0).map d8:=by rw [repl_one,List.map_replicate];rfl
       have hwl3:IntKind.i64.wrap ((u.length:Int)+3)=((u.length+3:Nat):Int):=by rw [i64w (by omega)];simp
       have hroom:((u.length:Int)+3)≤140737488355328:=by omega
       have hroom2:u.length+3≤140737488355328:=by omega
       have hpos:(0:Int)≤(u.length:Int)+3:=by omega
       have hstr:u.length≤4611686018427387903:=by omega
       have hstr1:1+u.length≤4611686018427387904:=by omega
       have hstr2:u.length+1+1≤4611686018427387904:=by omega
       have htn:((u.length:Int)+3).toNat=u.length+3:=by omega
       generalize (List.replicate (u.length+3) 0).map d8=Z at *
       generalize V.map d8=VM at *
       simp at hwd hfd hL
       simp [f144,hrow,eqD,hwd,hkf,hlk,hwl3,roomD,hroom,hroom2,hpos,htn,hrep,hstr,hstr1,hstr2,hfd,hL]
     · have e:points ps es u=ptsN ps u:=by simp only [points,h1]
       rw [e]
       have e2:(List.range' 2 (u.length-4)).filter (fun k=>V.getD (k+1) 0%2==1)=ptsN ps u:=by
        unfold ptsN
        apply List.filter_congr
        intro k hk
        rw [List.mem_range'_1] at hk
        rw [hval (k+1) (by omega)]
       rw [List.nil_append,e2] at hA
       exact acc_lw hA
   · have hlk:lookupD (pst st G K) [.str] (.list 0 0 .no false []) (.map (st.heap.length+(b+1))) (.str u) true=some (.tuple [v,.bool true]):=by
      simp only [lookupD,pst_heap,hmap,h2];rfl
     have hpl:(plc 0 s).length≤100000:=by have:=plc_len s 0;have:=hes s hs;omega
     obtain ⟨v',hcl,hv'⟩:=clone150 (st:=pst st G K) h3 hpl
     have e:points ps es u=plc 0 s:=by simp only [points,h1]
     refine ⟨v',[],K,?_,by rw [e];exact hv'⟩
     simp [f144,hrow,eqD,hwd,hkf,hlk,hcl]
end
abbrev Txs (st:St) (l:List (List UInt8)) (v:DV):Prop:=Vw st 1 false (l.map DV.str) v
section
variable {st:St} {l:List (List UInt8)} {v:DV} {H:List HO} {K:List Nat}
end
def NC (s:List UInt8):Prop:=∀ a c c' b,s=a++c::c'::b→isD c=true→isD c'=true→False
theorem NC.pre {s:List UInt8} {c:UInt8} (h:NC (s++[c])):NC s:=fun a x y b hs=>h a x y (b++[c]) (by rw [hs];simp)
section
variable {st:St}
end
section
variable {st:St}
end
section
variable {st:St} {H:List HO} {K:List Nat} {v w:DV} {ps es:List (List UInt8)}
def RefOk (G:List HO) (b:Nat) (ps es:List (List UInt8)):Prop:=∃ t tk t' tk',rowAt G b=some (.plain,[.list t 1 tk true (ps.map DV.str),.list t' 1 tk' true (es.map DV.str)])
theorem RefOk.same {G G':List HO} {b:Nat} (h:RefOk G b ps es) (hs:∀ j,b≤j→j<G.length→G'[j]? = G[j]?):RefOk G' b ps es:=by
 obtain ⟨t,tk,t',tk',h⟩:=h
 exact ⟨t,tk,t',tk',by rw [rowAt_iff,hs _ (Nat.le_refl _) (rowAt_lt h)];exact rowAt_iff.1 h⟩
end
section
variable {st:St} {G:List HO}
end
theorem at143:tab 143=some (.code f143):=by kernel_rfl
theorem plain_err:errN plainP plainE=0:=by decide +kernel
theorem plain_len:∀ s∈plainE,s.length≤1000:=by decide +kernel
section
variable {st:St}
theorem plain143 (G:List HO) (K:List Nat):∃ X,(E tab).F 143 [] (pst st G K)=some (.ptr (st.heap.length+(G.length+2)) 0,pst st (G++X) K)∧HypOk st (G++X) G.length plainP plainE:=by
 rw [F_go at143 rfl]
 have hf:=fields_run (pst st G K)
 have hv:Txs (pst st G K) plainP (.list 0 1 .tight true (plainP.map DV.str)):=.list _ _ _ _ (fun _=>rfl) (fun h=>by cases h)
 have hw:Txs (pst st G K) plainE (.list st.cur 1 .tight true (plainE.map DV.str)):=.list _ _ _ _ (fun _=>rfl) (fun h=>by cases h)
 obtain ⟨X,hp,hn,h0,_⟩:=new147 (K:=K) plain_len hv hw
 obtain ⟨rfl,hok⟩:=h0 plain_err
 rw [plain_err] at hn
 refine ⟨X,?_,hok⟩
 generalize plainP.map DV.str=PL at *
 simp [plainT] at hf
 simp [plainE] at hn
 simp [f143,hf,op_lit,repl,chunk,hn]
end
theorem pts_len (ps es:List (List UInt8)) (w:List UInt8) (h:∀ s∈es,s.length≤1000):(points ps es w).length≤100000+w.length:=by
 unfold points
 split
 · rename_i s hs
   have:=List.mem_of_find?_eq_some hs
   have:=plc_len s 0
   have:=h s (by assumption)
   omega
 · unfold ptsN
   have:=List.length_filter_le (fun k=>valN ps (46::(w++[46])) (k+1)%2==1) (List.range' 2 (w.length-4))
   simp at this
   omega
theorem pts_short {ps es:List (List UInt8)} (h:∀ s∈es,s.length≤1000) (w:List UInt8):(if okWd w=true then points ps es (w.map lowB) else []).length≤140737488355328:=by
 split
 · rename_i hok
   simp only [okWd,Bool.and_eq_true,decide_eq_true_eq] at hok
   have h1:=hok.2.2
   have:=pts_len ps es (w.map lowB) h
   simp only [List.length_map] at this
   omega
 · simp
end Go.D.Tab
end
section
set_option linter.unusedSimpArgs false
set_option linter.unusedVariables false
set_option linter.unnecessarySimpa false
namespace Go.D.Tab
structure It where
 k:Int
 f:Int
 t:Int
 w:Int
 s:Int
 h:Int
 c:Int
 y:Bool
def It.cs (x:It):List DV:=[.int .i64 x.k,.int .i64 x.f,.int .i64 x.t,.int .i64 x.w,.int .i64 x.s,.int .i64 x.h,.int .i64 x.c,.bool x.y]
def It.dv (x:It):DV:=.agg x.cs
theorem el_it (x:It):IsEl 8 true x.dv:=⟨rfl,rfl,rfl⟩
section
variable {st:St} {l:List It} {v:DV}
end
section
variable {st:St} {l:List It} {v:DV}
theorem Vw.ex {n:Nat} {ag:Bool} {xs:List DV} {w:DV} (h:Vw st n ag xs w) (H:List HO) (K:List Nat):∃ w',exportL st (pst st H K) w=some w'∧Vw st n ag xs w':=by
 cases h with
 | list t n' tk nn h1 h2=>exact ⟨_,rfl,.list _ _ _ _ h1 h2⟩
 | hsl b off c g vs hc hl hx hcap=>
   have hh:=cells_get hc
   have hb:st.liveB b=true:=by unfold St.liveB;rw [hh]
   refine ⟨_,by simp only [exportL,hb,if_true],.hsl b off c g vs hc hl hx hcap⟩
end
theorem at139:tab 139=some (.code f139):=by kernel_rfl
theorem at145:tab 145=some (.code f145):=by kernel_rfl
theorem at146:tab 146=some (.code f146):=by kernel_rfl
theorem at153:tab 153=some (.code f153):=by kernel_rfl
def leapI (x:Int):Int:=(x/48+1)*48
theorem tcheck145 (st:St):(E tab).F 145 [.list 0 0 .no false []] st=some (.int .i64 0,st):=by
 rw [F_run at145 rfl]
 have hL:∀ st:St,(E tab).C f145L0 [(3,.int .i64 0),(9,.list 0 0 .no false []),(10,.int .i64 0),(11,.int .i64 0)] st=some (.exit 0,[(3,.int .i64 0),(9,.list 0 0 .no false []),(10,.int .i64 0),(11,.int .i64 0),(12,.bool false)],st):=by
  intro st
  rw [C_turn (L:=f145L0) rfl]
  simp [f145B0]
 simp [f145,hL]
theorem bsearch153 (x f:DV) (st:St):(E tab).F 153 [.list 0 0 .no false [],x,f] st=some (.tuple [.int .i64 0,.bool false],st):=by
 rw [F_go at153 rfl]
 have hL:∀ st:St,(E tab).C f153L0 [(0,.list 0 0 .no false []),(1,x),(2,f),(8,.int .i64 0),(9,.int .i64 0),(10,.int .i64 0)] st=some (.exit 0,[(0,.list 0 0 .no false []),(1,x),(2,f),(8,.int .i64 0),(9,.int .i64 0),(10,.int .i64 0),(17,.bool false)],st):=by
  intro st
  rw [C_turn (L:=f153L0) rfl]
  simp [f153B0]
 simp [f153,hL]
theorem behind146 (x:Int) (hx:0≤x∧x≤1000000000000) (st:St):(E tab).F 146 [.list 0 0 .no false [],.int .i64 x] st=some (.agg [.int .i64 (leapI x),.int .i64 0],st):=by
 rw [F_run at146 rfl]
 have e1:IntKind.i64.wrap (x.tdiv 48)=x/48:=IntWalk.i64_quo _ _ (by omega)
 have e2:IntKind.i64.wrap (x/48+1)=x/48+1:=i64w (by omega)
 have e3:IntKind.i64.wrap ((x/48+1)*48)=leapI x:=i64w (by omega)
 simp [f146,bsearch153,e1,e2,e3]
theorem next139 (x:Int) (hx:0≤x∧x≤1000000000000) (st:St):(E tab).F 139 [.list 0 0 .no false [],.int .i64 x] st=some (if x≤8190 then .tuple [.agg [.int .i64 (leapI x),.int .i64 0],.int .i64 0] else .tuple [.agg [.int .i64 0,.int .i64 0],.int .i64 5],st):=by
 rw [F_run at139 rfl]
 have h0:¬ x<0:=by omega
 have e1:=fun st=>behind146 x hx st
 by_cases h:x≤8190
 · have h1:¬ 8190<x:=by omega
   simp [f139,tcheck145,h0,h1,e1,h]
 · have h1:8190<x:=by omega
   simp [f139,tcheck145,h0,h1,h]
section
variable {st:St} {l:List It} {v:DV}
end
section
variable {st:St} {l:List It} {v:DV}
end
theorem at106:tab 106=some (.code f106):=by kernel_rfl
theorem at117:tab 117=some (.code f117):=by kernel_rfl
theorem at118:tab 118=some (.code f118):=by kernel_rfl
theorem at131:tab 131=some (.code f131):=by kernel_rfl
theorem at132:tab 132=some (.code f132):=by kernel_rfl
theorem at133:tab 133=some (.code f133):=by kernel_rfl
theorem at134:tab 134=some (.code f134):=by kernel_rfl
theorem at135:tab 135=some (.code f135):=by kernel_rfl
theorem at136:tab 136=some (.code f136):=by kernel_rfl
theorem at137:tab 137=some (.code f137):=by kernel_rfl
theorem at138:tab 138=some (.code f138):=by kernel_rfl
def mz:Mass:=⟨0,0,0,0,0,0⟩
def boxdB (m:Mass):Bool:=m.k != 3&&(m.k != 4&&m.k != 5)
def hyW (s:Int):Int:=wd 45 s
def boxI (L:List Mass) (fr to:Nat):It:=⟨1,(L.getD fr mz).a,(L.getD (to-1) mz).b,runGo true 0 ((L.drop fr).take (to-fr)),0,0,0,false⟩
def loneI (m:Mass):It:=if m.k=3 then ⟨2,m.a,m.b,m.w,m.w/2,m.w/3,0,false⟩ else if m.k=4 then ⟨4,m.a,m.b,0,0,0,0,false⟩ else ⟨3,m.a,m.b,hyW m.s,0,0,50,true⟩
def dashB (s:List UInt8) (m:Mass):Bool:=m.k==2&&bAt s m.a.toNat==45
def penW (m:Mass):It:=⟨3,m.a,m.a,hyW m.s,0,0,100,true⟩
def penS (m:Mass):It:=⟨3,m.a,m.a,0,0,0,50,false⟩
def itemsG (s:List UInt8) (L:List Mass) (pl:List Bool):Nat→Nat→Nat→List Mass→List It
 | k,run,fr,[]=>if fr<k then [boxI L fr k] else []
 | k,run,fr,m::r=>
   if boxdB m=false then (if fr<k then [boxI L fr k] else [])++loneI m::itemsG s L pl (k+1) (k+1) (k+1) r
   else if k=fr then itemsG s L pl (k+1) run fr r
   else if pl.getD k false=true then boxI L fr k::penW m::itemsG s L pl (k+1) run k r
   else if (dashB s (L.getD (k-1) mz) && !dashB s m&&decide (run<k-1))=true then boxI L fr k::penS m::itemsG s L pl (k+1) run k r
   else itemsG s L pl (k+1) run fr r
structure MOk (s:List UInt8) (L:List Mass):Prop where
 len:L.length≤4096
 ok:L.all okM=true
 at_:∀ m∈L,0≤m.a∧m.a<s.length
 sz:∀ m∈L,1≤m.s∧m.s≤64
theorem okM_of {m:Mass} (h:okM m=true):0≤m.w∧m.w≤4095:=by
 simp only [okM,decide_eq_true_eq] at h;omega
section
variable {st:St}
theorem boxed136 (m:Mass):(E tab).F 136 [m.dv] st=some (.bool (boxdB m),st):=by
 rw [F_run at136 rfl]
 by_cases h1:m.k=3
 · simp [f136,boxdB,Mass.cs,h1]
 by_cases h2:m.k=4
 · simp [f136,boxdB,Mass.cs,h2]
 by_cases h3:m.k=5
 · simp [f136,boxdB,Mass.cs,h3]
 · have b1:(m.k != 3)=true:=by simp [h1]
   have b2:(m.k != 4)=true:=by simp [h2]
   simp [f136,boxdB,Mass.cs,h1,h2,b1,b2]
theorem hyphen138 {n:Int} (hn:1≤n∧n≤64):(E tab).F 138 [.int .i64 n] st=some (.int .i64 (hyW n),st):=by
 rw [F_run at138 rfl]
 have hb:=wd_le 45 hn.1 hn.2
 have h:∀ st,(E tab).F 17 [.str [45],.int .i64 n] st=some (.tuple [.int .i64 (hyW n),.int .i64 0],st):=by
  intro st
  rw [width17]
  have hw:IntKind.i64.wrap (wd 45 n)=wd 45 n:=i64w (by omega)
  simp only [widthV,if_pos hn]
  simp [tw,hw,hyW]
 simp [f138,h]
theorem lone137 (m:Mass) (hm:okM m=true) (hs:1≤m.s∧m.s≤64):(E tab).F 137 [m.dv] st=some ((loneI m).dv,st):=by
 rw [F_run at137 rfl]
 have hw:=okM_of hm
 have h2:IntKind.i64.wrap (m.w.tdiv 2)=m.w/2:=by rw [Int.tdiv_eq_ediv_of_nonneg hw.1,i64w (by omega)]
 have h3:IntKind.i64.wrap (m.w.tdiv 3)=m.w/3:=by rw [Int.tdiv_eq_ediv_of_nonneg hw.1,i64w (by omega)]
 have hh:=fun st=>hyphen138 (st:=st) hs
 by_cases k3:m.k=3
 · simp [f137,loneI,It.dv,It.cs,Mass.cs,k3,h2,h3]
 by_cases k4:m.k=4
 · simp [f137,loneI,It.dv,It.cs,Mass.cs,k4]
 · simp [f137,loneI,It.dv,It.cs,Mass.cs,k3,k4,hh]
theorem getM {L:List Mass} {i:Nat} (h:i<L.length):L[i]? = some (L.getD i mz):=by rw [List.getD_eq_getElem?_getD,List.getElem?_eq_getElem h];rfl
theorem getMD {L:List Mass} {i:Nat} (h:i<L.length):(L.map Mass.dv)[i]? = some (L.getD i mz).dv:=by rw [List.getElem?_map,getM h];rfl
theorem box135 {s:List UInt8} {L:List Mass} (hL:MOk s L) {t n:Nat} {tk:Tk} {nn:Bool} (h6:L≠[]→n=6) (h7:nn=true→n=6) {fr to:Nat} (h1:fr<to) (h2:to≤L.length):(E tab).F 135 [.list t n tk nn (L.map Mass.dv),.int .i64 fr,.int .i64 to] st=some ((boxI L fr to).dv,st):=by
 rw [F_run at135 rfl]
 have hn:=fun st=>natural23 L fr to t n tk nn h6 h7 st
 rw [natV_in hL.len hL.ok fr to (by omega) h2] at hn
 obtain rfl:=h6 (by intro e;simp [e] at h2;omega)
 have hw1:IntKind.i64.wrap ((to:Int)-1)=((to-1:Nat):Int):=by have:=hL.len;rw [i64w (by omega)];omega
 have g1:=getMD (L:=L) (i:=fr) (by omega)
 have g2:=getMD (L:=L) (i:=to-1) (by omega)
 have l1:fr<(L.map Mass.dv).length:=by simp;omega
 have l2:to-1<(L.map Mass.dv).length:=by simp;omega
 generalize L.map Mass.dv=V at *
 have g1':V[fr]'l1=(L.getD fr mz).dv:=by rw [List.getElem?_eq_getElem l1] at g1;exact Option.some.inj g1
 have g2':V[to-1]'l2=(L.getD (to-1) mz).dv:=by rw [List.getElem?_eq_getElem l2] at g2;exact Option.some.inj g2
 simp only [boxI]
 generalize L.getD fr mz=a at *
 generalize L.getD (to-1) mz=b at *
 generalize runGo true 0 ((L.drop fr).take (to-fr))=rg at *
 simp [f135,It.dv,It.cs,hn,g1,g2,g1',g2',l1,l2,hw1,Mass.dv,Mass.cs]
end
def loI (st:St) (s:Nat):HO:=.loop (mkLo [(6,.ptr (st.heap.length+1) 0),(18,.fn 131 [] [.ptr (st.heap.length+2) 0,.ptr (st.heap.length+3) 0])] [19] (.region f106r6 [6,7]) (.block 1 (.region f106r7 [])) s none)
def HI (st:St) (P0 P1:List DV) (ov lv:DV) (fr s:Nat) (J:List HO):List HO:=
 .cells .plain P0::.cells .plain [ov]::.cells .plain P1::.cells .plain [lv]::loI st s::.cells .plain [.yield (st.heap.length+4)]::.cells .plain [.int .i64 fr]::J
section
variable {st:St} {P0 P1:List DV} {lv:DV} {J:List HO} {K:List Nat}
theorem yieldI {xs:List It} {ov:DV} {fr:Nat} (x:It) (hx:xs.length≤100000) (hA:Acc st K 8 (xs.map It.dv) ov) :
 ∃ ov' K',(E tab).V (.yield (st.heap.length+4)) [x.dv] (pst st (HI st P0 P1 ov lv fr 0 J) K)=some (.bool true,pst st (HI st P0 P1 ov' lv fr 0 (J++[.cells .plain x.cs])) K')∧Acc st K' 8 ((xs++[x]).map It.dv) ov':=by
 obtain ⟨v2,K2,e2,hA2⟩:=acc_app (H:=HI st P0 P1 ov lv fr 1 (J++[.cells .plain x.cs])) (t:=st.cur) (by_:=64) (ag:=true) (tk:=.tight) (ys:=[x.dv]) hA (by omega) (by simp) (by simp [el_it]) (by simp [roomD];omega) (by simp [roomD];omega)
 refine ⟨v2,K2,?_,by simpa using hA2⟩
 have hA1:(E tab).C (.region f106r6 [6,7]) (setParams [(6,.ptr (st.heap.length+1) 0),(18,.fn 131 [] [.ptr (st.heap.length+2) 0,.ptr (st.heap.length+3) 0])] [19] [x.dv]) (pst st (HI st P0 P1 ov lv fr 0 J) K) =
  some (.normal,[(6,.ptr (st.heap.length+1) 0),(7,.ptr (st.heap.length+(J.length+7)) 0)],pst st (HI st P0 P1 ov lv fr 0 (J++[.cells .plain x.cs])) K):=by
  simp [HI,It.dv,It.cs]
 have hB:(E tab).C (.block 1 (.region f106r7 [])) [(6,.ptr (st.heap.length+1) 0),(7,.ptr (st.heap.length+(J.length+7)) 0)] (pst st ((HI st P0 P1 ov lv fr 0 (J++[.cells .plain x.cs])).set 4 (loI st 1)) K) =
  some (.normal,[],pst st (HI st P0 P1 v2 lv fr 1 (J++[.cells .plain x.cs])) K2):=by
  obtain ⟨t',n',tk',nn',rfl⟩:=acc_len hA2
  simp [HI,It.dv,It.cs] at e2 ⊢
  simp [op_lit,repl,chunk,e2]
 exact V_client (T:=tab) (k:=4) (H:=HI st P0 P1 ov lv fr 0 J) rfl rfl hA1 rfl ⟨_,hB⟩ rfl
theorem dash133 {L:List Mass} {p:Para} {w u:LW} (hL:MOk p.text L) {t n:Nat} {tk:Tk} {nn:Bool} (h6:L≠[]→n=6) {ov:DV} {fr s k:Nat} (hk:k<L.length) :
 (E tab).F 133 [.int .i64 k,.ptr (st.heap.length+3) 0,.ptr (st.heap.length+2) 0] (pst st (HI st P0 (paraCs p w u) ov (.list t n tk nn (L.map Mass.dv)) fr s J) K)=some (.bool (dashB p.text (L.getD k mz)),pst st (HI st P0 (paraCs p w u) ov (.list t n tk nn (L.map Mass.dv)) fr s J) K):=by
 rw [F_go at133 rfl]
 obtain rfl:=h6 (by intro e;simp [e] at hk)
 have g1:=getMD (L:=L) hk
 have l1:k<(L.map Mass.dv).length:=by simpa using hk
 have hm:=hL.at_ _ (List.mem_of_getElem? (getM hk))
 generalize L.map Mass.dv=V at *
 have g1':V[k]'l1=(L.getD k mz).dv:=by rw [List.getElem?_eq_getElem l1] at g1;exact Option.some.inj g1
 generalize L.getD k mz=m at *
 have hb:p.text[m.a.toNat]? = some (bAt p.text m.a.toNat):=byteAt (by omega)
 have hlt:m.a.toNat<p.text.length:=by omega
 have hge:p.text[m.a.toNat]'hlt=bAt p.text m.a.toNat:=by rw [List.getElem?_eq_getElem hlt] at hb;exact Option.some.inj hb
 by_cases h2:m.k=2
 · by_cases h45:bAt p.text m.a.toNat=45
   · simp [f133,HI,g1,g1',l1,Mass.dv,Mass.cs,h2,hb,hge,hlt,hm.1,h45,dashB]
   · have h45':(((bAt p.text m.a.toNat).toNat:Int)==45)=(bAt p.text m.a.toNat==45):=u8_eq _ 45
     simp [f133,HI,g1,g1',l1,Mass.dv,Mass.cs,h2,hb,hge,hlt,hm.1,h45',dashB]
 · simp [f133,HI,g1,g1',l1,Mass.dv,Mass.cs,h2,dashB]
theorem shut134 {L:List Mass} {s:List UInt8} (hL:MOk s L) {t n:Nat} {tk:Tk} {nn:Bool} (h6:L≠[]→n=6) (h7:nn=true→n=6) {xs:List It} {ov:DV} {fr k:Nat} (hk:k≤L.length) (hx:xs.length≤100000) (hA:Acc st K 8 (xs.map It.dv) ov) :
 ∃ ov' J' K',(E tab).F 134 [.int .i64 k,.ptr (st.heap.length+6) 0,.ptr (st.heap.length+5) 0,.ptr (st.heap.length+3) 0] (pst st (HI st P0 P1 ov (.list t n tk nn (L.map Mass.dv)) fr 0 J) K) =
   some (.bool true,pst st (HI st P0 P1 ov' (.list t n tk nn (L.map Mass.dv)) fr 0 (J++J')) K')∧Acc st K' 8 ((xs++if fr<k then [boxI L fr k] else []).map It.dv) ov':=by
 rw [F_go at134 rfl]
 by_cases h:fr<k
 · have h':¬ (k:Int)≤fr:=by omega
   obtain ⟨ov',K',hy,hA'⟩:=yieldI (P0:=P0) (P1:=P1) (lv:=.list t n tk nn (L.map Mass.dv)) (J:=J) (fr:=fr) (boxI L fr k) hx hA
   have hb:=fun st=>box135 (st:=st) hL (t:=t) (n:=n) (tk:=tk) h6 h7 h hk
   refine ⟨ov',[.cells .plain (boxI L fr k).cs],K',?_,by simpa [h] using hA'⟩
   generalize boxI L fr k=x at *
   generalize L.map Mass.dv=V at *
   simp [HI] at hy
   have h'':¬ k≤fr:=by omega
   simp [f134,HI,h',h'',hb,hy]
 · have h':(k:Int)≤fr:=by omega
   have h'':k≤fr:=by omega
   refine ⟨ov,[],K,?_,by simpa [h] using hA⟩
   generalize L.map Mass.dv=V at *
   simp [f134,HI,h',h'']
end
def plV (t:Nat) (tk:Tk) (pl:List Bool):DV:=.list t 1 tk true (pl.map DV.bool)
section
variable {st:St} {P0:List DV}
theorem L131_0 {L:List Mass} {p:Para} {w u:LW} (hL:MOk p.text L) {t n:Nat} {tk:Tk} {nn:Bool} (h6:L≠[]→n=6) (h7:nn=true→n=6) {pl:List Bool} (hpl:pl.length=L.length+1) {t2:Nat} {tk2:Tk} :
 ∀ (r d:List Mass) (run fr:Nat) (J:List HO) (K:List Nat) (xs:List It) (ov:DV),L=d++r→fr≤d.length→run≤d.length→xs.length≤3*d.length→Acc st K 8 (xs.map It.dv) ov →
 ∃ (ov':DV) (fr':Nat) (J':List HO) (K':List Nat) (X:List It) (y6:DV) (tl:Fr),
   (E tab).C f131L0 [(2,.ptr (st.heap.length+3) 0),(3,.ptr (st.heap.length+5) 0),(4,plV t2 tk2 pl),(5,.fn 133 [] [.ptr (st.heap.length+3) 0,.ptr (st.heap.length+2) 0]),(6,.int .i64 run),(7,.ptr (st.heap.length+6) 0),(8,.fn 134 [] [.ptr (st.heap.length+6) 0,.ptr (st.heap.length+5) 0,.ptr (st.heap.length+3) 0]),(17,.list t n tk nn (L.map Mass.dv)),(18,.int .i64 L.length),(19,.int .i64 d.length)]
    (pst st (HI st P0 (paraCs p w u) ov (.list t n tk nn (L.map Mass.dv)) fr 0 J) K) =
   some (.exit 0,[(2,.ptr (st.heap.length+3) 0),(3,.ptr (st.heap.length+5) 0),(4,plV t2 tk2 pl),(5,.fn 133 [] [.ptr (st.heap.length+3) 0,.ptr (st.heap.length+2) 0]),(6,y6),(7,.ptr (st.heap.length+6) 0),(8,.fn 134 [] [.ptr (st.heap.length+6) 0,.ptr (st.heap.length+5) 0,.ptr (st.heap.length+3) 0])]++tl,
    pst st (HI st P0 (paraCs p w u) ov' (.list t n tk nn (L.map Mass.dv)) fr' 0 J') K')∧Acc st K' 8 ((xs++X).map It.dv) ov'∧(xs++X).length≤3*L.length∧itemsG p.text L pl d.length run fr r=X++(if fr'<L.length then [boxI L fr' L.length] else []):=by
 have hlen:=hL.len
 intro r
 induction r with
 | nil=>
   intro d run fr J K xs ov hd hf hr hx hA
   obtain rfl:L=d:=by simpa using hd
   refine ⟨ov,fr,J,K,[],.int .i64 run,[(17,.list t n tk nn (L.map Mass.dv)),(18,.int .i64 L.length),(19,.int .i64 L.length),(20,.bool false)],?_,by simpa using hA,by simpa using hx,by simp [itemsG]⟩
   generalize L.map Mass.dv=V at *
   rw [C_turn (L:=f131L0) rfl]
   simp [f131B0]
 | cons m r ih=>
   intro d run fr J K xs ov hd hf hr hx hA
   have h0:d.length<L.length:=by simp [hd]
   have hmem:m∈L:=by simp [hd]
   have hok:=List.all_eq_true.1 hL.ok m hmem
   have hsz:=hL.sz m hmem
   have hgm:L.getD d.length mz=m:=by simp [hd]
   have hw1:IntKind.i64.wrap ((d.length:Int)+1)=(d.length:Int)+1:=by rw [i64w (by omega)]
   have hwm:IntKind.i64.wrap ((d.length:Int)-1)=(d.length:Int)-1:=by rw [i64w (by omega)]
   obtain rfl:=h6 (by intro e;simp [e] at h0)
   have g1:=getMD (L:=L) h0
   rw [hgm] at g1
   have l1:d.length<(L.map Mass.dv).length:=by simpa using h0
   have hbx:=fun st=>boxed136 (st:=st) m
   have hln:=fun st=>lone137 (st:=st) m hok hsz
   have hhy:=fun st=>hyphen138 (st:=st) hsz
   have hsh:=fun (J:List HO)=>shut134 (st:=st) (P0:=P0) (P1:=paraCs p w u) (J:=J) (K:=K) (t:=t) (n:=6) (tk:=tk) (nn:=nn) hL (fun _=>rfl) (fun _=>rfl) (k:=d.length) (fr:=fr) (by omega) (by omega) hA
   have hds:=fun (J:List HO) (k:Nat) (hk:k<L.length)=>dash133 (st:=st) (P0:=P0) (w:=w) (u:=u) (J:=J) (K:=K) (ov:=ov) (fr:=fr) (s:=0) (t:=t) (n:=6) (tk:=tk) (nn:=nn) hL (fun _=>rfl) (k:=k) hk
   have hpd:(pl.map DV.bool)[d.length]? = some (.bool (pl.getD d.length false)):=by
    rw [List.getElem?_map,List.getElem?_eq_getElem (show d.length<pl.length by omega),List.getD_eq_getElem?_getD,List.getElem?_eq_getElem (show d.length<pl.length by omega)];rfl
   have lpd:d.length<(pl.map DV.bool).length:=by simp;omega
   cases hb:boxdB m with
   | false=>
     obtain ⟨ov1,J1,K1,hS,hA1⟩:=hsh (J++[.cells .plain m.cs])
     have hxl:(xs++if fr<d.length then [boxI L fr d.length] else []).length≤3*d.length+1:=by split<;>simp<;>omega
     obtain ⟨ov2,K2,hY,hA2⟩:=yieldI (st:=st) (P0:=P0) (P1:=paraCs p w u) (lv:=.list t 6 tk nn (L.map Mass.dv)) (J:=(J++[.cells .plain m.cs])++J1) (fr:=fr) (loneI m) (by omega) hA1
     obtain ⟨ov',fr',J',K',X,y6,tl,hJ,a1,a2,a3⟩:=ih (d++[m]) (d.length+1) (d.length+1) (((J++[.cells .plain m.cs])++J1)++[.cells .plain (loneI m).cs]) K2 ((xs++if fr<d.length then [boxI L fr d.length] else [])++[loneI m]) ov2 (by simp [hd]) (by simp) (by simp) (by
      rw [List.length_append];simp only [List.length_append,List.length_singleton] at hxl ⊢;omega) hA2
     refine ⟨ov',fr',J',K',(if fr<d.length then [boxI L fr d.length] else [])++loneI m::X,y6,tl,?_,by simpa using a1,by simpa using a2,?_⟩
     · generalize L.map Mass.dv=V at *
       have g1':V[d.length]'l1=m.dv:=by rw [List.getElem?_eq_getElem l1] at g1;exact Option.some.inj g1
       rw [hb] at hbx
       simp only [HI,List.append_assoc,List.cons_append,List.nil_append] at hS hY hJ ⊢
       simp only [Mass.dv,Mass.cs] at hbx hln hS hY hJ g1'
       simp at hS hY hJ
       rw [C_turn (L:=f131L0) rfl]
       simp [f131B0,h0,g1,g1',l1,hbx,hln,hS,hY,V_fn,hw1,hJ,Mass.dv,Mass.cs]
     · simp only [List.length_append,List.length_singleton] at a3
       simp only [itemsG,hb,if_true,a3,List.append_assoc,List.cons_append]
   | true=>
     by_cases hkf:fr=d.length
     · obtain ⟨ov',fr',J',K',X,y6,tl,hJ,a1,a2,a3⟩:=ih (d++[m]) run fr (J++[.cells .plain m.cs]) K xs ov (by simp [hd]) (by simp;omega) (by simp;omega) (by simp;omega) hA
       refine ⟨ov',fr',J',K',X,y6,tl,?_,a1,a2,?_⟩
       · generalize L.map Mass.dv=V at *
         have g1':V[d.length]'l1=m.dv:=by rw [List.getElem?_eq_getElem l1] at g1;exact Option.some.inj g1
         rw [hb] at hbx
         subst hkf
         simp only [HI,List.append_assoc,List.cons_append,List.nil_append] at hJ ⊢
         simp only [Mass.dv,Mass.cs] at hbx hJ g1'
         simp at hJ
         rw [C_turn (L:=f131L0) rfl]
         simp [f131B0,h0,g1,g1',l1,hbx,hw1,hJ,Mass.dv,Mass.cs]
       · simp only [List.length_append,List.length_singleton] at a3
         simp only [itemsG,hb,hkf,if_true,Bool.true_eq_false,if_false]
         rw [← hkf] at a3 ⊢
         rw [← a3,hkf]
     · have hkf':¬ (d.length:Int)=fr:=by omega
       have hkf2:¬ d.length=fr:=by omega
       have hfl:fr<d.length:=by omega
       have hif:(if fr<d.length then [boxI L fr d.length] else [])=[boxI L fr d.length]:=if_pos hfl
       rw [hif] at hsh
       have fin:∀ q:It,(itemsG p.text L pl d.length run fr (m::r)=boxI L fr d.length::q::itemsG p.text L pl (d.length+1) run d.length r) →
        ∃ (ov':DV) (fr':Nat) (J':List HO) (K':List Nat) (X:List It) (y6:DV) (tl:Fr) (ov1 ov2:DV) (J1:List HO) (K1 K2:List Nat),
        (E tab).F 134 [.int .i64 d.length,.ptr (st.heap.length+6) 0,.ptr (st.heap.length+5) 0,.ptr (st.heap.length+3) 0] (pst st (HI st P0 (paraCs p w u) ov (.list t 6 tk nn (L.map Mass.dv)) fr 0 (J++[.cells .plain m.cs,.cells .plain q.cs])) K) =
         some (.bool true,pst st (HI st P0 (paraCs p w u) ov1 (.list t 6 tk nn (L.map Mass.dv)) fr 0 ((J++[.cells .plain m.cs,.cells .plain q.cs])++J1)) K1) ∧
        (E tab).V (.yield (st.heap.length+4)) [q.dv] (pst st (HI st P0 (paraCs p w u) ov1 (.list t 6 tk nn (L.map Mass.dv)) fr 0 ((J++[.cells .plain m.cs,.cells .plain q.cs])++J1)) K1) =
         some (.bool true,pst st (HI st P0 (paraCs p w u) ov2 (.list t 6 tk nn (L.map Mass.dv)) fr 0 (((J++[.cells .plain m.cs,.cells .plain q.cs])++J1)++[.cells .plain q.cs])) K2) ∧
        (E tab).C f131L0 [(2,.ptr (st.heap.length+3) 0),(3,.ptr (st.heap.length+5) 0),(4,plV t2 tk2 pl),(5,.fn 133 [] [.ptr (st.heap.length+3) 0,.ptr (st.heap.length+2) 0]),(6,.int .i64 run),(7,.ptr (st.heap.length+6) 0),(8,.fn 134 [] [.ptr (st.heap.length+6) 0,.ptr (st.heap.length+5) 0,.ptr (st.heap.length+3) 0]),(17,.list t 6 tk nn (L.map Mass.dv)),(18,.int .i64 L.length),(19,.int .i64 (d.length+1:Nat))]
         (pst st (HI st P0 (paraCs p w u) ov2 (.list t 6 tk nn (L.map Mass.dv)) d.length 0 (((J++[.cells .plain m.cs,.cells .plain q.cs])++J1)++[.cells .plain q.cs])) K2) =
        some (.exit 0,[(2,.ptr (st.heap.length+3) 0),(3,.ptr (st.heap.length+5) 0),(4,plV t2 tk2 pl),(5,.fn 133 [] [.ptr (st.heap.length+3) 0,.ptr (st.heap.length+2) 0]),(6,y6),(7,.ptr (st.heap.length+6) 0),(8,.fn 134 [] [.ptr (st.heap.length+6) 0,.ptr (st.heap.length+5) 0,.ptr (st.heap.length+3) 0])]++tl,
         pst st (HI st P0 (paraCs p w u) ov' (.list t 6 tk nn (L.map Mass.dv)) fr' 0 J') K')∧Acc st K' 8 ((xs++X).map It.dv) ov'∧(xs++X).length≤3*L.length∧itemsG p.text L pl d.length run fr (m::r)=X++(if fr'<L.length then [boxI L fr' L.length] else []):=by
        intro q hq
        obtain ⟨ov1,J1,K1,hS,hA1⟩:=hsh (J++[.cells .plain m.cs,.cells .plain q.cs])
        obtain ⟨ov2,K2,hY,hA2⟩:=yieldI (st:=st) (P0:=P0) (P1:=paraCs p w u) (lv:=.list t 6 tk nn (L.map Mass.dv)) (J:=(J++[.cells .plain m.cs,.cells .plain q.cs])++J1) (fr:=fr) q (by simp;omega) hA1
        obtain ⟨ov',fr',J',K',X,y6,tl,hJ,a1,a2,a3⟩:=ih (d++[m]) run d.length (((J++[.cells .plain m.cs,.cells .plain q.cs])++J1)++[.cells .plain q.cs]) K2 ((xs++[boxI L fr d.length])++[q]) ov2 (by simp [hd]) (by simp) (by simp;omega) (by simp;omega) hA2
        simp only [List.length_append,List.length_singleton] at hJ a3
        refine ⟨ov',fr',J',K',boxI L fr d.length::q::X,y6,tl,ov1,ov2,J1,K1,K2,hS,hY,hJ,by simpa using a1,by simpa using a2,?_⟩
        rw [hq,a3];rfl
       cases hp:pl.getD d.length false with
       | true=>
         have hq:itemsG p.text L pl d.length run fr (m::r)=boxI L fr d.length::penW m::itemsG p.text L pl (d.length+1) run d.length r:=by
          simp only [itemsG,hb,hkf2,hp,if_false,if_true,Bool.true_eq_false]
         obtain ⟨ov',fr',J',K',X,y6,tl,ov1,ov2,J1,K1,K2,hS,hY,hJ,a1,a2,a3⟩:=fin (penW m) hq
         refine ⟨ov',fr',J',K',X,y6,tl,?_,a1,a2,a3⟩
         rw [hp] at hpd
         generalize L.map Mass.dv=V at *
         have g1':V[d.length]'l1=m.dv:=by rw [List.getElem?_eq_getElem l1] at g1;exact Option.some.inj g1
         simp only [plV] at hJ ⊢
         generalize pl.map DV.bool=PL at *
         have p1':PL[d.length]'lpd=.bool true:=by rw [List.getElem?_eq_getElem lpd] at hpd;exact Option.some.inj hpd
         rw [hb] at hbx
         simp only [HI,List.append_assoc,List.cons_append,List.nil_append] at hS hY hJ ⊢
         simp only [Mass.dv,Mass.cs,penW,It.dv,It.cs] at hbx hS hY hJ g1'
         simp at hS hY hJ
         rw [C_turn (L:=f131L0) rfl]
         simp [f131B0,h0,g1,g1',l1,hbx,hkf',hkf2,hpd,p1',lpd,hhy,hS,hY,V_fn,hw1,hJ,Mass.dv,Mass.cs]
       | false=>
         have hd1:=hds (J++[.cells .plain m.cs,.cells .plain [.int .i64 3,.int .i64 m.a,.int .i64 m.a,.int .i64 0,.int .i64 0,.int .i64 0,.int .i64 0,.bool false]]) (d.length-1) (by omega)
         have hd2:=hds (J++[.cells .plain m.cs,.cells .plain [.int .i64 3,.int .i64 m.a,.int .i64 m.a,.int .i64 0,.int .i64 0,.int .i64 0,.int .i64 0,.bool false]]) d.length h0
         have hcz:((d.length-1:Nat):Int)=(d.length:Int)-1:=by omega
         rw [hcz] at hd1
         rw [hgm] at hd2
         cases hdash:dashB p.text (L.getD (d.length-1) mz) && !dashB p.text m&&decide (run<d.length-1) with
         | true=>
           have hq:itemsG p.text L pl d.length run fr (m::r)=boxI L fr d.length::penS m::itemsG p.text L pl (d.length+1) run d.length r:=by
            simp only [itemsG,hb,hkf2,hp,hdash,if_false,if_true,Bool.true_eq_false,Bool.false_eq_true]
           obtain ⟨ov',fr',J',K',X,y6,tl,ov1,ov2,J1,K1,K2,hS,hY,hJ,a1,a2,a3⟩:=fin (penS m) hq
           refine ⟨ov',fr',J',K',X,y6,tl,?_,a1,a2,a3⟩
           simp only [Bool.and_eq_true,Bool.not_eq_true',decide_eq_true_eq] at hdash
           obtain ⟨⟨q1,q2⟩,q3⟩:=hdash
           have q3':(run:Int)<(d.length:Int)-1:=by omega
           rw [q1] at hd1
           rw [q2] at hd2
           rw [hp] at hpd
           generalize L.map Mass.dv=V at *
           have g1':V[d.length]'l1=m.dv:=by rw [List.getElem?_eq_getElem l1] at g1;exact Option.some.inj g1
           simp only [plV] at hJ ⊢
           generalize pl.map DV.bool=PL at *
           have p1':PL[d.length]'lpd=.bool false:=by rw [List.getElem?_eq_getElem lpd] at hpd;exact Option.some.inj hpd
           rw [hb] at hbx
           simp only [HI,List.append_assoc,List.cons_append,List.nil_append] at hS hY hJ hd1 hd2 ⊢
           simp only [Mass.dv,Mass.cs,penS,It.dv,It.cs] at hbx hS hY hJ hd1 hd2 g1'
           simp at hS hY hJ hd1 hd2
           rw [C_turn (L:=f131L0) rfl]
           simp [f131B0,h0,g1,g1',l1,hbx,hkf',hkf2,hpd,p1',lpd,hwm,hd1,hd2,q3',hS,hY,V_fn,hw1,hJ,Mass.dv,Mass.cs]
         | false=>
           have hq:itemsG p.text L pl d.length run fr (m::r)=itemsG p.text L pl (d.length+1) run fr r:=by
            simp only [itemsG,hb,hkf2,hp,hdash,if_false,Bool.true_eq_false,Bool.false_eq_true]
           obtain ⟨ov',fr',J',K',X,y6,tl,hJ,a1,a2,a3⟩:=ih (d++[m]) run fr (J++[.cells .plain m.cs,.cells .plain [.int .i64 3,.int .i64 m.a,.int .i64 m.a,.int .i64 0,.int .i64 0,.int .i64 0,.int .i64 0,.bool false]]) K xs ov (by simp [hd]) (by simp;omega) (by simp;omega) (by simp;omega) hA
           simp only [List.length_append,List.length_singleton] at hJ a3
           refine ⟨ov',fr',J',K',X,y6,tl,?_,a1,a2,by rw [hq,a3]⟩
           rw [hp] at hpd
           generalize L.map Mass.dv=V at *
           have g1':V[d.length]'l1=m.dv:=by rw [List.getElem?_eq_getElem l1] at g1;exact Option.some.inj g1
           simp only [plV] at hJ ⊢
           generalize pl.map DV.bool=PL at *
           have p1':PL[d.length]'lpd=.bool false:=by rw [List.getElem?_eq_getElem lpd] at hpd;exact Option.some.inj hpd
           rw [hb] at hbx
           simp only [HI,List.append_assoc,List.cons_append,List.nil_append] at hJ hd1 hd2 ⊢
           simp only [Mass.dv,Mass.cs] at hbx hJ hd1 hd2 g1'
           cases q1:dashB p.text (L.getD (d.length-1) mz) with
           | false=>
             rw [q1] at hd1
             simp at hJ hd1
             rw [C_turn (L:=f131L0) rfl]
             simp [f131B0,h0,g1,g1',l1,hbx,hkf',hkf2,hpd,p1',lpd,hwm,hd1,V_fn,hw1,hJ,Mass.dv,Mass.cs]
           | true=>
             rw [q1] at hd1 hdash
             cases q2:dashB p.text m with
             | true=>
               rw [q2] at hd2
               simp at hJ hd1 hd2
               rw [C_turn (L:=f131L0) rfl]
               simp [f131B0,h0,g1,g1',l1,hbx,hkf',hkf2,hpd,p1',lpd,hwm,hd1,hd2,V_fn,hw1,hJ,Mass.dv,Mass.cs]
             | false=>
               rw [q2] at hd2 hdash
               have q3:¬ run<d.length-1:=by simpa using hdash
               have q3':¬ (run:Int)<(d.length:Int)-1:=by omega
               simp at hJ hd1 hd2
               rw [C_turn (L:=f131L0) rfl]
               simp [f131B0,h0,g1,g1',l1,hbx,hkf',hkf2,hpd,p1',lpd,hwm,hd1,hd2,q3',V_fn,hw1,hJ,Mass.dv,Mass.cs]
end
def endR (L:List Mass) (z:Int):Nat→Nat→Nat
 | 0,b=>b
 | f+1,b=>match L[b]? with | some m=>if m.k=1∧m.s=z then endR L z f (b+1) else b | none=>b
def byL (s:List UInt8) (l:List Mass):List UInt8:=l.map fun m=>bAt s m.a.toNat
def setP (pl:List Bool) (a:Nat) (pts:List Nat):List Bool:=pts.foldl (fun o k=>o.set (a+k) true) pl
def ptsW (w:List UInt8):List Nat:=if okWd w=true then points plainP plainE (w.map lowB) else []
def wordsG (s:List UInt8) (L:List Mass):Nat→Nat→List Bool→List Bool
 | 0,_,pl=>pl
 | f+1,a,pl=>match L[a]? with
   | none=>pl
   | some m=>if m.k=1 then wordsG s L f (endR L m.s L.length a) (setP pl a (ptsW (byL s ((L.drop a).take (endR L m.s L.length a-a))))) else wordsG s L f (a+1) pl
def plOf (s:List UInt8) (L:List Mass) (hy:Int):List Bool:=if hy=0 then List.replicate (L.length+1) false else wordsG s L (L.length+1) 0 (List.replicate (L.length+1) false)
theorem setP_len:∀ (pts:List Nat) (pl:List Bool) (a:Nat),(setP pl a pts).length=pl.length
 | [],_,_=>rfl
 | k::r,pl,a=>by unfold setP;rw [List.foldl_cons];have:=setP_len r (pl.set (a+k) true) a;unfold setP at this;rw [this];simp
theorem wordsG_len (s:List UInt8) (L:List Mass):∀ (f a:Nat) (pl:List Bool),(wordsG s L f a pl).length=pl.length
 | 0,_,_=>rfl
 | f+1,a,pl=>by
   simp only [wordsG]
   split
   · rfl
   · split
     · rw [wordsG_len s L f,setP_len]
     · rw [wordsG_len s L f]
theorem plOf_len (s:List UInt8) (L:List Mass) (hy:Int):(plOf s L hy).length=L.length+1:=by
 unfold plOf;split
 · simp
 · rw [wordsG_len];simp
theorem endR_le (L:List Mass) (z:Int):∀ f b,b≤L.length→b≤endR L z f b∧endR L z f b≤L.length
 | 0,b,h=>⟨Nat.le_refl _,h⟩
 | f+1,b,h=>by
   simp only [endR]
   split
   · rename_i m hm
     have:=(List.getElem?_eq_some_iff.1 hm).1
     split
     · have:=endR_le L z f (b+1) (by omega);omega
     · exact ⟨Nat.le_refl _,h⟩
   · exact ⟨Nat.le_refl _,h⟩
theorem endR_gt {L:List Mass} {a:Nat} {m:Mass} (h:L[a]? = some m) (hk:m.k=1):a<endR L m.s L.length a:=by
 have hl:=(List.getElem?_eq_some_iff.1 h).1
 obtain ⟨f,hf⟩:∃ f,L.length=f+1:=⟨L.length-1,by omega⟩
 rw [hf]
 simp only [endR,h,hk,true_and,if_true]
 have:=(endR_le L m.s f (a+1) (by omega)).1
 omega
theorem plc_le:∀ (s:List UInt8) (k:Nat),∀ x∈plc k s,x≤k+(bareL s).length:=by
 intro s
 have h:∀ r:List UInt8,∀ k,∀ x∈plc k r.reverse,x≤k+(bareL r.reverse).length:=by
  intro r
  induction r with
  | nil=>intro k x hx;simp [plc] at hx
  | cons c r ih=>
    intro k x hx
    rw [List.reverse_cons] at hx ⊢
    by_cases hc:c.toNat=45
    · rw [plc_sign _ _ _ hc] at hx
      rw [bare_sign _ _ hc]
      rcases List.mem_append.1 hx with hx | hx
      · exact ih k x hx
      · simp at hx;omega
    · rw [plc_let _ _ _ hc] at hx
      rw [bare_let _ _ hc]
      have:=ih k x hx
      simp;omega
 intro k x hx
 have:=h s.reverse k x (by simpa using hx)
 simpa using this
theorem points_le (ps es:List (List UInt8)) (w:List UInt8):∀ k∈points ps es w,k≤w.length:=by
 intro k hk
 unfold points at hk
 split at hk
 · rename_i s hs
   have h1:=List.find?_some hs
   simp only [beq_iff_eq] at h1
   have:=plc_le s 0 k hk
   rw [h1] at this;omega
 · unfold ptsN at hk
   have:=List.mem_range'_1.1 (List.mem_filter.1 hk).1
   omega
theorem ptsW_le (w:List UInt8):∀ k∈ptsW w,k≤w.length:=by
 intro k hk
 unfold ptsW at hk
 split at hk
 · have:=points_le _ _ _ k hk;simpa using this
 · cases hk
theorem pts_lenW (w:List UInt8):(ptsW w).length≤200000:=by
 unfold ptsW
 split
 · rename_i hok
   have:=pts_len plainP plainE (w.map lowB) plain_len
   simp only [okWd,Bool.and_eq_true,decide_eq_true_eq] at hok
   simp only [List.length_map] at this
   omega
 · simp
section
variable {st:St}
theorem L132_1 {G:List HO} {K:List Nat} {kO a b n:Nat} {y2 y6:DV} {lv v:DV} {pts:List Nat} (hp:Lw 1 (pts.map i6) v) (hpl:pts.length≤1000000) (hn:n≤100000) (ha:a≤100000) (hb:∀ k∈pts,a+k<n):∀ (r d:List Nat) (pl:List Bool) (G:List HO),pts=d++r→pl.length=n→rowAt G kO=some (.plain,pl.map DV.bool) →
 ∃ tl,(E tab).C f132L1 [(1,lv),(2,y2),(5,.hsl 1 false (st.heap.length+kO) 0 n (some n)),(6,y6),(7,.int .i64 a),(8,.int .i64 b),(82,v),(83,.int .i64 pts.length),(84,.int .i64 d.length)] (pst st G K) =
   some (.exit 4,[(1,lv),(2,y2),(5,.hsl 1 false (st.heap.length+kO) 0 n (some n)),(6,y6),(7,.int .i64 a),(8,.int .i64 b)]++tl,pst st (G.set kO (.cells .plain ((setP pl a r).map DV.bool))) K):=by
 intro r
 induction r with
 | nil=>
   intro d pl G hd hl hr
   obtain rfl:pts=d:=by simpa using hd
   have hset:G.set kO (.cells .plain ((setP pl a []).map DV.bool))=G:=by
    have hk:=rowAt_lt hr
    apply List.ext_getElem?
    intro j
    by_cases hj:j=kO
    · subst hj;rw [List.getElem?_set_self hk,rowAt_iff.1 hr];rfl
    · rw [List.getElem?_set_ne (fun e=>hj e.symm)]
   rw [hset]
   refine ⟨[(82,v),(83,.int .i64 pts.length),(84,.int .i64 pts.length),(85,.bool false)],?_⟩
   rw [C_turn (L:=f132L1) rfl]
   simp [f132B1]
 | cons x r ih=>
   intro d pl G hd hl hr
   have hk:=rowAt_lt hr
   have h0:d.length<pts.length:=by simp [hd]
   have hw1:IntKind.i64.wrap ((d.length:Int)+1)=(d.length:Int)+1:=by rw [i64w (by omega)]
   have hax:=hb x (by simp [hd])
   have hwa:IntKind.i64.wrap ((a:Int)+x)=((a+x:Nat):Int):=by rw [i64w (by omega)];simp
   have v0:Vw (pst st G K) 1 false (pts.map i6) v:=hp.vw
   have e1:=fun st'=>v0.iaddr (i:=d.length) (by simpa using h0) .i64 st'
   have e2:=v0.load1 i6_el (i:=d.length) (x:=.int .i64 x) (by simp [hd,i6])
   have hlt:a+x<(pl.map DV.bool).length:=by simp;omega
   have hsp:=splice_one (x:=.bool true) hlt
   have hset:(pl.map DV.bool).set (a+x) (.bool true)=(pl.set (a+x) true).map DV.bool:=by rw [List.map_set]
   rw [hset] at hsp
   have hle:a+x+1≤(pl.map DV.bool).length:=by omega
   obtain ⟨tl,hJ⟩:=ih (d++[x]) (pl.set (a+x) true) (G.set kO (.cells .plain ((pl.set (a+x) true).map DV.bool))) (by simp [hd]) (by simpa using hl) (rowAt_set hk _ _)
   refine ⟨tl,?_⟩
   rw [List.set_set] at hJ
   have e3:setP pl a (x::r)=setP (pl.set (a+x) true) a r:=rfl
   rw [e3]
   generalize (setP (pl.set (a+x) true) a r).map DV.bool=W at *
   generalize (pl.set (a+x) true).map DV.bool=W1 at *
   generalize pl.map DV.bool=PM at *
   generalize a+x=ax at *
   simp only [splice] at hsp
   simp at hJ hsp
   have hax2:(ax:Int)<n:=by omega
   rw [C_turn (L:=f132L1) rfl]
   simp [f132B1,h0,e1,e2,hwa,hax,hax2,hr,hle,hsp,hw1,hJ]
theorem take_snoc {L:List Mass} {a b:Nat} {m:Mass} (h:L[b]? = some m) (hab:a≤b):(L.drop a).take (b+1-a)=(L.drop a).take (b-a)++[m]:=by
 have e:b+1-a=(b-a)+1:=by omega
 rw [e,List.take_add_one,List.getElem?_drop,show a+(b-a)=b by omega,h];rfl
theorem L132_0 {L:List Mass} {p:Para} {w u:LW} (hL:MOk p.text L) {t n:Nat} {tk:Tk} {nn:Bool} (h6:L≠[]→n=6) {H:List HO} (hr:rowAt H 0=some (.plain,paraCs p w u)) {y5 y6:DV} {a:Nat} {ma:Mass} (hma:L[a]? = some ma):∀ (f b:Nat) (K:List Nat) (v:DV),L.length≤b+f→a≤b→b≤L.length→Acc st K 1 ((byL p.text ((L.drop a).take (b-a))).map u8) v →
 ∃ (K':List Nat) (v':DV) (tl:Fr),(E tab).C f132L0 [(1,.list t n tk nn (L.map Mass.dv)),(2,.ptr st.heap.length 0),(5,y5),(6,y6),(7,.int .i64 a),(8,.int .i64 b),(9,v)] (pst st H K) =
   some (.exit 2,[(1,.list t n tk nn (L.map Mass.dv)),(2,.ptr st.heap.length 0),(5,y5),(6,y6),(7,.int .i64 a),(8,.int .i64 (endR L ma.s f b:Nat)),(9,v')]++tl,pst st H K')∧Acc st K' 1 ((byL p.text ((L.drop a).take (endR L ma.s f b-a))).map u8) v':=by
 have hlen:=hL.len
 have hal:=(List.getElem?_eq_some_iff.1 hma).1
 have hV0:(L.map Mass.dv).length=L.length:=by simp
 obtain rfl:=h6 (by intro e;simp [e] at hal)
 have ga:(L.map Mass.dv)[a]? = some ma.dv:=by rw [List.getElem?_map,hma];rfl
 have la:a<(L.map Mass.dv).length:=by simpa using hal
 have ga':(L.map Mass.dv)[a]'la=ma.dv:=by rw [List.getElem?_eq_getElem la] at ga;exact Option.some.inj ga
 intro f
 induction f with
 | zero=>
   intro b K v h1 h2 h3 hA
   obtain rfl:b=L.length:=by omega
   refine ⟨K,v,[(61,.bool false)],?_,hA⟩
   generalize L.map Mass.dv=V at *
   rw [C_turn (L:=f132L0) rfl]
   simp [f132B0,endR,hV0]
 | succ f ih=>
   intro b K v h1 h2 h3 hA
   have hw1:IntKind.i64.wrap ((b:Int)+1)=(b:Int)+1:=by rw [i64w (by omega)]
   by_cases hb:b<L.length
   · obtain ⟨m,hm⟩:∃ m,L[b]? = some m:=⟨L[b],List.getElem?_eq_getElem hb⟩
     have gb:(L.map Mass.dv)[b]? = some m.dv:=by rw [List.getElem?_map,hm];rfl
     have lb:b<(L.map Mass.dv).length:=by simpa using hb
     have gb':(L.map Mass.dv)[b]'lb=m.dv:=by rw [List.getElem?_eq_getElem lb] at gb;exact Option.some.inj gb
     have hat:=hL.at_ m (List.mem_of_getElem? hm)
     have hbt:p.text[m.a.toNat]? = some (bAt p.text m.a.toNat):=byteAt (by omega)
     have hlt:m.a.toNat<p.text.length:=by omega
     have hge:p.text[m.a.toNat]'hlt=bAt p.text m.a.toNat:=by rw [List.getElem?_eq_getElem hlt] at hbt;exact Option.some.inj hbt
     by_cases hk:m.k=1
     · by_cases hz:m.s=ma.s
       · have e:endR L ma.s (f+1) b=endR L ma.s f (b+1):=by simp only [endR,hm,hk,hz,and_self,if_true]
         rw [e]
         have hts:=take_snoc hm h2
         have hbl:(byL p.text ((L.drop a).take (b-a))).length≤4096:=by simp [byL];omega
         obtain ⟨v1,K1,hap,hA1⟩:=acc_app (st:=st) (H:=H) (by_:=1) (ag:=false) (ys:=[u8 (bAt p.text m.a.toNat)]) (t:=st.cur) (tk:=.tight) hA (by omega) (by simp) (by intro y hy;simp only [List.mem_singleton] at hy;subst hy;exact ⟨rfl,rfl,rfl⟩) (by simp [roomD];omega) (by simp [roomD];omega)
         obtain ⟨K',v',tl,hJ,hA2⟩:=ih (b+1) K1 v1 (by omega) (by omega) (by omega) (by rw [hts];simpa [byL] using hA1)
         refine ⟨K',v',tl,?_,hA2⟩
         simp only [u8] at hap
         generalize endR L ma.s f (b+1)=eb at *
         generalize L.map Mass.dv=V at *
         simp at hJ
         rw [C_turn (L:=f132L0) rfl]
         simp [f132B0,hV0,hb,ga,ga',la,gb,gb',lb,Mass.dv,Mass.cs,hk,hz,hr,hat.1,hlt,hbt,hge,op_lit,repl,chunk,hap,hw1,hJ]
       · have e:endR L ma.s (f+1) b=b:=by simp only [endR,hm,hz,and_false,if_false]
         rw [e]
         refine ⟨K,v,[(61,.bool false)],?_,hA⟩
         generalize L.map Mass.dv=V at *
         rw [C_turn (L:=f132L0) rfl]
         simp [f132B0,hV0,hb,ga,ga',la,gb,gb',lb,Mass.dv,Mass.cs,hk,hz]
     · have e:endR L ma.s (f+1) b=b:=by simp only [endR,hm,hk,false_and,if_false]
       rw [e]
       refine ⟨K,v,[(61,.bool false)],?_,hA⟩
       generalize L.map Mass.dv=V at *
       rw [C_turn (L:=f132L0) rfl]
       simp [f132B0,hV0,hb,gb,gb',lb,Mass.dv,Mass.cs,hk]
   · have hbn:L[b]? = none:=List.getElem?_eq_none (by omega)
     have e:endR L ma.s (f+1) b=b:=by simp only [endR,hbn]
     rw [e]
     refine ⟨K,v,[(61,.bool false)],?_,hA⟩
     have hb':¬ (b:Int)<L.length:=by omega
     generalize L.map Mass.dv=V at *
     rw [C_turn (L:=f132L0) rfl]
     simp [f132B0,hV0,hb,hb']
theorem L132_2 {L:List Mass} {p:Para} {w u:LW} (hL:MOk p.text L) {t n:Nat} {tk:Tk} {nn:Bool} (h6:L≠[]→n=6):∀ (f a:Nat) (pl:List Bool) (G:List HO) (K:List Nat),L.length<a+f→a≤L.length→pl.length=L.length+1→rowAt G 0=some (.plain,paraCs p w u)→rowAt G 1=some (.plain,pl.map DV.bool)→HypOk st G 2 plainP plainE →
 ∃ (G':List HO) (K':List Nat) (tl:Fr),(E tab).C f132L2 [(1,.list t n tk nn (L.map Mass.dv)),(2,.ptr st.heap.length 0),(5,.hsl 1 false (st.heap.length+1) 0 (L.length+1) (some (L.length+1))),(6,.ptr (st.heap.length+4) 0),(7,.int .i64 a)] (pst st G K) =
   some (.exit 0,[(1,.list t n tk nn (L.map Mass.dv)),(2,.ptr st.heap.length 0),(5,.hsl 1 false (st.heap.length+1) 0 (L.length+1) (some (L.length+1)))]++tl,pst st G' K')∧rowAt G' 1=some (.plain,(wordsG p.text L f a pl).map DV.bool):=by
 have hlen:=hL.len
 have hV0:(L.map Mass.dv).length=L.length:=by simp
 intro f
 induction f with
 | zero=>intro a pl G K h1 h2;omega
 | succ f ih=>
   intro a pl G K h1 h2 h3 hr0 hr1 hH
   have hw1:IntKind.i64.wrap ((a:Int)+1)=(a:Int)+1:=by rw [i64w (by omega)]
   by_cases ha:a<L.length
   · obtain ⟨m,hm⟩:∃ m,L[a]? = some m:=⟨L[a],List.getElem?_eq_getElem ha⟩
     obtain rfl:=h6 (by intro e;simp [e] at ha)
     have gb:(L.map Mass.dv)[a]? = some m.dv:=by rw [List.getElem?_map,hm];rfl
     have lb:a<(L.map Mass.dv).length:=by simpa using ha
     have gb':(L.map Mass.dv)[a]'lb=m.dv:=by rw [List.getElem?_eq_getElem lb] at gb;exact Option.some.inj gb
     by_cases hk:m.k=1
     · have hgt:=endR_gt hm hk
       have hle:=(endR_le L m.s L.length a (by omega)).2
       have e:wordsG p.text L (f+1) a pl=wordsG p.text L f (endR L m.s L.length a) (setP pl a (ptsW (byL p.text ((L.drop a).take (endR L m.s L.length a-a))))):=by simp only [wordsG,hm,hk,if_true]
       rw [e]
       obtain ⟨K1,v1,tl1,hI,hA1⟩:=L132_0 (K:=K) hL (fun _=>rfl) hr0 (y5:=.hsl 1 false (st.heap.length+1) 0 (L.length+1) (some (L.length+1))) (y6:=.ptr (st.heap.length+4) 0) (t:=t) (tk:=tk) (nn:=nn) (st:=st) hm L.length a (.list 0 0 .no false []) (by omega) (Nat.le_refl _) (by omega) (by rw [Nat.sub_self];simpa [byL] using acc_nil st K 1 0 0 .no)
       have hwl:(byL p.text ((L.drop a).take (endR L m.s L.length a-a))).length=endR L m.s L.length a-a:=by simp [byL];omega
       generalize hW:byL p.text ((L.drop a).take (endR L m.s L.length a-a))=W at *
       generalize endR L m.s L.length a=b at *
       obtain ⟨q1,q2⟩:=acc_b2s hA1 (pst st G K1)
       obtain ⟨v2,X2,K2,hP,hl2⟩:=points144 (K:=K1) hH plain_len W
       have hpts:(if okWd W=true then points plainP plainE (W.map lowB) else [])=ptsW W:=rfl
       rw [hpts] at hl2
       have hpl:=pts_short (ps:=plainP) plain_len W
       rw [hpts] at hpl
       have hple:=ptsW_le W
       have hplen:(ptsW W).length≤1000000:=by
        have:=pts_lenW W;omega
       have hr1':rowAt (G++X2) 1=some (.plain,pl.map DV.bool):=row_at hr1 _
       obtain ⟨tl2,hI2⟩:=L132_1 (st:=st) (G:=G) (K:=K2) (kO:=1) (a:=a) (b:=b) (n:=L.length+1) (y2:=.ptr st.heap.length 0) (y6:=.ptr (st.heap.length+4) 0) (lv:=.list t 6 tk nn (L.map Mass.dv)) hl2 hplen (by omega) (by omega) (fun k hk=>by have:=hple k hk;omega) (ptsW W) [] pl (G++X2) rfl h3 hr1'
       obtain ⟨G',K',tl,hJ,hG'⟩:=ih b (setP pl a (ptsW W)) ((G++X2).set 1 (.cells .plain ((setP pl a (ptsW W)).map DV.bool))) K2 (by omega) hle (by rw [setP_len];exact h3) (by
        rw [rowAt_iff,List.getElem?_set_ne (by omega)];exact rowAt_iff.1 (row_at hr0 _)) (rowAt_set (rowAt_lt hr1') _ _) (by
        refine (hH.same (G':=(G++X2).set 1 (.cells .plain ((setP pl a (ptsW W)).map DV.bool))) fun j hj hjl => ?_)
        rw [List.getElem?_set_ne (by omega),List.getElem?_append_left hjl])
       refine ⟨G',K',tl,?_,hG'⟩
       obtain ⟨vt,vn,vtk,vnn,rfl⟩:=acc_len hA1
       have e2:=(hl2.vw (st:=st) (ag:=false)).len
       simp only [List.length_map] at e2
       have hbb:=bytes_u8 W
       generalize (setP pl a (ptsW W)).map DV.bool=SP at *
       generalize (ptsW W).length=pw at *
       generalize W.map u8=WU at *
       generalize L.map Mass.dv=V at *
       generalize G++X2=G2 at *
       simp at hI hI2 hJ
       rw [C_turn (L:=f132L2) rfl]
       simp [f132B2,hV0,ha,gb,gb',lb,Mass.dv,Mass.cs,hk,hI,op_b2s,q1,hbb,hP,e2,hI2,hJ]
     · have e:wordsG p.text L (f+1) a pl=wordsG p.text L f (a+1) pl:=by simp only [wordsG,hm,hk,if_false]
       rw [e]
       obtain ⟨G',K',tl,hJ,hG'⟩:=ih (a+1) pl G K (by omega) (by omega) h3 hr0 hr1 hH
       refine ⟨G',K',tl,?_,hG'⟩
       generalize L.map Mass.dv=V at *
       simp at hJ
       rw [C_turn (L:=f132L2) rfl]
       simp [f132B2,hV0,ha,gb,gb',lb,Mass.dv,Mass.cs,hk,hw1,hJ]
   · have hbn:L[a]? = none:=List.getElem?_eq_none (by omega)
     have e:wordsG p.text L (f+1) a pl=pl:=by simp only [wordsG,hbn]
     rw [e]
     refine ⟨G,K,[(6,.ptr (st.heap.length+4) 0),(7,.int .i64 a),(27,.bool false)],?_,hr1⟩
     have ha':¬ (a:Int)<L.length:=by omega
     generalize L.map Mass.dv=V at *
     rw [C_turn (L:=f132L2) rfl]
     simp [f132B2,hV0,ha,ha']
theorem words132 {L:List Mass} {p:Para} {w u:LW} (hL:MOk p.text L) {t n:Nat} {tk:Tk} {nn:Bool} (h6:L≠[]→n=6) :
 ∃ t',(E tab).F 132 [.agg (paraCs p w u),.list t n tk nn (L.map Mass.dv)] st=some (.list t' 1 .tight true ((plOf p.text L p.pr.hyphen).map DV.bool),st):=by
 have hlen:=hL.len
 have hV0:(L.map Mass.dv).length=L.length:=by simp
 have hel:∀ (b:List Bool),∀ y∈b.map DV.bool,IsEl 1 false y:=by intro b y hy;obtain ⟨c,_,rfl⟩:=List.mem_map.1 hy;exact ⟨rfl,rfl,rfl⟩
 have hw1:IntKind.i64.wrap ((L.length:Int)+1)=(L.length:Int)+1:=by rw [i64w (by omega)]
 have hroom:((L.length:Int)+1)≤140737488355328:=by omega
 have hroom2:L.length+1≤140737488355328:=by omega
 have hpos:(0:Int)≤(L.length:Int)+1:=by omega
 have htn:((L.length:Int)+1).toNat=L.length+1:=by omega
 have hrep:repl [DV.bool false] (L.length+1)=(List.replicate (L.length+1) false).map DV.bool:=by rw [repl_one,List.map_replicate]
 have ph:(paraCs p w u)[14]? = some (.int .i64 p.pr.hyphen):=rfl
 have hpl:=plOf_len p.text L p.pr.hyphen
 have hex:∀ (G:List HO) (K:List Nat),rowAt G 1=some (.plain,(plOf p.text L p.pr.hyphen).map DV.bool)→exportL st (pst st G K) (.hsl 1 false (st.heap.length+1) 0 (L.length+1) (some (L.length+1)))=some (.list st.cur 1 .tight true ((plOf p.text L p.pr.hyphen).map DV.bool)):=by
  intro G K h
  have hfl:=flat_scal _ (hel (plOf p.text L p.pr.hyphen))
  have:=ex_row (st:=st) (H:=G) (K:=K) (k:=1) (n:=1) (ag:=false) (g:=.plain) (ys:=(plOf p.text L p.pr.hyphen).map DV.bool) (cap:=some (L.length+1)) (by rw [hfl];exact h) (by omega) (.inr rfl) (hel _)
  rw [List.length_map,hpl,if_pos rfl] at this
  exact this
 refine ⟨st.cur,?_⟩
 rw [F_run at132 rfl]
 by_cases hy:p.pr.hyphen=0
 · have e:plOf p.text L p.pr.hyphen=List.replicate (L.length+1) false:=by simp only [plOf,hy,if_true]
   have hx:=hex [.cells .plain (paraCs p w u),.cells .plain ((List.replicate (L.length+1) false).map DV.bool)] [] (by rw [e];rfl)
   rw [e] at hx ⊢
   rw [hy] at ph
   generalize (List.replicate (L.length+1) false).map DV.bool=Z at *
   generalize L.map Mass.dv=V at *
   simp [f132,hV0,hw1,roomD,hroom,hroom2,hpos,htn,hrep,ph,hx]
 · obtain ⟨X,hP,hH⟩:=plain143 (st:=st) [.cells .plain (paraCs p w u),.cells .plain ((List.replicate (L.length+1) false).map DV.bool)] []
   obtain ⟨G',K',tl,hL2,hG'⟩:=L132_2 (st:=st) (w:=w) (u:=u) hL (t:=t) (tk:=tk) (nn:=nn) h6 (L.length+1) 0 (List.replicate (L.length+1) false) ([.cells .plain (paraCs p w u),.cells .plain ((List.replicate (L.length+1) false).map DV.bool)]++X) [] (by omega) (by omega) (by simp) rfl rfl hH
   have e:plOf p.text L p.pr.hyphen=wordsG p.text L (L.length+1) 0 (List.replicate (L.length+1) false):=by simp only [plOf,hy,if_false]
   have hx:=hex G' K' (by rw [e];exact hG')
   rw [e] at hx ⊢
   generalize (wordsG p.text L (L.length+1) 0 (List.replicate (L.length+1) false)).map DV.bool=Y at *
   generalize (List.replicate (L.length+1) false).map DV.bool=Z at *
   generalize L.map Mass.dv=V at *
   simp at hP hL2
   simp [f132,hV0,hw1,roomD,hroom,hroom2,hpos,htn,hrep,ph,hy,hP,hL2,hx]
end
def dropB (p:Para):Bool:=decide (2≤p.pr.drop)&&(decide (0<(massL p).length)&&((massL p).getD 0 mz).k==1)
def bodyL (p:Para):List Mass:=if dropB p=true then (massL p).drop 1 else massL p
def itemsL (p:Para):List It:=itemsG p.text (bodyL p) (plOf p.text (bodyL p) p.pr.hyphen) 0 0 0 (bodyL p)
theorem massGo_mem (p:Para):∀ (l:List Clu) (kr:Bool) (bf:UInt8) (ps:Int) (mk:List (List UInt8)),∀ m∈massGo p kr bf ps mk l,∃ c∈l,m.a=c.a∧m.s=sizeOf p c.a
 | [],_,_,_,_,m,h=>by cases h
 | c::r,kr,bf,ps,mk,m,h=>by
   simp only [massGo] at h
   rcases List.mem_cons.1 h with rfl | h
   · exact ⟨c,by simp,rfl,rfl⟩
   · obtain ⟨c',h1,h2⟩:=massGo_mem p r _ _ _ _ m h
     exact ⟨c',by simp [h1],h2⟩
theorem massL_MOk (p:Para):MOk p.text (massL p):=by
 refine ⟨massL_len p,massL_ok p,?_,?_⟩
 · intro m hm
   unfold massL at hm
   split at hm
   · obtain ⟨c,hc,h1,_⟩:=massGo_mem p _ _ _ _ _ m hm
     have:=cluIn_of (clusF_ok p.text p.text.length 0).1 c hc
     rw [h1];omega
   · cases hm
 · intro m hm
   unfold massL at hm
   split at hm
   · rename_i h0
     obtain ⟨_,_,hsp,hpr,_⟩:=checkN_zero h0
     obtain ⟨c,hc,_,h2⟩:=massGo_mem p _ _ _ _ _ m hm
     have hS:SpOk p.spans:=by
      unfold spansOk at hsp
      cases e:spansL p.text.length p.spans with
      | none=>rw [e] at hsp;simp at hsp
      | some k=>exact (spansL_ok _ _ _ e).1
     have:=sizeOf_in p hpr hS c.a
     rw [h2];exact ⟨this.1,this.2.1⟩
   · cases hm
theorem MOk.drop {s:List UInt8} {L:List Mass} (h:MOk s L) (n:Nat):MOk s (L.drop n):=
 ⟨by rw [List.length_drop];have:=h.len;omega,List.all_eq_true.2 fun m hm=>List.all_eq_true.1 h.ok m (List.mem_of_mem_drop hm),fun m hm=>h.at_ m (List.mem_of_mem_drop hm),fun m hm=>h.sz m (List.mem_of_mem_drop hm)⟩
theorem bodyL_MOk (p:Para):MOk p.text (bodyL p):=by
 unfold bodyL;split
 · exact (massL_MOk p).drop 1
 · exact massL_MOk p
def exTk (tk:Tk):Tk:=match tk with | .own _ _=>.no | k=>k
theorem exl (st st':St) (tag n:Nat) (tk:Tk) (nn:Bool) (xs:List DV):exportL st st' (.list tag n tk nn xs)=some (.list tag n (exTk tk) nn xs):=by cases tk<;>rfl
@[simp] theorem leaves_yield (l:Nat):(DV.yield l).leaves=[.yield l]:=rfl
section
variable {st:St} {p:Para} {w u:LW}
theorem pcDrop:(paraCs p w u)[16]? = some (.int .i64 p.pr.drop):=rfl
theorem body117 (hp:p.small) (hw:w.ok 4 p.spans) (hu:u.ok 1 p.marks):∃ v:LW,(E tab).F 117 [.agg (paraCs p w u)] st=some (.tuple [.list v.t v.n v.tk v.nn ((if checkN p=0 then bodyL p else []).map Mass.dv),.int .i64 (checkN p)],st)∧v.ok 6 (if checkN p=0 then bodyL p else []):=by
 rw [F_run at117 rfl]
 obtain ⟨_,hm,v,rfl,hv⟩:=masses10 p hp w u hw hu (pst st [.cells .plain (paraCs p w u)] [])
 have hpd:=pcDrop (p:=p) (w:=w) (u:=u)
 by_cases h0:checkN p=0
 · have hV0:((massL p).map Mass.dv).length=(massL p).length:=by simp
   rw [if_pos h0]
   unfold bodyL dropB
   by_cases h1:2≤p.pr.drop
   · by_cases h2:0<(massL p).length
     · have h2':(0:Int)<(massL p).length:=by omega
       have hvn:=hv.n (by intro e;rw [e] at h2;simp at h2)
       have g0:=getMD (L:=massL p) h2
       have l0:0<((massL p).map Mass.dv).length:=by simpa using h2
       by_cases h3:((massL p).getD 0 mz).k=1
       · rw [if_pos (by simp only [h1,h2,h3,decide_true,Bool.true_and,beq_self_eq_true])]
         have hs:=slice_l (n:=6) (en:=v.n) (t:=v.t) (tk:=v.tk) (nn:=v.nn) (xs:=(massL p).map Mass.dv) (k:=.i64) (lo:=1) (fun _=>hvn) (by omega) (by simp;omega)
         refine ⟨⟨v.t,v.n,exTk (slTk v.tk ((massL p).map Mass.dv).length 1 ((massL p).map Mass.dv).length),v.nn⟩,?_,fun e=>hvn,fun e=>by have:=hv.2 e;simp [this]⟩
         have hdr:((massL p).map Mass.dv).drop (1:Int).toNat=((massL p).drop 1).map Mass.dv:=by rw [List.map_drop];rfl
         rw [hdr] at hs
         generalize ((massL p).drop 1).map Mass.dv=D at *
         generalize (massL p).getD 0 mz=m at *
         generalize (massL p).map Mass.dv=V at *
         have g0':V[0]'l0=m.dv:=by rw [List.getElem?_eq_getElem l0] at g0;exact Option.some.inj g0
         rw [hvn] at hm hs ⊢
         have hVl:V.length=(massL p).length:=hV0
         rw [hVl] at hs ⊢
         simp only [show (1:Int).toNat=1 from rfl] at hs
         simp [-ex_list,exl,f117,hm,h0,hpd,h1,hV0,h2,h2',g0,g0',l0,Mass.dv,Mass.cs,h3,hs]
       · have h3b:(((massL p).getD 0 mz).k==1)=false:=by rw [beq_eq_false_iff_ne];exact h3
         rw [if_neg (by rw [h3b];simp)]
         refine ⟨⟨v.t,v.n,exTk v.tk,v.nn⟩,?_,hv⟩
         generalize (massL p).getD 0 mz=m at *
         generalize (massL p).map Mass.dv=V at *
         have g0':V[0]'l0=m.dv:=by rw [List.getElem?_eq_getElem l0] at g0;exact Option.some.inj g0
         rw [hvn] at hm
         simp [-ex_list,exl,f117,hm,h0,hpd,h1,hV0,h2,h2',g0,g0',l0,Mass.dv,Mass.cs,h3,hvn]
     · have h2':¬ (0:Int)<(massL p).length:=by omega
       rw [if_neg (by simp [h2])]
       refine ⟨⟨v.t,v.n,exTk v.tk,v.nn⟩,?_,hv⟩
       generalize (massL p).map Mass.dv=V at *
       simp [-ex_list,exl,f117,hm,h0,hpd,h1,hV0,h2,h2']
   · rw [if_neg (by simp [h1])]
     refine ⟨⟨v.t,v.n,exTk v.tk,v.nn⟩,?_,hv⟩
     generalize (massL p).map Mass.dv=V at *
     simp [-ex_list,exl,f117,hm,h0,hpd,h1]
 · have hm0:massL p=[]:=by unfold massL;rw [if_neg h0]
   rw [hm0] at hm hv
   rw [if_neg h0]
   refine ⟨⟨v.t,v.n,exTk v.tk,v.nn⟩,?_,hv⟩
   simp at hm
   simp [-ex_list,exl,f117,hm,h0]
theorem walk131 {L:List Mass} (hL:MOk p.text L) {t n:Nat} {tk:Tk} {nn:Bool} (h6:L≠[]→n=6) (h7:nn=true→n=6) (P0:List DV):∃ (ov:DV) (fr:Nat) (J:List HO) (K:List Nat),
 (E tab).F 131 [.yield (st.heap.length+4),.ptr (st.heap.length+2) 0,.ptr (st.heap.length+3) 0] (pst st [.cells .plain P0,.cells .plain [.list 0 0 .no false []],.cells .plain (paraCs p w u),.cells .plain [.list t n tk nn (L.map Mass.dv)],loI st 0] []) =
  some (.tuple [],pst st (HI st P0 (paraCs p w u) ov (.list t n tk nn (L.map Mass.dv)) fr 0 J) K)∧Acc st K 8 ((itemsG p.text L (plOf p.text L p.pr.hyphen) 0 0 0 L).map It.dv) ov:=by
 obtain ⟨t2,hwd⟩:=words132 (st:=pst st [.cells .plain P0,.cells .plain [.list 0 0 .no false []],.cells .plain (paraCs p w u),.cells .plain [.list t n tk nn (L.map Mass.dv)],loI st 0,.cells .plain [.yield (st.heap.length+4)]] []) (w:=w) (u:=u) hL (t:=t) (n:=n) (tk:=tk) (nn:=nn) h6
 obtain ⟨ov',fr',J',K',X,y6,tl,hJ,a1,a2,a3⟩:=L131_0 (st:=st) (P0:=P0) (w:=w) (u:=u) hL (t:=t) (n:=n) (tk:=tk) (nn:=nn) h6 h7 (plOf_len p.text L p.pr.hyphen) (t2:=t2) (tk2:=.tight) L [] 0 0 [] [] [] (.list 0 0 .no false []) rfl (Nat.le_refl _) (Nat.le_refl _) (by simp) (acc_nil _ _ _ _ _ _)
 simp only [List.nil_append] at a1 a2
 obtain ⟨ov2,J2,K2,hS,hA2⟩:=shut134 (st:=st) (P0:=P0) (P1:=paraCs p w u) (J:=J') (t:=t) (n:=n) (tk:=tk) (nn:=nn) (fr:=fr') hL h6 h7 (k:=L.length) (Nat.le_refl _) (by have:=hL.len;omega) a1
 refine ⟨ov2,fr',J'++J2,K2,?_,by rw [List.length_nil] at a3;rw [a3];exact hA2⟩
 rw [F_go at131 rfl]
 have hV0:(L.map Mass.dv).length=L.length:=by simp
 simp only [plV] at hJ
 generalize (plOf p.text L p.pr.hyphen).map DV.bool=PL at *
 generalize L.map Mass.dv=V at *
 simp only [HI] at hS hJ ⊢
 simp at hS hJ
 have hpa:takeN (paraCs p w u) 0 21 true=some (.agg (paraCs p w u)):=rfl
 simp [f131,hwd,hV0,hJ,V_fn,hS]
theorem items106 (hp:p.small) (hw:w.ok 4 p.spans) (hu:u.ok 1 p.marks):∃ v,(E tab).F 106 [.agg (paraCs p w u)] st=some (.tuple [v,.int .i64 (checkN p)],st)∧Lw 8 ((if checkN p=0 then itemsL p else []).map It.dv) v:=by
 rw [F_run at106 rfl]
 obtain ⟨v,hb,hv⟩:=body117 (st:=pst st [.cells .plain (paraCs p w u)] []) hp hw hu
 by_cases h0:checkN p=0
 · rw [if_pos h0] at hb hv ⊢
   obtain ⟨ov,fr,J,K,hwk,hA⟩:=walk131 (st:=st) (p:=p) (w:=w) (u:=u) (bodyL_MOk p) (t:=v.t) (tk:=v.tk) hv.n hv.1 (paraCs p w u)
   have hrf:=C_rfunc_pst (T:=tab) (st:=st) (H:=[.cells .plain (paraCs p w u),.cells .plain [.list 0 0 .no false []],.cells .plain (paraCs p w u),.cells .plain [.list v.t v.n v.tk v.nn ((bodyL p).map Mass.dv)]]) (K:=[]) (f:=.t 18) (params:=[19]) (live:=[6,18]) (assign:=.region f106r6 [6,7]) (body:=.block 1 (.region f106r7 []))
    (fr:=[(6,.ptr (st.heap.length+1) 0),(18,.fn 131 [] [.ptr (st.heap.length+2) 0,.ptr (st.heap.length+3) 0])]) (g:=131) (first:=[]) (captured:=[.ptr (st.heap.length+2) 0,.ptr (st.heap.length+3) 0]) rfl at131 hwk rfl (by decide)
   have h118:(E tab).F 118 [.agg (paraCs p w u),.list v.t v.n v.tk v.nn ((bodyL p).map Mass.dv)] (pst st [.cells .plain (paraCs p w u),.cells .plain [.list 0 0 .no false []]] [])=some (.fn 131 [] [.ptr (st.heap.length+2) 0,.ptr (st.heap.length+3) 0],pst st [.cells .plain (paraCs p w u),.cells .plain [.list 0 0 .no false []],.cells .plain (paraCs p w u),.cells .plain [.list v.t v.n v.tk v.nn ((bodyL p).map Mass.dv)]] []):=by
    rw [F_go at118 rfl]
    simp [f118]
   have hA':=acc_ex (st':=pst st ((HI st (paraCs p w u) (paraCs p w u) ov (.list v.t v.n v.tk v.nn ((bodyL p).map Mass.dv)) fr 0 J).set 4 (loI st 3)) K) hA
   obtain ⟨t',n',tk',nn',e1,e2,e3,e4⟩:=hA'
   refine ⟨.list t' n' tk' nn' ((itemsL p).map It.dv),?_,.list _ _ _ _ e3 e2⟩
   obtain ⟨q1,q2,q3,q4,rfl⟩:=acc_len hA
   rw [h0] at hb ⊢
   have e1':exportA st (pst st ((HI st (paraCs p w u) (paraCs p w u) (.list q1 q2 q3 q4 ((itemsG p.text (bodyL p) (plOf p.text (bodyL p) p.pr.hyphen) 0 0 0 (bodyL p)).map It.dv)) (.list v.t v.n v.tk v.nn ((bodyL p).map Mass.dv)) fr 0 J).set 4 (loI st 3)) K) (.list q1 q2 q3 q4 ((itemsG p.text (bodyL p) (plOf p.text (bodyL p) p.pr.hyphen) 0 0 0 (bodyL p)).map It.dv))=_:=e1
   unfold itemsL
   generalize (itemsG p.text (bodyL p) (plOf p.text (bodyL p) p.pr.hyphen) 0 0 0 (bodyL p)).map It.dv=X at *
   generalize (bodyL p).map Mass.dv=V at *
   simp only [HI] at hrf e1'
   simp only [loI] at hrf e1'
   simp at hrf e1'
   simp [f106,hb,h118,hrf,e1']
 · rw [if_neg h0] at hb hv ⊢
   refine ⟨.list 0 0 .no false [],?_,.list _ _ _ _ (fun h=>by cases h) (fun _=>rfl)⟩
   simp at hb
   simp [f106,hb,h0]
end
section
variable {st:St}
end
section
variable {st:St} {p:Para} {w u:LW}
end
end Go.D.Tab
end
