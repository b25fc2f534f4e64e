import Derived.Laws.Tables
import Derived.Laws.IdiomStrings
import Derived.Laws.MakeOwn
import Derived.Lib.Builder
import Derived.Lib.UnsafeStr
import Derived.Lib.FrozenHead
import Derived.Lib.MakeNoZero
import Derived.Lib.Bytealg
import Derived.Test.YtmoococmjkapbaaGreatDoorM0
/-! Texts 1 of this claim, joined. -/
section
namespace Go.D
open Go.RowKit
variable {P:Program} {fm:FM}
theorem rU (off:Nat):∀ (xs:List Value) (k:Nat) (cells:Array Value),off+k+xs.length≤cells.size →
 ((xs.zipIdx k).foldl (fun (cs:Array Value) (x:Value×Nat)=>cs.setIfInBounds (off+x.2) x.1) cells)=aO cells (off+k) xs
 | [],k,cells,_=>by
   simp [aO]
 | x::xs,k,cells,h=>by
   simp only [List.length_cons] at h
   rw [List.zipIdx_cons,List.foldl_cons,rU off xs (k+1) _ (by simp;omega)]
   unfold aO
   congr 1
   have e:=list_seg_step cells.toList (off+k) x xs (by simp;omega)
   simpa [Array.toList_setIfInBounds,Nat.add_assoc] using e
theorem p9 {G:Gh} {place:Nat→Option (Nat×Nat)}:∀ (parts:List (Nat×Nat×DV)) (parts':List (Nat×Value)) (cells:List DV) (arr:Array Value) (cells':List DV),parts'.length=parts.length →
 (∀ (k:Nat) (off n:Nat) (v:DV) (i:Nat) (x:Value),parts[k]? = some (off,n,v)→parts'[k]? = some (i,x)→place i=some (off,n)∧Rel fm G v x) →
 arr.size=cells.length→(∀ i (h:i<cells.length),Rel fm G (cells[i]) (arr.getD i undef))→cells.all DV.bg=true→jb cells parts=some cells' →
 ∃ arr',Instr.fill place arr parts'=some arr'∧arr'.size=cells'.length∧cells'.length=cells.length∧(∀ i (h:i<cells'.length),Rel fm G (cells'[i]) (arr'.getD i undef))∧cells'.all DV.bg=true
 | [],[],cells,arr,cells',_,_,hl,hr,hsc,h=>by
   simp only [jb,Option.some.injEq] at h;subst h
   exact ⟨arr,rfl,hl,rfl,hr,hsc⟩
 | [],_::_,_,_,_,hl,_,_,_,_,_=>by simp at hl
 | _::_,[],_,_,_,hl,_,_,_,_,_=>by simp at hl
 | (off,n,v)::parts,(i,x)::parts',cells,arr,cells',hpl,hp,hl,hr,hsc,h=>by
   simp only [jb] at h
   split at h
   · rename_i hc
     obtain ⟨c1,c2,c3⟩:=hc
     obtain ⟨hpi,hvx⟩:=hp 0 off n v i x rfl rfl
     obtain ⟨l1,r1⟩:=kV hvx c3
     have hsz:x.cells.size=n:=by rw [l1,c1]
     have hlen:(bV cells off v.leaves).length=cells.length:=iK (by omega)
     have hspl:=qK (fm:=fm) (G:=G) (vs:=cells) (ns:=v.leaves) (cur:=arr) (k:=off) (xs:=x.cells.toList) hr (by omega) (by omega) (by simpa using l1) (fun j hj=>by rw [aJ];exact r1 j hj)
     obtain ⟨arr',g1,g2,g3,g4,g5⟩:=p9 parts parts' (bV cells off v.leaves) (aO arr off x.cells.toList) cells' (by simpa using hpl)
      (fun k off n v i x h1 h2=>hp (k+1) off n v i x h1 h2) (by rw [fe (by simp;omega),hlen,hl]) hspl (iG hsc c3) h
     refine ⟨arr',?_,g2,g3.trans hlen,g4,g5⟩
     unfold Instr.fill
     simp only [hpi]
     have hcond:¬ ((x.cells.size≠n||decide (off+x.cells.size>arr.size))=true):=by
      simp [hsz];omega
     rw [if_neg hcond]
     have hfold:(x.cells.zipIdx.foldl (fun (cs:Array Value) (x:Value×Nat)=>cs.setIfInBounds (off+x.2) x.1) arr)=aO arr off x.cells.toList:=by
      rw [← Array.foldl_toList,Array.toList_zipIdx,rU off _ 0 arr (by simp;omega),Nat.add_zero]
     rw [hfold]
     exact g1
   · cases h
def xh (fm:FM) (place:Nat→Option (Nat×Nat)) (parts:List (Nat×Nat×X)) (ps:List (Nat×Operand)):Prop:=
 ps.length=parts.length∧∀ (k off n:Nat) (x:X) (i:Nat) (o:Operand),parts[k]? = some (off,n,x)→ps[k]? = some (i,o)→place i=some (off,n)∧a9 fm x o
def placeOf (P:Program) (t:TypeId) (i:Nat):Option (Nat×Nat):=
 match P.underlying t with
 | some (.struct fs)=>(match fs[i]? with | some f=>(P.info? f.type).map fun j=>(f.offset,j.size) | none=>none)
 | some (.array _ e)=>(P.info? e).map fun j=>(i*j.size,j.size)
 | _=>none
def qw (P:Program) (fs:List Field):Bool:=fs.all fun f=>(P.info? f.type).isSome
theorem oy:∀ (fs:List Field),qw P fs=true→∃ places,fs.mapM (fun f=>(P.info? f.type).map fun i=>(f.offset,i.size))=some places∧∀ (i:Nat) (f:Field),fs[i]? = some f→places[i]? = (P.info? f.type).map fun j=>(f.offset,j.size)
 | [],_=>⟨[],rfl,fun i f h=>by simp at h⟩
 | f::fs,h=>by
   simp only [qw,List.all_cons,Bool.and_eq_true] at h
   obtain ⟨places,h1,h2⟩:=oy fs h.2
   obtain ⟨i,hi⟩:=Option.isSome_iff_exists.1 h.1
   refine ⟨(f.offset,i.size)::places,?_,?_⟩
   · rw [List.mapM_cons,hi,h1];rfl
   · intro k g hk
     cases k with
     | zero=>simp only [List.getElem?_cons_zero,Option.some.injEq] at hk;subst hk;simp [hi]
     | succ k=>simpa using h2 k g (by simpa using hk)
def mU (P:Program) (t:TypeId):Bool:=
 match P.underlying t with
 | some (.struct fs)=>qw P fs.toList
 | some (.array _ e)=>(P.info? e).isSome
 | _=>false
theorem wy {t:TypeId} {zs:List DV} {parts:List (Nat×Nat×X)} {ps:Array (Nat×Operand)} {o:Oper} (ho:o.op=.build t ps) (hz:aY P t=some zs) (ht:mU P t=true) (hp:xh fm (placeOf P t) parts ps.toList):aq P fm (.build zs parts) o:=by
 refine az fun CR G w0 st w fr a v st' hs hf hrun => ?_
 simp only [al,Option.map_eq_some_iff] at hrun
 obtain ⟨cs,hcs,hrun⟩:=hrun
 cases hrun
 obtain ⟨i,z,hi,hzz,hc⟩:=bh hz
 obtain ⟨zl,zr⟩:=bI (fm:=fm) hc
 have key:∀ (place:Nat→Option (Nat×Nat)),(∀ (k i off n:Nat) (x:X) (y:Operand),parts[k]? = some (off,n,x)→ps.toList[k]? = some (i,y)→place i=some (off,n))→∃ arr',Instr.fill place z.cells (ps.toList.map fun (i,x)=>(i,a.eval x))=some arr'∧Rel fm G (.agg cs) (.agg arr'):=by
  intro place hpl
  obtain ⟨arr',g1,g2,g3,g4,g5⟩:=p9 (fm:=fm) (G:=G) (place:=place) (parts.map fun (o,n,x)=>(o,n,x.ev fr)) (ps.toList.map fun (i,x)=>(i,a.eval x)) zs z.cells cs (by simp [hp.1])
   (fun k off n v i x h1 h2=>by
    rw [List.getElem?_map] at h1 h2
    cases e1:parts[k]? with
    | none=>rw [e1] at h1;cases h1
    | some q=>
      cases e2:ps.toList[k]? with
      | none=>rw [e2] at h2;cases h2
      | some q'=>
        obtain ⟨qo,qn,qx⟩:=q
        obtain ⟨qi,qv⟩:=q'
        rw [e1] at h1;rw [e2] at h2
        simp only [Option.map_some,Option.some.injEq,Prod.mk.injEq] at h1 h2
        obtain ⟨rfl,rfl,rfl⟩:=h1
        obtain ⟨rfl,rfl⟩:=h2
        exact ⟨hpl k _ _ _ _ _ e1 e2,(hp.2 k _ _ _ _ _ e1 e2).2.ev hf⟩)
   (by simpa using zl) (fun i hi=>by rw [← aJ];exact zr G i hi) (bY (cJ hc)) hcs
  exact ⟨arr',g1,.agg _ _ g2 g4⟩
 have fin:∀ arr',P.built t (ps.map fun (i,x)=>(i,a.eval x)).toList=some arr'→(execOp a.eval o).run P w=.ok (.value (.agg arr')) w:=by
  intro arr' hb
  unfold execOp
  simp only [ho]
  exact ae (run_build w t _ arr' hb)
 have e0:(ps.map fun (i,x)=>(i,a.eval x)).toList=ps.toList.map fun (i,x)=>(i,a.eval x):=by rw [Array.toList_map]
 unfold mU at ht
 split at ht
 · rename_i fs htd
   obtain ⟨places,h1,h2⟩:=oy fs.toList ht
   obtain ⟨arr',g1,g2⟩:=key (places.toArray[·]?) (fun k i off n x y e1 e2=>by
    have:=(hp.2 k off n x i y e1 e2).1
    unfold placeOf at this
    rw [htd] at this
    simp only at this
    split at this
    · rename_i f hfk
      rw [← this]
      simpa using h2 i f (by simpa using hfk)
    · cases this)
   refine ⟨rfl,.agg arr',fin arr' ?_,g2⟩
   unfold Program.built
   simp only [hi,htd,hzz,h1,e0]
   exact g1
 · rename_i n e htd
   obtain ⟨j,hj⟩:=Option.isSome_iff_exists.1 ht
   obtain ⟨arr',g1,g2⟩:=key (fun i=>some (i*j.size,j.size)) (fun k i off n x y e1 e2=>by
    have:=(hp.2 k off n x i y e1 e2).1
    unfold placeOf at this
    rw [htd] at this
    simpa [hj] using this)
   refine ⟨rfl,.agg arr',fin arr' ?_,g2⟩
   unfold Program.built
   simp only [hi,htd,hzz,hj,e0]
   exact g1
 · cases ht
theorem de (zs:List DV):∀ k,(aR zs k).length=k*zs.length
 | 0=>by simp [aR]
 | k+1=>by simp [aR,de zs k,Nat.add_mul];omega
theorem getElem?_repl (zs:List DV):∀ (k i:Nat),i<k*zs.length→(aR zs k)[i]? = zs[i%zs.length]?
 | 0,i,h=>by simp at h
 | k+1,i,h=>by
   show (zs++aR zs k)[i]? = _
   by_cases e:i<zs.length
   · rw [List.getElem?_append_left e,Nat.mod_eq_of_lt e]
   · rw [List.getElem?_append_right (by omega),getElem?_repl zs k _ (by rw [Nat.add_mul] at h;omega)]
     congr 1
     rw [← Nat.mod_eq_sub_mod (by omega)]
theorem kS {G:Gh} {zs:List DV} {z:Array Value} (hl:z.toList.length=zs.length) (hr:∀ i (h:i<zs.length),Rel fm G (zs[i]) (z.toList.getD i undef)) (k:Nat) :
 ((Array.range (k*zs.length)).map (z[· % z.size]!)).size=(aR zs k).length∧∀ i (h:i<(aR zs k).length),Rel fm G ((aR zs k)[i]) (((Array.range (k*zs.length)).map (z[· % z.size]!)).getD i undef):=by
 refine ⟨by rw [de];simp,fun i h => ?_⟩
 have hi:i<k*zs.length:=by rw [de] at h;exact h
 have hpos:0<zs.length:=by
  rcases Nat.eq_zero_or_pos zs.length with e | e
  · rw [e] at hi;simp at hi
  · exact e
 have hm:i%zs.length<zs.length:=Nat.mod_lt _ hpos
 have e1:(aR zs k)[i]=zs[i%zs.length]:=by
  apply Option.some.inj
  rw [← List.getElem?_eq_getElem h,← List.getElem?_eq_getElem hm]
  exact getElem?_repl zs k i hi
 rw [e1]
 have hsz:z.size=zs.length:=by simpa using hl
 have e2:((Array.range (k*zs.length)).map (z[· % z.size]!)).getD i undef=z.toList.getD (i%zs.length) undef:=by
  rw [aJ,Array.getD_eq_getD_getElem?]
  simp only [Array.getElem?_map,Array.getElem?_range,hi,if_true,Option.map_some,Option.getD_some,hsz]
  have:i%zs.length<z.size:=by omega
  simp [this,Array.getD]
 rw [e2]
 exact hr _ hm
theorem sf {G:Gh} {t e:TypeId} {n len:Nat} {zs cs:List DV} {i:TypeInfo} {parts:List (Nat×X)} {ps:Array (Nat×Operand)} {fr:Fr} {a:Act} {w:World} (ht:P.underlying t=some (.slice e)) (hi:P.info? e=some i) (hn:i.size=n) (hz:aY P e=some zs) (hzl:zs.length=n)
 (hsz:len*n≤16777216) (hp:ps.toList.length=parts.length∧∀ (k j j':Nat) (x:X) (o:Operand),parts[k]? = some (j,x)→ps.toList[k]? = some (j',o)→j=j'∧a9 fm x o) (hf:cD fm G fr a.tmps)
 (h:jb (aR zs len) (parts.map fun (i,x)=>(i*n,n,x.ev fr))=some cs) :
 ∃ arr,(Instr.buildSlice t len (ps.map fun (i,x)=>(i,a.eval x))).run P w=.ok (.slice (some ⟨w.heap.size,0,none⟩) len len) (w.alloc (.cells arr e))∧arr.size=cs.length∧cs.length=len*n∧(∀ i (h:i<cs.length),Rel fm G (cs[i]) (arr.getD i undef))∧cs.all DV.bg=true:=by
 obtain ⟨i',z,hi',hzz,hc⟩:=bh hz
 rw [hi] at hi';cases hi'
 obtain ⟨zl,zr⟩:=bI (fm:=fm) hc
 obtain ⟨s1,s2⟩:=kS (fm:=fm) (G:=G) (zs:=zs) (z:=z.cells) (by simpa using zl) (fun i hi=>zr G i hi) len
 have hscal:(aR zs len).all DV.bg=true:=by
  rw [List.all_eq_true]
  intro x hx
  obtain ⟨j,hj,rfl⟩:=List.getElem_of_mem hx
  have hj':=hj
  rw [de] at hj'
  have:=getElem?_repl zs len j hj'
  rw [List.getElem?_eq_getElem hj] at this
  exact List.all_eq_true.1 (bY (cJ hc)) _ (List.mem_of_getElem? this.symm)
 obtain ⟨arr,g1,g2,g3,g4,g5⟩:=p9 (fm:=fm) (G:=G) (place:=fun i=>some (i*n,n)) (parts.map fun (i,x)=>(i*n,n,x.ev fr)) (ps.toList.map fun (i,x)=>(i,a.eval x)) (aR zs len) _ cs (by simp [hp.1])
  (fun k off n' v i x h1 h2=>by
   rw [List.getElem?_map] at h1 h2
   cases e1:parts[k]? with
   | none=>rw [e1] at h1;cases h1
   | some q=>
     cases e2:ps.toList[k]? with
     | none=>rw [e2] at h2;cases h2
     | some q'=>
       obtain ⟨qo,qx⟩:=q
       obtain ⟨qi,qv⟩:=q'
       rw [e1] at h1;rw [e2] at h2
       simp only [Option.map_some,Option.some.injEq,Prod.mk.injEq] at h1 h2
       obtain ⟨rfl,rfl,rfl⟩:=h1
       obtain ⟨rfl,rfl⟩:=h2
       obtain ⟨e3,e4⟩:=hp.2 k _ _ _ _ e1 e2
       exact ⟨by rw [e3],e4.ev hf⟩)
  s1 s2 hscal h
 refine ⟨arr,?_,g2,by rw [g3,de,hzl],g4,g5⟩
 have hsize:(sizeOf e).run P w=.ok n w:=by unfold sizeOf typeInfo;simp [hi,hn]
 have hbig:¬ (len*n>2 ^ 24):=by omega
 have e0:(ps.map fun (i,x)=>(i,a.eval x)).toList=ps.toList.map fun (i,x)=>(i,a.eval x):=by rw [Array.toList_map]
 rw [hzl] at g1
 unfold Instr.buildSlice
 simp only [Sem.run_bind,run_underlying ht,Result.andThen_ok,hsize,if_neg hbig,e0]
 by_cases e:len*n=0
 · rw [e] at g1 ⊢
   simp only [if_true,Sem.run_bind,Sem.run_pure,Result.andThen_ok]
   have g1':Instr.fill (fun i=>some (i*n,n)) ((Array.range 0).map fun x=>(#[]:Array Value)[x%(#[]:Array Value).size]!) (ps.toList.map fun (i,x)=>(i,a.eval x))=some arr:=by
    rw [← g1];congr 1;simp [Array.range]
   rw [g1']
   rfl
 · simp only [if_neg e,Sem.run_bind,jj hi hzz,Sem.run_pure,Result.andThen_ok]
   rw [g1]
   rfl
theorem yd {t e:TypeId} {n len:Nat} {ag:Bool} {zs:List DV} {i:TypeInfo} {parts:List (Nat×X)} {ps:Array (Nat×Operand)} {o:Oper} (ho:o.op=.buildSlice t len ps) (ht:P.underlying t=some (.slice e)) (hi:P.info? e=some i) (hn:i.size=n) (hz:aY P e=some zs) (hzl:zs.length=n)
 (hsz:len*n≤16777216) (hp:ps.toList.length=parts.length∧∀ (k j j':Nat) (x:X) (o:Operand),parts[k]? = some (j,x)→ps.toList[k]? = some (j',o)→j=j'∧a9 fm x o):aq P fm (.oO n ag zs len parts) o:=by
 intro CR G w0 st w fr a v st' hs hf hrun
 simp only [al] at hrun
 split at hrun
 · rename_i cs hcs
   simp only [Option.some.injEq,Prod.mk.injEq] at hrun
   obtain ⟨rfl,rfl⟩:=hrun
   obtain ⟨arr,h1,h2,h3,h4,h5⟩:=sf (P:=P) (w:=w) ht hi hn hz hzl hsz hp hf hcs
   have hle:=Gh.bx (r:=w.heap.size) (size:=0) hs.bO
   have hs':=hs.push (o:=.cells .plain cs) (ob:=.cells arr e) 0 ⟨arr,e,(0,0),rfl,h2,fun i hi=>(h4 i hi).le hle,fun i hi=>by simp,h5⟩ rfl
   refine ⟨_,_,.slice (some ⟨w.heap.size,0,none⟩) len len,_,?_,.inl rfl,hle,hs',.hsl _ _ _ _ _ _ _ _ (by simp [Gh.push]) ⟨rfl,Nat.le_refl _⟩⟩
   unfold execOp
   simp only [ho]
   exact ae h1
 · cases hrun
def Gh.iA (G:Gh) (r:Nat) (arr:Array Value) (k:Nat):Gh:={ G with ro:=fun r' i=>if r'=r then (if i<k then arr[i]? else none) else G.ro r' i }
theorem Gh.pq {CR:Nat→RC→Code→Prop} {G:Gh} {w0 w:World} {st:St} (hs:Sim fm CR G w0 st w) (arr:Array Value) (k:Nat):G.le (G.iA w.heap.size arr k):=by
 refine ⟨⟨fun r i v hr => ?_,fun _ _ x=>x,fun _ _ _ x=>x,fun _ _ _=>rfl⟩,fun _ x=>x,fun _ x=>x,rfl,fun r i hr => ?_,rfl,rfl,rfl⟩
 · have:r≠w.heap.size:=Nat.ne_of_lt (hs.A4 hr)
   simp only [Gh.iA,if_neg this];exact hr
 · have:r≠w.heap.size:=Nat.ne_of_lt (Nat.lt_of_lt_of_le hr hs.aE)
   simp only [Gh.iA,if_neg this]
theorem Sim.iA {CR:Nat→RC→Code→Prop} {G:Gh} {w0 w w':World} {st:St} (hs:Sim fm CR G w0 st w) (hb:Below w.heap.size w w') {arr:Array Value} {e:TypeId} {fz:Nat×Nat} (hnew:w'.heap[w.heap.size]? = some (.cells arr e fz)) (k:Nat):Sim fm CR (G.iA w.heap.size arr k) w0 st w':=by
 have h:=hs.grow hb
 have hle:=(Gh.pq hs arr k).toSub
 refine { bS:=h.bS,bN:=h.bN,obj:=?_,ro:=?_,dp:=?_,tok:=?_,bz:=h.bz,bw:=h.bw,dfr:=h.dfr,lps:=h.lps,aE:=h.aE,below:=h.below,base:=h.base,aU:=h.aU,bB:=h.bB,bm:=h.bm,env:=h.env }
 · intro b o ho hg hpd
   obtain ⟨r,ob,h1,h2,h3,h4⟩:=h.obj b o ho hg hpd
   exact ⟨r,ob,h1,h2,h3.sub hle h1,h4⟩
 · intro r i v hr
   simp only [Gh.iA] at hr
   split at hr
   · rename_i e1
     subst e1
     split at hr
     · exact ⟨arr,e,fz,hnew,hr⟩
     · cases hr
   · exact h.ro r i v hr
 · intro r i v b o hr ho hg hm
   simp only [Gh.iA] at hr
   split at hr
   · rename_i e1
     subst e1
     obtain ⟨r',ob,h1,h2,_⟩:=hs.obj b o ho hg (hs.np hm)
     have hm':G.mu b=some w.heap.size:=hm
     rw [hm'] at h1;cases h1
     exact absurd (get?_lt h2) (Nat.lt_irrefl _)
   · exact h.dp r i v b o hr ho hg hm
 · intro t s ht
   obtain ⟨r,len,cap,n,cs,ty,h1,h2,h3,h4,h5,h6,h7,h8⟩:=hs.tok t s ht
   have hlt:=get?_lt h4
   refine ⟨r,len,cap,n,cs,ty,h1,h2,h3,(hb.block r hlt).trans h4,h5,fun i hi => ?_,h7,h8⟩
   simp only [Gh.iA,if_neg (Nat.ne_of_lt hlt)]
   exact h6 i hi
theorem Cz {t e:TypeId} {n len:Nat} {ag:Bool} {zs:List DV} {i:TypeInfo} {parts:List (Nat×X)} {ps:Array (Nat×Operand)} {o:Oper} (ho:o.op=.buildSlice t len ps) (ht:P.underlying t=some (.slice e)) (hi:P.info? e=some i) (hn:i.size=n) (hz:aY P e=some zs) (hzl:zs.length=n) (hag:ag=true∨n=1)
 (hsz:len*n≤16777216) (hp:ps.toList.length=parts.length∧∀ (k j j':Nat) (x:X) (o:Operand),parts[k]? = some (j,x)→ps.toList[k]? = some (j',o)→j=j'∧a9 fm x o):aq P fm (.lit n ag zs len parts) o:=by
 intro CR G w0 st w fr a v st' hs hf hrun
 simp only [al] at hrun
 split at hrun
 · rename_i cs hcs
   split at hrun
   · rename_i hpure
     simp only [Option.some.injEq,Prod.mk.injEq] at hrun
     obtain ⟨rfl,rfl⟩:=hrun
     obtain ⟨arr,h1,h2,h3,h4,h5⟩:=sf (P:=P) (w:=w) ht hi hn hz hzl hsz hp hf hcs
     have hnew:(w.alloc (.cells arr e)).heap[w.heap.size]? = some (.cells arr e (0,0)):=World.alloc_heap_new w _
     have hs':=hs.iA ((Below.refl _ w).alloc (Nat.le_refl _) (.cells arr e)) hnew cs.length
     have hle:=Gh.pq hs arr cs.length
     have hml:(cs.map DV.aP).length=len*n:=by simp [h3]
     have hfl:=lB n ag hag len (cs.map DV.aP) hml hpure
     have hlc:=ju n ag len (cs.map DV.aP)
     have hlist:=Rel.list (fm:=fm) (G:=G.iA w.heap.size arr cs.length) st.cur n .tight (chunk n ag len (cs.map DV.aP)) w.heap.size 0 len (fun i=>arr.getD i undef) ?_ ?_ ?_ ?_ ?_ ?_
     · rw [hlc] at hlist
       refine ⟨_,_,.slice (some ⟨w.heap.size,0,none⟩) len len,_,?_,.inl rfl,hle,hs',hlist⟩
       unfold execOp
       simp only [ho]
       exact ae h1
     · intro j hj
       rw [hfl] at hj
       have hj':j<cs.length:=by simpa using hj
       have hj2:j<arr.size:=by omega
       simp [Gh.iA,hj',hj2]
     · intro j hj
       have hj0:=hj
       rw [hfl] at hj
       have hj':j<cs.length:=by simpa using hj
       have e1:(flat (chunk n ag len (cs.map DV.aP)))[j]=(cs[j]).aP:=by
        apply Option.some.inj
        rw [← List.getElem?_eq_getElem hj0,hfl]
        simp [hj']
       rw [e1]
       exact ((h4 j hj').le hle).aP
     · rw [hfl];exact hpure
     · rw [hlc];rfl
     · rw [hlc];exact Nat.le_refl _
     · exact jO n ag hag len _ hml hpure
   · cases hrun
 · cases hrun
end Go.D
end
section
namespace Go.D
open Go.RowKit
variable {P:Program} {fm:FM}
theorem s8 {t e:TypeId} {n len:Nat} {i:TypeInfo} {x j:X} {xo jo:Operand} {o:Oper} (ho:o.op=.indexAddr t xo jo) (ht:P.underlying t=some (.array len e)) (hi:P.info? e=some i) (hn:i.size=n) (hx:a9 fm x xo) (hj:a9 fm j jo):aq P fm (.j8 n len x j) o:=by
 refine az fun CR G w0 st w fr a v st' hs hf hrun => ?_
 simp only [al] at hrun
 have hxv:=hx.ev (a:=a) hf
 have hjv:=hj.ev (a:=a) hf
 generalize hx0:a.eval xo=x0 at hxv
 generalize hj0:a.eval jo=j0 at hjv
 have hsz:(sizeOf e).run P w=.ok n w:=by unfold sizeOf typeInfo;simp [hi,hn]
 split at hrun
 · rename_i b off k q hb hq
   rw [hb] at hxv
   rw [hq] at hjv
   split at hrun
   · rename_i hc
     obtain ⟨hc1,hc2⟩:=hc
     simp only [Option.some.injEq,Prod.mk.injEq] at hrun
     obtain ⟨rfl,rfl⟩:=hrun
     cases hjv
     cases hxv with
     | ptr _ _ r hm=>
       refine ⟨rfl,.pointer (some ⟨r,off+q.toNat*n,none⟩),?_,.ptr b (off+q.toNat*n) r hm⟩
       unfold execOp
       simp only [ho,hx0,hj0]
       refine ae ?_
       unfold Instr.indexAt
       simp [asIntOf,run_underlying ht,hc1,hc2,hsz,Addr.add_lit,Instr.sureAddr]
   · cases hrun
 · rename_i cs k q hb hq
   rw [hb] at hxv
   rw [hq] at hjv
   split at hrun
   · rename_i hc
     obtain ⟨hc1,hc2,hc3⟩:=hc
     simp only [Option.some.injEq,Prod.mk.injEq] at hrun
     obtain ⟨rfl,rfl⟩:=hrun
     cases hjv
     cases hxv with
     | bT _ r off f hr hcc hp=>
       refine ⟨rfl,.pointer (some ⟨r,off+q.toNat*n,none⟩),?_,.bT _ r (off+q.toNat*n) (fun i=>f (q.toNat*n+i)) (fun i hi => ?_) (fun i hi => ?_) ?_⟩
       · unfold execOp
         simp only [ho,hx0,hj0]
         refine ae ?_
         unfold Instr.indexAt
         simp [asIntOf,run_underlying ht,hc1,hc2,hsz,Addr.add_lit,Instr.sureAddr]
       · simp only [List.length_drop] at hi
         rw [Nat.add_assoc];exact hr _ (by omega)
       · simp only [List.length_drop] at hi
         rw [List.getElem_drop]
         exact hcc _ (by omega)
       · rw [List.all_eq_true] at hp ⊢
         exact fun y hy=>hp y (List.mem_of_mem_drop hy)
   · cases hrun
 · cases hrun
theorem sU {t e:TypeId} {n len:Nat} {ag:Bool} {x j:X} {xo jo:Operand} {o:Oper} (ho:o.op=.index t xo jo) (ht:P.underlying t=some (.array len e)) (hty:iH P e n ag) (hx:a9 fm x xo) (hj:a9 fm j jo):aq P fm (.jN n ag len x j) o:=by
 refine az fun CR G w0 st w fr a v st' hs hf hrun => ?_
 simp only [al] at hrun
 have hxv:=hx.ev (a:=a) hf
 have hjv:=hj.ev (a:=a) hf
 generalize hx0:a.eval xo=x0 at hxv
 generalize hj0:a.eval jo=j0 at hjv
 split at hrun
 · rename_i vs k q hb hq
   rw [hb] at hxv
   rw [hq] at hjv
   split at hrun
   · rename_i hc
     obtain ⟨hc1,hc2⟩:=hc
     simp only [Option.map_eq_some_iff] at hrun
     obtain ⟨u,hu,hrun⟩:=hrun
     cases hrun
     cases hjv
     cases hxv with
     | agg _ cs hl hcc=>
       obtain ⟨y,g1,g2⟩:=oC (P:=P) (w:=w) hl hcc hu hty
       refine ⟨rfl,y,?_,g2⟩
       unfold execOp
       simp only [ho,hx0,hj0]
       refine ae ?_
       obtain ⟨⟨d,hd,hag⟩,⟨i,hi,hsz⟩,h1⟩:=hty
       have hsz:(sizeOf e).run P w=.ok n w:=by unfold sizeOf typeInfo;simp [hi,hsz]
       unfold Instr.index
       simp [asIntOf,run_underlying ht,hc1,hc2,hsz,g1]
   · cases hrun
 · cases hrun
theorem gw {w:World} {r off q:Nat} (f:Nat→Value) (h:∀ i,i<q→w.cell? ⟨r,off+i,none⟩=some (f i)):(loadCells ⟨r,off,none⟩ q).run P w=.ok ((List.range q).map f).toArray w:=
 run_loadCells (P:=P) w ⟨r,off,none⟩ q f (fun j hj=>by rw [Addr.add_lit];exact h j hj)
structure zX (P:Program) (fm:FM) (G:Gh) (w:World) (n m:Nat) (news:List DV) (x:Value):Prop where
 len:(Builtin.lenOf x).run P w=.ok m w
 length:news.length=m*n
 bg:news.all DV.bg=true
 cells:∀ k w',k≤m→Below w.heap.size w w'→∃ vs,(Builtin.firstCells n k x).run P w'=.ok vs w'∧vs.size=k*n∧(∀ i (h:i<news.length),i<k*n→Rel fm G (news[i]) (vs.getD i undef))
theorem cW {CR:Nat→RC→Code→Prop} {G:Gh} {w0 w:World} {st:St} (hs:Sim fm CR G w0 st w) {n m:Nat} {news:List DV} {v:DV} {x:Value} (hv:Rel fm G v x) (h:cw st n v=some (m,news)):zX P fm G w n m news x:=by
 unfold cw at h
 split at h
 · rename_i tag n' tk nn xs
   split at h
   · rename_i hnn
     subst hnn
     simp only [Option.some.injEq,Prod.mk.injEq] at h
     obtain ⟨rfl,rfl⟩:=h
     cases hv
     refine ⟨rfl,by simp,rfl,fun k w' hk _=>⟨#[],rfl,by have h0:k=0:=Nat.le_zero.1 hk;subst h0;simp,fun i hi=>by simp at hi⟩⟩
   · rename_i hnn
     split at h
     · rename_i hn'
       subst hn'
       simp only [Option.some.injEq,Prod.mk.injEq] at h
       obtain ⟨rfl,rfl⟩:=h
       cases hv with
       | gC=>simp at hnn
       | list _ _ _ _ r off cap f hr hc hp hk hl hn=>
         have hfl:=eO xs n' hn
         refine ⟨rfl,hfl,bY hp,fun k w' hk hb => ?_⟩
         have hkn:k*n'≤(flat xs).length:=by rw [hfl];exact Nat.mul_le_mul_right _ hk
         have hcell:∀ i,i<k*n'→w'.cell? ⟨r,off+i,none⟩=some (f i):=by
          intro i hi
          obtain ⟨cs,t,fz,h1,h2⟩:=hs.ro r (off+i) (f i) (hr i (by omega))
          rw [cell?_cells ((hb.block r (get?_lt h1)).trans h1)]
          exact h2
         refine ⟨_,gw f hcell,by simp,fun i hi hik => ?_⟩
         rw [ig f _ i hik]
         exact hc i (by omega)
     · cases h
 · rename_i s
   split at h
   · rename_i hn
     subst hn
     simp only [Option.some.injEq,Prod.mk.injEq] at h
     obtain ⟨rfl,rfl⟩:=h
     cases hv with
     | str _ ba hba=>
       subst hba
       have hsz:ba.data.toList.length=ba.size:=by rw [Array.length_toList];rfl
       refine ⟨by rw [hsz];rfl,by simp,?_,fun k w' hk _=>⟨_,rfl,?_,fun i hi hik => ?_⟩⟩
       · rw [List.all_eq_true]
         intro y hy
         obtain ⟨b,_,rfl⟩:=List.mem_map.1 hy
         rfl
       · have:(ba.extract 0 k).data.size=k:=by
          have h1:(ba.extract 0 k).data.size=(ba.extract 0 k).size:=rfl
          rw [h1,ByteArray.size_extract];omega
         rw [Array.size_map,this,Nat.mul_one]
       · have hi':i<ba.data.size:=by simpa using hi
         have hg:(ba.extract 0 k).data[i]? = some ba.data[i]:=by
          rw [ByteArray.data_extract]
          rw [Array.getElem?_extract]
          rw [if_pos (by omega),Nat.zero_add,Array.getElem?_eq_getElem hi']
         have:((ba.extract 0 k).data.map fun b=>Value.int .u8 b.toNat).getD i undef=.int .u8 ba.data[i].toNat:=by
          rw [Array.getD_eq_getD_getElem?,Array.getElem?_map,hg]
          rfl
         rw [this]
         simp only [List.getElem_map,Array.getElem_toList]
         exact .int _ _
   · cases h
 · rename_i n' ag b off len cap
   split at h
   · rename_i hn'
     subst hn'
     split at h
     · rename_i g vs hb
       split at h
       · rename_i hle
         simp only [Option.some.injEq,Prod.mk.injEq] at h
         obtain ⟨rfl,rfl⟩:=h
         cases hv with
         | hsl _ _ _ _ _ _ r c hm hcap=>
           have hbo:st.heap[b]? = some (.cells g vs):=by
            unfold St.cells at hb
            split at hb
            · rename_i g' vs' e;simp only [Option.some.injEq,Prod.mk.injEq] at hb;obtain ⟨rfl,rfl⟩:=hb;exact e
            · cases hb
           obtain ⟨r',ob,h1,h2,h3,h4⟩:=hs.obj b _ hbo rfl (hs.np hm)
           rw [hm] at h1;cases h1
           have key:∃ cs t fz,ob=.cells cs t fz∧vs.length≤cs.size∧(∀ i (h:i<vs.length),Rel fm G (vs[i]) (cs.getD i undef))∧vs.all DV.bg=true:=by
            cases g with
            | plain=>obtain ⟨cs,t,fz,e,f1,f2,f3,f4⟩:=h3;exact ⟨cs,t,fz,e,by omega,f2,f4⟩
            | typed ty=>obtain ⟨cs,t,fz,e,_,f1,f2,f3,f4⟩:=h3;exact ⟨cs,t,fz,e,by omega,f2,f4⟩
            | frz ty=>obtain ⟨cs,t,fz,e,_,f1,_,f2,f3,f4⟩:=h3;exact ⟨cs,t,fz,e,f1,f2,f4⟩
            | grown=>obtain ⟨cs,t,fz,e,f1,_,f2,f3,f4⟩:=h3;exact ⟨cs,t,fz,e,f1,f2,f4⟩
           obtain ⟨cs,t,fz,rfl,k1,k2,k3⟩:=key
           refine ⟨rfl,by simp;omega,?_,fun k w' hk hbw => ?_⟩
           · rw [List.all_eq_true] at k3 ⊢
             exact fun y hy=>k3 y (List.mem_of_mem_drop (List.mem_of_mem_take hy))
           · have hkn:k*n'≤len*n':=Nat.mul_le_mul_right _ hk
             have hcell:∀ i,i<k*n'→w'.cell? ⟨r,off+i,none⟩=some (cs.getD (off+i) undef):=by
              intro i hi
              rw [cell?_cells ((hbw.block r (get?_lt h2)).trans h2)]
              rw [Array.getD_eq_getD_getElem?,Array.getElem?_eq_getElem (by omega)]
              rfl
             refine ⟨_,gw _ hcell,by simp,fun i hi hik => ?_⟩
             rw [ig _ _ i hik]
             have:=k2 (off+i) (by omega)
             simpa using this
       · cases h
     · cases h
   · cases h
 · cases h
theorem sN {G:Gh}:∀ (vs:List DV) (l:List UInt8) (xs:List Value),jd vs=some l→xs.length=vs.length→(∀ i (h:i<vs.length),Rel fm G (vs[i]) (xs.getD i undef))→∃ ns:List Int,xs=ns.map (Value.int .u8)∧ns.map (fun n=>UInt8.ofNat n.toNat)=l
 | [],l,xs,h,hl,_=>by
   simp only [jd,Option.some.injEq] at h;subst h
   exact ⟨[],by simpa using hl,rfl⟩
 | v::vs,l,[],_,hl,_=>by simp at hl
 | v::vs,l,x::xs,h,hl,hr=>by
   unfold jd at h
   split at h
   · rename_i heq;cases heq
   · rename_i n r heq
     simp only [List.cons.injEq] at heq
     obtain ⟨rfl,rfl⟩:=heq
     simp only [Option.map_eq_some_iff] at h
     obtain ⟨l',h1,rfl⟩:=h
     obtain ⟨ns,e1,e2⟩:=sN vs l' xs h1 (by simpa using hl) (fun i hi=>hr (i+1) (Nat.succ_lt_succ hi))
     have h0:=hr 0 (by simp)
     simp only [List.getElem_cons_zero,List.getD_cons_zero] at h0
     cases h0
     exact ⟨n::ns,by simp [e1],by simp [e2]⟩
   · cases h
theorem je:∀ (ns:List Int) (r:ByteArray),ns.foldl (fun r n=>r.push (UInt8.ofNat n.toNat)) r=⟨r.data++(ns.map fun n=>UInt8.ofNat n.toNat).toArray⟩
 | [],r=>by simp
 | n::ns,r=>by
   simp only [List.foldl_cons]
   rw [je ns]
   simp [ByteArray.push]
theorem Cd {s d e:TypeId} {x:X} {xo:Operand} {o:Oper} (ho:o.op=.convert s d xo) (hs0:P.underlying s=some (.slice e)) (he:P.underlying e=some (.int .u8)) (hd:P.underlying d=some .string) (hx:a9 fm x xo):aq P fm (.b2s x) o:=by
 refine az fun CR G w0 st w fr a v st' hs hf hrun => ?_
 simp only [al] at hrun
 have hxv:=hx.ev (a:=a) hf
 split at hrun
 · rename_i m vs hnews
   simp only [Option.map_eq_some_iff] at hrun
   obtain ⟨l,hl,hrun⟩:=hrun
   cases hrun
   split at hnews
   · cases hnews
   rename_i dv hdv hns
   have hnr:=cW (P:=P) hs hxv hnews
   generalize hx0:a.eval xo=x0 at hxv hnr
   obtain ⟨cs,g1,g2,g3⟩:=hnr.cells m w (Nat.le_refl _) (Below.refl _ w)
   have hlen:=hnr.length
   obtain ⟨ns,e1,e2⟩:=sN (fm:=fm) (G:=G) vs l cs.toList hl (by simp [g2,hlen]) (fun i hi=>by rw [aJ];exact g3 i hi (by omega))
   have ecs:cs=(ns.map (Value.int .u8)).toArray:=by rw [← e1]
   have hsl:∀ (p:Option Addr) (n c:Nat),x0=.slice p n c→(execOp a.eval o).run P w=.ok (.value (.string ⟨l.toArray⟩)) w:=by
    intro p n c hp
    subst hp
    unfold execOp
    simp only [ho,hx0]
    refine ae ?_
    rw [run_convert_bytes_string w s d e p n c hs0 he hd]
    have hnm:n=m:=by
     have:=hnr.len
     simp only [Builtin.lenOf,Sem.run_pure] at this
     cases this;rfl
    subst hnm
    cases p with
    | none=>
      have h0:cs = #[]:=by
       simp only [Builtin.firstCells,Sem.run_pure] at g1
       cases g1;rfl
      have:ns=[]:=by
       rw [h0] at e1
       cases ns with
       | nil=>rfl
       | cons _ _=>simp at e1
      subst this
      simp only [List.map_nil] at e2
      subst e2
      rfl
    | some ad=>
      have g1':(loadCells ad n).run P w=.ok (ns.map (Value.int .u8)).toArray w:=by
       simp only [Builtin.firstCells,Nat.mul_one] at g1
       rw [g1,ecs]
      rw [run_bytesToString w ad n c ns g1',je,e2]
      simp
   generalize X.ev fr x=dv' at hxv hnews hns
   unfold cw at hnews
   split at hnews
   · cases hxv with
     | gC=>exact ⟨rfl,_,hsl _ _ _ rfl,.str _ _ rfl⟩
     | list=>exact ⟨rfl,_,hsl _ _ _ rfl,.str _ _ rfl⟩
   · exact absurd rfl (hns _)
   · cases hxv with
     | hsl=>exact ⟨rfl,_,hsl _ _ _ rfl,.str _ _ rfl⟩
   · cases hnews
 · cases hrun
theorem js (s:ByteArray) (c i:Nat) (h:i<s.data.toList.length):(bytesRow s c)[i]? = some (.int .u8 (s.data.toList[i]).toNat):=by
 have hi:i<s.data.size:=by simpa using h
 unfold bytesRow
 rw [Array.getElem?_append_left (by simpa using hi),Array.getElem?_map,Array.getElem?_eq_getElem hi]
 simp
theorem rh (s:ByteArray) (c:Nat) (h:s.size≤c):(bytesRow s c).size=c:=by
 have:s.data.size=s.size:=rfl
 simp [bytesRow,this];omega
theorem jS (s:List UInt8):flat (s.map fun b=>DV.int .u8 b.toNat)=s.map fun b=>DV.int .u8 b.toNat:=by
 induction s with
 | nil=>rfl
 | cons b s ih=>
   show DV.leaves (DV.int .u8 b.toNat)++flat (s.map fun b=>DV.int .u8 b.toNat)=_
   rw [ih];rfl
theorem Ck {s d e:TypeId} {x:X} {xo:Operand} {o:Oper} (ho:o.op=.convert s d xo) (hs0:P.underlying s=some .string) (hd:P.underlying d=some (.slice e)) (he:P.underlying e=some (.int .u8)) (hx:a9 fm x xo):aq P fm (.s2b x) o:=by
 intro CR G w0 st w fr a v st' hs hf hrun
 simp only [al] at hrun
 have hxv:=hx.ev (a:=a) hf
 split at hrun
 · rename_i l hl
   rw [hl] at hxv
   simp only [Option.some.injEq,Prod.mk.injEq] at hrun
   obtain ⟨rfl,rfl⟩:=hrun
   generalize hx0:a.eval xo=x0 at hxv
   cases hxv with
   | str _ ba hba=>
     subst hba
     have hc:=run_bytes_of_string (P:=P) w s d e ba hs0 hd he
     generalize hcap:grownCap w ba.size 0 e=cap at hc
     have hge:ba.size≤cap:=by rw [← hcap];exact grownCap_ge _ _ _ _
     have hsz:ba.data.toList.length=ba.size:=by rw [Array.length_toList];rfl
     have hb:Below w.heap.size w (w.drew.alloc (.cells (bytesRow ba cap) e ((bytesRow ba cap).size,(bytesRow ba cap).size+1))):=(Below.refl _ w).drew.alloc (Nat.le_refl _) _
     have hnew:(w.drew.alloc (.cells (bytesRow ba cap) e ((bytesRow ba cap).size,(bytesRow ba cap).size+1))).heap[w.heap.size]? = some (.cells (bytesRow ba cap) e ((bytesRow ba cap).size,(bytesRow ba cap).size+1)):=World.alloc_heap_new w.drew _
     have hs':=hs.iA hb hnew ba.size
     have hle:=Gh.pq hs (bytesRow ba cap) ba.size
     have hlist:=Rel.list (fm:=fm) (G:=G.iA w.heap.size (bytesRow ba cap) ba.size) st.cur 1 .no (ba.data.toList.map fun b=>DV.int .u8 b.toNat) w.heap.size 0 cap (fun i=>(bytesRow ba cap).getD i undef) ?_ ?_ ?_ trivial ?_ ?_
     · have e1:(ba.data.toList.map fun b=>DV.int .u8 b.toNat).length=ba.size:=by simp
       rw [e1] at hlist
       refine ⟨_,_,.slice (some ⟨w.heap.size,0,none⟩) ba.size cap,_,?_,.inl rfl,hle,hs',hlist⟩
       unfold execOp
       simp only [ho,hx0]
       exact ae hc
     · intro i hi
       rw [jS] at hi
       have hi':i<ba.data.toList.length:=by simpa using hi
       have hlt:i<ba.size:=by omega
       simp [Gh.iA,hlt,js ba cap i hi',Array.getD_eq_getD_getElem?]
     · intro i hi
       have hi0:=hi
       rw [jS] at hi
       have hi':i<ba.data.toList.length:=by simpa using hi
       have e1:(flat (ba.data.toList.map fun b=>DV.int .u8 b.toNat))[i]=.int .u8 (ba.data.toList[i]).toNat:=by
        apply Option.some.inj
        rw [← List.getElem?_eq_getElem hi0,jS]
        rw [List.getElem?_map,List.getElem?_eq_getElem hi'];rfl
       rw [e1,Array.getD_eq_getD_getElem?,js ba cap i hi']
       exact .int _ _
     · rw [jS,List.all_eq_true]
       intro y hy
       obtain ⟨b,_,rfl⟩:=List.mem_map.1 hy
       rfl
     · simpa [hsz] using hge
     · intro y hy
       obtain ⟨b,_,rfl⟩:=List.mem_map.1 hy
       rfl
 · cases hrun
theorem Cs {s d e:TypeId} {x:X} {xo:Operand} {o:Oper} (ho:o.op=.convert s d xo) (hs0:P.underlying s=some .string) (hd:P.underlying d=some (.slice e)) (he:P.underlying e=some (.int .u8)) (hx:a9 fm x xo):aq P fm (.s2h x) o:=by
 intro CR G w0 st w fr a v st' hs hf hrun
 simp only [al] at hrun
 have hxv:=hx.ev (a:=a) hf
 split at hrun
 · rename_i l hl
   rw [hl] at hxv
   simp only [Option.some.injEq,Prod.mk.injEq] at hrun
   obtain ⟨rfl,rfl⟩:=hrun
   generalize hx0:a.eval xo=x0 at hxv
   cases hxv with
   | str _ ba hba=>
     subst hba
     have hc:=run_bytes_of_string (P:=P) w s d e ba hs0 hd he
     generalize hcap:grownCap w ba.size 0 e=cap at hc
     have hge:ba.size≤cap:=by rw [← hcap];exact grownCap_ge _ _ _ _
     have hsz:ba.data.toList.length=ba.size:=by rw [Array.length_toList];rfl
     have hss:=rh ba cap hge
     have hs':=hs.drew.push (o:=.cells .grown (ba.data.toList.map fun b=>DV.int .u8 b.toNat)) (ob:=.cells (bytesRow ba cap) e ((bytesRow ba cap).size,(bytesRow ba cap).size+1)) cap
      ⟨bytesRow ba cap,e,_,rfl,by simpa [hss,hsz] using hge,by simp [Gh.push,hss],fun i hi=>by
       have hi':i<ba.data.toList.length:=by simpa using hi
       rw [Array.getD_eq_getD_getElem?,js ba cap i hi']
       simp only [List.getElem_map]
       exact .int _ _,fun i hi=>by omega,by
       rw [List.all_eq_true]
       intro y hy
       obtain ⟨b,_,rfl⟩:=List.mem_map.1 hy
       rfl⟩ rfl
     have hle:G.le (G.push st.heap.length w.heap.size cap):=Gh.bx hs.bO
     refine ⟨_,_,.slice (some ⟨w.heap.size,0,none⟩) ba.size cap,_,?_,.inl rfl,hle,hs',?_⟩
     · unfold execOp
       simp only [ho,hx0]
       exact ae hc
     · rw [hsz]
       exact .hsl _ _ _ _ _ _ _ _ (by simp [Gh.push]) ⟨hge,by simp [Gh.push]⟩
 · cases hrun
end Go.D
end
section
namespace Go.D
open Go.RowKit
variable {P:Program} {fm:FM}
theorem rG {t e:TypeId} {n bytes:Nat} {ag:Bool} {zs:List DV} {i:TypeInfo} {l c:X} {lo co:Operand} {o:Oper} (ho:o.op=.makeSlice t lo co) (ht:P.underlying t=some (.slice e)) (hi:P.info? e=some i) (hn:i.size=n) (hby:i.bytes=bytes) (hz:aY P e=some zs) (hzl:zs.length=n)
 (hl:a9 fm l lo) (hc:a9 fm c co):aq P fm (.b8 n ag bytes zs l c) o:=by
 intro CR G w0 st w fr a v st' hs hf hrun
 simp only [al] at hrun
 have hlv:=hl.ev (a:=a) hf
 have hcv:=hc.ev (a:=a) hf
 split at hrun
 · rename_i lv cv el ec
   rw [el] at hlv;rw [ec] at hcv
   split at hrun
   · rename_i hcond
     obtain ⟨c1,c2,c3,c4⟩:=hcond
     simp only [Option.some.injEq,Prod.mk.injEq] at hrun
     obtain ⟨rfl,rfl⟩:=hrun
     generalize hl0:a.eval lo=l0 at hlv
     generalize hc0:a.eval co=c0 at hcv
     cases hlv;cases hcv
     obtain ⟨i',z,hi',hzz,hcc⟩:=bh hz
     rw [hi] at hi';cases hi'
     obtain ⟨zl,zr⟩:=bI (fm:=fm) hcc
     have hle:G.le (G.push st.heap.length w.heap.size 0):=Gh.bx hs.bO
     have hrd:(aw:Int)=140737488355328:=rfl
     rw [hrd] at c3 c4
     have hrun:=run_make (P:=P) w t e i z ht hi hzz .i64 .i64 lv cv c1 c2 (by rw [hby,Int.mul_comm];omega) (by omega)
     obtain ⟨s1,s2⟩:=kS (fm:=fm) (G:=G.push st.heap.length w.heap.size 0) (zs:=zs) (z:=z.cells) (by simpa using zl) (fun i hi=>zr _ i hi) cv.toNat
     have hscal:(aR zs cv.toNat).all DV.bg=true:=by
      rw [List.all_eq_true]
      intro x hx
      obtain ⟨j,hj,rfl⟩:=List.getElem_of_mem hx
      have hj':=hj
      rw [de] at hj'
      have:=getElem?_repl zs cv.toNat j hj'
      rw [List.getElem?_eq_getElem hj] at this
      exact List.all_eq_true.1 (bY (cJ hcc)) _ (List.mem_of_getElem? this.symm)
     have hmade:madeCells z.cells (cv.toNat*i.size)=(Array.range (cv.toNat*zs.length)).map (z.cells[· % z.cells.size]!):=by rw [hn,hzl];rfl
     rw [← hmade] at s1 s2
     have hs':=hs.push (o:=.cells .plain (aR zs cv.toNat)) (ob:=.cells (madeCells z.cells (cv.toNat*i.size)) e) 0 ⟨_,e,(0,0),rfl,s1,s2,fun i hi=>by simp,hscal⟩ rfl
     refine ⟨_,_,.slice (some ⟨w.heap.size,0,none⟩) lv.toNat cv.toNat,_,?_,.inl rfl,hle,hs',.hsl _ _ _ _ _ _ _ _ (by simp [Gh.push]) ⟨rfl,by omega⟩⟩
     unfold execOp
     simp only [ho,hl0,hc0]
     exact ae hrun
   · cases hrun
 · cases hrun
theorem ri {e:TypeId} {zs:List DV} {o:Oper} (ho:o.op=.alloc e) (hz:aY P e=some zs):jH P fm (.alloc zs) o:=by
 obtain ⟨i,z,hi,hzz,hc⟩:=bh hz
 intro CR G w0 st w fr a b v ob hs hf hfree
 simp only [ja,Option.some.injEq,Prod.mk.injEq] at hfree
 obtain ⟨rfl,rfl⟩:=hfree
 obtain ⟨hl,hr⟩:=bI (fm:=fm) hc
 refine ⟨rfl,.cells z.cells e,.pointer (some ⟨w.heap.size,0,none⟩),_,?_,.inl rfl,fun G' hG'=>⟨⟨z.cells,e,(0,0),rfl,by simpa using hl,fun i hi=>by rw [← aJ];exact hr _ i hi,fun i hi=>by simp,bY (cJ hc)⟩,.ptr _ _ _ hG'⟩⟩
 unfold execOp
 simp only [ho]
 refine ae ?_
 unfold Instr.alloc
 simp only [Sem.run_bind,jj hi hzz,Result.andThen_ok]
 rfl
theorem rm {t:TypeId} {o:Oper} (ho:o.op=.makeMap t none):jH P fm .j3 o:=by
 intro CR G w0 st w fr a b v ob hs hf hfree
 simp only [ja,Option.some.injEq,Prod.mk.injEq] at hfree
 obtain ⟨rfl,rfl⟩:=hfree
 refine ⟨rfl,.map #[] 0,.map (some w.heap.size),_,?_,.inl rfl,fun G' hG'=>⟨⟨#[],0,rfl,rfl,fun i k v hi=>by simp at hi⟩,.map _ _ hG'⟩⟩
 unfold execOp
 simp only [ho,Option.map_none]
 exact ae (by simp [Instr.makeMap])
theorem oL {t e:TypeId} {n bytes:Nat} {ag:Bool} {zs:List DV} {i:TypeInfo} {l c:X} {lo co:Operand} {o:Oper} (ho:o.op=.makeSlice t lo co) (ht:P.underlying t=some (.slice e)) (hi:P.info? e=some i) (hn:i.size=n) (hby:i.bytes=bytes) (hz:aY P e=some zs) (hzl:zs.length=n)
 (hl:a9 fm l lo) (hc:a9 fm c co):jH P fm (.b8 n ag bytes zs l c) o:=by
 intro CR G w0 st w fr a b v ob hs hf hfree
 simp only [ja] at hfree
 have hlv:=hl.ev (a:=a) hf
 have hcv:=hc.ev (a:=a) hf
 split at hfree
 · rename_i lv cv el ec
   rw [el] at hlv;rw [ec] at hcv
   split at hfree
   · rename_i hcond
     obtain ⟨c1,c2,c3,c4⟩:=hcond
     simp only [Option.some.injEq,Prod.mk.injEq] at hfree
     obtain ⟨rfl,rfl⟩:=hfree
     generalize hl0:a.eval lo=l0 at hlv
     generalize hc0:a.eval co=c0 at hcv
     cases hlv;cases hcv
     obtain ⟨i',z,hi',hzz,hcc⟩:=bh hz
     rw [hi] at hi';cases hi'
     obtain ⟨zl,zr⟩:=bI (fm:=fm) hcc
     have hrd:(aw:Int)=140737488355328:=rfl
     rw [hrd] at c3 c4
     have hrun:=run_make (P:=P) w t e i z ht hi hzz .i64 .i64 lv cv c1 c2 (by rw [hby,Int.mul_comm];omega) (by omega)
     have hscal:(aR zs cv.toNat).all DV.bg=true:=by
      rw [List.all_eq_true]
      intro x hx
      obtain ⟨j,hj,rfl⟩:=List.getElem_of_mem hx
      have hj':=hj
      rw [de] at hj'
      have:=getElem?_repl zs cv.toNat j hj'
      rw [List.getElem?_eq_getElem hj] at this
      exact List.all_eq_true.1 (bY (cJ hcc)) _ (List.mem_of_getElem? this.symm)
     have hmade:madeCells z.cells (cv.toNat*i.size)=(Array.range (cv.toNat*zs.length)).map (z.cells[· % z.cells.size]!):=by rw [hn,hzl];rfl
     refine ⟨rfl,.cells (madeCells z.cells (cv.toNat*i.size)) e,.slice (some ⟨w.heap.size,0,none⟩) lv.toNat cv.toNat,_,?_,.inl rfl,fun G' hG' => ?_⟩
     · unfold execOp
       simp only [ho,hl0,hc0]
       exact ae hrun
     · obtain ⟨s1,s2⟩:=kS (fm:=fm) (G:=G') (zs:=zs) (z:=z.cells) (by simpa using zl) (fun i hi=>zr _ i hi) cv.toNat
       rw [← hmade] at s1 s2
       exact ⟨⟨_,e,(0,0),rfl,s1,s2,fun i hi=>by simp,hscal⟩,.hsl _ _ _ _ _ _ _ _ hG' ⟨rfl,by omega⟩⟩
   · cases hfree
 · cases hfree
def Gh.dB (G:Gh) (t s r len cap n:Nat):Gh:={ G with bw:=fun t' s'=>if t'=t∧s'=s then some (r,len,cap,n) else G.bw t' s' }
theorem Sim.Ds {CR:Nat→RC→Code→Prop} {G:Gh} {w0 w:World} {st:St} (hs:Sim fm CR G w0 st w) {t s:Nat} (h:∀ s',st.aQ[t]? = some s'→s'<s):G.bw t s=none:=by
 cases e:G.bw t s with
 | none=>rfl
 | some x=>
   obtain ⟨s',h1,h2⟩:=hs.bw t s x e
   have:=h s' h1
   omega
theorem Gh.kU {CR:Nat→RC→Code→Prop} {G:Gh} {w0 w:World} {st:St} (hs:Sim fm CR G w0 st w) {t s:Nat} (h:∀ s',st.aQ[t]? = some s'→s'<s) (r len cap n:Nat):G.le (G.dB t s r len cap n):=by
 have hn:=hs.Ds h
 refine ⟨⟨fun _ _ _ x=>x,fun _ _ x=>x,fun t' s' x hx => ?_,fun _ _ _=>rfl⟩,fun _ x=>x,fun _ x=>x,rfl,fun _ _ _=>rfl,rfl,rfl,rfl⟩
 simp only [Gh.dB]
 rw [if_neg]
 · exact hx
 · rintro ⟨rfl,rfl⟩;rw [hn] at hx;cases hx
theorem get?_append_cases {α:Type} {l:List α} {x y:α} {t:Nat} (h:(l++[x])[t]? = some y):(t<l.length∧l[t]? = some y)∨(t=l.length∧y=x):=by
 rcases getElem?_push_cases _ _ _ _ h with h | h
 · exact .inr h
 · exact .inl h
theorem Sim.zj {CR:Nat→RC→Code→Prop} {G:Gh} {w0 w:World} {st:St} (hs:Sim fm CR G w0 st w) {t s r len cap n:Nat} {aQ:List Nat} {cs:Array Value} {ty:TypeId}
 (hold:∀ s',st.aQ[t]? = some s'→s'<s) (hnew:aQ[t]? = some s) (hoth:∀ u x,u≠t→(aQ[u]? = some x↔st.aQ[u]? = some x))
 (hn:0<n) (hlc:len≤cap) (hrow:w.heap[r]? = some (.cells cs ty (0,0))) (hsz:cs.size=cap*n) (hro:∀ i,len*n≤i→G.ro r i=none)
 (hobj:∀ b o,st.heap[b]? = some o→o.cf=false→G.mu b≠some r) (hfl:st.aU≤t→G.floor≤r)
 (hdis:∀ u x y,u≠t→st.aQ[u]? = some x→G.bw u x=some y→y.1≠r) :
 Sim fm CR (G.dB t s r len cap n) w0 { st with aQ:=aQ } w:=by
 have hle:=(Gh.kU hs hold r len cap n).toSub
 have hh:∀ u x,u≠t→(G.dB t s r len cap n).bw u x=G.bw u x:=fun u x hu=>by simp only [Gh.dB];rw [if_neg (fun h=>hu h.1)]
 have hh':(G.dB t s r len cap n).bw t s=some (r,len,cap,n):=by simp [Gh.dB]
 refine { bS:=hs.bS,bN:=hs.bN,obj:=?_,ro:=hs.ro,dp:=hs.dp,tok:=?_,bz:=?_,bw:=?_,dfr:=hs.dfr,lps:=hs.lps,aE:=hs.aE,below:=hs.below,base:=hs.base,aU:=hs.aU,bB:=hs.bB,bm:=hs.bm,env:=hs.env }
 · intro b o ho hg hpd
   obtain ⟨r',ob,h1,h2,h3,h4⟩:=hs.obj b o ho hg hpd
   exact ⟨r',ob,h1,h2,h3.sub hle h1,h4⟩
 · intro u x hu
   by_cases e:u=t
   · subst e
     rw [hnew] at hu;cases hu
     exact ⟨r,len,cap,n,cs,ty,hh',hn,hlc,hrow,hsz,hro,hobj,hfl⟩
   · obtain ⟨r',len',cap',n',cs',ty',h1,h2⟩:=hs.tok u x ((hoth u x e).1 hu)
     exact ⟨r',len',cap',n',cs',ty',by rw [hh u x e];exact h1,h2⟩
 · intro u u' x x' y y' hu hu' hy hy' hyy
   by_cases e:u=t<;>by_cases e':u'=t
   · rw [e,e']
   · subst e
     rw [hnew] at hu;cases hu
     rw [hh'] at hy;cases hy
     rw [hh u' x' e'] at hy'
     exact absurd hyy.symm (hdis u' x' y' e' ((hoth u' x' e').1 hu') hy')
   · subst e'
     rw [hnew] at hu';cases hu'
     rw [hh'] at hy';cases hy'
     rw [hh u x e] at hy
     exact absurd hyy (hdis u x y e ((hoth u x e).1 hu) hy)
   · rw [hh u x e] at hy;rw [hh u' x' e'] at hy'
     exact hs.bz u u' x x' y y' ((hoth u x e).1 hu) ((hoth u' x' e').1 hu') hy hy' hyy
 · intro u x y hy
   by_cases e:u=t
   · subst e
     by_cases e2:x=s
     · subst e2;exact ⟨x,hnew,Nat.le_refl _⟩
     · have:G.bw u x=some y:=by
        simp only [Gh.dB] at hy
        rwa [if_neg (fun h=>e2 h.2)] at hy
       obtain ⟨s',h1,h2⟩:=hs.bw u x y this
       exact ⟨s,hnew,by have:=hold s' h1;omega⟩
   · rw [hh u x e] at hy
     obtain ⟨s',h1,h2⟩:=hs.bw u x y hy
     exact ⟨s',(hoth u s' e).2 h1,h2⟩
theorem Sim.ee {CR:Nat→RC→Code→Prop} {G:Gh} {w0 w:World} {st:St} (hs:Sim fm CR G w0 st w):∀ b o,st.heap[b]? = some o→o.cf=false→G.mu b≠some w.heap.size:=by
 intro b o ho hg e
 obtain ⟨r,ob,h1,h2,_⟩:=hs.obj b o ho hg (hs.np e)
 rw [e] at h1;cases h1
 exact absurd (get?_lt h2) (Nat.lt_irrefl _)
theorem Sim.zA {CR:Nat→RC→Code→Prop} {G:Gh} {w0 w:World} {st:St} (hs:Sim fm CR G w0 st w):∀ u x y,st.aQ[u]? = some x→G.bw u x=some y→y.1≠w.heap.size:=by
 intro u x y hu hy e
 obtain ⟨r,len,cap,n,cs,ty,h1,h2,h3,h4,h5⟩:=hs.tok u x hu
 rw [hy] at h1;cases h1
 simp only at e
 rw [e] at h4
 exact absurd (get?_lt h4) (Nat.lt_irrefl _)
theorem Sim.DP {CR:Nat→RC→Code→Prop} {G:Gh} {w0 w:World} {st:St} (hs:Sim fm CR G w0 st w) (i:Nat):G.ro w.heap.size i=none:=by
 cases e:G.ro w.heap.size i with
 | none=>rfl
 | some v=>exact absurd (hs.A4 e) (Nat.lt_irrefl _)
theorem uC {t e:TypeId} {n bytes:Nat} {zs:List DV} {i:TypeInfo} {l c:X} {lo co:Operand} {o:Oper} (ho:o.op=.makeSlice t lo co) (ht:P.underlying t=some (.slice e)) (hi:P.info? e=some i) (hn:i.size=n) (hby:i.bytes=bytes) (hz:aY P e=some zs)
 (hl:a9 fm l lo) (hc:a9 fm c co):aq P fm (.kE n bytes l c) o:=by
 intro CR G w0 st w fr a v st' hs hf hrun
 simp only [al] at hrun
 have hlv:=hl.ev (a:=a) hf
 have hcv:=hc.ev (a:=a) hf
 split at hrun
 · rename_i lv cv el ec
   rw [el] at hlv;rw [ec] at hcv
   split at hrun
   · rename_i hcond
     obtain ⟨rfl,c2,c3,c4,c5⟩:=hcond
     simp only [Option.some.injEq,Prod.mk.injEq] at hrun
     obtain ⟨rfl,rfl⟩:=hrun
     generalize hl0:a.eval lo=l0 at hlv
     generalize hc0:a.eval co=c0 at hcv
     cases hlv;cases hcv
     obtain ⟨i',z,hi',hzz,hcc⟩:=bh hz
     rw [hi] at hi';cases hi'
     have hrd:(aw:Int)=140737488355328:=rfl
     rw [hrd] at c3 c4
     have hrun:=run_make (P:=P) w t e i z ht hi hzz .i64 .i64 0 cv (Int.le_refl _) c2 (by rw [hby,Int.mul_comm];omega) (by omega)
     have hold:∀ s',st.aQ[st.aQ.length]? = some s'→s'<0:=fun s' h=>by simp at h
     have hal:=hs.alloc (.cells (madeCells z.cells (cv.toNat*i.size)) e)
     have hs':=hal.zj (t:=st.aQ.length) (s:=0) (r:=w.heap.size) (len:=0) (cap:=cv.toNat) (n:=n) (aQ:=st.aQ++[0]) (cs:=madeCells z.cells (cv.toNat*i.size)) (ty:=e)
      hold (by simp) (fun u x hu=>by
       constructor
       · intro h;rcases get?_append_cases h with h | h;exact h.2;exact absurd h.1 hu
       · intro h;rw [List.getElem?_append_left (List.getElem?_eq_some_iff.1 h).1];exact h)
      c5 (Nat.zero_le _) (World.alloc_heap_new w _) (by rw [size_madeCells,hn]) (fun i _=>hs.DP i) hs.ee (fun _=>hs.aE)
      (fun u x y _ hx hy=>hs.zA u x y hx hy)
     refine ⟨_,_,.slice (some ⟨w.heap.size,0,none⟩) 0 cv.toNat,_,?_,.inl rfl,Gh.kU hs hold _ _ _ _,hs',?_⟩
     · unfold execOp
       simp only [ho,hl0,hc0]
       exact ae hrun
     · exact Rel.list st.cur n (.own st.aQ.length 0) [] w.heap.size 0 cv.toNat (fun _=>undef) (fun i hi=>absurd hi (by simp [flat])) (fun i hi=>absurd hi (by simp [flat])) rfl ⟨rfl,by simp [Gh.dB]⟩ (Nat.zero_le _) (fun x hx=>by simp at hx)
   · cases hrun
 · cases hrun
theorem yP {t u e:TypeId} {n:Nat} {i:TypeInfo} {x y:X} {xo yo:Operand} {o:Oper} (ho:builtinCall .copy [xo,yo] [t,u] o.op) (ht:P.underlying t=some (.slice e)) (hi:P.info? e=some i) (hn:i.size=n) (hx:a9 fm x xo) (hy:a9 fm y yo):aq P fm (.copy n x y) o:=by
 intro CR G w0 st w fr a v st' hs hf hrun
 simp only [al,FH] at hrun
 have hxv:=hx.ev (a:=a) hf
 have hyv:=hy.ev (a:=a) hf
 split at hrun
 · rename_i m news n' ag b off len cap hnews hb
   rw [hb] at hxv
   split at hrun
   · rename_i hc
     obtain ⟨rfl,hbase⟩:=hc
     split at hrun
     · rename_i hk0
       simp only [Option.some.injEq,Prod.mk.injEq] at hrun
       obtain ⟨rfl,rfl⟩:=hrun
       have hnr:=cW (P:=P) hs hyv hnews
       obtain ⟨cs,g1,g2,g3⟩:=hnr.cells (min m len) w (Nat.min_le_left _ _) (Below.refl _ w)
       generalize hx0:a.eval xo=x0 at hxv
       generalize hy0:a.eval yo=y0 at hyv hnr g1
       cases hxv with
       | hsl _ _ _ _ _ _ r c hm hcap=>
         refine ⟨G,w,goInt 0,_,?_,.inl rfl,Gh.le.refl G,hs,.int _ _⟩
         obtain ⟨consts,he⟩:=bp ho a.eval
         rw [he]
         simp only [List.map_cons,List.map_nil,hx0,hy0]
         unfold builtin
         refine ae ?_
         have hsize:(sizeOf e).run P w=.ok i.size w:=by unfold sizeOf typeInfo;simp [hi]
         rw [← hn] at g1
         have hcs:cs = #[]:=by
          have:cs.size=0:=by rw [g2,hk0];simp
          exact Array.eq_empty_of_size_eq_zero this
         subst hcs
         have hmin:Nat.min m len=0:=hk0
         rw [hk0] at g1
         simp [Builtin.copy_,run_underlying ht,hnr.len,hsize,hmin,g1,storeCells]
     rename_i hk0
     split at hrun
     · rename_i g vs hcell
       obtain ⟨hcell,hw⟩:=lH hcell
       split at hrun
       · rename_i hle
         simp only [Option.some.injEq,Prod.mk.injEq] at hrun
         obtain ⟨rfl,rfl⟩:=hrun
         have hnr:=cW (P:=P) hs hyv hnews
         obtain ⟨cs,g1,g2,g3⟩:=hnr.cells (min m len) w (Nat.min_le_left _ _) (Below.refl _ w)
         generalize hx0:a.eval xo=x0 at hxv
         generalize hy0:a.eval yo=y0 at hyv hnr g1
         cases hxv with
         | hsl _ _ _ _ _ _ r c hm hcap=>
           have hbo:st.heap[b]? = some (.cells g vs):=by
            unfold St.cells at hcell
            split at hcell
            · rename_i g' vs' e;simp only [Option.some.injEq,Prod.mk.injEq] at hcell;obtain ⟨rfl,rfl⟩:=hcell;exact e
            · cases hcell
           have hmn:min m len*n'≤news.length:=by rw [hnr.length];exact Nat.mul_le_mul_right _ (Nat.min_le_left _ _)
           have htl:(news.take (min m len*n')).length=min m len*n':=by simp;omega
           have hrel:∀ i (h:i<(news.take (min m len*n')).length),Rel fm G ((news.take (min m len*n'))[i]) (cs.toList.getD i undef):=fun i hi=>by
            rw [aJ]
            have:=g3 i (by omega) (by omega)
            simpa using this
           have hsc:(news.take (min m len*n')).all DV.bg=true:=by
            have:=hnr.bg
            rw [List.all_eq_true] at this ⊢
            exact fun y hy=>this y (List.mem_of_mem_take hy)
           have hone:∀ u∈cs.toList,u.oneCell'=true:=by
            intro u hu
            obtain ⟨j,hj,rfl⟩:=List.getElem_of_mem hu
            have hj':j<(news.take (min m len*n')).length:=by rw [htl,← g2];simpa using hj
            have h1:=hrel j hj'
            rw [List.getD_eq_getElem?_getD,List.getElem?_eq_getElem hj] at h1
            exact qe h1 (List.all_eq_true.1 hsc _ (List.getElem_mem hj'))
           obtain ⟨cur,ty,fz,k1,k2,k3,k4⟩:=jK (P:=P) hs hw hbo hbase (k:=off) (ns:=news.take (min m len*n')) (xs:=cs.toList) (by omega) (by simp [g2,htl]) hrel hsc hone hm
           refine ⟨G,_,goInt ((min m len:Nat):Int),_,?_,.inl rfl,Gh.le.refl G,k4,.int _ _⟩
           obtain ⟨consts,he⟩:=bp ho a.eval
           rw [he]
           simp only [List.map_cons,List.map_nil,hx0,hy0]
           unfold builtin
           refine ae ?_
           have hsize:(sizeOf e).run P w=.ok i.size w:=by unfold sizeOf typeInfo;simp [hi]
           rw [← hn] at g1
           have hmin:Nat.min m len=min m len:=rfl
           simp [Builtin.copy_,run_underlying ht,hnr.len,hsize,hmin,g1,k3]
       · cases hrun
     · cases hrun
   · cases hrun
 · cases hrun
end Go.D
end
section
namespace Go.D
open Go.RowKit
variable {P:Program} {fm:FM}
def ef (P:Program) (u:TypeId):Bool:=match P.underlying u with | some (.slice _)=>true | some .string=>true | _=>false
theorem appArg {u:TypeId} (h:ef P u=true):(∃ e,P.underlying u=some (.slice e))∨P.underlying u=some .string:=by
 unfold ef at h
 split at h
 · rename_i e he;exact .inl ⟨e,he⟩
 · rename_i he;exact .inr he
 · cases h
theorem cZ {w w':World} {t u ty e:TypeId} {i:TypeInfo} {a:Option Addr} {sLen sCap m:Nat} {x:Value} {news:Array Value} (ht:P.underlying t=some (.slice e)) (hi:P.info? e=some i) (hu:ef P u=true)
 (hlen:(Builtin.lenOf x).run P w=.ok m w) (hfit:sLen+m≤sCap) (hnews:(Builtin.firstCells i.size m x).run P w=.ok news w)
 (hst:(match a with | some a=>storeCells (a.add (sLen*i.size)) news.toList | none=>pure ():Sem Unit).run P w=.ok () w') :
 (Builtin.append_ #[t,u] ty #[.slice a sLen sCap,x]).run P w=.ok (.slice a (sLen+m) sCap) w':=by
 have hsize:(sizeOf e).run P w=.ok i.size w:=by unfold sizeOf typeInfo;simp [hi]
 cases a with
 | none=>
   simp only [Sem.run_pure] at hst
   cases hst
   rcases appArg hu with ⟨e',hd⟩ | hd<;>simp [Builtin.append_,run_underlying ht,run_underlying hd,hsize,hlen,hfit,hnews]
 | some a=>
   simp only at hst
   rcases appArg hu with ⟨e',hd⟩ | hd<;>simp [Builtin.append_,run_underlying ht,run_underlying hd,hsize,hlen,hfit,hnews,hst]
theorem cd {w:World} {t u ty e:TypeId} {i:TypeInfo} {z:Value} {a:Option Addr} {sLen sCap m:Nat} {x:Value} {olds news:Array Value} (ht:P.underlying t=some (.slice e)) (hi:P.info? e=some i) (hz:i.zero=some z) (hu:ef P u=true)
 (hlen:(Builtin.lenOf x).run P w=.ok m w) (hg:sCap<sLen+m) (hb:(sLen+m)*i.bytes≤140737488355328) (h63:sLen+m≤140737488355328)
 (holds:(Builtin.firstCells i.size sLen (.slice a sLen sCap)).run P w.drew=.ok olds w.drew) (hnews:(Builtin.firstCells i.size m x).run P w.drew=.ok news w.drew) :
 (Builtin.append_ #[t,u] ty #[.slice a sLen sCap,x]).run P w =
  .ok (.slice (some ⟨w.heap.size,0,none⟩) (sLen+m) (grownCap w (sLen+m) sCap e)) (w.drew.alloc (.cells (olds++news++Builtin.zeroCells z.cells (grownCap w (sLen+m) sCap e-(sLen+m))) e)):=by
 have hsize:(sizeOf e).run P w=.ok i.size w:=by unfold sizeOf typeInfo;simp [hi]
 have hn:¬ (sLen+m≤sCap):=by omega
 have h63':¬ (9223372036854775807<((sLen:Int)+(m:Int))):=by omega
 have h48':¬ (281474976710656<Builtin.nextslicecap (sLen+m) sCap*i.bytes):=by
  have:=growslice_fits (bytes:=i.bytes) hg hb;omega
 rcases appArg hu with ⟨e',hd⟩ | hd<;>simp [Builtin.append_,run_underlying ht,run_underlying hd,sizeOf,hlen,hn,h63',h48',Question.forced,typeInfo,zeroValue,hi,hz,holds,hnews,newRow,grownCap]
section
variable {CR:Nat→RC→Code→Prop} {G:Gh} {w0 w:World} {st:St}
def Gh.dr (G:Gh) (r:Nat) (arr:Array Value) (lo hi:Nat):Gh:={ G with ro:=fun r' i=>if r'=r∧lo≤i∧i<hi then arr[i]? else G.ro r' i }
theorem Gh.lK (G:Gh) (r:Nat) (arr:Array Value) (lo hi:Nat) (hn:∀ i,lo≤i→i<hi→G.ro r i=none) (hr:G.floor≤r):G.le (G.dr r arr lo hi):=by
 refine ⟨⟨fun r' i v hv => ?_,fun _ _ x=>x,fun _ _ _ x=>x,fun _ _ _=>rfl⟩,fun _ x=>x,fun _ x=>x,rfl,fun r' i hv => ?_,rfl,rfl,rfl⟩
 · simp only [Gh.dr]
   rw [if_neg]
   · exact hv
   · rintro ⟨rfl,h1,h2⟩
     rw [hn i h1 h2] at hv;cases hv
 · simp only [Gh.dr]
   rw [if_neg]
   rintro ⟨rfl,_⟩
   omega
theorem Sim.dr (h:Sim fm CR G w0 st w) {r:Nat} {arr:Array Value} {ty:TypeId} {fz:Nat×Nat} (lo hi:Nat) (hn:∀ i,lo≤i→i<hi→G.ro r i=none) (hr:G.floor≤r) (hrow:w.heap[r]? = some (.cells arr ty fz))
 (hobj:∀ b o,st.heap[b]? = some o→o.cf=false→G.mu b≠some r)
 (htok:∀ u x y,st.aQ[u]? = some x→G.bw u x=some y→y.1=r→hi≤y.2.1*y.2.2.2):Sim fm CR (G.dr r arr lo hi) w0 st w:=by
 have hle:=(Gh.lK G r arr lo hi hn hr).toSub
 refine { bS:=h.bS,bN:=h.bN,obj:=?_,ro:=?_,dp:=?_,tok:=?_,bz:=h.bz,bw:=h.bw,dfr:=h.dfr,lps:=h.lps,aE:=h.aE,below:=h.below,base:=h.base,aU:=h.aU,bB:=h.bB,bm:=h.bm,env:=h.env }
 · intro b o ho hg hpd
   obtain ⟨r',ob,h1,h2,h3,h4⟩:=h.obj b o ho hg hpd
   exact ⟨r',ob,h1,h2,h3.sub hle h1,h4⟩
 · intro r' i v hv
   simp only [Gh.dr] at hv
   split at hv
   · rename_i e1
     obtain ⟨rfl,_,_⟩:=e1
     exact ⟨arr,ty,fz,hrow,hv⟩
   · exact h.ro r' i v hv
 · intro r' i v b o hv ho hg hm
   simp only [Gh.dr] at hv
   split at hv
   · rename_i e1
     obtain ⟨rfl,_,_⟩:=e1
     exact hobj b o ho hg hm
   · exact h.dp r' i v b o hv ho hg hm
 · intro u x hu
   obtain ⟨r',len,cap,n,cs,ty',h1,h2,h3,h4,h5,h6,h7,h8⟩:=h.tok u x hu
   refine ⟨r',len,cap,n,cs,ty',h1,h2,h3,h4,h5,fun i hi' => ?_,h7,h8⟩
   simp only [Gh.dr]
   rw [if_neg]
   · exact h6 i hi'
   · rintro ⟨rfl,e1,e2⟩
     have:=htok u x _ hu h1 rfl
     simp only at this
     omega
theorem Sim.yK (h:Sim fm CR G w0 st w) {r:Nat} {cs cs':Array Value} {ty:TypeId} {fz:Nat×Nat} (hrow:w.heap[r]? = some (.cells cs ty fz)) (hr:G.floor≤r)
 (hobj:∀ b o,st.heap[b]? = some o→o.cf=false→G.mu b≠some r) (hsz:cs'.size=cs.size) (hsame:∀ i v,G.ro r i=some v→cs'[i]? = cs[i]?):Sim fm CR G w0 st (w.putObj r (.cells cs' ty fz)):=by
 have hlt:=get?_lt hrow
 have hp:=fun k=>eJ w r k (.cells cs' ty fz) hlt
 refine { bS:=h.bS,bN:=h.bN,obj:=?_,ro:=?_,dp:=h.dp,tok:=?_,bz:=h.bz,bw:=h.bw,dfr:=?_,lps:=?_,aE:=?_,below:=?_,base:=h.base,aU:=h.aU,bB:=h.bB,bm:=h.bm,env:=h.env }
 · intro b o ho hg hpd
   obtain ⟨r',ob,h1,h2,h3,h4⟩:=h.obj b o ho hg hpd
   refine ⟨r',ob,h1,?_,h3,h4⟩
   rw [hp,if_neg]
   · exact h2
   · rintro rfl;exact hobj b o ho hg h1
 · intro r' i v hv
   obtain ⟨c,t,f,g1,g2⟩:=h.ro r' i v hv
   by_cases e:r'=r
   · subst e
     rw [hrow] at g1;cases g1
     exact ⟨cs',ty,fz,by rw [hp];simp,by rw [hsame i v hv];exact g2⟩
   · exact ⟨c,t,f,by rw [hp,if_neg e];exact g1,g2⟩
 · intro u x hu
   obtain ⟨r',len,cap,n,c,t,h1,h2,h3,h4,h5,h6,h7,h8⟩:=h.tok u x hu
   by_cases e:r'=r
   · subst e
     rw [hrow] at h4;cases h4
     exact ⟨r',len,cap,n,cs',ty,h1,h2,h3,by rw [hp];simp,by rw [hsz];exact h5,h6,h7,h8⟩
   · exact ⟨r',len,cap,n,c,t,h1,h2,h3,by rw [hp,if_neg e];exact h4,h5,h6,h7,h8⟩
 · intro r' hd
   have:=h.dfr r' hd
   rw [hp,if_neg]
   · exact this
   · rintro rfl;rw [hrow] at this;cases this
 · intro r' hd
   obtain ⟨l,hl⟩:=h.lps r' hd
   refine ⟨l,?_⟩
   rw [hp,if_neg]
   · exact hl
   · rintro rfl;rw [hrow] at hl;cases hl
 · simpa [World.putObj] using h.aE
 · exact h.below.trans (jQ _ _ _ hr)
theorem Sim.C7 (h:Sim fm CR G w0 st w) (b:Nat) (hnp:G.bm b=none):Sim fm CR G w0 { st with heap:=st.heap.set b .gone } w:=by
 have old:∀ k o,(st.heap.set b .gone)[k]? = some o→o.cf=false→k≠b∧st.heap[k]? = some o:=by
  intro k o hk hg
  rcases getElem?_set_cases _ _ _ _ _ hk with ⟨rfl,rfl,_⟩ | h
  · cases hg
  · exact h
 refine { bS:=?_,bN:=?_,obj:=?_,ro:=h.ro,dp:=?_,tok:=?_,bz:=h.bz,bw:=h.bw,dfr:=h.dfr,lps:=h.lps,aE:=h.aE,below:=h.below,base:=h.base,aU:=h.aU,bB:=by simpa using h.bB,bm:=?_,env:=h.env }
 · intro k x hk;simpa using h.bS k x hk
 · intro k k' x x' y hk hk' gx gx'
   exact h.bN k k' x x' y (old k x hk gx).2 (old k' x' hk' gx').2 gx gx'
 · intro k o hk hg hpd;exact h.obj k o (old k o hk hg).2 hg hpd
 · intro r i v k o hv hk hg;exact h.dp r i v k o hv (old k o hk hg).2 hg
 · intro u x hu
   obtain ⟨r',len,cap,n,c,t,h1,h2,h3,h4,h5,h6,h7,h8⟩:=h.tok u x hu
   exact ⟨r',len,cap,n,c,t,h1,h2,h3,h4,h5,h6,fun k o hk hg=>h7 k o (old k o hk hg).2 hg,h8⟩
 · intro k o hk
   obtain ⟨p1,p2⟩:=h.bm k o hk
   have:b≠k:=by rintro rfl;rw [hnp] at hk;cases hk
   exact ⟨by rw [List.getElem?_set_ne this];exact p1,p2⟩
theorem Sim.Ni (h:Sim fm CR G w0 st w) {r:Nat} {o:HO} {ob:Obj} (size:Nat) (hrow:w.heap[r]? = some ob) (hr0:G.floor≤r) (hobj:∀ b o,st.heap[b]? = some o→o.cf=false→G.mu b≠some r)
 (hro:∀ i,G.ro r i=none) (htok:∀ u x y,st.aQ[u]? = some x→G.bw u x=some y→y.1≠r)
 (hr:cQ fm CR (G.push st.heap.length r size) st.heap.length o ob) (hg:o.cf=false):Sim fm CR (G.push st.heap.length r size) w0 (st.push o) w:=by
 have hn:=h.bO
 have hle:G.le (G.push st.heap.length r size):=Gh.bx hn
 have muOld:∀ k,k<st.heap.length→(G.push st.heap.length r size).mu k=G.mu k:=fun k hk=>by simp [Gh.push,Nat.ne_of_lt hk]
 have ee:(G.push st.heap.length r size).mu st.heap.length=some r:=by simp [Gh.push]
 refine { bS:=?_,bN:=?_,obj:=?_,ro:=h.ro,dp:=?_,tok:=?_,bz:=h.bz,bw:=h.bw,dfr:=h.dfr,lps:=h.lps,aE:=h.aE,below:=h.below,base:=h.base,aU:=h.aU,bB:=by have:=h.bB;simp only [St.push,List.length_append];omega,bm:=?_,env:=h.env }
 · intro k x hk
   simp only [St.push,List.length_append,List.length_cons,List.length_nil]
   by_cases e:k=st.heap.length
   · omega
   · have:G.mu k=some x:=by simpa [Gh.push,e] using hk
     have:=h.bS _ _ this;omega
 · intro k k' x x' y hk hk' gx gx' mk mk'
   rcases getElem?_push_cases _ _ _ _ hk with ⟨rfl,rfl⟩ | ⟨e,hk1⟩<;>rcases getElem?_push_cases _ _ _ _ hk' with ⟨rfl,rfl⟩ | ⟨e',hk1'⟩
   · rfl
   · rw [ee] at mk;rw [muOld _ e'] at mk';cases mk
     exact absurd mk' (hobj _ _ hk1' gx')
   · rw [ee] at mk';rw [muOld _ e] at mk;cases mk'
     exact absurd mk (hobj _ _ hk1 gx)
   · rw [muOld _ e] at mk;rw [muOld _ e'] at mk'
     exact h.bN _ _ _ _ _ hk1 hk1' gx gx' mk mk'
 · intro k x hk gx hpd
   rcases getElem?_push_cases _ _ _ _ hk with ⟨rfl,rfl⟩ | ⟨e,hk⟩
   · exact ⟨_,_,ee,hrow,hr,fun _=>hr0⟩
   · obtain ⟨r2,ob2,m2,g2,o2,f2⟩:=h.obj _ _ hk gx hpd
     exact ⟨r2,ob2,by rw [muOld _ e];exact m2,g2,o2.le hle m2,f2⟩
 · intro r' i v k x hv hk gx mk
   rcases getElem?_push_cases _ _ _ _ hk with ⟨rfl,rfl⟩ | ⟨e,hk⟩
   · rw [ee] at mk;cases mk
     have:G.ro r i=some v:=hv
     rw [hro i] at this;cases this
   · rw [muOld _ e] at mk;exact h.dp _ _ _ _ _ hv hk gx mk
 · intro t s ht
   obtain ⟨r2,len,cap,n,cs,ty,a1,a2,a3,a4,a5,a6,a7,a8⟩:=h.tok t s ht
   refine ⟨r2,len,cap,n,cs,ty,a1,a2,a3,a4,a5,a6,?_,a8⟩
   intro k x hk gx
   rcases getElem?_push_cases _ _ _ _ hk with ⟨rfl,rfl⟩ | ⟨e,hk⟩
   · rw [ee];intro e;cases e;exact htok t s _ ht a1 rfl
   · rw [muOld _ e];exact a7 _ _ hk gx
 · intro k x hk
   obtain ⟨p1,p2⟩:=h.bm k x hk
   have hlt:=(List.getElem?_eq_some_iff.1 p1).1
   exact ⟨by simp only [St.push];rw [List.getElem?_append_left hlt];exact p1,(muOld k hlt).trans p2⟩
end
end Go.D
end
section
namespace Go.D
open Go.RowKit
variable {P:Program} {fm:FM}
section
variable {CR:Nat→RC→Code→Prop} {G:Gh} {w0 w:World} {st:St}
theorem CS (hs:Sim fm CR G w0 st w) {t s n len cap:Nat} {aQ:List Nat} {arr:Array Value} {e:TypeId}
 (hold:∀ s',st.aQ[t]? = some s'→s'<s) (hnew:aQ[t]? = some s) (hoth:∀ u x,u≠t→(aQ[u]? = some x↔st.aQ[u]? = some x))
 (hn:0<n) (hlc:len≤cap) (hsz:arr.size=cap*n) :
 ∃ G',G.le G'∧Sim fm CR G' w0 { st with aQ:=aQ } (w.drew.alloc (.cells arr e))∧(∀ i,i<len*n→G'.ro w.heap.size i=some (arr.getD i undef))∧G'.bw t s=some (w.heap.size,len,cap,n):=by
 have h1:=hs.drew.alloc (.cells arr e)
 have hrow:(w.drew.alloc (.cells arr e)).heap[w.heap.size]? = some (.cells arr e (0,0)):=World.alloc_heap_new w.drew _
 have h2:=h1.zj (t:=t) (s:=s) (r:=w.heap.size) (len:=len) (cap:=cap) (n:=n) (aQ:=aQ) (cs:=arr) (ty:=e) hold hnew hoth hn hlc hrow hsz (fun i _=>hs.DP i) hs.ee (fun _=>hs.aE) (fun u x y _ hx hy=>hs.zA u x y hx hy)
 have hro:∀ i,0≤i→i<len*n→(G.dB t s w.heap.size len cap n).ro w.heap.size i=none:=fun i _ _=>hs.DP i
 have h3:=h2.dr 0 (len*n) hro hs.aE hrow hs.ee (fun u x y hu hy hr=>by
  by_cases e:u=t
  · subst e
    have hu':aQ[u]? = some x:=hu
    rw [hnew] at hu';cases hu'
    have:y=(w.heap.size,len,cap,n):=by simpa [Gh.dB] using hy.symm
    subst this;exact Nat.le_refl _
  · have hy':G.bw u x=some y:=by
     simp only [Gh.dB] at hy
     rwa [if_neg (fun h=>e h.1)] at hy
    exact absurd hr (hs.zA u x y ((hoth u x e).1 hu) hy'))
 refine ⟨_,(Gh.kU hs hold _ _ _ _).trans (Gh.lK _ _ _ _ _ hro hs.aE),h3,fun i hi => ?_,by simp [Gh.dr,Gh.dB]⟩
 have hlt:i<arr.size:=by rw [hsz];exact Nat.lt_of_lt_of_le hi (Nat.mul_le_mul_right _ hlc)
 simp [Gh.dr,hi,hlt,Array.getD]
theorem wX (hs:Sim fm CR G w0 st w) {t s n r len cap m:Nat} {N:List Value} (ht:st.aQ[t]? = some s) (htb:st.aU≤t) (hh:G.bw t s=some (r,len,cap,n)) (hfit:len+m≤cap) (hN:N.length=m*n) (h1:∀ u∈N,u.oneCell'=true) :
 ∃ G' w',(storeCells ⟨r,len*n,none⟩ N).run P w=.ok () w'∧G.le G'∧Sim fm CR G' w0 { st with aQ:=st.aQ.set t (s+1) } w'∧(∀ i,i<m*n→G'.ro r (len*n+i)=some (N.getD i undef))∧G'.bw t (s+1)=some (r,len+m,cap,n):=by
 obtain ⟨r',len',cap',n',cs,ty,a1,a2,a3,a4,a5,a6,a7,a8⟩:=hs.tok t s ht
 rw [hh] at a1;cases a1
 have hfl:=a8 htb
 have hmul:len*n+m*n≤cs.size:=by rw [a5,← Nat.add_mul];exact Nat.mul_le_mul_right _ hfit
 have hst:=dg (P:=P) (off:=len*n) N 0 cs w a4 (by omega) (fun i hi=>by simp) h1
 rw [Nat.add_zero,fP a4] at hst
 have hssz:=fe (cur:=cs) (k:=len*n) (vs:=N) (by omega)
 have hget:∀ i,i<len*n→(aO cs (len*n) N)[i]? = cs[i]?:=by
  intro i hi
  unfold aO
  rw [List.getElem?_toArray,List.append_assoc,List.getElem?_append_left (by simp;omega),List.getElem?_take]
  simp [hi]
 have h2:=hs.yK (cs':=aO cs (len*n) N) a4 hfl a7 hssz (fun i v hv=>by
  apply hget
  rcases Nat.lt_or_ge i (len*n) with h | h
  · exact h
  · rw [a6 i h] at hv;cases hv)
 have hrow:(w.putObj r (.cells (aO cs (len*n) N) ty (0,0))).heap[r]? = some (.cells (aO cs (len*n) N) ty (0,0)):=by rw [eJ w r r _ (get?_lt a4)];simp
 have hlt:t<st.aQ.length:=(List.getElem?_eq_some_iff.1 ht).1
 have hoth:∀ u x,u≠t→((st.aQ.set t (s+1))[u]? = some x↔st.aQ[u]? = some x):=fun u x hu=>by rw [List.getElem?_set_ne (fun e=>hu e.symm)]
 have hold:∀ s',st.aQ[t]? = some s'→s'<s+1:=fun s' h=>by rw [ht] at h;cases h;omega
 have hdis:∀ u x y,u≠t→st.aQ[u]? = some x→G.bw u x=some y→y.1≠r:=fun u x y hu hx hy e=>hu (hs.bz u t x s y _ hx ht hy hh e)
 have hrange:∀ i,(len+m)*n≤i→len*n≤i:=fun i hi=>by rw [Nat.add_mul] at hi;omega
 have h3:=h2.zj (t:=t) (s:=s+1) (r:=r) (len:=len+m) (cap:=cap) (n:=n) (aQ:=st.aQ.set t (s+1)) (cs:=aO cs (len*n) N) (ty:=ty)
  hold (by simp [hlt]) hoth a2 hfit hrow (by rw [hssz,a5]) (fun i hi=>a6 i (hrange i hi)) a7 a8 hdis
 have hro:∀ i,len*n≤i→i<(len+m)*n→(G.dB t (s+1) r (len+m) cap n).ro r i=none:=fun i hi _=>a6 i hi
 have h4:=h3.dr (len*n) ((len+m)*n) hro hfl hrow a7 (fun u x y hu hy hr=>by
  by_cases e:u=t
  · subst e
    have hu':(st.aQ.set u (s+1))[u]? = some x:=hu
    simp only [List.getElem?_set_self hlt,Option.some.injEq] at hu'
    subst hu'
    have:y=(r,len+m,cap,n):=by simpa [Gh.dB] using hy.symm
    subst this;exact Nat.le_refl _
  · have hy':G.bw u x=some y:=by
     simp only [Gh.dB] at hy
     rwa [if_neg (fun h=>e h.1)] at hy
    exact absurd hr (hdis u x y e ((hoth u x e).1 hu) hy'))
 refine ⟨_,_,hst,(Gh.kU hs hold _ _ _ _).trans (Gh.lK _ _ _ _ _ hro hfl),h4,fun i hi => ?_,by simp [Gh.dr,Gh.dB]⟩
 have e1:len*n+i<(len+m)*n:=by rw [Nat.add_mul];omega
 have e2:(aO cs (len*n) N)[len*n+i]? = some (N.getD i undef):=by
  unfold aO
  have hiN:i<N.length:=by omega
  rw [List.getElem?_toArray,List.append_assoc,List.getElem?_append_right (by simp;omega)]
  have e3:len*n+i-(cs.toList.take (len*n)).length=i:=by simp;omega
  rw [e3,List.getElem?_append_left hiN,List.getD_eq_getElem?_getD,List.getElem?_eq_getElem hiN]
  rfl
 simp [Gh.dr,e1,e2]
end
theorem gN {G:Gh} {olds news:List DV} {O N Z:Array Value} (hO:O.size=olds.length) (hN:N.size=news.length) (rO:∀ i (h:i<olds.length),Rel fm G (olds[i]) (O.getD i undef)) (rN:∀ i (h:i<news.length),Rel fm G (news[i]) (N.getD i undef)) :
 ∀ i (h:i<(olds++news).length),Rel fm G ((olds++news)[i]) ((O++N++Z).getD i undef):=by
 intro i h
 have hi:i<olds.length+news.length:=by simpa using h
 have e0:(O++N++Z).getD i undef=(O++N).getD i undef:=by
  rw [Array.getD_eq_getD_getElem?,Array.getD_eq_getD_getElem?,Array.getElem?_append_left (by simp;omega)]
 rw [e0]
 by_cases e:i<olds.length
 · rw [List.getElem_append_left e]
   have:(O++N).getD i undef=O.getD i undef:=by
    rw [Array.getD_eq_getD_getElem?,Array.getD_eq_getD_getElem?,Array.getElem?_append_left (by omega)]
   rw [this];exact rO i e
 · rw [List.getElem_append_right (by omega)]
   have:(O++N).getD i undef=N.getD (i-olds.length) undef:=by
    rw [Array.getD_eq_getD_getElem?,Array.getD_eq_getD_getElem?,Array.getElem?_append_right (by omega),hO]
   rw [this];exact rN _ (by omega)
theorem kH (news:List DV) (i:Nat) (h:i<(news.map DV.aP).length):(news.map DV.aP)[i]=(news[i]'(by simpa using h)).aP:=by simp
end Go.D
end
section
namespace Go.D
open Go.RowKit
variable {P:Program} {fm:FM}
theorem p6 {G:Gh} {tag n r len cap:Nat} {tk:Tk} {ys:List DV} (f:Nat→Value) (hlen:ys.length=len) (hn:∀ y∈ys,y.leaves.length=n) (hp:(flat ys).all DV.pure=true) (hr:∀ i,i<len*n→G.ro r i=some (f i))
 (hc:∀ i (h:i<(flat ys).length),Rel fm G ((flat ys)[i]) (f i)) (hk:CQ G n tk r 0 len cap) (hl:len≤cap):Rel fm G (.list tag n tk true ys) (.slice (some ⟨r,0,none⟩) len cap):=by
 subst hlen
 refine .list tag n tk ys r 0 cap f (fun i hi => ?_) hc hp hk hl hn
 rw [Nat.zero_add]
 exact hr i (by rw [← eO ys n hn];exact hi)
theorem mA {G:Gh} {news:List DV} {N:Array Value} (hN:N.size=news.length) (rN:∀ i (h:i<news.length),Rel fm G (news[i]) (N.getD i undef)) (hsc:news.all DV.bg=true):∀ u∈N.toList,u.oneCell'=true:=by
 intro u hu
 obtain ⟨j,hj,rfl⟩:=List.getElem_of_mem hu
 have hj':j<news.length:=by rw [← hN];simpa using hj
 have h1:=rN j hj'
 rw [← aJ,List.getD_eq_getElem?_getD,List.getElem?_eq_getElem hj] at h1
 exact qe h1 (List.all_eq_true.1 hsc _ (List.getElem_mem hj'))
theorem mB {t u e:TypeId} {n bytes:Nat} {ag:Bool} {zs:List DV} {i:TypeInfo} {x y:X} {xo yo:Operand} {o:Oper} (ho:builtinCall .append [xo,yo] [t,u] o.op) (ht:P.underlying t=some (.slice e)) (hu:ef P u=true)
 (hi:P.info? e=some i) (hn:i.size=n) (hby:i.bytes=bytes) (hz:aY P e=some zs) (hzl:zs.length=n) (hag:ag=true∨n=1) (hx:a9 fm x xo) (hy:a9 fm y yo):aq P fm (.append n ag bytes x y) o:=by
 intro CR G w0 st w fr a v st' hs hf hrun
 simp only [al,bt] at hrun
 have hxv:=hx.ev (a:=a) hf
 have hyv:=hy.ev (a:=a) hf
 split at hrun
 · cases hrun
 rename_i m news hnews
 have hnr:=cW (P:=P) hs hyv hnews
 generalize hx0:a.eval xo=x0 at hxv
 generalize hy0:a.eval yo=y0 at hyv hnr
 obtain ⟨N,n1,n2,n3⟩:=hnr.cells m w (Nat.le_refl _) (Below.refl _ w)
 obtain ⟨N',d1,d2,d3⟩:=hnr.cells m w.drew (Nat.le_refl _) ((Below.refl _ w).drew)
 have hnl:=hnr.length
 obtain ⟨i',z,hi',hzz,hcc⟩:=bh hz
 rw [hi] at hi';cases hi'
 obtain ⟨zl,zr⟩:=bI (fm:=fm) hcc
 have hzsz:z.cells.size=n:=by rw [← hzl,← zl];simp
 have fin:∀ (r:Value) (w':World),(Builtin.append_ #[t,u] o.type #[x0,y0]).run P w=.ok r w'→(execOp a.eval o).run P w=.ok (.value r) w':=by
  intro r w' h
  obtain ⟨consts,he⟩:=bp ho a.eval
  rw [he]
  simp only [List.map_cons,List.map_nil,hx0,hy0]
  unfold builtin
  exact ae h
 have none0:∀ (p:Option Addr) (l c:Nat),m=0→x0=.slice p l c→l≤c→(Builtin.append_ #[t,u] o.type #[x0,y0]).run P w=.ok x0 w:=by
  intro p l c hm hp hlc
  subst hm
  have hN0:N = #[]:=by simpa using n2
  rw [hp]
  rw [← hn] at n1
  have:=cZ (P:=P) (w:=w) (w':=w) (ty:=o.type) (a:=p) (sLen:=l) (sCap:=c) (m:=0) (x:=y0) (news:=N) ht hi hu hnr.len (by omega) n1 (by subst hN0;cases p<;>rfl)
  simpa using this
 generalize X.ev fr x=xv at hxv hrun
 split at hrun
 ·
  rename_i tag n' tk nn xs
  have hshape:∃ p cap,x0=.slice p xs.length cap∧xs.length≤cap:=by
   cases hxv with
   | gC=>exact ⟨none,0,rfl,Nat.le_refl _⟩
   | list _ _ _ _ r off cap f hr hc hp hk hl hnn=>exact ⟨_,cap,rfl,hl⟩
  obtain ⟨p,cap,hxe,hlc⟩:=hshape
  split at hrun
  · rename_i hm
    simp only [Option.some.injEq,Prod.mk.injEq] at hrun
    obtain ⟨rfl,rfl⟩:=hrun
    exact ⟨G,w,x0,_,fin _ _ (none0 p _ _ hm hxe hlc),.inl rfl,Gh.le.refl G,hs,hxv⟩
  rename_i hm
  split at hrun
  · cases hrun
  rename_i hcond
  simp only [not_or,Bool.not_eq_true,Bool.not_eq_false'] at hcond
  obtain ⟨hn0,hnn',hb1,hb2,hpure⟩:=hcond
  have hpure:(news.map DV.aP).all DV.pure=true:=by simpa using hpure
  have hn0:0<n:=by omega
  have hb1:(xs.length+m)*bytes≤140737488355328:=by simpa [aw] using hb1
  have hb2:xs.length+m≤140737488355328:=by simpa [aw] using hb2
  have hml:(news.map DV.aP).length=m*n:=by simpa using hnl
  have hold:zX P fm G w n xs.length (flat xs) x0∧(∀ y∈xs,y.leaves.length=n)∧(flat xs).all DV.pure=true:=by
   cases hxv with
   | gC=>exact ⟨cW (P:=P) hs (.gC tag n' tk) (by simp [cw,flat]),fun y hy=>by simp at hy,rfl⟩
   | list _ _ _ _ r off cap f hr hc hp hk hl hnn=>
     have:n'=n:=by simpa using hnn'
     subst this
     exact ⟨cW (P:=P) hs (.list tag n' tk xs r off cap f hr hc hp hk hl hnn) (by simp [cw]),hnn,hp⟩
  obtain ⟨hor,hxn,hxp⟩:=hold
  obtain ⟨O,o1,o2,o3⟩:=hor.cells xs.length w.drew (Nat.le_refl _) ((Below.refl _ w).drew)
  have hfx:=eO xs n hxn
  have hfc:=lB n ag hag m (news.map DV.aP) hml hpure
  have hlc':=ju n ag m (news.map DV.aP)
  generalize hys:xs++chunk n ag m (news.map DV.aP)=ys at hrun
  have hyf:flat ys=flat xs++news.map DV.aP:=by rw [← hys,ku,hfc]
  have hyl:ys.length=xs.length+m:=by rw [← hys];simp [hlc']
  have hyn:∀ y∈ys,y.leaves.length=n:=by
   intro y hy
   rw [← hys] at hy
   rcases List.mem_append.1 hy with h | h
   · exact hxn y h
   · exact jO n ag hag m _ hml hpure y h
  have hyp:(flat ys).all DV.pure=true:=by rw [hyf,List.all_append,hxp,hpure];rfl
  have grown:∀ (t0 s0:Nat) (aQ:List Nat),(∀ s',st.aQ[t0]? = some s'→s'<s0)→aQ[t0]? = some s0→(∀ u x,u≠t0→(aQ[u]? = some x↔st.aQ[u]? = some x))→cap<xs.length+m →
   ∃ G' w' x nx,(execOp a.eval o).run P w=.ok nx w'∧x8 nx x∧G.le G'∧Sim fm CR G' w0 { st with aQ:=aQ } w'∧Rel fm G' (.list st.cur n (.own t0 s0) true ys) x:=by
   intro t0 s0 aQ h1 h2 h3 hg
   have hge:=grownCap_ge w (xs.length+m) cap e
   have hd1:=d1
   rw [← hn] at hd1
   have ho1:=o1
   rw [← hn,hxe] at ho1
   have hr:=cd (P:=P) (w:=w) (u:=u) (ty:=o.type) (z:=z) (a:=p) (sLen:=xs.length) (sCap:=cap) (m:=m) (x:=y0) (olds:=O) (news:=N') ht hi hzz hu hnr.len hg (by rw [hby];omega) (by omega) ho1 hd1
   rw [← hxe] at hr
   have hsz:(O++N'++Builtin.zeroCells z.cells (grownCap w (xs.length+m) cap e-(xs.length+m))).size=grownCap w (xs.length+m) cap e*n:=by
    simp only [Array.size_append,o2,d2,size_zeroCells,hzsz,← Nat.add_mul]
    congr 1;omega
   obtain ⟨G',g1,g2,g3,g4⟩:=CS hs (t:=t0) (s:=s0) (n:=n) (len:=xs.length+m) (cap:=grownCap w (xs.length+m) cap e) (aQ:=aQ) (arr:=O++N'++Builtin.zeroCells z.cells (grownCap w (xs.length+m) cap e-(xs.length+m))) (e:=e) h1 h2 h3 hn0 hge hsz
   refine ⟨G',_,_,_,fin _ _ hr,.inl rfl,g1,g2,?_⟩
   refine p6 _ hyl hyn hyp g3 (fun i hi => ?_) ⟨rfl,g4⟩ hge
   have:=gN (fm:=fm) (G:=G') (olds:=flat xs) (news:=news.map DV.aP) (O:=O) (N:=N') (Z:=Builtin.zeroCells z.cells (grownCap w (xs.length+m) cap e-(xs.length+m))) (by rw [o2,hfx]) (by rw [d2,hml])
    (fun i hi=>(o3 i hi (by rw [← hfx];exact hi)).le g1) (fun i hi=>by
     rw [kH]
     have hi':i<news.length:=by simpa using hi
     exact ((d3 i hi' (by omega)).le g1).aP) i (by rw [← hyf];exact hi)
   have e1:(flat ys)[i]=(flat xs++news.map DV.aP)[i]'(by rw [← hyf];exact hi):=by congr 1
   rw [e1]
   exact this
  split at hrun
  ·
   simp only [Option.some.injEq,Prod.mk.injEq] at hrun
   obtain ⟨rfl,rfl⟩:=hrun
   cases hxv
   simp only [Value.slice.injEq] at hxe
   obtain ⟨rfl,_,rfl⟩:=hxe
   exact grown st.aQ.length 0 (st.aQ++[0]) (fun s' h=>by simp at h) (by simp) (fun u x hu=>by
    constructor
    · intro h;rcases get?_append_cases h with h | h;exact h.2;exact absurd h.1 hu
    · intro h;rw [List.getElem?_append_left (List.getElem?_eq_some_iff.1 h).1];exact h) (by simp;omega)
  ·
   simp only [Option.some.injEq,Prod.mk.injEq] at hrun
   obtain ⟨rfl,rfl⟩:=hrun
   have hcap:cap=xs.length:=by
    cases hxv with
    | list _ _ _ _ r off cap' f hr hc hp hk hl hnn=>
      simp only [Value.slice.injEq] at hxe
      rw [← hxe.2.2];exact hk
   exact grown st.aQ.length 0 (st.aQ++[0]) (fun s' h=>by simp at h) (by simp) (fun u x hu=>by
    constructor
    · intro h;rcases get?_append_cases h with h | h;exact h.2;exact absurd h.1 hu
    · intro h;rw [List.getElem?_append_left (List.getElem?_eq_some_iff.1 h).1];exact h) (by omega)
  ·
   rename_i t0 s0
   split at hrun
   · rename_i htok
     obtain ⟨htb,ht0⟩:=htok
     simp only [Option.some.injEq,Prod.mk.injEq] at hrun
     obtain ⟨rfl,rfl⟩:=hrun
     have hlt:t0<st.aQ.length:=(List.getElem?_eq_some_iff.1 ht0).1
     by_cases hg:cap<xs.length+m
     · exact grown t0 (s0+1) (st.aQ.set t0 (s0+1)) (fun s' h=>by rw [ht0] at h;cases h;omega) (by simp [hlt]) (fun u x hu=>by rw [List.getElem?_set_ne (fun e=>hu e.symm)]) hg
     · cases hxv with
       | list _ _ _ _ r off cap' f hr hc hp hk hl hnn=>
         simp only [Value.slice.injEq] at hxe
         obtain ⟨hpe,_,hce⟩:=hxe
         subst hce;subst hpe
         obtain ⟨hoff,hhist⟩:=hk
         subst hoff
         have:n'=n:=by simpa using hnn'
         subst this
         obtain ⟨G',w',g1,g2,g3,g4,g5⟩:=wX (P:=P) hs ht0 htb hhist (m:=m) (N:=N.toList) (by omega) (by simpa using n2) (mA (G:=G) (news:=news) (by rw [n2,hnl]) (fun i hi=>n3 i hi (by omega)) hnr.bg)
         have hn1:=n1
         rw [← hn] at hn1
         have hr':=cZ (P:=P) (w:=w) (w':=w') (ty:=o.type) (a:=some ⟨r,0,none⟩) (sLen:=xs.length) (sCap:=cap') (m:=m) (x:=y0) (news:=N) ht hi hu hnr.len (by omega) hn1 (by
          show (storeCells ((⟨r,0,none⟩:Addr).add (xs.length*i.size)) N.toList).run P w=.ok () w'
          rw [Addr.add_lit,Nat.zero_add,hn];exact g1)
         refine ⟨G',w',_,_,fin _ _ hr',.inl rfl,g2,g3,?_⟩
         refine p6 (fun j=>if j<xs.length*n' then f j else N.getD (j-xs.length*n') undef) hyl hyn hyp (fun j hj => ?_) (fun j hj => ?_) ⟨rfl,g5⟩ (by omega)
         · by_cases ej:j<xs.length*n'
           · rw [if_pos ej]
             have:=hr j (by rw [hfx];exact ej)
             rw [Nat.zero_add] at this
             exact g2.toSub.ro _ _ _ this
           · rw [if_neg ej]
             have:=g4 (j-xs.length*n') (by rw [Nat.add_mul] at hj;omega)
             have e2:xs.length*n'+(j-xs.length*n')=j:=by omega
             rw [e2,aJ] at this
             exact this
         · have hj':j<(flat xs++news.map DV.aP).length:=by rw [← hyf];exact hj
           have e1:(flat ys)[j]=(flat xs++news.map DV.aP)[j]'hj':=by congr 1
           rw [e1]
           by_cases ej:j<xs.length*n'
           · rw [if_pos ej,List.getElem_append_left (by rw [hfx];exact ej)]
             exact (hc j _).le g2
           · rw [if_neg ej,List.getElem_append_right (by rw [hfx];omega),kH]
             have hj2:j-(flat xs).length<news.length:=by
              simp only [List.length_append,List.length_map] at hj';omega
             have ek:j-xs.length*n'=j-(flat xs).length:=by rw [hfx]
             rw [ek]
             exact ((n3 (j-(flat xs).length) hj2 (by omega)).le g2).aP
   · cases hrun
  · cases hrun
 ·
  rename_i n' ag' b off len capx
  cases hxv with
  | hsl _ _ _ _ _ _ r c hmu hcap=>
  have hlc:len≤c:=by
   cases capx with
   | none=>exact hcap.1
   | some k=>have:=hcap.2;rw [hcap.1];exact this
  split at hrun
  · rename_i hm
    simp only [Option.some.injEq,Prod.mk.injEq] at hrun
    obtain ⟨rfl,rfl⟩:=hrun
    exact ⟨G,w,_,_,fin _ _ (none0 _ _ _ hm rfl hlc),.inl rfl,Gh.le.refl G,hs,.hsl _ _ _ _ _ _ _ _ hmu hcap⟩
  rename_i hm
  split at hrun
  · rename_i hcond
    obtain ⟨rfl,hn0,hb1,hb2⟩:=hcond
    have hb1:(len+m)*bytes≤140737488355328:=by simpa [aw] using hb1
    have hb2:len+m≤140737488355328:=by simpa [aw] using hb2
    split at hrun
    · rename_i cap0
      split at hrun
      · rename_i hcond2
        obtain ⟨rfl,hbase⟩:=hcond2
        split at hrun
        · rename_i vs hcell
          split at hrun
          · rename_i hvl
            simp only [Option.some.injEq,Prod.mk.injEq] at hrun
            obtain ⟨rfl,rfl⟩:=hrun
            have hbo:st.heap[b]? = some (.cells .grown vs):=by
             unfold St.cells at hcell
             split at hcell
             · rename_i g' vs' e;simp only [Option.some.injEq,Prod.mk.injEq] at hcell;obtain ⟨rfl,rfl⟩:=hcell;exact e
             · cases hcell
            obtain ⟨r',ob,q1,q2,q3,q4⟩:=hs.obj b _ hbo rfl (hs.np hmu)
            rw [hmu] at q1;cases q1
            obtain ⟨cs,ty,fz,rfl,k1,k2,k3,k4,k5⟩:=q3
            have hro:∀ i,G.ro r i=none:=by
             intro i
             cases er:G.ro r i with
             | none=>rfl
             | some v=>exact absurd hmu (fun h=>hs.dp r i v b _ er hbo rfl h)
            have htk:∀ u x y,st.aQ[u]? = some x→G.bw u x=some y→y.1≠r:=by
             intro u x y hu hy e
             obtain ⟨r',len',cap',n'',cs',ty',h1,h2,h3,h4,h5,h6,h7,h8⟩:=hs.tok u x hu
             rw [hy] at h1;cases h1
             simp only at e
             subst e
             exact h7 b _ hbo rfl hmu
            have hgone:=hs.C7 b (hs.np hmu)
            have hfree:∀ b' o,(st.heap.set b .gone)[b']? = some o→o.cf=false→G.mu b'≠some r:=by
             intro b' o hb' hg e
             rcases getElem?_set_cases _ _ _ _ _ hb' with ⟨rfl,rfl,_⟩ | ⟨e1,e2⟩
             · cases hg
             · exact e1 (hs.bN _ _ _ _ _ e2 hbo hg rfl e hmu)
            have hset:(st.heap.set b .gone).length=st.heap.length:=by simp
            have hscal:(vs++news).all DV.bg=true:=by rw [List.all_append,k5,hnr.bg];rfl
            have hcapo:=hcap.2
            by_cases hg:c<len+m
            ·
             have hge:=grownCap_ge w (len+m) c e
             have hor:=cW (P:=P) (n:=n') (m:=len) (news:=(vs.drop 0).take (len*n')) hs (.hsl n' ag' b 0 len none r c hmu hcap) (by
              simp only [cw,if_true,St.cells,hbo]
              rw [if_pos (by omega)])
             obtain ⟨O,o1,o2,o3⟩:=hor.cells len w.drew (Nat.le_refl _) ((Below.refl _ w).drew)
             have hvs:(vs.drop 0).take (len*n')=vs:=by rw [List.drop_zero,List.take_of_length_le (by omega)]
             rw [hvs] at o3
             have hd1:=d1
             rw [← hn] at hd1 o1
             have hr:=cd (P:=P) (w:=w) (u:=u) (ty:=o.type) (z:=z) (a:=some ⟨r,0,none⟩) (sLen:=len) (sCap:=c) (m:=m) (x:=y0) (olds:=O) (news:=N') ht hi hzz hu hnr.len hg (by rw [hby];omega) (by omega) o1 hd1
             generalize harr:O++N'++Builtin.zeroCells z.cells (grownCap w (len+m) c e-(len+m))=arr at hr
             have hsz:arr.size=grownCap w (len+m) c e*n':=by
              rw [← harr]
              simp only [Array.size_append,o2,d2,size_zeroCells,hzsz,← Nat.add_mul]
              congr 1;omega
             have hpush:=hgone.drew.push (o:=.cells .grown (vs++news)) (ob:=.cells arr e) (grownCap w (len+m) c e*n') ⟨arr,e,(0,0),rfl,by
              rw [hsz,List.length_append,← hvl,hnl,← Nat.add_mul];exact Nat.mul_le_mul_right _ hge,by simp [Gh.push,hsz],fun i hi=>by
               have:=gN (fm:=fm) (G:=G) (olds:=vs) (news:=news) (O:=O) (N:=N') (Z:=Builtin.zeroCells z.cells (grownCap w (len+m) c e-(len+m))) (by rw [o2,hvl]) (by rw [d2,hnl])
                (fun i hi=>o3 i hi (by rw [hvl];exact hi)) (fun i hi=>d3 i hi (by omega)) i hi
               rw [harr] at this
               refine this.le ?_
               have:=hgone.bO
               exact Gh.bx this,fun i hi=>by simp,hscal⟩ rfl
             have hle:G.le (G.push (st.heap.set b .gone).length w.heap.size (grownCap w (len+m) c e*n')):=Gh.bx hgone.bO
             refine ⟨_,_,_,_,fin _ _ hr,.inl rfl,hle,hpush,?_⟩
             rw [← hset]
             exact .hsl _ _ _ _ _ _ _ _ (by simp [Gh.push]) ⟨hge,by simp [Gh.push]⟩
            ·
             have hcn:c*n'≤cs.size:=by rw [k2];omega
             have hmul:len*n'+m*n'≤cs.size:=by
              rw [← Nat.add_mul];exact Nat.le_trans (Nat.mul_le_mul_right _ (by omega)) hcn
             have hNl:N.toList.length=m*n':=by simpa using n2
             have hst:=dg (P:=P) (off:=len*n') N.toList 0 cs w q2 (by omega) k4 (mA (G:=G) (news:=news) (by rw [n2,hnl]) (fun i hi=>n3 i hi (by omega)) hnr.bg)
             rw [Nat.add_zero,fP q2] at hst
             have hssz:=fe (cur:=cs) (k:=len*n') (vs:=N.toList) (by omega)
             have hput:=hgone.yK (cs':=aO cs (len*n') N.toList) q2 (q4 hbase) hfree hssz (fun i v hv=>by rw [hro i] at hv;cases hv)
             have hrow:(w.putObj r (.cells (aO cs (len*n') N.toList) ty fz)).heap[r]? = some (.cells (aO cs (len*n') N.toList) ty fz):=by rw [eJ w r r _ (get?_lt q2)];simp
             have hlow:∀ i,i<vs.length→(aO cs (len*n') N.toList).getD i undef=cs.getD i undef:=by
              intro i hi
              unfold aO
              rw [Array.getD_eq_getD_getElem?,Array.getD_eq_getD_getElem?,List.getElem?_toArray,List.append_assoc,List.getElem?_append_left (by simp;omega),List.getElem?_take,if_pos (by omega)]
              simp
             have hhigh:∀ i,i<news.length→(aO cs (len*n') N.toList).getD (vs.length+i) undef=N.getD i undef:=by
              intro i hi
              unfold aO
              have hiN:i<N.toList.length:=by omega
              have e3:vs.length+i-(cs.toList.take (len*n')).length=i:=by simp;omega
              rw [Array.getD_eq_getD_getElem?,List.getElem?_toArray,List.append_assoc,List.getElem?_append_right (by simp;omega),e3,List.getElem?_append_left hiN,← aJ,List.getD_eq_getElem?_getD]
             have hle:G.le (G.push (st.heap.set b .gone).length r cs.size):=Gh.bx hgone.bO
             have hadopt:=hput.Ni (o:=.cells .grown (vs++news)) cs.size hrow (q4 hbase) hfree hro htk ⟨_,ty,fz,rfl,by
              rw [hssz,List.length_append,← hvl,hnl];exact hmul,by simp [Gh.push,hssz],fun i hi=>by
               by_cases ei:i<vs.length
               · rw [List.getElem_append_left ei,hlow i ei]
                 exact (k3 i ei).le hle
               · have hi2:i-vs.length<news.length:=by simp only [List.length_append] at hi;omega
                 rw [List.getElem_append_right (by omega)]
                 have e4:vs.length+(i-vs.length)=i:=by omega
                 have:=hhigh (i-vs.length) hi2
                 rw [e4] at this
                 rw [this]
                 exact (n3 _ hi2 (by omega)).le hle,by rw [hssz];exact k4,hscal⟩ rfl
             have hn1:=n1
             rw [← hn] at hn1
             have hr':=cZ (P:=P) (w:=w) (w':=w.putObj r (.cells (aO cs (len*n') N.toList) ty fz)) (ty:=o.type) (a:=some ⟨r,0,none⟩) (sLen:=len) (sCap:=c) (m:=m) (x:=y0) (news:=N) ht hi hu hnr.len (by omega) hn1 (by
              show (storeCells ((⟨r,0,none⟩:Addr).add (len*i.size)) N.toList).run P w=_
              rw [Addr.add_lit,Nat.zero_add,hn];exact hst)
             refine ⟨_,_,_,_,fin _ _ hr',.inl rfl,hle,hadopt,?_⟩
             rw [← hset]
             exact .hsl _ _ _ _ _ _ _ _ (by simp [Gh.push]) ⟨by omega,by simp [Gh.push];omega⟩
          · cases hrun
        · cases hrun
      · cases hrun
    · rename_i k
      obtain ⟨hck,hlk⟩:=hcap
      subst hck
      split at hrun
      · rename_i g vs hcell
        have hbo:st.heap[b]? = some (.cells g vs):=by
         unfold St.cells at hcell
         split at hcell
         · rename_i g' vs' e;simp only [Option.some.injEq,Prod.mk.injEq] at hcell;obtain ⟨rfl,rfl⟩:=hcell;exact e
         · cases hcell
        split at hrun
        · rename_i hfit
          split at hrun
          · rename_i hc3
            obtain ⟨hbase,hvl,hw⟩:=hc3
            simp only [Option.some.injEq,Prod.mk.injEq] at hrun
            obtain ⟨rfl,rfl⟩:=hrun
            obtain ⟨cur,ty,fz,k1,k2,k3,k4⟩:=jK (P:=P) hs hw hbo hbase (k:=off+len*n') (ns:=news) (xs:=N.toList) hvl (by simp [n2,hnl]) (fun i hi=>by rw [aJ];exact n3 i hi (by omega)) hnr.bg
             (mA (G:=G) (news:=news) (by rw [n2,hnl]) (fun i hi=>n3 i hi (by omega)) hnr.bg) hmu
            have hn1:=n1
            rw [← hn] at hn1
            have hr':=cZ (P:=P) (w:=w) (ty:=o.type) (a:=some ⟨r,off,none⟩) (sLen:=len) (sCap:=c) (m:=m) (x:=y0) (news:=N) ht hi hu hnr.len hfit hn1 (by
             show (storeCells ((⟨r,off,none⟩:Addr).add (len*i.size)) N.toList).run P w=_
             rw [Addr.add_lit,hn];exact k3)
            exact ⟨G,_,_,_,fin _ _ hr',.inl rfl,Gh.le.refl G,k4,.hsl _ _ _ _ _ _ _ _ hmu ⟨rfl,hfit⟩⟩
          · cases hrun
        · rename_i hfit
          split at hrun
          · rename_i hvl
            simp only [Option.some.injEq,Prod.mk.injEq] at hrun
            obtain ⟨rfl,rfl⟩:=hrun
            have hge:=grownCap_ge w (len+m) c e
            have hor:=cW (P:=P) (n:=n') (m:=len) (news:=(vs.drop off).take (len*n')) hs (.hsl n' ag' b off len (some c) r c hmu ⟨rfl,hlk⟩) (by
             simp only [cw,if_true,hcell]
             rw [if_pos hvl])
            obtain ⟨O,o1,o2,o3⟩:=hor.cells len w.drew (Nat.le_refl _) ((Below.refl _ w).drew)
            have hd1:=d1
            rw [← hn] at hd1 o1
            have hr:=cd (P:=P) (w:=w) (u:=u) (ty:=o.type) (z:=z) (a:=some ⟨r,off,none⟩) (sLen:=len) (sCap:=c) (m:=m) (x:=y0) (olds:=O) (news:=N') ht hi hzz hu hnr.len (by omega) (by rw [hby];omega) (by omega) o1 hd1
            generalize harr:O++N'++Builtin.zeroCells z.cells (grownCap w (len+m) c e-(len+m))=arr at hr
            have hsz:arr.size=grownCap w (len+m) c e*n':=by
             rw [← harr]
             simp only [Array.size_append,o2,d2,size_zeroCells,hzsz,← Nat.add_mul]
             congr 1;omega
            have hol:=hor.length
            have hpush:=hs.drew.push (o:=.cells .grown ((vs.drop off).take (len*n')++news)) (ob:=.cells arr e) (grownCap w (len+m) c e*n') ⟨arr,e,(0,0),rfl,by
             rw [hsz,List.length_append,hol,hnl,← Nat.add_mul];exact Nat.mul_le_mul_right _ hge,by simp [Gh.push,hsz],fun i hi=>by
              have:=gN (fm:=fm) (G:=G) (olds:=(vs.drop off).take (len*n')) (news:=news) (O:=O) (N:=N') (Z:=Builtin.zeroCells z.cells (grownCap w (len+m) c e-(len+m))) (by rw [o2,hol]) (by rw [d2,hnl])
               (fun i hi=>o3 i hi (by rw [← hol];exact hi)) (fun i hi=>d3 i hi (by omega)) i hi
              rw [harr] at this
              exact this.le (Gh.bx hs.bO),fun i hi=>by simp,by rw [List.all_append,hor.bg,hnr.bg];rfl⟩ rfl
            have hle:G.le (G.push st.heap.length w.heap.size (grownCap w (len+m) c e*n')):=Gh.bx hs.bO
            refine ⟨_,_,_,_,fin _ _ hr,.inl rfl,hle,hpush,?_⟩
            exact .hsl _ _ _ _ _ _ _ _ (by simp [Gh.push]) ⟨hge,by simp [Gh.push]⟩
          · cases hrun
      · cases hrun
  · cases hrun
 · cases hrun
end Go.D
end
section
namespace Go.D
open Go.RowKit
variable {P:Program} {fm:FM}
def jF (P:Program) (t:TypeId) (ks:List LK):Bool:=
 match P.underlying t,ks with
 | some .bool,[.bool]=>true
 | some (.int _),[.int]=>true
 | some .string,[.str]=>true
 | _,_=>false
def lP (fm:FM) (G:Gh) (es:List (DV×DV)) (en:List MapEntry):Prop:=
 en.length=es.length∧∀ (i:Nat) (k v:DV),es[i]? = some (k,v)→∃ e:MapEntry,en[i]? = some e∧Rel fm G k e.key∧Rel fm G v e.val
def CE:LK→TypeDesc→Bool
 | .bool,.bool | .int,.int _ | .str,.string=>true
 | _,_=>false
theorem wm {G:Gh} {lk:LK} {a b:DV} {x y:Value} {r:Bool} (h:dU lk a b=some r) (ha:Rel fm G a x) (hb:Rel fm G b y) {d:TypeDesc} (hd:CE lk d=true) :
 Instr.sameNow d x y=some r∧(r=true→y=x):=by
 unfold dU at h
 split at h
 · cases ha;cases hb
   injection h with h;subst h
   cases d<;>first | (simp [CE] at hd;done) | skip
   simp [Instr.sameNow]
   intro h;exact h.symm
 · rename_i k a k' b
   split at h
   · rename_i hk
     subst hk
     cases ha;cases hb
     injection h with h;subst h
     cases d<;>first | (simp [CE] at hd;done) | skip
     simp [Instr.sameNow]
     intro h;exact h.symm
   · cases h
 · rename_i a b
   cases ha with
   | str _ s1 e1=>
     cases hb with
     | str _ s2 e2=>
       injection h with h;subst h
       cases d<;>first | (simp [CE] at hd;done) | skip
       subst e1;subst e2
       have heq:(s1==s2)=(s1.data.toList==s2.data.toList):=by
        have h1:(s1==s2)=(s1.data==s2.data):=rfl
        rw [h1,Bool.eq_iff_iff]
        simp only [beq_iff_eq]
        exact ⟨fun h=>by rw [h],fun h=>Array.toList_inj.1 h⟩
       refine ⟨by simp only [Instr.sameNow,heq],fun h => ?_⟩
       rw [beq_iff_eq] at h
       have:s1.data=s2.data:=Array.toList_inj.1 h
       cases s1;cases s2;simp at this;subst this;rfl
 · cases h
theorem sn {t:TypeId} {d:TypeDesc} {ks:List LK} (hd:P.underlying t=some d) (hk:jF P t ks=true):∃ lk,ks=[lk]∧CE lk d=true:=by
 unfold jF at hk
 rw [hd] at hk
 split at hk
 · rename_i h;cases h;exact ⟨_,rfl,rfl⟩
 · rename_i h;cases h;exact ⟨_,rfl,rfl⟩
 · rename_i h;cases h;exact ⟨_,rfl,rfl⟩
 · cases hk
theorem oc {G:Gh} {t:TypeId} {d:TypeDesc} {ks:List LK} (hd:P.underlying t=some d) (hk:jF P t ks=true) {k:DV} {kv:Value} (hkv:Rel fm G k kv):∀ (es:List (DV×DV)) (en:List MapEntry) (i:Nat) (r:Option (Nat×DV)),lP fm G es en→findD ks k es i=some r →
 ∃ r',Instr.findNow d kv en i=some r'∧(match r,r' with
   | none,none=>True
   | some (j,v),some (j',v')=>j=j'∧Rel fm G v v'∧i≤j∧∃ e:MapEntry,en[j-i]? = some e∧e.key=kv
   | _,_=>False)
 | [],en,i,r,he,h=>by
   have:en=[]:=List.eq_nil_of_length_eq_zero (by simpa using he.1)
   subst this
   simp only [findD,Option.some.injEq] at h;subst h
   exact ⟨none,rfl,trivial⟩
 | (a,v)::es,[],i,r,he,h=>by have:=he.1;simp at this
 | (a,v)::es,e::en,i,r,he,h=>by
   obtain ⟨e',h1,h2,h3⟩:=he.2 0 a v rfl
   simp only [List.getElem?_cons_zero,Option.some.injEq] at h1
   subst h1
   have htl:lP fm G es en:=⟨by have:=he.1;simpa using this,fun i k v hi=>he.2 (i+1) k v hi⟩
   obtain ⟨lk,rfl,hlk⟩:=sn hd hk
   have same:∀ b,p4 [lk] k a=some b→Instr.sameNow d kv e.key=some b∧(b=true→e.key=kv):=fun b hb=>wm hb hkv h2 hlk
   simp only [findD] at h
   split at h
   · rename_i hb
     obtain ⟨s1,s2⟩:=same true hb
     injection h with h;subst h
     exact ⟨some (i,e.val),by simp [Instr.findNow,s1],rfl,h3,Nat.le_refl _,e,by simp,s2 rfl⟩
   · rename_i hb
     obtain ⟨s1,s2⟩:=same false hb
     obtain ⟨r',g1,g2⟩:=oc hd hk hkv es en (i+1) r htl h
     refine ⟨r',by simp [Instr.findNow,s1,g1],?_⟩
     match r,r',g2 with
     | none,none,_=>trivial
     | some (j,v),some (j',v'),g2=>
       obtain ⟨q1,q2,q3,e0,q4,q5⟩:=g2
       refine ⟨q1,q2,by omega,e0,?_,q5⟩
       have:j-i=(j-(i+1))+1:=by omega
       rw [this,List.getElem?_cons_succ];exact q4
   · cases h
theorem run_checkKey {w:World} {t:TypeId} {d:TypeDesc} {ks:List LK} (b:Bool) (n:Nat) (v:Value) (hd:P.underlying t=some d) (hk:jF P t ks=true):(Instr.checkKey b (n+1) t v).run P w=.ok () w:=by
 obtain ⟨lk,rfl,hlk⟩:=sn hd hk
 unfold Instr.checkKey
 simp only [Sem.run_bind,run_underlying hd,Result.andThen_ok]
 cases d<;>first | rfl | (cases lk<;>simp [CE] at hlk)
def tu (P:Program) (t:TypeId):Bool:=match P.underlying t with | some .bool=>true | some (.int _)=>true | some .string=>true | _=>false
def cI (P:Program) (t:TypeId) (ks:List LK):Bool:=
 (match P.underlying t with | some (.struct fs)=>fs.toList.all (fun f=>tu P f.type&&Nat.blt f.offset ks.length) | _=>false)&&(fW P Op.maxDepth t==some ks)&&Nat.ble 2 ks.length
theorem lY {w:World} {t:TypeId} (b:Bool) (n:Nat) (v:Value) (h:tu P t=true):(Instr.checkKey b (n+1) t v).run P w=.ok () w:=by
 unfold tu at h
 unfold Instr.checkKey
 split at h<;>first | (cases h;done) | (rename_i hd;simp only [Sem.run_bind,run_underlying hd,Result.andThen_ok];rfl)
theorem uQ {w:World} {β:Type} (l:List β) (F:β→PUnit→Sem (ForInStep PUnit)) (h:∀ x∈l,(F x ⟨⟩).run P w=.ok (.yield ⟨⟩) w):(forIn l PUnit.unit F).run P w=.ok ⟨⟩ w:=by
 induction l with
 | nil=>rfl
 | cons x r ih=>
   simp only [List.forIn_cons,Sem.run_bind,h x (by simp),Result.andThen_ok]
   exact ih fun y hy=>h y (by simp [hy])
theorem lh {w:World} {t:TypeId} {ks:List LK} (b:Bool) (n:Nat) {cs:Array Value} (hk:cI P t ks=true) (hsz:cs.size=ks.length):(Instr.checkKey b (n+2) t (.agg cs)).run P w=.ok () w:=by
 unfold cI at hk
 simp only [Bool.and_eq_true] at hk
 obtain ⟨⟨h1,h2⟩,h3⟩:=hk
 split at h1
 · rename_i fs hd
   have hall:=List.all_eq_true.1 h1
   unfold Instr.checkKey
   simp only [Sem.run_bind,run_underlying hd,Result.andThen_ok]
   rw [← Array.forIn_toList]
   rw [uQ]
   · rfl
   intro f hf
   have hf:=hall f hf
   simp only [Bool.and_eq_true] at hf
   have hs:=hf.1
   have hlt:f.offset<cs.size:=by rw [hsz];exact Nat.le_of_ble_eq_true hf.2
   have hpart:(part f.type cs f.offset).run P w=.ok (cs.getD f.offset undef) w:=by
    unfold tu at hs
    split at hs<;>first | (cases hs;done) | (rename_i hdd;exact gE hdd cs f.offset hlt trivial)
   by_cases hn:f.name = "_"
   · simp [hn]
   · simp only [ne_eq,hn,not_false_eq_true,if_true,Sem.run_bind,hpart,Result.andThen_ok,lY b n _ hs,Sem.run_pure]
 · cases h1
theorem mY {w:World} {t:TypeId} {ks:List LK} (hk:cI P t ks=true) {G:Gh} {vs us:List DV} {cs ds:Array Value} {b:Bool} (h1:Rel fm G (.agg vs) (.agg cs)) (h2:Rel fm G (.agg us) (.agg ds)) (hb:aL ks vs us=some b) :
 (Op.equal t (.agg cs) (.agg ds)).run P w=.ok b w:=by
 unfold cI at hk
 simp only [Bool.and_eq_true,beq_iff_eq] at hk
 obtain ⟨⟨k1,k2⟩,k3⟩:=hk
 split at k1
 · rename_i fs htd
   cases h1 with
   | agg _ _ hl hc=>
   cases h2 with
   | agg _ _ hl' hc'=>
   obtain ⟨l1,l2⟩:=cb _ _ _ _ hb
   obtain ⟨p,q,p1,q1,r1⟩:=ow (w:=w) Op.maxDepth t ks k2 G vs us cs ds 0 0 b ⟨by omega,fun i hi=>by rw [Nat.zero_add];exact hc i hi⟩ ⟨by omega,fun i hi=>by rw [Nat.zero_add];exact hc' i hi⟩ hb
   obtain ⟨i,hi,hsz⟩:=mg 9999 t ks htd k2
   rw [gT htd hi cs 0 trivial] at p1
   rw [gT htd hi ds 0 trivial] at q1
   cases p1;cases q1
   have e1:cs.extract 0 (0+i.size)=cs:=by rw [Nat.zero_add,show i.size=cs.size by omega];exact Array.extract_size
   have e2:ds.extract 0 (0+i.size)=ds:=by rw [Nat.zero_add,show i.size=ds.size by omega];exact Array.extract_size
   rw [e1,e2] at r1
   exact r1
 · cases k1
theorem mc:∀ (ks:List LK) (as_ bs:List DV),aL ks as_ bs=some true→∀ i (h:i<as_.length) (h':i<bs.length),∃ k,dU k (as_[i]) (bs[i])=some true
 | [],[],[],_,i,h,_=>by simp at h
 | k::ks,a::as_,c::bs,hl,i,h,h'=>by
   simp only [aL] at hl
   split at hl
   · rename_i x y h1 h2
     injection hl with hl
     simp only [Bool.and_eq_true] at hl
     obtain ⟨rfl,rfl⟩:=hl
     cases i with
     | zero=>exact ⟨k,h1⟩
     | succ i=>exact mc ks as_ bs h2 i (by simpa using h) (by simpa using h')
   · cases hl
 | [],_::_,_,h,_,_,_=>by simp [aL] at h
 | [],[],_::_,h,_,_,h'=>by simp [aL] at h
 | _::_,[],_,h,_,_,_=>by simp [aL] at h
 | _::_,_::_,[],h,_,_,_=>by simp [aL] at h
theorem yq {G:Gh} {k:LK} {a b:DV} {x y:Value} (h:dU k a b=some true) (ha:Rel fm G a x) (hb:Rel fm G b y):x=y∧∀ n,Instr.sameBits n x x=true:=by
 unfold dU at h
 split at h
 · cases ha;cases hb
   simp only [Option.some.injEq,beq_iff_eq] at h
   subst h
   exact ⟨rfl,fun n=>by simp [Instr.sameBits]⟩
 · split at h
   · rename_i hk
     subst hk
     cases ha;cases hb
     simp only [Option.some.injEq,beq_iff_eq] at h
     subst h
     exact ⟨rfl,fun n=>by simp [Instr.sameBits]⟩
   · cases h
 · cases ha with
   | str _ s1 e1=>
     cases hb with
     | str _ s2 e2=>
       simp only [Option.some.injEq,beq_iff_eq] at h
       have h2:s1=s2:=by
        have:s1.data=s2.data:=Array.toList_inj.1 (e1.trans (h.trans e2.symm))
        cases s1;cases s2;simp at this;subst this;rfl
       subst h2
       refine ⟨rfl,fun n => ?_⟩
       have h1:(s1==s1)=(s1.data==s1.data):=rfl
       simp [Instr.sameBits,h1]
 · cases h
theorem B7 {G:Gh} {ks:List LK} {vs us:List DV} {cs ds:Array Value} (hb:aL ks vs us=some true) (h1:Rel fm G (.agg vs) (.agg cs)) (h2:Rel fm G (.agg us) (.agg ds)) :
 cs=ds∧Instr.sameBits 10000 (.agg cs) (.agg cs)=true:=by
 cases h1 with
 | agg _ _ hl hc=>
 cases h2 with
 | agg _ _ hl' hc'=>
 obtain ⟨l1,l2⟩:=cb _ _ _ _ hb
 have key:∀ i (h:i<cs.size),∃ (h':i<ds.size),cs[i]=ds[i]∧∀ n,Instr.sameBits n cs[i] cs[i]=true:=by
  intro i h
  have h':i<ds.size:=by omega
  obtain ⟨k,hk⟩:=mc ks vs us hb i (by omega) (by omega)
  have r1:=hc i (by omega)
  have r2:=hc' i (by omega)
  rw [Array.getD_eq_getD_getElem?,Array.getElem?_eq_getElem h] at r1
  rw [Array.getD_eq_getD_getElem?,Array.getElem?_eq_getElem h'] at r2
  exact ⟨h',yq hk r1 r2⟩
 refine ⟨Array.ext (by omega) fun i h h'=>(key i h).2.1,?_⟩
 simp only [Instr.sameBits,Bool.and_eq_true,beq_self_eq_true,true_and,List.all_eq_true]
 intro p hp
 have:p.1=p.2∧p.1∈cs.toList:=by
  have:=List.mem_iff_getElem.1 hp
  obtain ⟨i,hi,rfl⟩:=this
  simp
 obtain ⟨e,hm⟩:=this
 obtain ⟨i,hi,he⟩:=List.mem_iff_getElem.1 hm
 have:=(key i (by simpa using hi)).2.2 9999
 rw [← e]
 simp at he
 rw [he] at this
 exact this
def oa (P:Program) (t:TypeId) (ks:List LK):Bool:=jF P t ks||cI P t ks
theorem jl {w:World} {t:TypeId} {ks:List LK} {G:Gh} {k:DV} {kv:Value} (b:Bool) (hk:oa P t ks=true) (hfit:m9 ks k=true) (hkv:Rel fm G k kv):(Instr.checkKey b 10000 t kv).run P w=.ok () w:=by
 unfold oa at hk
 rw [Bool.or_eq_true] at hk
 rcases hk with hk | hk
 · have hdk:∃ d,P.underlying t=some d:=by
    unfold jF at hk
    split at hk<;>first | exact ⟨_,by assumption⟩ | cases hk
   obtain ⟨d,hd⟩:=hdk
   exact run_checkKey (w:=w) (P:=P) b 9999 kv hd hk
 · have hk':=hk
   unfold cI at hk'
   simp only [Bool.and_eq_true] at hk'
   have h2:=Nat.le_of_ble_eq_true hk'.2
   unfold m9 at hfit
   split at hfit
   · simp at h2
   · split at hfit
     · rename_i xs
       cases hkv with
       | agg _ cs hl _=>
         exact lh (w:=w) b 9998 hk (by rw [hl];exact eq_of_beq hfit)
     · cases hfit
theorem kc {G:Gh} {w:World} {t:TypeId} {ks:List LK} (hk:cI P t ks=true) {k:DV} {kv:Value} (hkv:Rel fm G k kv):∀ (es:List (DV×DV)) (en:List MapEntry) (i:Nat) (r:Option (Nat×DV)),lP fm G es en→findD ks k es i=some r →
 ∃ r',(Instr.findAsking t kv en i).run P w=.ok r' w∧(match r,r' with
   | none,none=>True
   | some (j,v),some (j',v')=>j=j'∧Rel fm G v v'∧i≤j∧∃ e:MapEntry,en[j-i]? = some e∧e.key=kv
   | _,_=>False)∧(r.isSome=true→Instr.sameBits 10000 kv kv=true)
 | [],en,i,r,he,h=>by
   have:en=[]:=List.eq_nil_of_length_eq_zero (by simpa using he.1)
   subst this
   simp only [findD,Option.some.injEq] at h;subst h
   exact ⟨none,rfl,trivial,fun h=>by cases h⟩
 | (a,v)::es,[],i,r,he,h=>by have:=he.1;simp at this
 | (a,v)::es,e::en,i,r,he,h=>by
   obtain ⟨e',h1,h2,h3⟩:=he.2 0 a v rfl
   simp only [List.getElem?_cons_zero,Option.some.injEq] at h1
   subst h1
   have htl:lP fm G es en:=⟨by have:=he.1;simpa using this,fun i k v hi=>he.2 (i+1) k v hi⟩
   have hlen:2≤ks.length:=by
    unfold cI at hk
    simp only [Bool.and_eq_true] at hk
    exact Nat.le_of_ble_eq_true hk.2
   have same:∀ b,p4 ks k a=some b→(Op.equal t kv e.key).run P w=.ok b w∧(b=true→e.key=kv∧Instr.sameBits 10000 kv kv=true):=by
    intro b hb
    unfold p4 at hb
    split at hb
    · simp at hlen
    · split at hb
      · rename_i xs ys
        generalize e.key=ek at h2
        cases hkv with
        | agg _ cs hl hc=>
        cases h2 with
        | agg _ ds hl' hc'=>
        refine ⟨mY hk (.agg _ _ hl hc) (.agg _ _ hl' hc') hb,fun hbt => ?_⟩
        subst hbt
        obtain ⟨g1,g2⟩:=B7 hb (.agg _ _ hl hc) (.agg _ _ hl' hc')
        exact ⟨by rw [g1],g2⟩
      · cases hb
   simp only [findD] at h
   split at h
   · rename_i hb
     obtain ⟨s1,s2⟩:=same true hb
     injection h with h;subst h
     refine ⟨some (i,e.val),by unfold Instr.findAsking;simp [s1],⟨rfl,h3,Nat.le_refl _,e,by simp,(s2 rfl).1⟩,fun _=>(s2 rfl).2⟩
   · rename_i hb
     obtain ⟨s1,s2⟩:=same false hb
     obtain ⟨r',g1,g2,g3⟩:=kc (w:=w) hk hkv es en (i+1) r htl h
     refine ⟨r',by unfold Instr.findAsking;simp [s1,g1],?_,g3⟩
     match r,r',g2 with
     | none,none,_=>trivial
     | some (j,v),some (j',v'),g2=>
       obtain ⟨q1,q2,q3,e0,q4,q5⟩:=g2
       refine ⟨q1,q2,by omega,e0,?_,q5⟩
       have:j-i=(j-(i+1))+1:=by omega
       rw [this,List.getElem?_cons_succ];exact q4
   · cases h
def xe (P:Program) (t:TypeId):Option DV:=
 match P.info? t with
 | some i=>match i.zero with | some z=>Gm z | none=>none
 | none=>none
theorem BK {t:TypeId} {z:DV} (h:xe P t=some z):∃ i x,P.info? t=some i∧i.zero=some x∧Gm x=some z:=by
 unfold xe at h
 split at h
 · rename_i i hi
   split at h
   · rename_i x hx;exact ⟨i,x,hi,hx,h⟩
   · cases h
 · cases h
theorem run_findKey {w:World} {t:TypeId} {d:TypeDesc} {kv:Value} {es:List MapEntry} {r:Option (Nat×Value)} (hd:P.underlying t=some d) (h:Instr.findNow d kv es 0=some r):(Instr.findKey t kv es).run P w=.ok r w:=by
 unfold Instr.findKey
 simp [run_underlying hd,h]
theorem mm {d:TypeDesc} {x:Value}:∀ {en:List MapEntry} {i:Nat} {p:Nat×Value},Instr.findNow d x en i=some (some p)→∃ y,Instr.sameNow d x y=some true
 | [],i,p,h=>by simp [Instr.findNow] at h
 | e::en,i,p,h=>by
   simp only [Instr.findNow] at h
   split at h
   · exact ⟨_,by assumption⟩
   · exact mm h
   · cases h
theorem tZ {d:TypeDesc} {x y:Value} {b:Bool} (h:Instr.sameNow d x y=some b):Instr.sameBits 10000 x x=true:=by
 unfold Instr.sameNow at h
 split at h<;>first | cases h;done | skip
 · simp [Instr.sameBits]
 · rename_i s _
   have h1:(s==s)=(s.data==s.data):=rfl
   simp [Instr.sameBits,h1]
 · simp [Instr.sameBits]
theorem kA {G:Gh} {w:World} {t:TypeId} {ks:List LK} (hk:oa P t ks=true) {k:DV} {kv:Value} (hkv:Rel fm G k kv) {es:List (DV×DV)} {en:List MapEntry} {r:Option (Nat×DV)} (he:lP fm G es en) (h:findD ks k es 0=some r) :
 ∃ r',(Instr.findKey t kv en).run P w=.ok r' w∧(match r,r' with
   | none,none=>True
   | some (j,v),some (j',v')=>j=j'∧Rel fm G v v'∧∃ e:MapEntry,en[j]? = some e∧e.key=kv
   | _,_=>False)∧(r.isSome=true→Instr.sameBits 10000 kv kv=true):=by
 unfold oa at hk
 rw [Bool.or_eq_true] at hk
 rcases hk with hk | hk
 · have hdk:∃ d,P.underlying t=some d:=by
    unfold jF at hk
    split at hk<;>first | exact ⟨_,by assumption⟩ | cases hk
   obtain ⟨d,hd⟩:=hdk
   obtain ⟨r',g1,g2⟩:=oc (fm:=fm) (G:=G) hd hk hkv es en 0 r he h
   refine ⟨r',run_findKey hd g1,?_,?_⟩
   · match r,r',g2 with
     | none,none,_=>trivial
     | some (j,v),some (j',v'),g2=>
       obtain ⟨q1,q2,q3,e0,q4,q5⟩:=g2
       exact ⟨q1,q2,e0,q4,q5⟩
   · intro hsome
     match r,r',g2 with
     | some (j,v),some (j',v'),g2=>
       obtain ⟨y,hy⟩:=mm g1
       exact tZ hy
 · obtain ⟨r',g1,g2,g3⟩:=kc (w:=w) hk hkv es en 0 r he h
   have hd:∃ fs,P.underlying t=some (.struct fs):=by
    unfold cI at hk
    simp only [Bool.and_eq_true] at hk
    have:=hk.1.1
    split at this
    · exact ⟨_,by assumption⟩
    · cases this
   obtain ⟨fs,hd⟩:=hd
   refine ⟨r',?_,?_,g3⟩
   · unfold Instr.findKey
     simp only [Sem.run_bind,run_underlying hd,Result.andThen_ok]
     cases en with
     | nil=>
       have:r'=none:=by
        have:(Instr.findAsking t kv [] 0).run P w=.ok none w:=rfl
        rw [this] at g1;cases g1;rfl
       subst this
       rfl
     | cons e en=>
       have hn:Instr.findNow (.struct fs) kv (e::en) 0=none:=by simp [Instr.findNow,Instr.sameNow]
       rw [hn]
       exact g1
   · match r,r',g2 with
     | none,none,_=>trivial
     | some (j,v),some (j',v'),g2=>
       obtain ⟨q1,q2,q3,e0,q4,q5⟩:=g2
       exact ⟨q1,q2,e0,q4,q5⟩
theorem tW {t kt et:TypeId} {ks:List LK} {zero:DV} {ok:Bool} {x j:X} {xo jo:Operand} {o:Oper} (ho:o.op=.lookup t xo jo ok) (ht:P.underlying t=some (.map kt et)) (hk:oa P kt ks=true) (hz:xe P et=some zero)
 (hx:a9 fm x xo) (hj:a9 fm j jo):aq P fm (.lookup ks zero x j ok) o:=by
 refine az fun CR G w0 st w fr a v st' hs hf hrun => ?_
 simp only [al] at hrun
 split at hrun
 case isFalse=>cases hrun
 rename_i hfit
 simp only [Option.map_eq_some_iff] at hrun
 obtain ⟨u,hu,hrun⟩:=hrun
 cases hrun
 have hxv:=hx.ev (a:=a) hf
 have hjv:=hj.ev (a:=a) hf
 generalize hx0:a.eval xo=x0 at hxv
 generalize hj0:a.eval jo=j0 at hjv
 obtain ⟨i,z,hi,hzz,hc⟩:=BK hz
 unfold oT at hu
 split at hu
 · cases hu
 rename_i es hes
 have hen:∃ en:Array MapEntry,lP fm G es en.toList∧∀ (K:Array MapEntry→Sem Value),((do
  let es ← match x0 with
   | .map none=>pure #[]
   | .map (some r)=>do
     let .map es _ ← getObj r | stuck "Lookup: map expected"
     pure es
   | _=>stuck "Lookup: map expected"
  K es):Sem Value).run P w=(K en).run P w:=by
  split at hes
  · rename_i e0
    injection hes with hes;subst hes
    rw [e0] at hxv
    cases hxv
    exact ⟨#[],⟨rfl,fun i k v h=>by simp at h⟩,fun K=>by simp⟩
  · rename_i b e0
    rw [e0] at hxv
    split at hes
    · rename_i es' hb
      injection hes with hes;subst hes
      cases hxv with
      | map _ r hm=>
        obtain ⟨r',ob,h1,h2,h3,h4⟩:=hs.obj b _ hb rfl (hs.np hm)
        rw [hm] at h1;cases h1
        obtain ⟨en,ck,rfl,g1,g2⟩:=h3
        refine ⟨en,⟨by simpa using g1,fun i k v h=>by simpa using g2 i k v h⟩,fun K => ?_⟩
        simp [getObj,Sem.run,h2]
    · cases hes
  · cases hes
 obtain ⟨en,he,hK⟩:=hen
 split at hu
 · cases hu
 rename_i r hfind
 obtain ⟨r',hfk,g2,_⟩:=kA (fm:=fm) (G:=G) (w:=w) hk hjv he hfind
 have hchk:=jl (w:=w) (P:=P) en.isEmpty hk hfit hjv
 have hzv:=jj (w:=w) hi hzz
 have run:∀ (y:Value×Bool),(match r' with | some (_,v)=>(pure (v,true):Sem (Value×Bool)) | none=>do pure (← zeroValue et,false)).run P w=.ok y w→(execOp a.eval o).run P w=.ok (.value (if ok then .tuple #[y.1,.bool y.2] else y.1)) w:=by
  intro y hy
  unfold execOp
  simp only [ho,hx0,hj0]
  refine ae ?_
  unfold Instr.lookup
  simp only [Sem.run_bind,run_underlying ht,Result.andThen_ok]
  have:=hK (fun es=>do
   Instr.checkKey es.isEmpty 10000 kt j0
   let (v,there) ← match ← Instr.findKey kt j0 es.toList with
    | some (_,v)=>pure (v,true)
    | none=>pure (← zeroValue et,false)
   pure (if ok then .tuple #[v,.bool there] else v))
  simp only [Sem.run_bind,hchk,hfk,Result.andThen_ok] at this
  refine this.trans ?_
  cases r' with
  | none=>
    simp only [Sem.run_bind,Sem.run_pure,hzv,Result.andThen_ok,Result.ok.injEq,and_true] at hy ⊢
    subst hy;rfl
  | some p=>
    simp only [Sem.run_bind,Sem.run_pure,Result.andThen_ok,Result.ok.injEq,and_true] at hy ⊢
    subst hy;rfl
 have tup:∀ (u:DV) (y:Value) (b:Bool),Rel fm G u y→Rel fm G (if ok then .tuple [u,.bool b] else u) (if ok then .tuple #[y,.bool b] else y):=by
  intro u y b h
  cases ok with
  | false=>exact h
  | true=>
    refine .tuple _ _ rfl fun i hi => ?_
    match i,hi with
    | 0,_=>exact h
    | 1,_=>exact .bool _
 simp only [Option.some.injEq] at hu
 subst hu
 cases r with
 | none=>
   cases r' with
   | none=>exact ⟨rfl,_,run (z,false) (by simp [hzv]),tup _ _ _ (wY hc G)⟩
   | some p=>exact absurd g2 (by simp)
 | some q=>
   cases r' with
   | none=>exact absurd g2 (by simp)
   | some p=>exact ⟨rfl,_,run (p.2,true) rfl,tup _ _ _ g2.2.1⟩
theorem uq {t kt et:TypeId} {ks:List LK} {m k v:X} {mo ko vo:Operand} {o:Oper} (ho:o.op=.mapUpdate t mo ko vo) (ht:P.underlying t=some (.map kt et)) (hk:oa P kt ks=true)
 (hm:a9 fm m mo) (hkx:a9 fm k ko) (hv:a9 fm v vo):aq P fm (.gQ ks m k v) o:=by
 intro CR G w0 st w fr a u st' hs hf hrun
 simp only [al] at hrun
 split at hrun
 case isFalse=>cases hrun
 rename_i hfit
 simp only [Option.map_eq_some_iff] at hrun
 obtain ⟨st2,hu,hrun⟩:=hrun
 cases hrun
 have hmv:=hm.ev (a:=a) hf
 have hkv:=hkx.ev (a:=a) hf
 have hvv:=hv.ev (a:=a) hf
 generalize hm0:a.eval mo=m0 at hmv
 generalize hk0:a.eval ko=k0 at hkv
 generalize hv0:a.eval vo=v0 at hvv
 unfold ti at hu
 split at hu
 · rename_i b e0
   rw [e0] at hmv
   split at hu
   · rename_i es hb
     split at hu
     · rename_i hbase
       cases hmv with
       | map _ r hmu=>
         obtain ⟨r1,ob,h1,h2,h3,h4⟩:=hs.obj b _ hb rfl (hs.np hmu)
         rw [hmu] at h1;cases h1
         obtain ⟨en,ck,rfl,g1,g2⟩:=h3
         have he:lP fm G es en.toList:=⟨by simpa using g1,fun i k v h=>by simpa using g2 i k v h⟩
         have hchk:=jl (w:=w) (P:=P) false hk hfit hkv
         have hget:=run_getObj_map (P:=P) w r en ck h2
         have hset:∀ o',(setObj r o').run P w=.ok () (w.putObj r o'):=fun o'=>by simp [setObj,Sem.run,h2,World.putObj]
         have fin:∀ w',(Instr.mapUpdate t (.map (some r)) k0 v0).run P w=.ok () w'→(execOp a.eval o).run P w=.ok .skip w':=by
          intro w' h
          unfold execOp
          simp only [ho,hm0,hk0,hv0]
          exact ml h
         split at hu
         · cases hu
         · rename_i i v' hfind
           injection hu with hu;subst hu
           obtain ⟨r',hfk,f2,f3⟩:=kA (fm:=fm) (G:=G) (w:=w) hk hkv he hfind
           cases r' with
           | none=>exact absurd f2 (by simp)
           | some p=>
             obtain ⟨q1,q2,e,q4,q5⟩:=f2
             have hi:i=p.1:=q1
             have hsame:Instr.sameBits 10000 k0 k0=true:=f3 rfl
             refine ⟨G,_,undef,_,fin _ ?_,.inr ⟨rfl,rfl⟩,Gh.le.refl G,hs.put (ob':=.map (en.modify i fun e=>{ e with key:=k0,val:=v0 }) ck) hb rfl hmu hbase ⟨_,ck,rfl,by simp [g1],?_⟩ rfl (fun h=>by cases h),.undef _⟩
             · unfold Instr.mapUpdate
               have hold:((en[p.1]?).map (·.key)).getD k0=k0:=by
                rw [← hi]
                have:en[i]? = some e:=by simpa using q4
                simp [this,q5]
               have hkeep:(Instr.keyThatStays k0 k0).run P w=.ok k0 w:=by unfold Instr.keyThatStays;simp [hsame]
               simp [run_underlying ht,hget,hchk,hfk,hold,hkeep,hset,hi]
             · intro j kk vv hj
               rw [List.getElem?_modify] at hj
               cases hes:es[j]? with
               | none=>rw [hes] at hj;cases hj
               | some x=>
                 obtain ⟨e',w1,w2,w3⟩:=g2 j x.1 x.2 hes
                 rw [hes] at hj
                 rw [Array.getElem?_modify,w1]
                 by_cases ej:i=j
                 · subst ej
                   simp only [if_true,Option.map_eq_map,Option.map_some,Option.some.injEq] at hj ⊢
                   cases hj
                   exact ⟨_,rfl,hkv,hvv⟩
                 · simp only [if_neg ej,Option.map_eq_map,Option.map_some,Option.some.injEq] at hj ⊢
                   subst hj
                   exact ⟨_,rfl,w2,w3⟩
         · rename_i hfind
           injection hu with hu;subst hu
           obtain ⟨r',hfk,f2,_⟩:=kA (fm:=fm) (G:=G) (w:=w) hk hkv he hfind
           cases r' with
           | some p=>exact absurd f2 (by simp)
           | none=>
             refine ⟨G,_,undef,_,fin _ ?_,.inr ⟨rfl,rfl⟩,Gh.le.refl G,hs.put (ob':=.map (en.push { key:=k0,val:=v0,born:=ck }) (ck+1)) hb rfl hmu hbase ⟨_,ck+1,rfl,by simp [g1],?_⟩ rfl (fun h=>by cases h),.undef _⟩
             · unfold Instr.mapUpdate
               simp [run_underlying ht,hget,hchk,hfk,hset]
             · intro j kk vv hj
               rcases get?_append_cases hj with ⟨e1,e2⟩ | ⟨rfl,e2⟩
               · obtain ⟨e',w1,w2,w3⟩:=g2 j kk vv e2
                 refine ⟨e',?_,w2,w3⟩
                 rw [Array.getElem?_push,if_neg (by omega)];exact w1
               · cases e2
                 exact ⟨_,by rw [Array.getElem?_push,if_pos g1.symm],hkv,hvv⟩
     · cases hu
   · cases hu
 · cases hu
end Go.D
end
section
namespace Go.D
open Go.RowKit
variable {P:Program} {fm:FM}
theorem rl {t u e:TypeId} {n bytes:Nat} {ag:Bool} {zs:List DV} {i:TypeInfo} {x y:X} {xo yo:Operand} {o:Oper} (ho:builtinCall .append [xo,yo] [t,u] o.op) (ht:P.underlying t=some (.slice e)) (hu:ef P u=true)
 (hi:P.info? e=some i) (hn:i.size=n) (hby:i.bytes=bytes) (hz:aY P e=some zs) (hzl:zs.length=n) (hag:ag=true∨n=1) (hx:a9 fm x xo) (hy:a9 fm y yo):aq P fm (.fR n ag bytes x y) o:=by
 intro CR G w0 st w fr a v st' hs hf hrun
 have hall:=mB (P:=P) (fm:=fm) ho ht hu hi hn hby hz hzl hag hx hy CR G w0 st w fr a v st' hs hf
 simp only [al,o8] at hrun hall
 have hxv:=hx.ev (a:=a) hf
 have hyv:=hy.ev (a:=a) hf
 split at hrun
 · rename_i tag n' tk hxe
   rw [hxe] at hxv
   split at hrun
   · rename_i m news hnews
     split at hrun
     · rename_i hm0
       refine hall ?_
       rw [hxe]
       simp only [bt,hnews,hm0,if_true]
       rw [hxe] at hrun
       exact hrun
     split at hrun
     · rename_i hm00 hcond
       obtain ⟨hn0,hb1,hb2⟩:=hcond
       have hm0:0<m:=by omega
       simp only [Option.some.injEq,Prod.mk.injEq] at hrun
       obtain ⟨rfl,rfl⟩:=hrun
       have hb1:m*bytes≤140737488355328:=by simpa [aw] using hb1
       have hb2:m≤140737488355328:=by simpa [aw] using hb2
       have hnr:=cW (P:=P) hs hyv hnews
       generalize hx0:a.eval xo=x0 at hxv
       generalize hy0:a.eval yo=y0 at hyv hnr
       cases hxv
       obtain ⟨N',d1,d2,d3⟩:=hnr.cells m w.drew (Nat.le_refl _) ((Below.refl _ w).drew)
       have hnl:=hnr.length
       obtain ⟨i',z,hi',hzz,hcc⟩:=bh hz
       rw [hi] at hi';cases hi'
       obtain ⟨zl,zr⟩:=bI (fm:=fm) hcc
       have hzsz:z.cells.size=n:=by rw [← hzl,← zl];simp
       have hd1:=d1
       rw [← hn] at hd1
       have hge:=grownCap_ge w (0+m) 0 e
       have hr:=cd (P:=P) (w:=w) (u:=u) (ty:=o.type) (z:=z) (a:=none) (sLen:=0) (sCap:=0) (m:=m) (x:=y0) (olds:=#[]) (news:=N') ht hi hzz hu hnr.len (by omega) (by rw [hby,Nat.zero_add];omega) (by omega) rfl hd1
       generalize harr:(#[]:Array Value)++N'++Builtin.zeroCells z.cells (grownCap w (0+m) 0 e-(0+m))=arr at hr
       have hsz:arr.size=grownCap w (0+m) 0 e*n:=by
        rw [← harr]
        simp only [Array.size_append,d2,size_zeroCells,hzsz,Array.size_empty]
        rw [Nat.zero_add,← Nat.add_mul]
        congr 1;omega
       have hpush:=hs.drew.push (o:=.cells .grown news) (ob:=.cells arr e) (grownCap w (0+m) 0 e*n) ⟨arr,e,(0,0),rfl,by
        rw [hsz,hnl];exact Nat.mul_le_mul_right _ (by omega),by simp [Gh.push,hsz],fun i hi=>by
         have:=gN (fm:=fm) (G:=G) (olds:=[]) (news:=news) (O:=#[]) (N:=N') (Z:=Builtin.zeroCells z.cells (grownCap w (0+m) 0 e-(0+m))) rfl (by rw [d2,hnl])
          (fun i hi=>by simp at hi) (fun i hi=>d3 i hi (by omega)) i (by simpa using hi)
         rw [harr] at this
         exact this.le (Gh.bx hs.bO),fun i hi=>by simp,hnr.bg⟩ rfl
       have hle:G.le (G.push st.heap.length w.heap.size (grownCap w (0+m) 0 e*n)):=Gh.bx hs.bO
       refine ⟨_,_,.slice (some ⟨w.heap.size,0,none⟩) (0+m) (grownCap w (0+m) 0 e),_,?_,.inl rfl,hle,hpush,?_⟩
       · obtain ⟨consts,he⟩:=bp ho a.eval
         rw [he]
         simp only [List.map_cons,List.map_nil,hx0,hy0]
         unfold builtin
         exact ae hr
       · rw [show 0+m=m by omega] at hge ⊢
         exact .hsl _ _ _ _ _ _ _ _ (by simp [Gh.push]) ⟨hge,by simp [Gh.push]⟩
     · cases hrun
   · cases hrun
 · rename_i tag n' hxe
   rw [hxe] at hxv
   split at hrun
   · rename_i m news hnews
     split at hrun
     · rename_i hm0
       refine hall ?_
       rw [hxe]
       simp only [bt,hnews,hm0,if_true]
       rw [hxe] at hrun
       exact hrun
     split at hrun
     · rename_i hm00 hcond
       obtain ⟨⟨hn0,hnn'⟩,hb1,hb2⟩:=hcond
       have hnn2:=hnn'.symm
       subst hnn2
       have hm0:0<m:=by omega
       simp only [Option.some.injEq,Prod.mk.injEq] at hrun
       obtain ⟨rfl,rfl⟩:=hrun
       have hb1:m*bytes≤140737488355328:=by simpa [aw] using hb1
       have hb2:m≤140737488355328:=by simpa [aw] using hb2
       have hnr:=cW (P:=P) hs hyv hnews
       generalize hx0:a.eval xo=x0 at hxv
       generalize hy0:a.eval yo=y0 at hyv hnr
       cases hxv with
       | list _ _ _ _ r off cap f hr0 hc0 hp0 hk0 hl0 hnn0=>
       have hkc:cap=0:=hk0
       subst hkc
       obtain ⟨O,ho1,ho2,ho3⟩:=(cW (P:=P) (n:=n) (m:=0) (news:=[]) hs (.list tag n .tight [] r off 0 f hr0 hc0 hp0 hk0 hl0 hnn0) (by simp [cw,flat])).cells 0 w.drew (Nat.le_refl _) ((Below.refl _ w).drew)
       obtain rfl:O = #[]:=by simpa using ho2
       rw [← hn] at ho1
       simp only [List.length_nil] at ho1
       simp only [List.length_nil] at hx0
       obtain ⟨N',d1,d2,d3⟩:=hnr.cells m w.drew (Nat.le_refl _) ((Below.refl _ w).drew)
       have hnl:=hnr.length
       obtain ⟨i',z,hi',hzz,hcc⟩:=bh hz
       rw [hi] at hi';cases hi'
       obtain ⟨zl,zr⟩:=bI (fm:=fm) hcc
       have hzsz:z.cells.size=n:=by rw [← hzl,← zl];simp
       have hd1:=d1
       rw [← hn] at hd1
       have hge:=grownCap_ge w (0+m) 0 e
       have hr:=cd (P:=P) (w:=w) (u:=u) (ty:=o.type) (z:=z) (a:=some ⟨r,off,none⟩) (sLen:=0) (sCap:=0) (m:=m) (x:=y0) (olds:=#[]) (news:=N') ht hi hzz hu hnr.len (by omega) (by rw [hby,Nat.zero_add];omega) (by omega) ho1 hd1
       generalize harr:(#[]:Array Value)++N'++Builtin.zeroCells z.cells (grownCap w (0+m) 0 e-(0+m))=arr at hr
       have hsz:arr.size=grownCap w (0+m) 0 e*n:=by
        rw [← harr]
        simp only [Array.size_append,d2,size_zeroCells,hzsz,Array.size_empty]
        rw [Nat.zero_add,← Nat.add_mul]
        congr 1;omega
       have hpush:=hs.drew.push (o:=.cells .grown news) (ob:=.cells arr e) (grownCap w (0+m) 0 e*n) ⟨arr,e,(0,0),rfl,by
        rw [hsz,hnl];exact Nat.mul_le_mul_right _ (by omega),by simp [Gh.push,hsz],fun i hi=>by
         have:=gN (fm:=fm) (G:=G) (olds:=[]) (news:=news) (O:=#[]) (N:=N') (Z:=Builtin.zeroCells z.cells (grownCap w (0+m) 0 e-(0+m))) rfl (by rw [d2,hnl])
          (fun i hi=>by simp at hi) (fun i hi=>d3 i hi (by omega)) i (by simpa using hi)
         rw [harr] at this
         exact this.le (Gh.bx hs.bO),fun i hi=>by simp,hnr.bg⟩ rfl
       have hle:G.le (G.push st.heap.length w.heap.size (grownCap w (0+m) 0 e*n)):=Gh.bx hs.bO
       refine ⟨_,_,.slice (some ⟨w.heap.size,0,none⟩) (0+m) (grownCap w (0+m) 0 e),_,?_,.inl rfl,hle,hpush,?_⟩
       · obtain ⟨consts,he⟩:=bp ho a.eval
         rw [he]
         simp only [List.map_cons,List.map_nil,hx0,hy0]
         unfold builtin
         exact ae hr
       · rw [show 0+m=m by omega] at hge ⊢
         exact .hsl _ _ _ _ _ _ _ _ (by simp [Gh.push]) ⟨hge,by simp [Gh.push]⟩
     · cases hrun
   · cases hrun
 · rename_i hxe
   exact hall hrun
 · cases hrun
theorem u4 {t e:TypeId} {n:Nat} {zs:List DV} {i:TypeInfo} {x:X} {xo:Operand} {o:Oper} (ho:builtinCall .clear [xo] [t] o.op) (ht:P.underlying t=some (.slice e)) (hi:P.info? e=some i) (hn:i.size=n) (hz:aY P e=some zs) (hzl:zs.length=n)
 (hx:a9 fm x xo):aq P fm (.clear n zs x) o:=by
 intro CR G w0 st w fr a v st' hs hf hrun
 simp only [al,zp] at hrun
 have hxv:=hx.ev (a:=a) hf
 have fin:∀ (w':World),(Builtin.clear_ #[t] o.type #[a.eval xo]).run P w=.ok (.tuple #[]) w'→(execOp a.eval o).run P w=.ok (.value (.tuple #[])) w':=by
  intro w' h
  obtain ⟨consts,he⟩:=bp ho a.eval
  rw [he]
  simp only [List.map_cons,List.map_nil]
  unfold builtin
  exact ae h
 have tup:Rel fm G (.tuple []) (.tuple #[]):=.tuple [] #[] rfl (fun i hi=>absurd hi (by simp))
 generalize hx0:a.eval xo=x0 at hxv fin
 split at hrun
 · rename_i hxe
   rw [hxe] at hxv
   simp only [Option.some.injEq,Prod.mk.injEq] at hrun
   obtain ⟨rfl,rfl⟩:=hrun
   cases hxv
   exact ⟨G,w,_,_,fin w (by simp [Builtin.clear_,run_underlying ht]),.inl rfl,Gh.le.refl G,hs,tup⟩
 · rename_i n' ag b off len cap hxe
   rw [hxe] at hxv
   cases hxv with
   | hsl _ _ _ _ _ _ r c hm hcap=>
   split at hrun
   · rename_i hl0
     subst hl0
     simp only [Option.some.injEq,Prod.mk.injEq] at hrun
     obtain ⟨rfl,rfl⟩:=hrun
     exact ⟨G,w,_,_,fin w (by simp [Builtin.clear_,run_underlying ht]),.inl rfl,Gh.le.refl G,hs,tup⟩
   · rename_i hl0
     split at hrun
     · rename_i hc
       obtain ⟨rfl,hbase⟩:=hc
       split at hrun
       · rename_i g vs hcell
         obtain ⟨hcell,hw⟩:=lH hcell
         split at hrun
         · rename_i hlen
           simp only [Option.some.injEq,Prod.mk.injEq] at hrun
           obtain ⟨rfl,rfl⟩:=hrun
           have hbo:st.heap[b]? = some (.cells g vs):=by
            unfold St.cells at hcell
            split at hcell
            · rename_i g' vs' e;simp only [Option.some.injEq,Prod.mk.injEq] at hcell;obtain ⟨rfl,rfl⟩:=hcell;exact e
            · cases hcell
           obtain ⟨i',z,hi',hzz,hcc⟩:=bh hz
           rw [hi] at hi';cases hi'
           obtain ⟨zl,zr⟩:=bI (fm:=fm) hcc
           have hscal:(aR zs len).all DV.bg=true:=by
            rw [List.all_eq_true]
            intro x hx
            obtain ⟨j,hj,rfl⟩:=List.getElem_of_mem hx
            have hj':=hj
            rw [de] at hj'
            have:=getElem?_repl zs len j hj'
            rw [List.getElem?_eq_getElem hj] at this
            exact List.all_eq_true.1 (bY (cJ hcc)) _ (List.mem_of_getElem? this.symm)
           obtain ⟨s1,s2⟩:=kS (fm:=fm) (G:=G) (zs:=zs) (z:=z.cells) (by simpa using zl) (fun i hi=>zr _ i hi) len
           have hzz2:Builtin.zeroCells z.cells len=(Array.range (len*zs.length)).map (z.cells[· % z.cells.size]!):=by
            unfold Builtin.zeroCells
            have:z.cells.size=zs.length:=by rw [← zl];simp
            rw [this]
           rw [← hzz2] at s1 s2
           obtain ⟨cur,ty,fz,k1,k2,k3,k4⟩:=jK (P:=P) hs hw hbo hbase (k:=off) (ns:=aR zs len) (xs:=(Builtin.zeroCells z.cells len).toList) hlen (by simpa using s1) (fun i hi=>by rw [aJ];exact s2 i hi) hscal
            (mA s1 s2 hscal) hm
           refine ⟨G,_,_,_,fin _ ?_,.inl rfl,Gh.le.refl G,k4,tup⟩
           obtain ⟨len',rfl⟩:∃ k,len=k+1:=⟨len-1,by omega⟩
           simp [Builtin.clear_,run_underlying ht,jj hi hzz,k3]
         · cases hrun
       · cases hrun
     · cases hrun
 · cases hrun
end Go.D
end
section
namespace Go.D
open Go.RowKit
variable {P:Program} {fm:FM}
theorem uo {e:TypeId} {zs:List DV} {o:Oper} (ho:o.op=.alloc e) (hz:aY P e=some zs):aq P fm (.iS e zs) o:=by
 obtain ⟨i,z,hi,hzz,hc⟩:=bh hz
 intro CR G w0 st w fr a v st' hs hf hrun
 simp only [al,Option.some.injEq,Prod.mk.injEq] at hrun
 obtain ⟨rfl,rfl⟩:=hrun
 obtain ⟨hl,hr⟩:=bI (fm:=fm) hc
 have hs':=hs.push (o:=.cells (.typed e) zs) (ob:=.cells z.cells e) 0 ⟨z.cells,e,(0,0),rfl,rfl,by simpa using hl,fun i hi=>by rw [← aJ];exact hr _ i hi,fun i hi=>by simp,bY (cJ hc)⟩ rfl
 refine ⟨_,_,.pointer (some ⟨w.heap.size,0,none⟩),_,?_,.inl rfl,Gh.bx hs.bO,hs',.ptr _ _ _ (by simp [Gh.push])⟩
 unfold execOp
 simp only [ho]
 refine ae ?_
 unfold Instr.alloc
 simp only [Sem.run_bind,jj hi hzz,Result.andThen_ok]
 rfl
theorem vP {CR:Nat→RC→Code→Prop} {G:Gh} {w0 w:World} {st:St} (hs:Sim fm CR G w0 st w) {b r ty:Nat} {vs:List DV} (hb:st.heap[b]? = some (.cells (.typed ty) vs)) (hm:G.mu b=some r):w.shape? r=some (ty,vs.length):=by
 obtain ⟨r',ob,h1,h2,h3,_⟩:=hs.obj b _ hb rfl (hs.np hm)
 rw [hm] at h1;cases h1
 obtain ⟨cs,t,fz,rfl,rfl,h4,_⟩:=h3
 unfold World.shape?
 rw [h2]
 simp [h4]
theorem sa {st:St} {ty n:Nat} {x v:DV} (h:zQ st ty n x=some v):∃ b vs,x=.ptr b 0∧v=.ptr b 0∧st.heap[b]? = some (.cells (.typed ty) vs)∧vs.length=n:=by
 unfold zQ at h
 split at h
 · rename_i b
   split at h
   · rename_i t vs hb
     split at h
     · rename_i hc
       obtain ⟨rfl,hn⟩:=hc
       injection h with h
       exact ⟨b,vs,rfl,h.symm,hb,hn⟩
     · cases h
   · cases h
 · cases h
theorem uY {s d t:TypeId} {j:TypeInfo} {ty n:Nat} {x:X} {xo:Operand} {o:Oper} (ho:o.op=.convert s d xo) (hs0:P.underlying s=some (.pointer t)) (hd:P.underlying d=some .unsafePointer) (ht:P.info? t=some j) (hj:j.size≠0) (hn:0<n)
 (hx:a9 fm x xo):aq P fm (.conv ty n x) o:=by
 refine az fun CR G w0 st w fr a v st' hs hf hrun => ?_
 simp only [al,Option.map_eq_some_iff] at hrun
 obtain ⟨u,hu,hrun⟩:=hrun
 cases hrun
 obtain ⟨b,vs,e1,rfl,hb,hl⟩:=sa hu
 have hxv:=hx.ev (a:=a) hf
 rw [e1] at hxv
 generalize hx0:a.eval xo=x0 at hxv
 cases hxv with
 | ptr _ _ r hm=>
   refine ⟨rfl,_,?_,.ptr _ _ _ hm⟩
   unfold execOp
   simp only [ho,hx0]
   exact ae (Lib.run_to_unsafe w ⟨r,0,none⟩ hs0 hd ht hj (vP hs hb hm) (by show 0<vs.length;omega))
theorem qW {s d u:TypeId} {j:TypeInfo} {ty n:Nat} {x:X} {xo:Operand} {o:Oper} (ho:o.op=.convert s d xo) (hs0:P.underlying s=some .unsafePointer) (hd:P.underlying d=some (.pointer u)) (hu0:P.info? u=some j)
 (hlies:liesAt P P.depth ty (n/P.cellsOf ty) 0 u 1=true) (hx:a9 fm x xo):aq P fm (.conv ty n x) o:=by
 refine az fun CR G w0 st w fr a v st' hs hf hrun => ?_
 simp only [al,Option.map_eq_some_iff] at hrun
 obtain ⟨u',hu,hrun⟩:=hrun
 cases hrun
 obtain ⟨b,vs,e1,rfl,hb,hl⟩:=sa hu
 have hxv:=hx.ev (a:=a) hf
 rw [e1] at hxv
 generalize hx0:a.eval xo=x0 at hxv
 cases hxv with
 | ptr _ _ r hm=>
   refine ⟨rfl,_,?_,.ptr _ _ _ hm⟩
   unfold execOp
   simp only [ho,hx0]
   exact ae (Lib.run_from_unsafe w ⟨r,0,none⟩ hs0 hd hu0 (vP hs hb hm) (by rw [hl];exact hlies))
theorem ug {t:TypeId} {x:X} {xo:Operand} {o:Oper} (ho:builtinCall .unsafeSliceData [xo] [t] o.op) (hx:a9 fm x xo):aq P fm (.iO x) o:=by
 refine az fun CR G w0 st w fr a v st' hs hf hrun => ?_
 simp only [al,Option.map_eq_some_iff] at hrun
 obtain ⟨u,hu,hrun⟩:=hrun
 cases hrun
 have hxv:=hx.ev (a:=a) hf
 generalize hx0:a.eval xo=x0 at hxv
 have fin:∀ (r:Value),(Builtin.unsafeSliceData_ #[t] o.type #[x0]).run P w=.ok r w→(execOp a.eval o).run P w=.ok (.value r) w:=by
  intro r h
  obtain ⟨consts,he⟩:=bp ho a.eval
  rw [he]
  simp only [List.map_cons,List.map_nil,hx0]
  unfold builtin
  exact ae h
 generalize x.ev fr=xv at hu hxv
 unfold ta at hu
 split at hu
 · injection hu with hu;subst hu
   cases hxv
   exact ⟨rfl,_,fin _ (Lib.run_unsafeSliceData_nil w _ _ _ _),.cm⟩
 · split at hu
   · rename_i hl
     injection hu with hu;subst hu
     cases hxv with
     | hsl _ _ _ _ _ _ r c hm hcap=>
       rename_i cap
       have hc:c≠0:=by
        cases cap with
        | none=>have:=hcap.1;omega
        | some k=>have:=hcap.2;rw [hcap.1];omega
       exact ⟨rfl,_,fin _ (Lib.run_unsafeSliceData_row w _ _ _ _ _ hc),.ptr _ _ _ hm⟩
   · cases hu
 · cases hu
theorem mb:∀ (vs:List DV) (bs:List UInt8),gM vs=some bs→bs.length=vs.length∧∀ (j:Nat) (x:UInt8),bs[j]? = some x→vs[j]? = some (.int .u8 (x.toNat:Int))
 | [],bs,h=>by
   simp only [gM,Option.some.injEq] at h;subst h
   exact ⟨rfl,fun j x h=>by simp at h⟩
 | v::vs,bs,h=>by
   cases v<;>try (simp [gM] at h;done)
   rename_i k n
   cases k<;>try (simp [gM] at h;done)
   simp only [gM] at h
   split at h
   · rename_i hn
     simp only [Option.map_eq_some_iff] at h
     obtain ⟨l,hl,rfl⟩:=h
     obtain ⟨h1,h2⟩:=mb vs l hl
     refine ⟨by simp [h1],fun j x hx => ?_⟩
     cases j with
     | zero=>
       simp only [List.getElem?_cons_zero,Option.some.injEq] at hx ⊢
       subst hx
       have:(UInt8.ofNat n.toNat).toNat=n.toNat:=by
        rw [UInt8.toNat_ofNat'];omega
       rw [this]
       congr 1
       omega
     | succ j=>simpa using h2 j x (by simpa using hx)
   · cases h
theorem y4 {w:World} {r:Nat} {cs:Array Value} {t:TypeId} {lo hi n:Nat} (h:w.heap[r]? = some (.cells cs t (lo,hi))) (hn:n≠0) :
 w.freeze ⟨r,0,none⟩ n=w.putObj r (.cells cs t (if lo==hi then (0,n) else (min lo 0,max hi n))):=by
 unfold World.freeze World.putObj
 rw [if_neg hn]
 congr 1
 apply Array.ext_getElem?
 intro k
 rw [Array.getElem?_modify,Array.getElem?_setIfInBounds]
 by_cases e:r=k
 · subst e
   have hlt:=get?_lt h
   have hv:w.heap[r]=.cells cs t (lo,hi):=(Array.getElem?_eq_some_iff.1 h).2
   simp [hlt,hv]
 · simp [e]
theorem Di {α:Type} {l:List α} {b:Nat} {x:α} (h:l[b]? = some x):l.set b x=l:=by
 apply List.ext_getElem?
 intro i
 rw [List.getElem?_set]
 by_cases e:b=i
 · subst e
   rw [if_pos rfl,if_pos (List.getElem?_eq_some_iff.1 h).1,h]
 · rw [if_neg e]
theorem xH {pt it e:TypeId} {x l:X} {xo lo:Operand} {o:Oper} (ho:builtinCall .unsafeString [xo,lo] [pt,it] o.op) (hp:P.underlying pt=some (.pointer e)) (hc1:P.cellsOf e=1) (hx:a9 fm x xo) (hl:a9 fm l lo):aq P fm (.re e x l) o:=by
 intro CR G w0 st w fr a v st' hs hf hrun
 simp only [al,Option.map_eq_some_iff] at hrun
 obtain ⟨u,hu,hrun⟩:=hrun
 cases hrun
 have hxv:=hx.ev (a:=a) hf
 have hlv:=hl.ev (a:=a) hf
 generalize hx0:a.eval xo=x0 at hxv
 generalize hl0:a.eval lo=l0 at hlv
 have fin:∀ (r:Value) (w':World),(Builtin.unsafeString_ #[pt,it] o.type #[x0,l0]).run P w=.ok r w'→(execOp a.eval o).run P w=.ok (.value r) w':=by
  intro r w' h
  obtain ⟨consts,he⟩:=bp ho a.eval
  rw [he]
  simp only [List.map_cons,List.map_nil,hx0,hl0]
  unfold builtin
  exact ae h
 generalize x.ev fr=xv at hu hxv
 generalize l.ev fr=lv at hu hlv
 unfold EZ at hu
 split at hu
 · split at hu
   · rename_i h0
     subst h0
     injection hu with hu;subst hu
     cases hxv;cases hlv
     exact ⟨G,w,_,_,fin _ _ (Lib.run_unsafeString_none w pt it _ none),.inl rfl,Gh.le.refl G,hs,.str _ _ rfl⟩
   · cases hu
 · rename_i b off n
   cases hxv with
   | ptr _ _ r hm=>
   cases hlv
   split at hu
   · rename_i h0
     subst h0
     injection hu with hu;subst hu
     exact ⟨G,w,_,_,fin _ _ (Lib.run_unsafeString_none w pt it _ (some _)),.inl rfl,Gh.le.refl G,hs,.str _ _ rfl⟩
   · rename_i h0
     split at hu
     · rename_i t vs hcell
       split at hu
       · rename_i hcond
         obtain ⟨rfl,rfl,hbase,hn0,hnl,hroom⟩:=hcond
         simp only [Option.map_eq_some_iff] at hu
         obtain ⟨bs,hbs,rfl⟩:=hu
         have hbo:=jq hcell
         obtain ⟨r',ob,q1,q2,q3,q4⟩:=hs.obj b _ hbo rfl (hs.np hm)
         rw [hm] at q1;cases q1
         obtain ⟨cs,t,⟨flo,fhi⟩,rfl,rfl,k1,k2,k3,k4,k5⟩:=q3
         obtain ⟨g1,g2⟩:=mb _ _ hbs
         have hlen:bs.length=n.toNat:=by rw [g1];simp;omega
         have hne:bs≠[]:=by
          intro e0
          rw [e0] at hlen
          simp at hlen
          omega
         have hcellr:∀ j x,bs[j]? = some x→w.cell? ((⟨r,0,none⟩:Addr).add j)=some (.int .u8 x.toNat):=by
          intro j y hy
          have h1:=g2 j y hy
          have hj:j<bs.length:=(List.getElem?_eq_some_iff.1 hy).1
          have hjv:j<vs.length:=by omega
          rw [List.getElem?_take,if_pos (by omega)] at h1
          have h2:=k3 j hjv
          rw [(List.getElem?_eq_some_iff.1 h1).2] at h2
          have hjc:j<cs.size:=by omega
          rw [Array.getD_eq_getD_getElem?,Array.getElem?_eq_getElem hjc] at h2
          rw [Addr.add_lit,Nat.zero_add]
          simp only [World.cell?,q2]
          rw [Array.getElem?_eq_getElem hjc]
          simp only [Option.getD_some] at h2
          generalize cs[j]=cj at h2
          cases h2
          simp
         have hrd:(aw:Int)=140737488355328:=rfl
         rw [hrd] at hroom
         have hrun:=Lib.run_unsafeString_row w pt it o.type t hp hc1 r cs.size (by unfold World.shape?;rw [q2]) bs hne (by omega) (by omega) hcellr
         rw [hlen,show ((n.toNat:Nat):Int)=n by omega] at hrun
         have hfz:=y4 (n:=n.toNat) q2 (by omega)
         rw [hfz] at hrun
         have hput:=hs.put (o':=.cells (.frz t) vs) (ob':=.cells cs t (if flo==fhi then (0,n.toNat) else (min flo 0,max fhi n.toNat))) hbo rfl hm hbase
          ⟨cs,t,_,rfl,rfl,k1,k2,k3,by split<;>simp<;>omega,k5⟩ rfl (fun h=>by cases h)
         rw [Di hbo] at hput
         exact ⟨G,_,_,_,fin _ _ hrun,.inl rfl,Gh.le.refl G,hput,.str _ _ rfl⟩
       · cases hu
     · cases hu
 · cases hu
theorem rz {t u e:TypeId} {bytes:Nat} {zs:List DV} {i:TypeInfo} {x y:X} {xo yo:Operand} {o:Oper} (ho:builtinCall .append [xo,yo] [t,u] o.op) (ht:P.underlying t=some (.slice e)) (hu:ef P u=true)
 (hi:P.info? e=some i) (hn:i.size=1) (hby:i.bytes=bytes) (hz:aY P e=some zs) (hzl:zs.length=1) (hx:a9 fm x xo) (hy:a9 fm y yo):aq P fm (.fT e bytes x y) o:=by
 intro CR G w0 st w fr a v st' hs hf hrun
 simp only [al,qT] at hrun
 have hxv:=hx.ev (a:=a) hf
 have hyv:=hy.ev (a:=a) hf
 split at hrun
 · cases hrun
 rename_i m news hnews
 have hnr:=cW (P:=P) hs hyv hnews
 generalize hx0:a.eval xo=x0 at hxv
 generalize hy0:a.eval yo=y0 at hyv hnr
 obtain ⟨N,n1,n2,n3⟩:=hnr.cells m w (Nat.le_refl _) (Below.refl _ w)
 obtain ⟨N',d1,d2,d3⟩:=hnr.cells m w.drew (Nat.le_refl _) ((Below.refl _ w).drew)
 have hnl:=hnr.length
 obtain ⟨i',z,hi',hzz,hcc⟩:=bh hz
 rw [hi] at hi';cases hi'
 obtain ⟨zl,zr⟩:=bI (fm:=fm) hcc
 have hzsz:z.cells.size=1:=by rw [← hzl,← zl];simp
 have fin:∀ (r:Value) (w':World),(Builtin.append_ #[t,u] o.type #[x0,y0]).run P w=.ok r w'→(execOp a.eval o).run P w=.ok (.value r) w':=by
  intro r w' h
  obtain ⟨consts,he⟩:=bp ho a.eval
  rw [he]
  simp only [List.map_cons,List.map_nil,hx0,hy0]
  unfold builtin
  exact ae h
 have none0:∀ (p:Option Addr) (l c:Nat),m=0→x0=.slice p l c→l≤c→(Builtin.append_ #[t,u] o.type #[x0,y0]).run P w=.ok x0 w:=by
  intro p l c hm hp hlc
  subst hm
  have hN0:N = #[]:=by simpa using n2
  rw [hp]
  rw [← hn] at n1
  have:=cZ (P:=P) (w:=w) (w':=w) (ty:=o.type) (a:=p) (sLen:=l) (sCap:=c) (m:=0) (x:=y0) (news:=N) ht hi hu hnr.len (by omega) n1 (by subst hN0;cases p<;>rfl)
  simpa using this
 generalize X.ev fr x=xv at hxv hrun
 split at hrun
 ·
  rename_i tag n' tk
  cases hxv
  split at hrun
  · rename_i hm
    simp only [Option.some.injEq,Prod.mk.injEq] at hrun
    obtain ⟨rfl,rfl⟩:=hrun
    exact ⟨G,w,_,_,fin _ _ (none0 none 0 0 hm rfl (Nat.le_refl _)),.inl rfl,Gh.le.refl G,hs,.gC _ _ _⟩
  rename_i hm0
  split at hrun
  · rename_i hcond
    obtain ⟨hb1,hb2⟩:=hcond
    simp only [Option.some.injEq,Prod.mk.injEq] at hrun
    obtain ⟨rfl,rfl⟩:=hrun
    have hb1:m*bytes≤140737488355328:=by simpa [aw] using hb1
    have hb2:m≤140737488355328:=by simpa [aw] using hb2
    have hd1:=d1
    rw [← hn] at hd1
    have hge:=grownCap_ge w (0+m) 0 e
    have hr:=cd (P:=P) (w:=w) (u:=u) (ty:=o.type) (z:=z) (a:=none) (sLen:=0) (sCap:=0) (m:=m) (x:=y0) (olds:=#[]) (news:=N') ht hi hzz hu hnr.len (by omega) (by rw [hby,Nat.zero_add];omega) (by omega) rfl hd1
    generalize harr:(#[]:Array Value)++N'++Builtin.zeroCells z.cells (grownCap w (0+m) 0 e-(0+m))=arr at hr
    have hsz:arr.size=grownCap w (0+m) 0 e*1:=by
     rw [← harr]
     simp only [Array.size_append,d2,size_zeroCells,hzsz,Array.size_empty]
     omega
    have hpush:=hs.drew.push (o:=.cells (.frz e) news) (ob:=.cells arr e) (grownCap w (0+m) 0 e*1) ⟨arr,e,(0,0),rfl,rfl,by
     rw [hsz,hnl];exact Nat.mul_le_mul_right _ (by omega),by simp [Gh.push,hsz],fun i hi=>by
      have:=gN (fm:=fm) (G:=G) (olds:=[]) (news:=news) (O:=#[]) (N:=N') (Z:=Builtin.zeroCells z.cells (grownCap w (0+m) 0 e-(0+m))) rfl (by rw [d2,hnl])
       (fun i hi=>by simp at hi) (fun i hi=>d3 i hi (by omega)) i (by simpa using hi)
      rw [harr] at this
      exact this.le (Gh.bx hs.bO),Nat.zero_le _,hnr.bg⟩ rfl
    have hle:G.le (G.push st.heap.length w.heap.size (grownCap w (0+m) 0 e*1)):=Gh.bx hs.bO
    refine ⟨_,_,.slice (some ⟨w.heap.size,0,none⟩) (0+m) (grownCap w (0+m) 0 e),_,fin _ _ hr,.inl rfl,hle,hpush,?_⟩
    rw [show 0+m=m by omega] at hge ⊢
    exact .hsl _ _ _ _ _ _ _ _ (by simp [Gh.push]) ⟨hge,by simp [Gh.push]⟩
  · cases hrun
 ·
  rename_i n' ag' b off len
  cases hxv with
  | hsl _ _ _ _ _ _ r c hmu hcap=>
  have hlc:len≤c:=hcap.1
  split at hrun
  · rename_i hm
    simp only [Option.some.injEq,Prod.mk.injEq] at hrun
    obtain ⟨rfl,rfl⟩:=hrun
    exact ⟨G,w,_,_,fin _ _ (none0 _ _ _ hm rfl hlc),.inl rfl,Gh.le.refl G,hs,.hsl _ _ _ _ _ _ _ _ hmu hcap⟩
  rename_i hm
  split at hrun
  · rename_i hcond
    obtain ⟨rfl,rfl,hbase,hb1,hb2⟩:=hcond
    have hb1:(len+m)*bytes≤140737488355328:=by simpa [aw] using hb1
    have hb2:len+m≤140737488355328:=by simpa [aw] using hb2
    split at hrun
    · rename_i ty0 vs hcell
      split at hrun
      · rename_i hcond2
        obtain ⟨rfl,hvl⟩:=hcond2
        simp only [Option.some.injEq,Prod.mk.injEq] at hrun
        obtain ⟨rfl,rfl⟩:=hrun
        have hbo:=jq hcell
        obtain ⟨r',ob,q1,q2,q3,q4⟩:=hs.obj b _ hbo rfl (hs.np hmu)
        rw [hmu] at q1;cases q1
        obtain ⟨cs,ty,fz,rfl,rfl,k1,k2,k3,k4,k5⟩:=q3
        have hro:∀ i,G.ro r i=none:=by
         intro i
         cases er:G.ro r i with
         | none=>rfl
         | some v=>exact absurd hmu (fun h=>hs.dp r i v b _ er hbo rfl h)
        have htk:∀ u x y,st.aQ[u]? = some x→G.bw u x=some y→y.1≠r:=by
         intro u x y hu hy e
         obtain ⟨r',len',cap',n'',cs',ty',h1,h2,h3,h4,h5,h6,h7,h8⟩:=hs.tok u x hu
         rw [hy] at h1;cases h1
         simp only at e
         subst e
         exact h7 b _ hbo rfl hmu
        have hgone:=hs.C7 b (hs.np hmu)
        have hfree:∀ b' o,(st.heap.set b .gone)[b']? = some o→o.cf=false→G.mu b'≠some r:=by
         intro b' o hb' hg e
         rcases getElem?_set_cases _ _ _ _ _ hb' with ⟨rfl,rfl,_⟩ | ⟨e1,e2⟩
         · cases hg
         · exact e1 (hs.bN _ _ _ _ _ e2 hbo hg rfl e hmu)
        have hset:(st.heap.set b .gone).length=st.heap.length:=by simp
        have hscal:(vs++news).all DV.bg=true:=by rw [List.all_append,k5,hnr.bg];rfl
        have hcapo:=hcap.2
        by_cases hg:c<len+m
        ·
         have hge:=grownCap_ge w (len+m) c ty
         have hor:=cW (P:=P) (n:=1) (m:=len) (news:=(vs.drop 0).take (len*1)) hs (.hsl 1 ag' b 0 len none r c hmu hcap) (by
          simp only [cw,if_true,St.cells,hbo]
          rw [if_pos (by omega)])
         obtain ⟨O,o1,o2,o3⟩:=hor.cells len w.drew (Nat.le_refl _) ((Below.refl _ w).drew)
         have hvs:(vs.drop 0).take (len*1)=vs:=by rw [List.drop_zero,List.take_of_length_le (by omega)]
         rw [hvs] at o3
         have hd1:=d1
         rw [← hn] at hd1 o1
         have hr:=cd (P:=P) (w:=w) (u:=u) (ty:=o.type) (z:=z) (a:=some ⟨r,0,none⟩) (sLen:=len) (sCap:=c) (m:=m) (x:=y0) (olds:=O) (news:=N') ht hi hzz hu hnr.len hg (by rw [hby];omega) (by omega) o1 hd1
         generalize harr:O++N'++Builtin.zeroCells z.cells (grownCap w (len+m) c ty-(len+m))=arr at hr
         have hsz:arr.size=grownCap w (len+m) c ty*1:=by
          rw [← harr]
          simp only [Array.size_append,o2,d2,size_zeroCells,hzsz]
          omega
         have hpush:=hgone.drew.push (o:=.cells (.frz ty) (vs++news)) (ob:=.cells arr ty) (grownCap w (len+m) c ty*1) ⟨arr,ty,(0,0),rfl,rfl,by
          rw [hsz,List.length_append,← hvl,hnl];omega,by simp [Gh.push,hsz],fun i hi=>by
           have:=gN (fm:=fm) (G:=G) (olds:=vs) (news:=news) (O:=O) (N:=N') (Z:=Builtin.zeroCells z.cells (grownCap w (len+m) c ty-(len+m))) (by rw [o2,hvl];omega) (by rw [d2,hnl])
            (fun i hi=>o3 i hi (by omega)) (fun i hi=>d3 i hi (by omega)) i hi
           rw [harr] at this
           refine this.le ?_
           have:=hgone.bO
           exact Gh.bx this,Nat.zero_le _,hscal⟩ rfl
         have hle:G.le (G.push (st.heap.set b .gone).length w.heap.size (grownCap w (len+m) c ty*1)):=Gh.bx hgone.bO
         refine ⟨_,_,_,_,fin _ _ hr,.inl rfl,hle,hpush,?_⟩
         rw [← hset]
         exact .hsl _ _ _ _ _ _ _ _ (by simp [Gh.push]) ⟨hge,by simp [Gh.push]⟩
        ·
         have hcn:c≤cs.size:=by rw [k2];omega
         have hmul:len+m≤cs.size:=by omega
         have hNl:N.toList.length=m:=by simpa using n2
         have hst:=run_storeCells_atF P r len ty fz N.toList 0 cs w q2 (by omega) (by omega) (mA (G:=G) (news:=news) (by rw [n2,hnl]) (fun i hi=>n3 i hi (by omega)) hnr.bg)
         rw [Nat.add_zero,fP q2] at hst
         have hsp:(cs.toList.take len++N.toList++cs.toList.drop (len+N.toList.length)).toArray=aO cs len N.toList:=rfl
         rw [hsp] at hst
         have hssz:=fe (cur:=cs) (k:=len) (vs:=N.toList) (by omega)
         have hput:=hgone.yK (cs':=aO cs len N.toList) q2 (q4 hbase) hfree hssz (fun i v hv=>by rw [hro i] at hv;cases hv)
         have hrow:(w.putObj r (.cells (aO cs len N.toList) ty fz)).heap[r]? = some (.cells (aO cs len N.toList) ty fz):=by rw [eJ w r r _ (get?_lt q2)];simp
         have hlow:∀ i,i<vs.length→(aO cs len N.toList).getD i undef=cs.getD i undef:=by
          intro i hi
          unfold aO
          rw [Array.getD_eq_getD_getElem?,Array.getD_eq_getD_getElem?,List.getElem?_toArray,List.append_assoc,List.getElem?_append_left (by simp;omega),List.getElem?_take,if_pos (by omega)]
          simp
         have hhigh:∀ i,i<news.length→(aO cs len N.toList).getD (vs.length+i) undef=N.getD i undef:=by
          intro i hi
          unfold aO
          have hiN:i<N.toList.length:=by omega
          have e3:vs.length+i-(cs.toList.take len).length=i:=by simp;omega
          rw [Array.getD_eq_getD_getElem?,List.getElem?_toArray,List.append_assoc,List.getElem?_append_right (by simp;omega),e3,List.getElem?_append_left hiN,← aJ,List.getD_eq_getElem?_getD]
         have hle:G.le (G.push (st.heap.set b .gone).length r cs.size):=Gh.bx hgone.bO
         have hadopt:=hput.Ni (o:=.cells (.frz ty) (vs++news)) cs.size hrow (q4 hbase) hfree hro htk ⟨_,ty,fz,rfl,rfl,by
          rw [hssz,List.length_append,← hvl,hnl];omega,by simp [Gh.push,hssz],fun i hi=>by
           by_cases ei:i<vs.length
           · rw [List.getElem_append_left ei,hlow i ei]
             exact (k3 i ei).le hle
           · have hi2:i-vs.length<news.length:=by simp only [List.length_append] at hi;omega
             rw [List.getElem_append_right (by omega)]
             have e4:vs.length+(i-vs.length)=i:=by omega
             have:=hhigh (i-vs.length) hi2
             rw [e4] at this
             rw [this]
             exact (n3 _ hi2 (by omega)).le hle,by simp;omega,hscal⟩ rfl
         have hn1:=n1
         rw [← hn] at hn1
         have hr':=cZ (P:=P) (w:=w) (w':=w.putObj r (.cells (aO cs len N.toList) ty fz)) (ty:=o.type) (a:=some ⟨r,0,none⟩) (sLen:=len) (sCap:=c) (m:=m) (x:=y0) (news:=N) ht hi hu hnr.len (by omega) hn1 (by
          show (storeCells ((⟨r,0,none⟩:Addr).add (len*i.size)) N.toList).run P w=_
          rw [Addr.add_lit,Nat.zero_add,hn,Nat.mul_one];exact hst)
         refine ⟨_,_,_,_,fin _ _ hr',.inl rfl,hle,hadopt,?_⟩
         rw [← hset]
         exact .hsl _ _ _ _ _ _ _ _ (by simp [Gh.push]) ⟨by omega,by simp [Gh.push];omega⟩
      · cases hrun
    · cases hrun
  · cases hrun
 · cases hrun
theorem tx {t arr e:TypeId} {n len:Nat} {ag:Bool} {i:TypeInfo} {x:X} {xo:Operand} {o:Oper} (ho:o.op=.slice t xo none none none) (ht:P.underlying t=some (.pointer arr)) (ha:P.underlying arr=some (.array len e)) (hi:P.info? e=some i)
 (hx:a9 fm x xo):aq P fm (.jB n ag len x) o:=by
 refine az fun CR G w0 st w fr a v st' hs hf hrun => ?_
 simp only [al] at hrun
 have hxv:=hx.ev (a:=a) hf
 generalize hx0:a.eval xo=x0 at hxv
 split at hrun
 · rename_i b off e0
   rw [e0] at hxv
   simp only [Option.some.injEq,Prod.mk.injEq] at hrun
   obtain ⟨rfl,rfl⟩:=hrun
   cases hxv with
   | ptr _ _ r hm=>
     refine ⟨rfl,.slice (some ⟨r,off,none⟩) len len,?_,.hsl _ _ _ _ _ _ _ _ hm ⟨rfl,Nat.le_refl _⟩⟩
     unfold execOp
     simp only [ho,hx0,Option.map_none]
     refine ae ?_
     unfold Instr.sliceAt Instr.slice
     simp [run_underlying ht,run_underlying ha,asAddr,Instr.sliceBounds,sizeOf,typeInfo,hi,Addr.add]
 · cases hrun
theorem ru {t e:TypeId} {n len:Nat} {ag:Bool} {i:TypeInfo} {x:X} {xo:Operand} {o:Oper} (ho:o.op=.slice t xo none none none) (ht:P.underlying t=some (.array len e)) (hi:P.info? e=some i)
 (hx:a9 fm x xo):aq P fm (.jB n ag len x) o:=by
 refine az fun CR G w0 st w fr a v st' hs hf hrun => ?_
 simp only [al] at hrun
 have hxv:=hx.ev (a:=a) hf
 generalize hx0:a.eval xo=x0 at hxv
 split at hrun
 · rename_i b off e0
   rw [e0] at hxv
   simp only [Option.some.injEq,Prod.mk.injEq] at hrun
   obtain ⟨rfl,rfl⟩:=hrun
   cases hxv with
   | ptr _ _ r hm=>
     refine ⟨rfl,.slice (some ⟨r,off,none⟩) len len,?_,.hsl _ _ _ _ _ _ _ _ hm ⟨rfl,Nat.le_refl _⟩⟩
     unfold execOp
     simp only [ho,hx0,Option.map_none]
     refine ae ?_
     unfold Instr.sliceAt Instr.slice
     simp [run_underlying ht,Instr.sureAddr,Instr.sliceBounds,sizeOf,typeInfo,hi,Addr.add]
 · cases hrun
theorem pY {n:Nat} {ag:Bool} {b off len:Nat} {lov hiv mxv:Option DV} {u:DV} {G:Gh} {lo0 hh1 mx0:Option Value} {w:World} {r:Nat} (hm:G.mu b=some r) (hlov:lO fm G lov lo0) (hhiv:lO fm G hiv hh1) (hmxv:lO fm G mxv mx0) (hu:bF false n (.hsl n ag b off len (some len)) lov hiv mxv=some u) :
 ∃ l h m,(Instr.sliceBounds false len len lo0 hh1 mx0).run P w=.ok (l,h,m) w∧Rel fm G u (.slice (if m=l then (some (⟨r,off,none⟩:Addr)) else (some (⟨r,off,none⟩:Addr)).map (·.add (l*n))) (h-l) (m-l)):=by
 simp only [bF,if_true] at hu
 split at hu
 · cases hu
 · rename_i m hm1
   split at hu
   · cases hu
   · rename_i h hh
     split at hu
     · cases hu
     · rename_i l hl
       injection hu with hu;subst hu
       have hb:=eE (P:=P) (G:=G) (isS:=false) (len:=len) (c0:=len) (cap:=len) (lo:=lov) (hi:=hiv) (mx:=mxv) (lo':=lo0) (hi':=hh1) (mx':=mx0) (l:=l) (h:=h) (m:=m) (w:=w) hlov hhiv hmxv (Nat.le_refl _)
        (fun v e=>by subst e;exact hm1) (fun e=>by subst e;simp at hm1;exact hm1.symm)
        (fun v e=>by
         subst e
         cases mxv with
         | none=>simp at hh hm1;exact ⟨len,hh,by omega⟩
         | some v'=>simp at hh;exact ⟨m,hh,Nat.le_refl _⟩)
        (fun e=>by subst e;cases mxv with | none=>simp at hh;exact ⟨rfl,hh.symm⟩ | some v=>simp at hh) (fun v e=>by subst e;exact hl) (fun e=>by subst e;simp at hl;exact hl.symm)
       refine ⟨l,h,m,hb,?_⟩
       have eaddr:(if m=l then (some (⟨r,off,none⟩:Addr)) else (some (⟨r,off,none⟩:Addr)).map (·.add (l*n)))=some ⟨r,if m=l then off else off+l*n,none⟩:=by
        split<;>simp [Addr.add_lit]
       rw [eaddr]
       refine .hsl _ _ _ _ _ _ r _ hm ⟨rfl,?_⟩
       have hhm:h≤m:=by
        cases hiv with
        | none=>cases mxv with
          | none=>simp at hh hm1;omega
          | some v=>simp at hh
        | some v=>
          cases mxv with
          | none=>simp at hh hm1;have:=(cY hh).1;omega
          | some v'=>simp at hh;exact (cY hh).1
       omega
theorem tK {t arr e:TypeId} {n len:Nat} {ag:Bool} {i:TypeInfo} {x:X} {lo hi mx:Option X} {xo:Operand} {lo' hi' mx':Option Operand} {o:Oper} (ho:o.op=.slice t xo lo' hi' mx') (ht:P.underlying t=some (.pointer arr)) (ha:P.underlying arr=some (.array len e)) (hi0:P.info? e=some i) (hn:i.size=n)
 (hx:a9 fm x xo) (hlo:dj fm lo lo') (hhi:dj fm hi hi') (hmx:dj fm mx mx'):aq P fm (.sliceB n ag len x lo hi mx) o:=by
 refine az fun CR G w0 st w fr a v st' hs hf hrun => ?_
 simp only [al] at hrun
 have hxv:=hx.ev (a:=a) hf
 have hlov:=hlo.ev (a:=a) hf
 have hhiv:=hhi.ev (a:=a) hf
 have hmxv:=hmx.ev (a:=a) hf
 generalize hx0:a.eval xo=x0 at hxv
 generalize lo.map (X.ev fr)=lov at hrun hlov
 generalize hi.map (X.ev fr)=hiv at hrun hhiv
 generalize mx.map (X.ev fr)=mxv at hrun hmxv
 generalize hl0:lo'.map a.eval=lo0 at hlov
 generalize hh0:hi'.map a.eval=hh1 at hhiv
 generalize hm0:mx'.map a.eval=mx0 at hmxv
 have hsz:(sizeOf e).run P w=.ok n w:=by unfold sizeOf typeInfo;simp [hi0,hn]
 split at hrun
 · rename_i b off e0
   rw [e0] at hxv
   simp only [Option.map_eq_some_iff] at hrun
   obtain ⟨u,hu,hrun⟩:=hrun
   cases hrun
   cases hxv with
   | ptr _ _ r hm=>
     obtain ⟨l,h,m,hb,hrel⟩:=pY (P:=P) (w:=w) hm hlov hhiv hmxv hu
     refine ⟨rfl,_,?_,hrel⟩
     unfold execOp
     simp only [ho,hx0,hl0,hh0,hm0]
     refine ae ?_
     unfold Instr.sliceAt Instr.slice
     by_cases hml:m=l<;>simp [run_underlying ht,run_underlying ha,asAddr,hb,hsz,hml]
 · cases hrun
theorem rb {t e:TypeId} {n len:Nat} {ag:Bool} {i:TypeInfo} {x:X} {lo hi mx:Option X} {xo:Operand} {lo' hi' mx':Option Operand} {o:Oper} (ho:o.op=.slice t xo lo' hi' mx') (ht:P.underlying t=some (.array len e)) (hi0:P.info? e=some i) (hn:i.size=n)
 (hx:a9 fm x xo) (hlo:dj fm lo lo') (hhi:dj fm hi hi') (hmx:dj fm mx mx'):aq P fm (.sliceB n ag len x lo hi mx) o:=by
 refine az fun CR G w0 st w fr a v st' hs hf hrun => ?_
 simp only [al] at hrun
 have hxv:=hx.ev (a:=a) hf
 have hlov:=hlo.ev (a:=a) hf
 have hhiv:=hhi.ev (a:=a) hf
 have hmxv:=hmx.ev (a:=a) hf
 generalize hx0:a.eval xo=x0 at hxv
 generalize lo.map (X.ev fr)=lov at hrun hlov
 generalize hi.map (X.ev fr)=hiv at hrun hhiv
 generalize mx.map (X.ev fr)=mxv at hrun hmxv
 generalize hl0:lo'.map a.eval=lo0 at hlov
 generalize hh0:hi'.map a.eval=hh1 at hhiv
 generalize hm0:mx'.map a.eval=mx0 at hmxv
 have hsz:(sizeOf e).run P w=.ok n w:=by unfold sizeOf typeInfo;simp [hi0,hn]
 split at hrun
 · rename_i b off e0
   rw [e0] at hxv
   simp only [Option.map_eq_some_iff] at hrun
   obtain ⟨u,hu,hrun⟩:=hrun
   cases hrun
   cases hxv with
   | ptr _ _ r hm=>
     obtain ⟨l,h,m,hb,hrel⟩:=pY (P:=P) (w:=w) hm hlov hhiv hmxv hu
     refine ⟨rfl,_,?_,hrel⟩
     unfold execOp
     simp only [ho,hx0,hl0,hh0,hm0]
     refine ae ?_
     unfold Instr.sliceAt Instr.slice
     by_cases hml:m=l<;>simp [run_underlying ht,Instr.sureAddr,hb,hsz,hml]
 · cases hrun
end Go.D
end
section
namespace Go.D
open Go.RowKit
variable {P:Program} {fm:FM}
def GD (fm:FM) (g:Nat):List DV→Nat→Bool
 | [],_=>true
 | d::ds,i=>(match fm.env g i with | some v=>(match oG v with | some u=>DV.beq u d | none=>false) | none=>false)&&GD fm g ds (i+1)
theorem Aw {g:Nat}:∀ {ds:List DV} {k:Nat},GD fm g ds k=true→∀ i (h:i<ds.length),∃ v,fm.env g (k+i)=some v∧oG v=some ds[i]
 | [],_,_,i,h=>by simp at h
 | d::ds,k,hb,i,h=>by
   simp only [GD,Bool.and_eq_true] at hb
   obtain ⟨h1,h2⟩:=hb
   cases i with
   | zero=>
     split at h1
     · rename_i v hv
       split at h1
       · rename_i u hu
         have:=DV.beq_eq _ _ h1
         subst this
         exact ⟨v,hv,hu⟩
       · cases h1
     · cases h1
   | succ i=>
     obtain ⟨v,g1,g2⟩:=Aw h2 i (by simpa using h)
     exact ⟨v,by rwa [show k+(i+1)=k+1+i by omega],by simpa using g2⟩
theorem K5 {g:Nat} {ds:List DV} (h:GD fm g ds 0=true) (G:Gh):Rel fm G (.bT ds) (.pointer (some ⟨g,0,none⟩)):=by
 have key:=Aw h
 refine .bT ds g 0 (fun i=>(fm.env g i).getD undef) (fun i hi => ?_) (fun i hi => ?_) ?_
 · obtain ⟨v,h1,h2⟩:=key i hi
   rw [Nat.zero_add] at h1 ⊢
   exact .inr (by rw [h1];rfl)
 · obtain ⟨v,h1,h2⟩:=key i hi
   rw [Nat.zero_add] at h1
   simp only [h1,Option.getD_some]
   exact nt h2 G
 · rw [List.all_eq_true]
   intro x hx
   obtain ⟨i,hi,rfl⟩:=List.getElem_of_mem hx
   obtain ⟨v,h1,h2⟩:=key i hi
   exact qy h2
def xB (fm:FM):X→Operand→Bool
 | .t n,.tmp m=>n==m
 | .c v,.const x=>(match Gm x with | some u=>DV.beq u v | none=>false)
 | .f g,.func f=>(match fm g with | some f'=>f'==f | none=>false)
 | .c (.bT cs),.global g=>GD fm g cs 0
 | _,_=>false
theorem aI {x:X} {o:Operand} (h:xB fm x o=true):a9 fm x o:=by
 unfold xB at h
 split at h
 · exact eq_of_beq h
 · split at h
   · rename_i u hu
     have:=DV.beq_eq _ _ h
     subst this
     exact fun G=>wY hu G
   · cases h
 · split at h
   · rename_i f' hf
     have:=eq_of_beq h
     subst this
     exact hf
   · cases h
 · exact fun G=>K5 h G
 · cases h
def xsB (fm:FM):List X→List Operand→Bool
 | [],[]=>true
 | x::xs,o::os=>xB fm x o&&xsB fm xs os
 | _,_=>false
theorem kp:∀ {xs:List X} {os:List Operand},xsB fm xs os=true→ll fm xs os
 | [],[],_=>⟨rfl,fun i x o h=>by simp at h⟩
 | x::xs,o::os,h=>by
   simp only [xsB,Bool.and_eq_true] at h
   obtain ⟨h1,h2⟩:=kp h.2
   refine ⟨by simp [h1],fun i y z hy hz => ?_⟩
   cases i with
   | zero=>simp only [List.getElem?_cons_zero,Option.some.injEq] at hy hz;subst hy;subst hz;exact aI h.1
   | succ i=>exact h2 i y z (by simpa using hy) (by simpa using hz)
 | [],_::_,h=>by simp [xsB] at h
 | _::_,[],h=>by simp [xsB] at h
def xoB (fm:FM):Option X→Option Operand→Bool
 | none,none=>true
 | some x,some o=>xB fm x o
 | _,_=>false
theorem ij {x:Option X} {o:Option Operand} (h:xoB fm x o=true):dj fm x o:=by
 unfold xoB at h
 split at h
 · trivial
 · exact aI h
 · cases h
def Zw:TypeDesc→Bool
 | .struct _ | .array _ _=>true
 | _=>false
def iX (P:Program) (t:TypeId) (n:Nat) (ag:Bool):Bool:=
 (match P.underlying t with | some d=>Zw d==ag | none=>false)&&(match P.info? t with | some i=>i.size==n | none=>false)&&(ag||n==1)
theorem iF {t:TypeId} {n:Nat} {ag:Bool} (h:iX P t n ag=true):iH P t n ag:=by
 unfold iX at h
 simp only [Bool.and_eq_true,Bool.or_eq_true] at h
 obtain ⟨⟨h1,h2⟩,h3⟩:=h
 refine ⟨?_,?_,?_⟩
 · split at h1
   · rename_i d hd
     refine ⟨d,hd,?_⟩
     rw [← eq_of_beq h1]
     cases d<;>rfl
   · cases h1
 · split at h2
   · rename_i i hi;exact ⟨i,hi,eq_of_beq h2⟩
   · cases h2
 · intro hag
   rcases h3 with h3 | h3
   · rw [hag] at h3;cases h3
   · exact eq_of_beq h3
def jP (P:Program) (t:TypeId) (zs:List DV):Bool:=match aY P t with | some u=>DV.mq u zs | none=>false
theorem dH {t:TypeId} {zs:List DV} (h:jP P t zs=true):aY P t=some zs:=by
 unfold jP at h
 split at h
 · rename_i u hu;rw [hu,DV.jy _ _ h]
 · cases h
def Df (P:Program) (t:TypeId) (z:DV):Bool:=match xe P t with | some u=>DV.beq u z | none=>false
theorem Ei {t:TypeId} {z:DV} (h:Df P t z=true):xe P t=some z:=by
 unfold Df at h
 split at h
 · rename_i u hu;rw [hu,DV.beq_eq _ _ h]
 · cases h
def nb (P:Program) (fm:FM) (t:TypeId):List (Nat×Nat×X)→List (Nat×Operand)→Bool
 | [],[]=>true
 | (off,n,x)::xs,(i,o)::os=>(match placeOf P t i with | some (a,b)=>a==off&&b==n | none=>false)&&xB fm x o&&nb P fm t xs os
 | _,_=>false
theorem r7 {t:TypeId}:∀ {xs:List (Nat×Nat×X)} {os:List (Nat×Operand)},nb P fm t xs os=true→xh fm (placeOf P t) xs os
 | [],[],_=>⟨rfl,fun k off n x i o h=>by simp at h⟩
 | (off,n,x)::xs,(i,o)::os,h=>by
   simp only [nb,Bool.and_eq_true] at h
   obtain ⟨⟨h0,h1⟩,h2⟩:=h
   obtain ⟨g1,g2⟩:=r7 h2
   refine ⟨by simp [g1],fun k off' n' y i' o' hy hz => ?_⟩
   cases k with
   | zero=>
     simp only [List.getElem?_cons_zero,Option.some.injEq,Prod.mk.injEq] at hy hz
     obtain ⟨rfl,rfl,rfl⟩:=hy
     obtain ⟨rfl,rfl⟩:=hz
     refine ⟨?_,aI h1⟩
     split at h0
     · rename_i a b hab
       simp only [Bool.and_eq_true] at h0
       rw [hab,eq_of_beq h0.1,eq_of_beq h0.2]
     · cases h0
   | succ k=>exact g2 k off' n' y i' o' (by simpa using hy) (by simpa using hz)
 | [],_::_,h=>by simp [nb] at h
 | _::_,[],h=>by simp [nb] at h
def q7 (fm:FM):List (Nat×X)→List (Nat×Operand)→Bool
 | [],[]=>true
 | (j,x)::xs,(i,o)::os=>j==i&&xB fm x o&&q7 fm xs os
 | _,_=>false
theorem pL:∀ {xs:List (Nat×X)} {os:List (Nat×Operand)},q7 fm xs os=true→os.length=xs.length∧∀ (k j j':Nat) (x:X) (o:Operand),xs[k]? = some (j,x)→os[k]? = some (j',o)→j=j'∧a9 fm x o
 | [],[],_=>⟨rfl,fun k off n x i h=>by simp at h⟩
 | (j,x)::xs,(i,o)::os,h=>by
   simp only [q7,Bool.and_eq_true] at h
   obtain ⟨⟨h0,h1⟩,h2⟩:=h
   obtain ⟨g1,g2⟩:=pL h2
   refine ⟨by simp [g1],fun k j1 j2 y o' hy hz => ?_⟩
   cases k with
   | zero=>
     simp only [List.getElem?_cons_zero,Option.some.injEq,Prod.mk.injEq] at hy hz
     obtain ⟨rfl,rfl⟩:=hy
     obtain ⟨rfl,rfl⟩:=hz
     exact ⟨eq_of_beq h0,aI h1⟩
   | succ k=>exact g2 k j1 j2 y o' (by simpa using hy) (by simpa using hz)
 | [],_::_,h=>by simp [q7] at h
 | _::_,[],h=>by simp [q7] at h
def opB (P:Program) (fm:FM) (r:ROp) (o:Op):Bool:=
 match r with
 | .mv x=>(match o with | .move xo=>xB fm x xo | .assign xo=>xB fm x xo | _=>false)
 | .pick c a b=>(match o with | .pick co ao bo=>xB fm c co&&xB fm a ao&&xB fm b bo | _=>false)
 | .alloc zs=>(match o with | .alloc e=>jP P e zs | _=>false)
 | .box _ x=>(match o with | .box _ xo=>xB fm x xo | _=>false)
 | .build zs parts=>(match o with | .build t ps=>jP P t zs&&mU P t&&nb P fm t parts ps.toList | _=>false)
 | .lit n ag zs len parts=>(match o with
   | .buildSlice t l ps=>l==len&&(match P.underlying t with
     | some (.slice e)=>(match P.info? e with | some i=>i.size==n | none=>false)&&jP P e zs&&zs.length==n&&(ag||n==1)&&Nat.ble (len*n) 16777216&&q7 fm parts ps.toList
     | _=>false)
   | _=>false)
 | .oO n _ zs len parts=>(match o with
   | .buildSlice t l ps=>l==len&&(match P.underlying t with
     | some (.slice e)=>(match P.info? e with | some i=>i.size==n | none=>false)&&jP P e zs&&zs.length==n&&Nat.ble (len*n) 16777216&&q7 fm parts ps.toList
     | _=>false)
   | _=>false)
 | .load n ag x=>(match o with | .load t xo=>iX P t n ag&&xB fm x xo | _=>false)
 | .store n x v=>(match o with | .store t xo vo=>(match P.info? t with | some i=>i.size==n | none=>false)&&xB fm x xo&&xB fm v vo | _=>false)
 | .aT x=>(match o with | .nilCheck xo=>xB fm x xo | _=>false)
 | .bin op x y=>(match o with | .binOp op' _ xo yo _=>decide (op=op')&&xB fm x xo&&xB fm y yo | _=>false)
 | .eq k neg x y=>(match o with | .binOp op' t xo yo _=>decide (op'=if neg then .neq else .eql)&&zF P t k&&xB fm x xo&&xB fm y yo | _=>false)
 | .un op x=>(match o with | .unOp op' _ xo=>decide (op=op')&&xB fm x xo | _=>false)
 | .i2i k x=>(match o with | .convert s d xo=>(P.underlying s).isSome&&(match P.underlying d with | some (.int k')=>decide (k=k') | _=>false)&&xB fm x xo | _=>false)
 | .i2s x=>(match o with | .convert s d xo=>(P.underlying s).isSome&&(match P.underlying d with | some .string=>true | _=>false)&&xB fm x xo | _=>false)
 | .same x=>(match o with | .convert s d xo=>(P.underlying s).isSome&&(match P.underlying d with | some .string=>true | _=>false)&&xB fm x xo | _=>false)
 | .s2b x | .s2h x=>(match o with
   | .convert s d xo=>(match P.underlying s with | some .string=>true | _=>false)&&(match P.underlying d with | some (.slice e)=>(match P.underlying e with | some (.int k)=>decide (k=.u8) | _=>false) | _=>false)&&xB fm x xo
   | _=>false)
 | .b2s x=>(match o with
   | .convert s d xo=>(match P.underlying d with | some .string=>true | _=>false)&&(match P.underlying s with | some (.slice e)=>(match P.underlying e with | some (.int k)=>decide (k=.u8) | _=>false) | _=>false)&&xB fm x xo
   | _=>false)
 | .gL g fs cs=>(match o with | .makeFunc (.func f) fo co=>(match fm g with | some f'=>f'==f | none=>false)&&xsB fm fs fo.toList&&xsB fm cs co.toList | _=>false)
 | .j3=>(match o with | .makeMap _ none=>true | _=>false)
 | .b8 n _ bytes zs l c=>(match o with
   | .makeSlice t lo co=>(match P.underlying t with
     | some (.slice e)=>(match P.info? e with | some i=>i.size==n&&i.bytes==bytes | none=>false)&&jP P e zs&&zs.length==n&&xB fm l lo&&xB fm c co
     | _=>false)
   | _=>false)
 | .kE n bytes l c=>(match o with
   | .makeSlice t lo co=>(match P.underlying t with
     | some (.slice e)=>(match P.info? e with | some i=>i.size==n&&i.bytes==bytes | none=>false)&&(aY P e).isSome&&xB fm l lo&&xB fm c co
     | _=>false)
   | _=>false)
 | .slice true _ x lo hi mx=>(match o with | .slice t xo lo' hi' none=>(match P.underlying t with | some .string=>true | _=>false)&&mx.isNone&&xB fm x xo&&xoB fm lo lo'&&xoB fm hi hi' | _=>false)
 | .slice false n x lo hi mx=>(match o with
   | .slice t xo lo' hi' mx'=>(match P.underlying t with | some (.slice e)=>(match P.info? e with | some i=>i.size==n | none=>false) | _=>false)&&xB fm x xo&&xoB fm lo lo'&&xoB fm hi hi'&&xoB fm mx mx'
   | _=>false)
 | .fy off x=>(match o with
   | .fieldAddr s xo k=>(match P.underlying s with | some (.struct fs)=>(match fs[k]? with | some f=>(match P.info? f.type with | some i => !(i.size==0) | none=>false)&&f.offset==off | none=>false) | _=>false)&&xB fm x xo
   | _=>false)
 | .field n ag off x=>(match o with
   | .field s xo k=>(match P.underlying s with | some (.struct fs)=>(match fs[k]? with | some f=>iX P f.type n ag&&f.offset==off | none=>false) | _=>false)&&xB fm x xo
   | _=>false)
 | .aK n x j=>(match o with
   | .indexAddr t xo jo=>(match P.underlying t with | some (.slice e)=>(match P.info? e with | some i=>i.size==n | none=>false) | _=>false)&&xB fm x xo&&xB fm j jo
   | _=>false)
 | .j8 n len x j=>(match o with
   | .indexAddr t xo jo=>(match P.underlying t with | some (.array l e)=>l==len&&(match P.info? e with | some i=>i.size==n | none=>false) | _=>false)&&xB fm x xo&&xB fm j jo
   | _=>false)
 | .index x j=>(match o with | .index t xo jo=>(match P.underlying t with | some .string=>true | _=>false)&&xB fm x xo&&xB fm j jo | _=>false)
 | .jN n ag len x j=>(match o with
   | .index t xo jo=>(match P.underlying t with | some (.array l e)=>l==len&&iX P e n ag | _=>false)&&xB fm x xo&&xB fm j jo
   | _=>false)
 | .lookup ks zero x j ok=>(match o with
   | .lookup t xo jo ok'=>(ok==ok')&&(match P.underlying t with | some (.map k e)=>oa P k ks&&Df P e zero | _=>false)&&xB fm x xo&&xB fm j jo
   | _=>false)
 | .gQ ks m k v=>(match o with
   | .mapUpdate t mo ko vo=>(match P.underlying t with | some (.map kt _)=>oa P kt ks | _=>false)&&xB fm m mo&&xB fm k ko&&xB fm v vo
   | _=>false)
 | .extract x i=>(match o with | .extract xo j=>i==j&&xB fm x xo | _=>false)
 | .iface t x=>(match o with | .makeInterface t' xo=>t==t'&&(match P.underlying t with | some (.interface _)=>false | some _=>true | none=>false)&&xB fm x xo | _=>false)
 | .len k x=>(match o with | .call c=>(match c.callee,c.args.toList,c.argTypes.toList with | .builtin .len,[xo],[t]=>uW P t k&&xB fm x xo | _,_,_=>false) | _=>false)
 | .vp n=>(match o with
   | .call c=>(match c.callee,c.args.toList,c.argTypes.toList with
     | .builtin .len,[_],[t]=>(match P.underlying t with | some (.array m _)=>m==n | _=>false)
     | .builtin .cap,[_],[t]=>(match P.underlying t with | some (.array m _)=>m==n | _=>false)
     | _,_,_=>false)
   | _=>false)
 | .cap x=>(match o with | .call c=>(match c.callee,c.args.toList,c.argTypes.toList with | .builtin .cap,[xo],[t]=>(match P.underlying t with | some (.slice _)=>true | _=>false)&&xB fm x xo | _,_,_=>false) | _=>false)
 | .append n ag bytes x y=>(match o with
   | .call c=>(match c.callee,c.args.toList,c.argTypes.toList with
     | .builtin .append,[xo,yo],[t,u]=>(match P.underlying t with
       | some (.slice e)=>(match P.info? e with | some i=>i.size==n&&i.bytes==bytes | none=>false)&&(match aY P e with | some zs=>zs.length==n | none=>false)&&(ag||n==1)&&ef P u&&xB fm x xo&&xB fm y yo
       | _=>false)
     | _,_,_=>false)
   | _=>false)
 | .fR n ag bytes x y=>(match o with
   | .call c=>(match c.callee,c.args.toList,c.argTypes.toList with
     | .builtin .append,[xo,yo],[t,u]=>(match P.underlying t with
       | some (.slice e)=>(match P.info? e with | some i=>i.size==n&&i.bytes==bytes | none=>false)&&(match aY P e with | some zs=>zs.length==n | none=>false)&&(ag||n==1)&&ef P u&&xB fm x xo&&xB fm y yo
       | _=>false)
     | _,_,_=>false)
   | _=>false)
 | .clear n zs x=>(match o with
   | .call c=>(match c.callee,c.args.toList,c.argTypes.toList with
     | .builtin .clear,[xo],[t]=>(match P.underlying t with
       | some (.slice e)=>(match P.info? e with | some i=>i.size==n | none=>false)&&jP P e zs&&zs.length==n&&xB fm x xo
       | _=>false)
     | _,_,_=>false)
   | _=>false)
 | .copy n x y=>(match o with
   | .call c=>(match c.callee,c.args.toList,c.argTypes.toList with
     | .builtin .copy,[xo,yo],[t,_]=>(match P.underlying t with | some (.slice e)=>(match P.info? e with | some i=>i.size==n | none=>false) | _=>false)&&xB fm x xo&&xB fm y yo
     | _,_,_=>false)
   | _=>false)
 | .max args=>(match o with | .call c=>(match c.callee with | .builtin .max=>xsB fm args c.args.toList | _=>false) | _=>false)
 | .min args=>(match o with | .call c=>(match c.callee with | .builtin .min=>xsB fm args c.args.toList | _=>false) | _=>false)
 | .call .. | .bC .. | .dt .. => false
 | .iS ty zs=>(match o with | .alloc e=>e==ty&&jP P e zs | _=>false)
 | .conv ty n x=>(match o with
   | .convert s d xo=>(match P.underlying s,P.underlying d with
     | some (.pointer t),some .unsafePointer=>(match P.info? t with | some j => !(j.size==0) | none=>false)&&Nat.blt 0 n
     | some .unsafePointer,some (.pointer u)=>(P.info? u).isSome&&liesAt P P.depth ty (n/P.cellsOf ty) 0 u 1
     | _,_=>false)&&xB fm x xo
   | _=>false)
 | .fT ty bytes x y=>(match o with
   | .call c=>(match c.callee,c.args.toList,c.argTypes.toList with
     | .builtin .append,[xo,yo],[t,u]=>(match P.underlying t with
       | some (.slice e)=>e==ty&&(match P.info? e with | some i=>i.size==1&&i.bytes==bytes | none=>false)&&(match aY P e with | some zs=>zs.length==1 | none=>false)&&ef P u&&xB fm x xo&&xB fm y yo
       | _=>false)
     | _,_,_=>false)
   | _=>false)
 | .iO x=>(match o with
   | .call c=>(match c.callee,c.args.toList,c.argTypes.toList with
     | .builtin .unsafeSliceData,[xo],[_]=>xB fm x xo
     | _,_,_=>false)
   | _=>false)
 | .re ty x l=>(match o with
   | .call c=>(match c.callee,c.args.toList,c.argTypes.toList with
     | .builtin .unsafeString,[xo,lo],[pt,_]=>(match P.underlying pt with | some (.pointer e)=>e==ty&&P.cellsOf e==1 | _=>false)&&xB fm x xo&&xB fm l lo
     | _,_,_=>false)
   | _=>false)
 | .sliceB n _ len x lo hi mx=>(match o with
   | .slice t xo lo' hi' mx'=>(match P.underlying t with
     | some (.pointer arr)=>(match P.underlying arr with | some (.array l e)=>l==len&&(match P.info? e with | some i=>i.size==n | none=>false) | _=>false)
     | some (.array l e)=>l==len&&(match P.info? e with | some i=>i.size==n | none=>false)
     | _=>false)&&xB fm x xo&&xoB fm lo lo'&&xoB fm hi hi'&&xoB fm mx mx'
   | _=>false)
 | .jB _ _ len x=>(match o with
   | .slice t xo none none none=>(match P.underlying t with
     | some (.pointer arr)=>(match P.underlying arr with | some (.array l e)=>l==len&&(P.info? e).isSome | _=>false)
     | some (.array l e)=>l==len&&(P.info? e).isSome
     | _=>false)&&xB fm x xo
   | _=>false)
 | .got .. => false
 | .fail=>(match o with | .defer _=>false | _=>true)
end Go.D
end
section
namespace Go.D
open Go.RowKit
variable {P:Program} {fm:FM}
theorem dF {b:Builtin} {c:Call} {as_:List Operand} {ts:List TypeId} {op:Op} (ho:op=.call c) (h1:c.callee=.builtin b) (h2:c.args.toList=as_) (h3:c.argTypes.toList=ts):builtinCall b as_ ts op:=⟨c,ho,h1,h2,h3⟩
theorem wO {e:TypeId} {n:Nat} (h:(match P.info? e with | some i=>i.size==n | none=>false)=true):∃ i,P.info? e=some i∧i.size=n:=by
 split at h
 · rename_i i hi;exact ⟨i,hi,eq_of_beq h⟩
 · cases h
theorem nZ {e:TypeId} {n b:Nat} (h:(match P.info? e with | some i=>i.size==n&&i.bytes==b | none=>false)=true):∃ i,P.info? e=some i∧i.size=n∧i.bytes=b:=by
 split at h
 · rename_i i hi;simp only [Bool.and_eq_true] at h;exact ⟨i,hi,eq_of_beq h.1,eq_of_beq h.2⟩
 · cases h
theorem Ba {α:Type} {o:Option α} (h:o.isSome=true):∃ x,o=some x:=Option.isSome_iff_exists.1 h
theorem yw {t:TypeId} (h:(match P.underlying t with | some .string=>true | _=>false)=true):P.underlying t=some .string:=by
 split at h
 · assumption
 · cases h
theorem xK {t:TypeId} (h:(match P.underlying t with | some (.slice e)=>(match P.underlying e with | some (.int k)=>decide (k=.u8) | _=>false) | _=>false)=true):∃ e,P.underlying t=some (.slice e)∧P.underlying e=some (.int .u8):=by
 split at h
 · rename_i e he
   split at h
   · rename_i k hk
     have:=of_decide_eq_true h
     subst this
     exact ⟨e,he,hk⟩
   · cases h
 · cases h
theorem slB {t:TypeId} {n:Nat} (h:(match P.underlying t with | some (.slice e)=>(match P.info? e with | some i=>i.size==n | none=>false) | _=>false)=true):∃ e i,P.underlying t=some (.slice e)∧P.info? e=some i∧i.size=n:=by
 split at h
 · rename_i e he
   obtain ⟨i,h1,h2⟩:=wO h
   exact ⟨e,i,he,h1,h2⟩
 · cases h
theorem orB {ag:Bool} {n:Nat} (h:(ag||n==1)=true):ag=true∨n=1:=by
 simp only [Bool.or_eq_true] at h
 rcases h with h | h
 · exact .inl h
 · exact .inr (eq_of_beq h)
theorem Z4 {r:ROp} {o:Oper} (h:opB P fm r o.op=true):aq P fm r o:=by
 cases r with
 | mv x=>
   simp only [opB] at h
   split at h
   · exact vN (.inl (by assumption)) (aI h)
   · exact vN (.inr (by assumption)) (aI h)
   · cases h
 | pick c a b=>
   simp only [opB] at h
   split at h
   · simp only [Bool.and_eq_true] at h
     exact xI (by assumption) (aI h.1.1) (aI h.1.2) (aI h.2)
   · cases h
 | alloc zs=>
   simp only [opB] at h
   split at h
   · exact xi (by assumption) (dH h)
   · cases h
 | box n x=>
   simp only [opB] at h
   split at h
   · exact CY (by assumption) (aI h)
   · cases h
 | build zs parts=>
   simp only [opB] at h
   split at h
   · simp only [Bool.and_eq_true] at h
     exact wy (by assumption) (dH h.1.1) h.1.2 (r7 h.2)
   · cases h
 | lit n ag zs len parts=>
   simp only [opB] at h
   split at h
   · rename_i ho
     simp only [Bool.and_eq_true] at h
     have hl:=eq_of_beq h.1
     subst hl
     have h:=h.2
     split at h
     · rename_i e he
       simp only [Bool.and_eq_true] at h
       obtain ⟨⟨⟨⟨⟨h1,h2⟩,h3⟩,h4⟩,h5⟩,h6⟩:=h
       obtain ⟨i,hi,hn⟩:=wO h1
       exact Cz ho he hi hn (dH h2) (eq_of_beq h3) (orB h4) (Nat.le_of_ble_eq_true h5) (pL h6)
     · cases h
   · cases h
 | oO n ag zs len parts=>
   simp only [opB] at h
   split at h
   · rename_i ho
     simp only [Bool.and_eq_true] at h
     have hl:=eq_of_beq h.1
     subst hl
     have h:=h.2
     split at h
     · rename_i e he
       simp only [Bool.and_eq_true] at h
       obtain ⟨⟨⟨⟨h1,h2⟩,h3⟩,h5⟩,h6⟩:=h
       obtain ⟨i,hi,hn⟩:=wO h1
       exact yd ho he hi hn (dH h2) (eq_of_beq h3) (Nat.le_of_ble_eq_true h5) (pL h6)
     · cases h
   · cases h
 | load n ag x=>
   simp only [opB] at h
   split at h
   · simp only [Bool.and_eq_true] at h
     exact zw (by assumption) (iF h.1) (aI h.2)
   · cases h
 | store n x v=>
   simp only [opB] at h
   split at h
   · simp only [Bool.and_eq_true] at h
     obtain ⟨i,hi,hn⟩:=wO h.1.1
     exact vJ (by assumption) hi hn (aI h.1.2) (aI h.2)
   · cases h
 | aT x=>
   simp only [opB] at h
   split at h
   · exact uB (by assumption) (aI h)
   · cases h
 | bin op x y=>
   simp only [opB] at h
   split at h
   · rename_i ho
     simp only [Bool.and_eq_true] at h
     have:=of_decide_eq_true h.1.1
     subst this
     exact Cl ho (aI h.1.2) (aI h.2)
   · cases h
 | eq k neg x y=>
   simp only [opB] at h
   split at h
   · rename_i ho
     simp only [Bool.and_eq_true] at h
     have:=of_decide_eq_true h.1.1.1
     subst this
     exact E1 ho h.1.1.2 (aI h.1.2) (aI h.2)
   · cases h
 | un op x=>
   simp only [opB] at h
   split at h
   · rename_i ho
     simp only [Bool.and_eq_true] at h
     have:=of_decide_eq_true h.1
     subst this
     exact Es ho (aI h.2)
   · cases h
 | i2i k x=>
   simp only [opB] at h
   split at h
   · rename_i ho
     simp only [Bool.and_eq_true] at h
     obtain ⟨⟨h1,h2⟩,h3⟩:=h
     obtain ⟨e,he⟩:=Ba h1
     split at h2
     · rename_i k' hk
       have:=of_decide_eq_true h2
       subst this
       exact C2 ho he hk (aI h3)
     · cases h2
   · cases h
 | i2s x=>
   simp only [opB] at h
   split at h
   · rename_i ho
     simp only [Bool.and_eq_true] at h
     obtain ⟨⟨h1,h2⟩,h3⟩:=h
     obtain ⟨e,he⟩:=Ba h1
     exact Cn ho he (yw h2) (aI h3)
   · cases h
 | same x=>
   simp only [opB] at h
   split at h
   · rename_i ho
     simp only [Bool.and_eq_true] at h
     obtain ⟨⟨h1,h2⟩,h3⟩:=h
     obtain ⟨e,he⟩:=Ba h1
     exact zf ho he (yw h2) (aI h3)
   · cases h
 | s2b x=>
   simp only [opB] at h
   split at h
   · rename_i ho
     simp only [Bool.and_eq_true] at h
     obtain ⟨⟨h1,h2⟩,h3⟩:=h
     obtain ⟨e,he,hu⟩:=xK h2
     exact Ck ho (yw h1) he hu (aI h3)
   · cases h
 | s2h x=>
   simp only [opB] at h
   split at h
   · rename_i ho
     simp only [Bool.and_eq_true] at h
     obtain ⟨⟨h1,h2⟩,h3⟩:=h
     obtain ⟨e,he,hu⟩:=xK h2
     exact Cs ho (yw h1) he hu (aI h3)
   · cases h
 | b2s x=>
   simp only [opB] at h
   split at h
   · rename_i ho
     simp only [Bool.and_eq_true] at h
     obtain ⟨⟨h1,h2⟩,h3⟩:=h
     obtain ⟨e,he,hu⟩:=xK h2
     exact Cd ho he hu (yw h1) (aI h3)
   · cases h
 | gL g fs cs=>
   simp only [opB] at h
   split at h
   · rename_i ho
     simp only [Bool.and_eq_true] at h
     obtain ⟨⟨h1,h2⟩,h3⟩:=h
     split at h1
     · rename_i f' hf
       have:=eq_of_beq h1
       subst this
       exact zB ho hf (kp h2) (kp h3)
     · cases h1
   · cases h
 | j3=>
   simp only [opB] at h
   split at h
   · exact xw (by assumption)
   · cases h
 | b8 n ag bytes zs l c=>
   simp only [opB] at h
   split at h
   · rename_i ho
     split at h
     · rename_i e he
       simp only [Bool.and_eq_true] at h
       obtain ⟨⟨⟨⟨h1,h2⟩,h3⟩,h4⟩,h5⟩:=h
       obtain ⟨i,hi,hn,hb⟩:=nZ (P:=P) (e:=e) (n:=n) (b:=bytes) (by
        split
        · rename_i i hi;rw [hi] at h1;simpa using h1
        · rename_i hi;rw [hi] at h1;cases h1)
       exact rG ho he hi hn hb (dH h2) (eq_of_beq h3) (aI h4) (aI h5)
     · cases h
   · cases h
 | kE n bytes l c=>
   simp only [opB] at h
   split at h
   · rename_i ho
     split at h
     · rename_i e he
       simp only [Bool.and_eq_true] at h
       obtain ⟨⟨⟨h1,h2⟩,h4⟩,h5⟩:=h
       obtain ⟨i,hi,hn,hb⟩:=nZ (P:=P) (e:=e) (n:=n) (b:=bytes) (by
        split
        · rename_i i hi;rw [hi] at h1;simpa using h1
        · rename_i hi;rw [hi] at h1;cases h1)
       obtain ⟨zs,hz⟩:=Ba h2
       exact uC ho he hi hn hb hz (aI h4) (aI h5)
     · cases h
   · cases h
 | slice str n x lo hi mx=>
   cases str with
   | true=>
     simp only [opB] at h
     split at h
     · rename_i ho
       simp only [Bool.and_eq_true] at h
       obtain ⟨⟨⟨⟨h1,h2⟩,h3⟩,h4⟩,h5⟩:=h
       have:mx=none:=Option.isNone_iff_eq_none.1 h2
       subst this
       exact oN ho (yw h1) (aI h3) (ij h4) (ij h5)
     · cases h
   | false=>
     simp only [opB] at h
     split at h
     · rename_i ho
       simp only [Bool.and_eq_true] at h
       obtain ⟨⟨⟨⟨h1,h2⟩,h3⟩,h4⟩,h5⟩:=h
       obtain ⟨e,i,he,hi,hn⟩:=slB h1
       exact wh ho he hi hn (aI h2) (ij h3) (ij h4) (ij h5)
     · cases h
 | fy off x=>
   simp only [opB] at h
   split at h
   · rename_i ho
     simp only [Bool.and_eq_true] at h
     obtain ⟨h1,h2⟩:=h
     split at h1
     · rename_i fs hfs
       split at h1
       · rename_i f hf
         simp only [Bool.and_eq_true] at h1
         obtain ⟨h3,h4⟩:=h1
         split at h3
         · rename_i i hi
           exact xm ho hfs hf hi (by intro e;rw [e] at h3;simp at h3) (eq_of_beq h4) (aI h2)
         · cases h3
       · cases h1
     · cases h1
   · cases h
 | field n ag off x=>
   simp only [opB] at h
   split at h
   · rename_i ho
     simp only [Bool.and_eq_true] at h
     obtain ⟨h1,h2⟩:=h
     split at h1
     · rename_i fs hfs
       split at h1
       · rename_i f hf
         simp only [Bool.and_eq_true] at h1
         exact vM ho hfs hf (iF h1.1) (eq_of_beq h1.2) (aI h2)
       · cases h1
     · cases h1
   · cases h
 | aK n x j=>
   simp only [opB] at h
   split at h
   · rename_i ho
     simp only [Bool.and_eq_true] at h
     obtain ⟨⟨h1,h2⟩,h3⟩:=h
     obtain ⟨e,i,he,hi,hn⟩:=slB h1
     exact wI ho he hi hn (aI h2) (aI h3)
   · cases h
 | j8 n len x j=>
   simp only [opB] at h
   split at h
   · rename_i ho
     simp only [Bool.and_eq_true] at h
     obtain ⟨⟨h1,h2⟩,h3⟩:=h
     split at h1
     · rename_i l e he
       simp only [Bool.and_eq_true] at h1
       obtain ⟨i,hi,hn⟩:=wO (P:=P) (e:=e) (n:=n) (by
        have h1:=h1.2
        split
        · rename_i i hi;rw [hi] at h1;simpa using h1
        · rename_i hi;rw [hi] at h1;cases h1)
       have:=eq_of_beq h1.1
       subst this
       exact s8 ho he hi hn (aI h2) (aI h3)
     · cases h1
   · cases h
 | index x j=>
   simp only [opB] at h
   split at h
   · rename_i ho
     simp only [Bool.and_eq_true] at h
     exact vd ho (yw h.1.1) (aI h.1.2) (aI h.2)
   · cases h
 | jN n ag len x j=>
   simp only [opB] at h
   split at h
   · rename_i ho
     simp only [Bool.and_eq_true] at h
     obtain ⟨⟨h1,h2⟩,h3⟩:=h
     split at h1
     · rename_i l e he
       simp only [Bool.and_eq_true] at h1
       have:=eq_of_beq h1.1
       subst this
       exact sU ho he (iF h1.2) (aI h2) (aI h3)
     · cases h1
   · cases h
 | lookup ks zero x j ok=>
   simp only [opB] at h
   split at h
   · rename_i ho
     simp only [Bool.and_eq_true] at h
     obtain ⟨⟨⟨h0,h1⟩,h2⟩,h3⟩:=h
     split at h1
     · rename_i k e he
       simp only [Bool.and_eq_true] at h1
       have:=eq_of_beq h0
       subst this
       exact tW ho he h1.1 (Ei h1.2) (aI h2) (aI h3)
     · cases h1
   · cases h
 | gQ ks m k v=>
   simp only [opB] at h
   split at h
   · rename_i ho
     simp only [Bool.and_eq_true] at h
     obtain ⟨⟨⟨h1,h2⟩,h3⟩,h4⟩:=h
     split at h1
     · rename_i kt e he
       exact uq ho he h1 (aI h2) (aI h3) (aI h4)
     · cases h1
   · cases h
 | extract x i=>
   simp only [opB] at h
   split at h
   · rename_i ho
     simp only [Bool.and_eq_true] at h
     have:=eq_of_beq h.1
     subst this
     exact q8 ho (aI h.2)
   · cases h
 | iface t x=>
   simp only [opB] at h
   split at h
   · rename_i ho
     simp only [Bool.and_eq_true] at h
     obtain ⟨⟨h0,h1⟩,h2⟩:=h
     have:=eq_of_beq h0
     subst this
     split at h1
     · cases h1
     · rename_i d hne hd
       exact v8 ho (aI h2) hd (by cases d<;>first | rfl | exact absurd rfl (hne _))
     · cases h1
   · cases h
 | len k x=>
   simp only [opB] at h
   split at h
   · rename_i c ho
     split at h
     · rename_i h1 h2 h3
       simp only [Bool.and_eq_true] at h
       exact CX (dF ho h1 h2 h3) h.1 (aI h.2)
     · cases h
   · cases h
 | vp n=>
   simp only [opB] at h
   split at h
   · rename_i c ho
     split at h
     · rename_i h1 h2 h3
       split at h
       · rename_i m e he
         have:=eq_of_beq h
         subst this
         exact qQ (.inl (dF ho h1 h2 h3)) he
       · cases h
     · rename_i h1 h2 h3
       split at h
       · rename_i m e he
         have:=eq_of_beq h
         subst this
         exact qQ (.inr (dF ho h1 h2 h3)) he
       · cases h
     · cases h
   · cases h
 | cap x=>
   simp only [opB] at h
   split at h
   · rename_i c ho
     split at h
     · rename_i h1 h2 h3
       simp only [Bool.and_eq_true] at h
       obtain ⟨h4,h5⟩:=h
       split at h4
       · rename_i e he
         exact BY (dF ho h1 h2 h3) he (aI h5)
       · cases h4
     · cases h
   · cases h
 | append n ag bytes x y=>
   simp only [opB] at h
   split at h
   · rename_i c ho
     split at h
     · rename_i h1 h2 h3
       split at h
       · rename_i e he
         simp only [Bool.and_eq_true] at h
         obtain ⟨⟨⟨⟨⟨g1,g2⟩,g3⟩,g4⟩,g5⟩,g6⟩:=h
         obtain ⟨i,hi,hn,hb⟩:=nZ (P:=P) (e:=e) (n:=n) (b:=bytes) (by
          split
          · rename_i i hi;rw [hi] at g1;simpa using g1
          · rename_i hi;rw [hi] at g1;cases g1)
         split at g2
         · rename_i zs hz
           exact mB (dF ho h1 h2 h3) he g4 hi hn hb hz (eq_of_beq g2) (orB g3) (aI g5) (aI g6)
         · cases g2
       · cases h
     · cases h
   · cases h
 | fR n ag bytes x y=>
   simp only [opB] at h
   split at h
   · rename_i c ho
     split at h
     · rename_i h1 h2 h3
       split at h
       · rename_i e he
         simp only [Bool.and_eq_true] at h
         obtain ⟨⟨⟨⟨⟨g1,g2⟩,g3⟩,g4⟩,g5⟩,g6⟩:=h
         obtain ⟨i,hi,hn,hb⟩:=nZ (P:=P) (e:=e) (n:=n) (b:=bytes) (by
          split
          · rename_i i hi;rw [hi] at g1;simpa using g1
          · rename_i hi;rw [hi] at g1;cases g1)
         split at g2
         · rename_i zs hz
           exact rl (dF ho h1 h2 h3) he g4 hi hn hb hz (eq_of_beq g2) (orB g3) (aI g5) (aI g6)
         · cases g2
       · cases h
     · cases h
   · cases h
 | clear n zs x=>
   simp only [opB] at h
   split at h
   · rename_i c ho
     split at h
     · rename_i h1 h2 h3
       split at h
       · rename_i e he
         simp only [Bool.and_eq_true] at h
         obtain ⟨⟨⟨g1,g2⟩,g3⟩,g4⟩:=h
         split at g1
         · rename_i i hi
           exact u4 (dF ho h1 h2 h3) he hi (eq_of_beq g1) (dH g2) (eq_of_beq g3) (aI g4)
         · cases g1
       · cases h
     · cases h
   · cases h
 | copy n x y=>
   simp only [opB] at h
   split at h
   · rename_i c ho
     split at h
     · rename_i h1 h2 h3
       simp only [Bool.and_eq_true] at h
       obtain ⟨⟨g1,g2⟩,g3⟩:=h
       obtain ⟨e,i,he,hi,hn⟩:=slB g1
       exact yP (dF ho h1 h2 h3) he hi hn (aI g2) (aI g3)
     · cases h
   · cases h
 | max args=>
   simp only [opB] at h
   split at h
   · rename_i c ho
     split at h
     · rename_i h1
       exact CD (dF ho h1 rfl rfl) (kp h)
     · cases h
   · cases h
 | min args=>
   simp only [opB] at h
   split at h
   · rename_i c ho
     split at h
     · rename_i h1
       exact Cq (dF ho h1 rfl rfl) (kp h)
     · cases h
   · cases h
 | call g args=>simp [opB] at h
 | bC f args=>simp [opB] at h
 | dt f args=>simp [opB] at h
 | iS ty zs=>
   simp only [opB] at h
   split at h
   · rename_i e ho
     simp only [Bool.and_eq_true] at h
     have:=eq_of_beq h.1
     subst this
     exact uo ho (dH h.2)
   · cases h
 | conv ty n x=>
   simp only [opB] at h
   split at h
   · rename_i s d xo ho
     simp only [Bool.and_eq_true] at h
     obtain ⟨h1,h2⟩:=h
     split at h1
     · rename_i t hs hd
       simp only [Bool.and_eq_true] at h1
       obtain ⟨h3,h4⟩:=h1
       split at h3
       · rename_i j hj
         exact uY ho hs hd hj (by simpa using h3) (Nat.le_of_ble_eq_true h4) (aI h2)
       · cases h3
     · rename_i u hs hd
       simp only [Bool.and_eq_true] at h1
       obtain ⟨j,hj⟩:=Option.isSome_iff_exists.1 h1.1
       exact qW ho hs hd hj h1.2 (aI h2)
     · cases h1
   · cases h
 | fT ty bytes x y=>
   simp only [opB] at h
   split at h
   · rename_i c ho
     split at h
     · rename_i h1 h2 h3
       split at h
       · rename_i e he
         simp only [Bool.and_eq_true] at h
         obtain ⟨⟨⟨⟨⟨g0,g1⟩,g2⟩,g4⟩,g5⟩,g6⟩:=h
         have:=eq_of_beq g0
         subst this
         obtain ⟨i,hi,hn,hb⟩:=nZ (P:=P) (e:=e) (n:=1) (b:=bytes) (by
          split
          · rename_i i hi;rw [hi] at g1;simpa using g1
          · rename_i hi;rw [hi] at g1;cases g1)
         split at g2
         · rename_i zs hz
           exact rz (dF ho h1 h2 h3) he g4 hi hn hb hz (eq_of_beq g2) (aI g5) (aI g6)
         · cases g2
       · cases h
     · cases h
   · cases h
 | iO x=>
   simp only [opB] at h
   split at h
   · rename_i c ho
     split at h
     · rename_i h1 h2 h3
       exact ug (dF ho h1 h2 h3) (aI h)
     · cases h
   · cases h
 | re ty x l=>
   simp only [opB] at h
   split at h
   · rename_i c ho
     split at h
     · rename_i h1 h2 h3
       simp only [Bool.and_eq_true] at h
       obtain ⟨⟨g1,g2⟩,g3⟩:=h
       split at g1
       · rename_i e he
         simp only [Bool.and_eq_true] at g1
         have:=eq_of_beq g1.1
         subst this
         exact xH (dF ho h1 h2 h3) he (eq_of_beq g1.2) (aI g2) (aI g3)
       · cases g1
     · cases h
   · cases h
 | sliceB n ag len x lo hi mx=>
   simp only [opB] at h
   split at h
   · rename_i t xo lo' hi' mx' ho
     simp only [Bool.and_eq_true] at h
     obtain ⟨⟨⟨⟨h1,h2⟩,h3⟩,h4⟩,h5⟩:=h
     split at h1
     · rename_i arr ht
       split at h1
       · rename_i l e ha
         simp only [Bool.and_eq_true] at h1
         have:=eq_of_beq h1.1
         subst this
         have h6:=h1.2
         split at h6
         · rename_i i hi
           exact tK ho ht ha hi (eq_of_beq h6) (aI h2) (ij h3) (ij h4) (ij h5)
         · cases h6
       · cases h1
     · rename_i l e ht
       simp only [Bool.and_eq_true] at h1
       have:=eq_of_beq h1.1
       subst this
       have h6:=h1.2
       split at h6
       · rename_i i hi
         exact rb ho ht hi (eq_of_beq h6) (aI h2) (ij h3) (ij h4) (ij h5)
       · cases h6
     · cases h1
   · cases h
 | jB n ag len x=>
   simp only [opB] at h
   split at h
   · rename_i t xo ho
     simp only [Bool.and_eq_true] at h
     obtain ⟨h1,h2⟩:=h
     split at h1
     · rename_i arr ht
       split at h1
       · rename_i l e ha
         simp only [Bool.and_eq_true] at h1
         have:=eq_of_beq h1.1
         subst this
         obtain ⟨i,hi⟩:=Option.isSome_iff_exists.1 h1.2
         exact tx ho ht ha hi (aI h2)
       · cases h1
     · rename_i l e ht
       simp only [Bool.and_eq_true] at h1
       have:=eq_of_beq h1.1
       subst this
       obtain ⟨i,hi⟩:=Option.isSome_iff_exists.1 h1.2
       exact ru ho ht hi (aI h2)
     · cases h1
   · cases h
 | got v xs=>simp only [opB] at h;cases h
 | fail=>
   intro CR G w0 st w fr a v st' hs hf hrun
   simp [al] at hrun
def qS:ROp→Bool
 | .alloc _ | .j3 | .b8 .. => true
 | _=>false
theorem Dr {r:ROp} {o:Oper} (h:opB P fm r o.op=true) (hf:qS r=true):jH P fm r o:=by
 cases r<;>simp only [qS,Bool.false_eq_true] at hf
 case alloc zs=>
  simp only [opB] at h
  split at h
  · exact ri (by assumption) (dH h)
  · cases h
 case j3=>
  simp only [opB] at h
  split at h
  · exact rm (by assumption)
  · cases h
 case b8 n ag bytes zs l c=>
  simp only [opB] at h
  split at h
  · rename_i ho
    split at h
    · rename_i e he
      simp only [Bool.and_eq_true] at h
      obtain ⟨⟨⟨⟨h1,h2⟩,h3⟩,h4⟩,h5⟩:=h
      obtain ⟨i,hi,hn,hb⟩:=nZ (P:=P) (e:=e) (n:=n) (b:=bytes) (by
       split
       · rename_i i hi;rw [hi] at h1;simpa using h1
       · rename_i hi;rw [hi] at h1;cases h1)
      exact oL ho he hi hn hb (dH h2) (eq_of_beq h3) (aI h4) (aI h5)
    · cases h
  · cases h
end Go.D
end
section
namespace Go.D
open Go.RowKit
variable {P:Program} {fm:FM} {T:Tab}
def yc (ops:Array Oper):Option (Nat×Bool)→Option (Nat×Bool)→Bool
 | none,none=>true
 | some (t,want),some (j,want')=>want==want'&&(match ops[j]? with | some o=>(match o.dst with | some u=>u==t | none=>false) | none=>false)
 | _,_=>false
theorem CA {ops:Array Oper} {g g':Option (Nat×Bool)} (h:yc ops g g'=true):ky ops g g':=by
 unfold yc at h
 split at h
 · trivial
 · rename_i t want j want'
   simp only [Bool.and_eq_true] at h
   obtain ⟨h1,h2⟩:=h
   refine ⟨eq_of_beq h1,?_⟩
   split at h2
   · rename_i o ho
     split at h2
     · rename_i u hu
       rw [ho];simp [hu,eq_of_beq h2]
     · cases h2
   · cases h2
 · cases h
def Yx (N:Nat):Option Nat→Option Nat→Bool
 | none,none=>true
 | some a,some b=>a==b&&Nat.blt b N
 | _,_=>false
theorem Iv {N:Nat} {a b:Option Nat} (h:Yx N a b=true):a=b∧∀ t,b=some t→t<N:=by
 unfold Yx at h
 split at h
 · exact ⟨rfl,fun t h=>by cases h⟩
 · rename_i a b
   simp only [Bool.and_eq_true] at h
   have h2:=h.2
   refine ⟨by rw [eq_of_beq h.1],fun t ht => ?_⟩
   cases ht
   exact Nat.le_of_ble_eq_true h2
 · cases h
def wv (fm:FM):ROp→Op→Bool
 | .call g args,.call c=>(match c.callee with | .value (.func f)=>(match fm g with | some f'=>f'==f | none=>false)&&xsB fm args c.args.toList | _=>false)
 | .bC f args,.call c=>(match c.callee with | .value fo=>xB fm f fo&&xsB fm args c.args.toList | _=>false)
 | .dt f args,.call c=>(match c.callee with | .value fo=>xB fm f fo&&xsB fm args c.args.toList | _=>false)
 | _,_=>false
def vu (P:Program) (fm:FM) (N:Nat) (ops:Array Oper) (r:aj) (o:Oper):Bool:=
 Yx N r.dst o.dst&&yc ops r.guard o.guard&&(if nO r.op then wv fm r.op o.op else opB P fm r.op o.op)
theorem GS {N:Nat} {ops:Array Oper} {r:aj} {o:Oper} (h:vu P fm N ops r o=true):mn P fm N ops r o:=by
 unfold vu at h
 simp only [Bool.and_eq_true] at h
 obtain ⟨⟨h1,h2⟩,h3⟩:=h
 obtain ⟨g1,g2⟩:=Iv h1
 have g3:=CA h2
 have nd:∀ c,o.op≠.defer c:=by
  intro c e
  split at h3
  · unfold wv at h3
    rw [e] at h3
    split at h3<;>first | (cases h3;done) | (rename_i heq;cases heq)
  · unfold opB at h3
    rw [e] at h3
    split at h3<;>first | (cases h3;done) | (simp at h3;done)
 refine ⟨g1,g2,g3,nd,?_⟩
 cases hr:r.op with
 | call g args=>
   rw [hr] at h3
   simp only [nO,if_true] at h3
   unfold wv at h3
   split at h3
   · rename_i c heq ho
     cases heq
     split at h3
     · rename_i f hc
       simp only [Bool.and_eq_true] at h3
       obtain ⟨h4,h5⟩:=h3
       split at h4
       · rename_i f' hf
         have:=eq_of_beq h4
         subst this
         exact ⟨c,f',ho,hc,hf,kp h5⟩
       · cases h4
     · cases h3
   all_goals first | (rename_i heq _;cases heq;done) | cases h3
 | bC f args=>
   rw [hr] at h3
   simp only [nO,if_true] at h3
   unfold wv at h3
   split at h3
   · rename_i heq _;cases heq
   · rename_i c heq ho
     cases heq
     split at h3
     · rename_i fo hc
       simp only [Bool.and_eq_true] at h3
       exact ⟨c,fo,ho,hc,aI h3.1,kp h3.2⟩
     · cases h3
   · rename_i heq _;cases heq
   · cases h3
 | dt f args=>
   rw [hr] at h3
   simp only [nO,if_true] at h3
   unfold wv at h3
   split at h3
   · rename_i heq _;cases heq
   · rename_i heq _;cases heq
   · rename_i c heq ho
     cases heq
     split at h3
     · rename_i fo hc
       simp only [Bool.and_eq_true] at h3
       exact ⟨c,fo,ho,hc,aI h3.1,kp h3.2⟩
     · cases h3
   · cases h3
 | _=>
   rw [hr] at h3
   simp only [nO,if_false,Bool.false_eq_true] at h3
   exact Z4 h3
def lu (P:Program) (fm:FM) (N:Nat) (ops:Array Oper):List aj→List Oper→Bool
 | [],[]=>true
 | r::rs,o::os=>vu P fm N ops r o&&lu P fm N ops rs os
 | _,_=>false
theorem u6 {N:Nat} {ops:Array Oper}:∀ {rs:List aj} {os:List Oper},lu P fm N ops rs os=true→rs.length=os.length∧∀ (i:Nat) (r:aj),rs[i]? = some r→∃ o,os[i]? = some o∧mn P fm N ops r o
 | [],[],_=>⟨rfl,fun i r h=>by simp at h⟩
 | r::rs,o::os,h=>by
   simp only [lu,Bool.and_eq_true] at h
   obtain ⟨h1,h2⟩:=u6 h.2
   refine ⟨by simp [h1],fun i r' hr => ?_⟩
   cases i with
   | zero=>simp only [List.getElem?_cons_zero,Option.some.injEq] at hr;subst hr;exact ⟨o,rfl,GS h.1⟩
   | succ i=>simpa using h2 i r' (by simpa using hr)
 | [],_::_,h=>by simp [lu] at h
 | _::_,[],h=>by simp [lu] at h
def QP (P:Program) (fm:FM) (N:Nat) (rs:List aj) (ops:Array Oper):Bool:=lu P fm N ops rs ops.toList
theorem AN {N:Nat} {rs:List aj} {ops:Array Oper} (h:QP P fm N rs ops=true):uv P fm N rs ops:=by
 obtain ⟨h1,h2⟩:=u6 h
 exact ⟨by simpa using h1,fun i r hr=>by simpa using h2 i r hr⟩
theorem xz {N:Nat} {ops:Array Oper} {r:aj} {o:Oper} (h:vu P fm N ops r o=true) (hf:qS r.op=true):jH P fm r.op o:=by
 unfold vu at h
 simp only [Bool.and_eq_true] at h
 obtain ⟨⟨h1,h2⟩,h3⟩:=h
 have hc:nO r.op=false:=by cases hr:r.op<;>rw [hr] at hf<;>first | rfl | cases hf
 rw [hc] at h3
 simp only [if_false,Bool.false_eq_true] at h3
 exact Dr h3 hf
theorem p7 {N:Nat} {ops:Array Oper}:∀ {rs:List aj} {os:List Oper},lu P fm N ops rs os=true→∀ (i:Nat) (r:aj) (o:Oper),rs[i]? = some r→os[i]? = some o→qS r.op=true→jH P fm r.op o
 | [],[],_=>fun i r o h=>by simp at h
 | r::rs,o::os,h=>by
   simp only [lu,Bool.and_eq_true] at h
   intro i r' o' hr ho hf
   cases i with
   | zero=>
     simp only [List.getElem?_cons_zero,Option.some.injEq] at hr ho
     subst hr;subst ho
     exact xz h.1 hf
   | succ i=>exact p7 h.2 i r' o' (by simpa using hr) (by simpa using ho) hf
 | [],_::_,h=>by simp [lu] at h
 | _::_,[],h=>by simp [lu] at h
end Go.D
end
section
namespace Go.D
open Go.RowKit
variable {P:Program} {fm:FM} {T:Tab}
def Kk (A:List (List Nat)) (o:Oper):List (List Nat):=
 A++[(o.after.toList.foldl (fun (s:List Nat) e=>if Region.binds .any e then s++(e.on::A.getD e.on []).filter (fun i => !s.contains i) else s) [])]
def JS (ops:List Oper):List (List Nat):=ops.foldl Kk []
def gV {α:Type} (p:Nat→α→Bool):List α→Nat→Bool
 | [],_=>true
 | x::xs,i=>p i x&&gV p xs (i+1)
theorem wg {α:Type} {p:Nat→α→Bool}:∀ {l:List α} {k:Nat},gV p l k=true→∀ i x,l[i]? = some x→p (k+i) x=true
 | [],_,_,i,x,h=>by simp at h
 | y::ys,k,h,i,x,hx=>by
   simp only [gV,Bool.and_eq_true] at h
   cases i with
   | zero=>simp only [List.getElem?_cons_zero,Option.some.injEq] at hx;subst hx;exact h.1
   | succ i=>
     have:=wg h.2 i x (by simpa using hx)
     rwa [show k+1+i=k+(i+1) by omega] at this
theorem iV {α:Type} {p:Nat→α→Bool} {l:List α} (h:gV p l 0=true) (i:Nat) (x:α) (hx:l[i]? = some x):p i x=true:=by
 have:=wg h i x hx
 rwa [Nat.zero_add] at this
def DE (r:aj) (t:Nat):Bool:=match r.dst with | some u=>u==t | none=>false
theorem Dw {r:aj} {t:Nat} (h:r.dst=some t):DE r t=true:=by unfold DE;rw [h];simp
def A3 (A:List (List Nat)) (j:Nat) (o:Oper):Bool:=
 (A.getD j []).all (fun i=>Nat.blt i j&&o.after.toList.any (fun e=>Region.binds .any e&&(e.on==i||(Nat.blt e.on j&&(A.getD e.on []).contains i)))) &&
 o.after.toList.all (fun e => !Region.binds .any e||Nat.blt e.on j)
def u1 (pf:Nat→Bool) (A:List (List Nat)) (i:Nat) (r:aj) (j:Nat) (r':aj):Bool:=
 (!(Nat.blt i j) || !(aH pf r.op) || !(aH pf r'.op)||(A.getD j []).contains i) &&
 (match r.dst with
  | none=>true
  | some t=>(i==j || !DE r' t)&&(!(r'.reads.contains t)||(!(i==j)&&(!(Nat.blt i j)||(A.getD j []).contains i)&&(!(Nat.blt j i)||(A.getD i []).contains j))))
def su (rs:List aj) (chk:List (Nat×List Nat)):Bool:=
 chk.all fun (j,_)=>match rs[j]? with
  | none=>true
  | some r=>gV (fun i r'=>match r'.dst with | none=>true | some t => !(r.reads.contains t)||Nat.blt i j) rs 0
def DK (pf:Nat→Bool) (A:List (List Nat)) (rs:List aj) (chk:List (Nat×List Nat)) (j:Nat) (r:aj):Bool:=
 aH pf r.op||cq r.op||(List.range (an pf rs rs.length+1)).all fun v=>
  !(gV (fun i r' => !(aH pf r'.op) || !((A.getD j []).contains i)||Nat.blt (an pf rs i) v) rs 0) ||
  !(gV (fun i r' => !(aH pf r'.op) || !((A.getD i []).contains j)||Nat.ble v (an pf rs i)) rs 0) ||
  v==an pf rs j||(r.dst.isSome&&chk.any fun (j',vs)=>j'==j&&vs.contains v)
def Fh (pf:Nat→Bool) (rs:List aj) (chk:List (Nat×List Nat)) (ops:Array Oper) (A:List (List Nat)):Bool:=
 gV (A3 A) ops.toList 0&&su rs chk&&gV (fun i r=>gV (fun j r'=>u1 pf A i r j r') rs 0) rs 0&&gV (DK pf A rs chk) rs 0
def Fa (rs:List aj) (j:Nat):Bool:=match rs[j]? with | some r=>qS r.op | none=>true
def D6 (P:Program) (fm:FM) (pf:Nat→Bool) (N:Nat) (rs:List aj) (hs:List Nat) (chk:List (Nat×List Nat)) (ops:Array Oper) (A:List (List Nat)):Bool:=
 QP P fm N rs ops&&Fh pf (mT hs 0 rs) chk ops A&&hs.all (Fa rs)
theorem qG {a b:Nat} (h:Nat.blt a b=true):a<b:=Nat.le_of_ble_eq_true h
theorem s7 {a b:Nat} (h:a<b):Nat.blt a b=true:=Nat.ble_eq_true_of_le h
theorem contains_of {l:List Nat} {i:Nat} (h:l.contains i=true):i∈l:=List.contains_iff_mem.1 h
theorem om {l:List Nat} {i:Nat} (h:i∈l):l.contains i=true:=List.contains_iff_mem.2 h
theorem wK {a b:Bool} (h:(!a||b)=true) (ha:a=true):b=true:=by subst ha;simpa using h
theorem pJ {α:Type} {p:Nat→α→Bool}:∀ {l:List α} {k:Nat},(∀ i x,l[i]? = some x→p (k+i) x=true)→gV p l k=true
 | [],_,_=>rfl
 | y::ys,k,h=>by
   simp only [gV,Bool.and_eq_true]
   refine ⟨h 0 y rfl,pJ fun i x hx => ?_⟩
   have:=h (i+1) x (by simpa using hx)
   rwa [show k+1+i=k+(i+1) by omega]
theorem E6 {rs:List aj} {chk:List (Nat×List Nat)} {ops:Array Oper} {A:List (List Nat)} (h:Fh (ak T) rs chk ops A=true):ot T rs chk ops (fun j=>A.getD j []):=by
 unfold Fh at h
 simp only [Bool.and_eq_true] at h
 obtain ⟨⟨⟨h2,h3⟩,h4⟩,h5⟩:=h
 have hj:∀ (j:Nat) (o:Oper),ops[j]? = some o→A3 A j o=true:=fun j o ho=>iV h2 j o (by simpa using ho)
 have hp:∀ (i j:Nat) (r r':aj),rs[i]? = some r→rs[j]? = some r'→u1 (ak T) A i r j r'=true:=fun i j r r' hr hr'=>iV (iV h4 i r hr) j r' hr'
 refine { Cx:=?_,sh:=?_,jc:=?_,uR:=?_,gB:=?_,kR:=?_,cover:=?_ }
 · intro j o ho i hi
   have:=hj j o ho
   unfold A3 at this
   simp only [Bool.and_eq_true] at this
   have:=List.all_eq_true.1 this.1 i hi
   simp only [Bool.and_eq_true] at this
   refine ⟨qG this.1,?_⟩
   obtain ⟨e,he,hb⟩:=List.any_eq_true.1 this.2
   simp only [Bool.and_eq_true,Bool.or_eq_true] at hb
   refine ⟨e,he,hb.1,?_⟩
   rcases hb.2 with h | h
   · exact .inl (eq_of_beq h)
   · exact .inr ⟨qG h.1,contains_of h.2⟩
 · intro j o ho e he hb
   have:=hj j o ho
   unfold A3 at this
   simp only [Bool.and_eq_true] at this
   exact qG (wK (List.all_eq_true.1 this.2 e he) hb)
 · intro j vs r hc hr i t r' hr' hd ht
   unfold su at h3
   have:=List.all_eq_true.1 h3 _ hc
   simp only [hr] at this
   have:=iV this i r' hr'
   simp only [hd] at this
   exact qG (wK this (om ht))
 · intro i j r r' hij hr hr' hl hl'
   have:=hp i j r r' hr hr'
   unfold u1 at this
   simp only [Bool.and_eq_true] at this
   have:=this.1
   rw [s7 hij,hl,hl'] at this
   exact contains_of (by simpa using this)
 · intro i j t r r' hij hr hr' hd hd'
   have:=hp i j r r' hr hr'
   unfold u1 at this
   simp only [Bool.and_eq_true,hd] at this
   have:=this.2.1
   rw [Dw hd'] at this
   simp at this
   exact hij this
 · intro i j t r r' hr hr' hd ht
   have:=hp i j r r' hr hr'
   unfold u1 at this
   simp only [Bool.and_eq_true,hd] at this
   have:=wK this.2.2 (om ht)
   simp only [Bool.and_eq_true] at this
   refine ⟨by rintro rfl;have:=this.1.1;simp at this,fun h=>contains_of (wK this.1.2 (s7 h)),fun h=>contains_of (wK this.2 (s7 h))⟩
 · intro j v r hr hl hsl hlow hup hv
   have:=iV h5 j r hr
   unfold DK at this
   rw [hl,hsl] at this
   simp only [Bool.false_or] at this
   have:=List.all_eq_true.1 this v (List.mem_range.2 (by omega))
   have e1:gV (fun i r' => !(aH (ak T) r'.op) || !((A.getD j []).contains i)||Nat.blt (an (ak T) rs i) v) rs 0=true:=by
    refine pJ fun i x hx => ?_
    rw [Nat.zero_add]
    cases hlx:aH (ak T) x.op with
    | false=>rfl
    | true=>
      cases hcx:(A.getD j []).contains i with
      | false=>rfl
      | true=>simpa using s7 (hlow i x hx hlx (contains_of hcx))
   have e2:gV (fun i r' => !(aH (ak T) r'.op) || !((A.getD i []).contains j)||Nat.ble v (an (ak T) rs i)) rs 0=true:=by
    refine pJ fun i x hx => ?_
    rw [Nat.zero_add]
    cases hlx:aH (ak T) x.op with
    | false=>rfl
    | true=>
      cases hcx:(A.getD i []).contains j with
      | false=>rfl
      | true=>simpa using Nat.ble_eq_true_of_le (hup i x hx hlx (contains_of hcx))
   rw [e1,e2] at this
   simp only [Bool.not_true,Bool.false_or,Bool.or_eq_true,Bool.and_eq_true] at this
   rcases this with h | h
   · exact .inl (eq_of_beq h)
   · obtain ⟨q,hq,hqq⟩:=List.any_eq_true.1 h.2
     obtain ⟨j',vs⟩:=q
     simp only [Bool.and_eq_true] at hqq
     have:=eq_of_beq hqq.1
     subst this
     exact .inr ⟨vs,hq,contains_of hqq.2,h.1⟩
theorem FC {N:Nat} {rs:List aj} {hs:List Nat} {chk:List (Nat×List Nat)} {ops:Array Oper} {A:List (List Nat)} (h:D6 P fm (ak T) N rs hs chk ops A=true):Ug P fm T N rs hs chk ops (fun j=>A.getD j []):=by
 unfold D6 at h
 simp only [Bool.and_eq_true] at h
 obtain ⟨⟨h1,h2⟩,h3⟩:=h
 refine ⟨AN h1,fun j r o hj hr ho => ?_,E6 h2⟩
 have:=List.all_eq_true.1 h3 j hj
 unfold Fa at this
 rw [hr] at this
 exact p7 h1 j r o hr (by simpa using ho) this
def eM (P:Program) (fm:FM) (pf:Nat→Bool) (N:Nat):RC→Code→Bool
 | .skip,c=>(match c with | .skip=>true | .label _=>true | _=>false)
 | .region ops _,c=>(match c with | .region _ oops false=>QP P fm N ops oops | _=>false)
 | .au ops hs chk _,c=>(match c with | .region _ oops true=>D6 P fm pf N ops hs chk oops (JS oops.toList) | _=>false)
 | .seq a b,c=>(match c with | .seq x y=>eM P fm pf N a x&&eM P fm pf N b y | _=>false)
 | .cond x a b,c=>(match c with | .cond o y z=>xB fm x o&&eM P fm pf N a y&&eM P fm pf N b z | _=>false)
 | .block id a,c=>(match c with | .block i x=>i==id&&eM P fm pf N a x | _=>false)
 | .loop _ a,c=>(match c with | .loop x=>eM P fm pf N a x | _=>false)
 | .exit id,c=>(match c with | .exit i=>i==id | _=>false)
 | .ret,c=>(match c with | .ret=>true | _=>false)
 | .stuck,_=>true
 | .eY f ps as_ bo _,c=>(match c with | .rangeFunc o qs x y=>xB fm f o&&decide (qs.toList=ps)&&ps.all (fun p=>Nat.blt p N)&&eM P fm pf N as_ x&&eM P fm pf N bo y | _=>false)
theorem fi {N:Nat}:∀ (rc:RC) (c:Code),eM P fm (ak T) N rc c=true→ir P fm T N rc c
 | .skip,c,h=>by
   unfold eM at h
   split at h
   · exact .inl rfl
   · exact .inr ⟨_,rfl⟩
   · cases h
 | .region ops l,c,h=>by
   unfold eM at h
   split at h
   · exact ⟨_,_,rfl,AN h⟩
   · cases h
 | .au ops hs chk l,c,h=>by
   unfold eM at h
   split at h
   · exact ⟨_,_,_,rfl,FC h⟩
   · cases h
 | .seq a b,c,h=>by
   unfold eM at h
   split at h
   · simp only [Bool.and_eq_true] at h
     exact ⟨_,_,rfl,fi a _ h.1,fi b _ h.2⟩
   · cases h
 | .cond x a b,c,h=>by
   unfold eM at h
   split at h
   · simp only [Bool.and_eq_true] at h
     exact ⟨_,_,_,rfl,aI h.1.1,fi a _ h.1.2,fi b _ h.2⟩
   · cases h
 | .block id a,c,h=>by
   unfold eM at h
   split at h
   · simp only [Bool.and_eq_true] at h
     have:=eq_of_beq h.1
     subst this
     exact ⟨_,rfl,fi a _ h.2⟩
   · cases h
 | .loop l a,c,h=>by
   unfold eM at h
   split at h
   · exact ⟨_,rfl,fi a _ h⟩
   · cases h
 | .exit id,c,h=>by
   unfold eM at h
   split at h
   · have:=eq_of_beq h
     subst this
     rfl
   · cases h
 | .stuck,_,_=>trivial
 | .ret,c,h=>by
   unfold eM at h
   split at h
   · rfl
   · cases h
 | .eY f ps as_ bo l,c,h=>by
   unfold eM at h
   split at h
   · simp only [Bool.and_eq_true] at h
     obtain ⟨⟨⟨⟨h1,h2⟩,h3⟩,h4⟩,h5⟩:=h
     exact ⟨_,_,_,_,rfl,aI h1,of_decide_eq_true h2,fun p hp=>qG (List.all_eq_true.1 h3 p hp),fi as_ _ h4,fi bo _ h5⟩
   · cases h
def Yv (P:Program):fv→ResultVar→Bool
 | .t n,.tmp m=>n==m
 | .cell a n ag,.cell b ty=>a==b&&iX P ty n ag
 | _,_=>false
theorem Jd {a:fv} {b:ResultVar} (h:Yv P a b=true):ly P a b:=by
 unfold Yv at h
 split at h
 · exact eq_of_beq h
 · simp only [Bool.and_eq_true] at h
   exact ⟨eq_of_beq h.1,iF h.2⟩
 · cases h
def rI (P:Program):List fv→List ResultVar→Bool
 | [],[]=>true
 | a::as_,b::bs=>Yv P a b&&rI P as_ bs
 | _,_=>false
theorem w9:∀ {as_:List fv} {bs:List ResultVar},rI P as_ bs=true→bs.length=as_.length∧∀ (i:Nat) (a:fv) (b:ResultVar),as_[i]? = some a→bs[i]? = some b→ly P a b
 | [],[],_=>⟨rfl,fun i a b h=>by simp at h⟩
 | a::as_,b::bs,h=>by
   simp only [rI,Bool.and_eq_true] at h
   obtain ⟨h1,h2⟩:=w9 h.2
   refine ⟨by simp [h1],fun i x y hx hy => ?_⟩
   cases i with
   | zero=>simp only [List.getElem?_cons_zero,Option.some.injEq] at hx hy;subst hx;subst hy;exact Jd h.1
   | succ i=>exact h2 i x y (by simpa using hx) (by simpa using hy)
 | [],_::_,h=>by simp [rI] at h
 | _::_,[],h=>by simp [rI] at h
def F1 (P:Program) (fm:FM) (pf:Nat→Bool) (F:ai) (fn:Func):Bool:=
 !(fn.name == "runtime.NumGoroutine")&&(match fn.body with | some c=>eM P fm pf fn.ntmps F.body c | none=>false)&&rI P F.results fn.results.toList
theorem GA {F:ai} {f:FuncId} {fn:Func} (hf:P.funcs[f]? = some fn) (h:F1 P fm (ak T) F fn=true):fc P fm T (.code F) f:=by
 unfold F1 at h
 simp only [Bool.and_eq_true] at h
 obtain ⟨⟨h1,h2⟩,h3⟩:=h
 split at h2
 · rename_i c hc
   obtain ⟨g1,g2⟩:=w9 h3
   refine ⟨fn,c,fun args w => ?_,hf,hc,fi _ _ h2,g1,g2⟩
   have hname:fn.name ≠ "runtime.NumGoroutine":=by simpa using h1
   simp [callFunc,hf,hname,hc]
 · cases h2
theorem DJ {f:FuncId} {F:ai} (h:fc P fm T (.code F) f):∀ (args:Array Value) (w:World),(callFunc f args).run P w=.ok (.enter f args) w:=by
 obtain ⟨fn,c,h1,_⟩:=h
 exact h1
end Go.D
end
section
namespace Go.D
open Go.RowKit
variable {P:Program} {fm:FM}
inductive TT where
 | nil
 | leaf (g:Nat) (d:Def)
 | node (k:Nat) (l r:TT)
def TT.get:TT→Nat→Option Def
 | .nil,_=>none
 | .leaf g d,h=>bif Nat.beq h g then some d else none
 | .node k l r,h=>bif Nat.blt h k then l.get h else r.get h
def TT.ok (P:Program) (fm:FM) (T:Tab):TT→Prop
 | .nil=>True
 | .leaf g d=>∀ f,fm g=some f→fc P fm T d f
 | .node _ l r=>l.ok P fm T∧r.ok P fm T
theorem TT.yA {T:Tab}:∀ (t:TT),t.ok P fm T→∀ g d f,t.get g=some d→fm g=some f→fc P fm T d f
 | .nil,_,g,d,f,h,_=>by simp [TT.get] at h
 | .leaf g0 d0,h0,g,d,f,h,hf=>by
   simp only [TT.get] at h
   cases hb:Nat.beq g g0 with
   | false=>rw [hb] at h;simp at h
   | true=>
     rw [hb] at h
     simp only [cond_true,Option.some.injEq] at h
     subst h
     have:=Nat.eq_of_beq_eq_true hb
     subst this
     exact h0 f hf
 | .node k l r,h0,g,d,f,h,hf=>by
   simp only [TT.get] at h
   cases hb:Nat.blt g k with
   | true=>rw [hb] at h;exact l.yA h0.1 g d f h hf
   | false=>rw [hb] at h;exact r.yA h0.2 g d f h hf
theorem wq {t:TT} (h:t.ok P fm t.get):dR P fm t.get:=fun g d f hg hf=>t.yA h g d f hg hf
def GC:List (Nat×FuncId)→Nat→Option FuncId
 | [],_=>none
 | (g,f)::r,h=>bif Nat.beq h g then some f else GC r h
def E3:List (Nat×IntKind×List Nat)→Nat→Nat→Option Value
 | [],_,_=>none
 | (g,k,l)::r,b,i=>bif Nat.beq b g then (l[i]?).map (fun n=>.int k (Int.ofNat n)) else E3 r b i
def j9 (l:List (Nat×FuncId)) (env:List (Nat×IntKind×List Nat)):FM:=⟨GC l,E3 env⟩
def pB (fm:FM) (w:World):Prop:=∀ r i v,fm.env r i=some v→r<w.heap.size∧∃ cs t fz,w.heap[r]? = some (.cells cs t fz)∧cs[i]? = some v
def st0:St:={ heap:=[],aQ:=[],cur:=0,base:=0,aU:=0 }
def gh0 (w:World):Gh:={ ro:=fun _ _=>none,mu:=fun _=>none,bw:=fun _ _=>none,gsz:=fun _=>0,dfr:=fun _=>False,lps:=fun _=>False,bm:=fun _=>none,floor:=w.heap.size,base:=0,aU:=0 }
end Go.D
end
section
namespace Go.D
open Go.RowKit
variable {P:Program} {fm:FM} {T:Tab}
theorem sE {G:Gh} {a b:DV} {args:Array Value} (h:cS fm G [a,b] args):∃ x y,args = #[x,y]∧Rel fm G a x∧Rel fm G b y:=by
 obtain ⟨h1,h2⟩:=h
 match args,h1 with
 | ⟨[x,y]⟩,_=>exact ⟨x,y,rfl,h2 0 (by simp),h2 1 (by simp)⟩
theorem ox {p:List DV→St→Option (DV×St)} {f:FuncId} {fn:Func} {e:Array Value→Sem Value} (hf:P.funcs[f]? = some fn) (hname:(fn.name == "runtime.NumGoroutine")=false) (hb:fn.body.isNone=true) (hn:Extern.findNext fn=none)
 (he:Extern.find fn=some e) (h:∀ (G:Gh) (w:World) (st:St) (args:List DV) (args':Array Value) (v:DV) (st':St),cS fm G args args'→p args st=some (v,st')→st'=st∧∃ x,(e args').run P w=.ok x w∧Rel fm G v x):ix P fm T p f:=by
 intro G w0 st w args args' v st' hs ha hp
 obtain ⟨rfl,x,h1,h2⟩:=h G w st args args' v st' ha hp
 refine .inr ⟨x,w,?_,G,Gh.le.refl G,hs,h2⟩
 rw [run_callFunc_extern hf hname hb hn he,h1]
 rfl
def eB:List DV→St→Option (DV×St)
 | [.str s,.int .u8 c],st=>some (.int .i64 (Lib.indexByte s c.toNat.toUInt8),st)
 | _,_=>none
theorem qL {f:FuncId} {fn:Func} (hf:P.funcs[f]? = some fn) (hname:(fn.name == "runtime.NumGoroutine")=false) (hb:fn.body.isNone=true) (hn:Extern.findNext fn=none)
 (he:Extern.find fn=some Extern.BytealgIndexByte.indexByte):ix P fm T eB f:=by
 refine ox hf hname hb hn he fun G w st args args' v st' ha hp => ?_
 unfold eB at hp
 split at hp
 · simp only [Option.some.injEq,Prod.mk.injEq] at hp
   obtain ⟨rfl,rfl⟩:=hp
   obtain ⟨x,y,rfl,hx,hy⟩:=sE ha
   cases hy
   cases hx with
   | str _ b hb=>subst hb;exact ⟨rfl,_,Lib.run_indexByteString b _ w,.int _ _⟩
 · cases hp
def eG:List DV→St→Option (DV×St)
 | [.str s,.int .u8 c],st=>some (.int .i64 (Lib.countByte s c.toNat.toUInt8:Nat),st)
 | _,_=>none
theorem qt {f:FuncId} {fn:Func} (hf:P.funcs[f]? = some fn) (hname:(fn.name == "runtime.NumGoroutine")=false) (hb:fn.body.isNone=true) (hn:Extern.findNext fn=none)
 (he:Extern.find fn=some Extern.BytealgCount.count):ix P fm T eG f:=by
 refine ox hf hname hb hn he fun G w st args args' v st' ha hp => ?_
 unfold eG at hp
 split at hp
 · simp only [Option.some.injEq,Prod.mk.injEq] at hp
   obtain ⟨rfl,rfl⟩:=hp
   obtain ⟨x,y,rfl,hx,hy⟩:=sE ha
   cases hy
   cases hx with
   | str _ b hb=>subst hb;exact ⟨rfl,_,Lib.run_countString b _ w,.int _ _⟩
 · cases hp
def kb:List Nat:=[0,0,0,0,0,0,0,0,0,1,1,1,1,1,0,0,0,0,0,0,0,0,0,0,0,0,0,0,0,0,0,0,1,0,0,0,0,0,0,0,0,0,0,0,0,0,0,0,0,0,0,0,0,0,0,0,0,0,0,0,0,0,0,0,0,0,0,0,0,0,0,0,0,0,0,0,0,0,0,0,0,0,0,0,0,0,0,0,0,0,0,0,0,0,0,0,0,0,0,0,0,0,0,0,0,0,0,0,0,0,0,0,0,0,0,0,0,0,0,0,0,0,0,0,0,0,0,0,0,0,0,0,0,0,0,0,0,0,0,0,0,0,0,0,0,0,0,0,0,0,0,0,0,0,0,0,0,0,0,0,0,0,0,0,0,0,0,0,0,0,0,0,0,0,0,0,0,0,0,0,0,0,0,0,0,0,0,0,0,0,0,0,0,0,0,0,0,0,0,0,0,0,0,0,0,0,0,0,0,0,0,0,0,0,0,0,0,0,0,0,0,0,0,0,0,0,0,0,0,0,0,0,0,0,0,0,0,0,0,0,0,0,0,0,0,0,0,0,0,0,0,0,0,0,0,0]
theorem zm {l:List (Nat×FuncId)} (w:World):pB (j9 l []) w:=fun r i v h=>by cases h
theorem x9 {l:List (Nat×FuncId)} {g:Nat} {k:IntKind} {t:List Nat} {env:List (Nat×IntKind×List Nat)} {w:World} (h:∀ i (h:i<t.length),w.cell? ⟨g,i,none⟩=some (.int k (Int.ofNat t[i]))) (hr:pB (j9 l env) w):pB (j9 l ((g,k,t)::env)) w:=by
 intro r i v hv
 simp only [j9,E3] at hv
 cases hb:Nat.beq r g with
 | false=>rw [hb] at hv;exact hr r i v hv
 | true=>
   rw [hb] at hv
   simp only [cond_true,Option.map_eq_some_iff] at hv
   obtain ⟨n,hn,rfl⟩:=hv
   have:=Nat.eq_of_beq_eq_true hb
   subst this
   obtain ⟨hi,rfl⟩:=List.getElem?_eq_some_iff.1 hn
   have hc:=h i hi
   simp only [World.cell?] at hc
   split at hc
   · rename_i cs t' fz hcs
     exact ⟨get?_lt hcs,cs,t',fz,hcs,by simpa using hc⟩
   all_goals first | (cases hc;done) | skip
end Go.D
end
