import Derived.Laws.Tables
import Derived.Laws.IdiomStrings
import Derived.Laws.MakeOwn
import Derived.Lib.Builder
import Derived.Lib.UnsafeStr
import Derived.Lib.FrozenHead
import Derived.Lib.MakeNoZero
import Derived.Lib.Bytealg
import Derived.Test.YtmoococmjkapbaaGreatDoorM0
/-! Texts 1 of this claim, joined. -/
section
namespace Go.D
open Go.RowKit
variable {P:Program} {fm:FM}
theorem sy (off:Nat):∀ (xs:List Value) (k:Nat) (cells:Array Value),off+k+xs.length≤cells.size →
 ((xs.zipIdx k).foldl (fun (cs:Array Value) (x:Value×Nat)=>cs.setIfInBounds (off+x.2) x.1) cells)=aP cells (off+k) xs
 | [],k,cells,_=>by
   simp [aP]
 | x::xs,k,cells,h=>by
   simp only [List.length_cons] at h
   rw [List.zipIdx_cons,List.foldl_cons,sy off xs (k+1) _ (by simp;omega)]
   unfold aP
   congr 1
   have e:=list_seg_step cells.toList (off+k) x xs (by simp;omega)
   simpa [Array.toList_setIfInBounds,Nat.add_assoc] using e
theorem p4 {G:Gh} {place:Nat→Option (Nat×Nat)}:∀ (parts:List (Nat×Nat×DV)) (parts':List (Nat×Value)) (cells:List DV) (arr:Array Value) (cells':List DV),parts'.length=parts.length →
 (∀ (k:Nat) (off n:Nat) (v:DV) (i:Nat) (x:Value),parts[k]? = some (off,n,v)→parts'[k]? = some (i,x)→place i=some (off,n)∧Rel fm G v x) →
 arr.size=cells.length→(∀ i (h:i<cells.length),Rel fm G (cells[i]) (arr.getD i undef))→cells.all DV.bg=true→dL cells parts=some cells' →
 ∃ arr',Instr.fill place arr parts'=some arr'∧arr'.size=cells'.length∧cells'.length=cells.length∧(∀ i (h:i<cells'.length),Rel fm G (cells'[i]) (arr'.getD i undef))∧cells'.all DV.bg=true
 | [],[],cells,arr,cells',_,_,hl,hr,hsc,h=>by
   simp only [dL,Option.some.injEq] at h;subst h
   exact ⟨arr,rfl,hl,rfl,hr,hsc⟩
 | [],_::_,_,_,_,hl,_,_,_,_,_=>by simp at hl
 | _::_,[],_,_,_,hl,_,_,_,_,_=>by simp at hl
 | (off,n,v)::parts,(i,x)::parts',cells,arr,cells',hpl,hp,hl,hr,hsc,h=>by
   simp only [dL] at h
   split at h
   · rename_i hc
     obtain ⟨c1,c2,c3⟩:=hc
     obtain ⟨hpi,hvx⟩:=hp 0 off n v i x rfl rfl
     obtain ⟨l1,r1⟩:=kX hvx c3
     have hsz:x.cells.size=n:=by rw [l1,c1]
     have hlen:(bl cells off v.leaves).length=cells.length:=iK (by omega)
     have hspl:=qd (fm:=fm) (G:=G) (vs:=cells) (ns:=v.leaves) (cur:=arr) (k:=off) (xs:=x.cells.toList) hr (by omega) (by omega) (by simpa using l1) (fun j hj=>by rw [aM];exact r1 j hj)
     obtain ⟨arr',g1,g2,g3,g4,g5⟩:=p4 parts parts' (bl cells off v.leaves) (aP arr off x.cells.toList) cells' (by simpa using hpl)
      (fun k off n v i x h1 h2=>hp (k+1) off n v i x h1 h2) (by rw [eP (by simp;omega),hlen,hl]) hspl (gZ hsc c3) h
     refine ⟨arr',?_,g2,g3.trans hlen,g4,g5⟩
     unfold Instr.fill
     simp only [hpi]
     have hcond:¬ ((x.cells.size≠n||decide (off+x.cells.size>arr.size))=true):=by
      simp [hsz];omega
     rw [if_neg hcond]
     have hfold:(x.cells.zipIdx.foldl (fun (cs:Array Value) (x:Value×Nat)=>cs.setIfInBounds (off+x.2) x.1) arr)=aP arr off x.cells.toList:=by
      rw [← Array.foldl_toList,Array.toList_zipIdx,sy off _ 0 arr (by simp;omega),Nat.add_zero]
     rw [hfold]
     exact g1
   · cases h
def vX (fm:FM) (place:Nat→Option (Nat×Nat)) (parts:List (Nat×Nat×X)) (ps:List (Nat×Operand)):Prop:=
 ps.length=parts.length∧∀ (k off n:Nat) (x:X) (i:Nat) (o:Operand),parts[k]? = some (off,n,x)→ps[k]? = some (i,o)→place i=some (off,n)∧bb fm x o
def placeOf (P:Program) (t:TypeId) (i:Nat):Option (Nat×Nat):=
 match P.underlying t with
 | some (.struct fs)=>(match fs[i]? with | some f=>(P.info? f.type).map fun j=>(f.offset,j.size) | none=>none)
 | some (.array _ e)=>(P.info? e).map fun j=>(i*j.size,j.size)
 | _=>none
def qt (P:Program) (fs:List Field):Bool:=fs.all fun f=>(P.info? f.type).isSome
theorem oE:∀ (fs:List Field),qt P fs=true→∃ places,fs.mapM (fun f=>(P.info? f.type).map fun i=>(f.offset,i.size))=some places∧∀ (i:Nat) (f:Field),fs[i]? = some f→places[i]? = (P.info? f.type).map fun j=>(f.offset,j.size)
 | [],_=>⟨[],rfl,fun i f h=>by simp at h⟩
 | f::fs,h=>by
   simp only [qt,List.all_cons,Bool.and_eq_true] at h
   obtain ⟨places,h1,h2⟩:=oE fs h.2
   obtain ⟨i,hi⟩:=Option.isSome_iff_exists.1 h.1
   refine ⟨(f.offset,i.size)::places,?_,?_⟩
   · rw [List.mapM_cons,hi,h1];rfl
   · intro k g hk
     cases k with
     | zero=>simp only [List.getElem?_cons_zero,Option.some.injEq] at hk;subst hk;simp [hi]
     | succ k=>simpa using h2 k g (by simpa using hk)
def nT (P:Program) (t:TypeId):Bool:=
 match P.underlying t with
 | some (.struct fs)=>qt P fs.toList
 | some (.array _ e)=>(P.info? e).isSome
 | _=>false
theorem xm {t:TypeId} {zs:List DV} {parts:List (Nat×Nat×X)} {ps:Array (Nat×Operand)} {o:Oper} (ho:o.op=.build t ps) (hz:aX P t=some zs) (ht:nT P t=true) (hp:vX fm (placeOf P t) parts ps.toList):az P fm (.build zs parts) o:=by
 refine aC fun CR G w0 st w fr a v st' hs hf hrun => ?_
 simp only [aw,Option.map_eq_some_iff] at hrun
 obtain ⟨cs,hcs,hrun⟩:=hrun
 cases hrun
 obtain ⟨i,z,hi,hzz,hc⟩:=bj hz
 obtain ⟨zl,zr⟩:=bL (fm:=fm) hc
 have key:∀ (place:Nat→Option (Nat×Nat)),(∀ (k i off n:Nat) (x:X) (y:Operand),parts[k]? = some (off,n,x)→ps.toList[k]? = some (i,y)→place i=some (off,n))→∃ arr',Instr.fill place z.cells (ps.toList.map fun (i,x)=>(i,a.eval x))=some arr'∧Rel fm G (.agg cs) (.agg arr'):=by
  intro place hpl
  obtain ⟨arr',g1,g2,g3,g4,g5⟩:=p4 (fm:=fm) (G:=G) (place:=place) (parts.map fun (o,n,x)=>(o,n,x.ev fr)) (ps.toList.map fun (i,x)=>(i,a.eval x)) zs z.cells cs (by simp [hp.1])
   (fun k off n v i x h1 h2=>by
    rw [List.getElem?_map] at h1 h2
    cases e1:parts[k]? with
    | none=>rw [e1] at h1;cases h1
    | some q=>
      cases e2:ps.toList[k]? with
      | none=>rw [e2] at h2;cases h2
      | some q'=>
        obtain ⟨qo,qn,qx⟩:=q
        obtain ⟨qi,qv⟩:=q'
        rw [e1] at h1;rw [e2] at h2
        simp only [Option.map_some,Option.some.injEq,Prod.mk.injEq] at h1 h2
        obtain ⟨rfl,rfl,rfl⟩:=h1
        obtain ⟨rfl,rfl⟩:=h2
        exact ⟨hpl k _ _ _ _ _ e1 e2,(hp.2 k _ _ _ _ _ e1 e2).2.ev hf⟩)
   (by simpa using zl) (fun i hi=>by rw [← aM];exact zr G i hi) (b0 (cm hc)) hcs
  exact ⟨arr',g1,.agg _ _ g2 g4⟩
 have fin:∀ arr',P.built t (ps.map fun (i,x)=>(i,a.eval x)).toList=some arr'→(execOp a.eval o).run P w=.ok (.value (.agg arr')) w:=by
  intro arr' hb
  unfold execOp
  simp only [ho]
  exact af (run_build w t _ arr' hb)
 have e0:(ps.map fun (i,x)=>(i,a.eval x)).toList=ps.toList.map fun (i,x)=>(i,a.eval x):=by rw [Array.toList_map]
 unfold nT at ht
 split at ht
 · rename_i fs htd
   obtain ⟨places,h1,h2⟩:=oE fs.toList ht
   obtain ⟨arr',g1,g2⟩:=key (places.toArray[·]?) (fun k i off n x y e1 e2=>by
    have:=(hp.2 k off n x i y e1 e2).1
    unfold placeOf at this
    rw [htd] at this
    simp only at this
    split at this
    · rename_i f hfk
      rw [← this]
      simpa using h2 i f (by simpa using hfk)
    · cases this)
   refine ⟨rfl,.agg arr',fin arr' ?_,g2⟩
   unfold Program.built
   simp only [hi,htd,hzz,h1,e0]
   exact g1
 · rename_i n e htd
   obtain ⟨j,hj⟩:=Option.isSome_iff_exists.1 ht
   obtain ⟨arr',g1,g2⟩:=key (fun i=>some (i*j.size,j.size)) (fun k i off n x y e1 e2=>by
    have:=(hp.2 k off n x i y e1 e2).1
    unfold placeOf at this
    rw [htd] at this
    simpa [hj] using this)
   refine ⟨rfl,.agg arr',fin arr' ?_,g2⟩
   unfold Program.built
   simp only [hi,htd,hzz,hj,e0]
   exact g1
 · cases ht
theorem cS (zs:List DV):∀ k,(bk zs k).length=k*zs.length
 | 0=>by simp [bk]
 | k+1=>by simp [bk,cS zs k,Nat.add_mul];omega
theorem getElem?_repl (zs:List DV):∀ (k i:Nat),i<k*zs.length→(bk zs k)[i]? = zs[i%zs.length]?
 | 0,i,h=>by simp at h
 | k+1,i,h=>by
   show (zs++bk zs k)[i]? = _
   by_cases e:i<zs.length
   · rw [List.getElem?_append_left e,Nat.mod_eq_of_lt e]
   · rw [List.getElem?_append_right (by omega),getElem?_repl zs k _ (by rw [Nat.add_mul] at h;omega)]
     congr 1
     rw [← Nat.mod_eq_sub_mod (by omega)]
theorem kP {G:Gh} {zs:List DV} {z:Array Value} (hl:z.toList.length=zs.length) (hr:∀ i (h:i<zs.length),Rel fm G (zs[i]) (z.toList.getD i undef)) (k:Nat) :
 ((Array.range (k*zs.length)).map (z[· % z.size]!)).size=(bk zs k).length∧∀ i (h:i<(bk zs k).length),Rel fm G ((bk zs k)[i]) (((Array.range (k*zs.length)).map (z[· % z.size]!)).getD i undef):=by
 refine ⟨by rw [cS];simp,fun i h => ?_⟩
 have hi:i<k*zs.length:=by rw [cS] at h;exact h
 have hpos:0<zs.length:=by
  rcases Nat.eq_zero_or_pos zs.length with e | e
  · rw [e] at hi;simp at hi
  · exact e
 have hm:i%zs.length<zs.length:=Nat.mod_lt _ hpos
 have e1:(bk zs k)[i]=zs[i%zs.length]:=by
  apply Option.some.inj
  rw [← List.getElem?_eq_getElem h,← List.getElem?_eq_getElem hm]
  exact getElem?_repl zs k i hi
 rw [e1]
 have hsz:z.size=zs.length:=by simpa using hl
 have e2:((Array.range (k*zs.length)).map (z[· % z.size]!)).getD i undef=z.toList.getD (i%zs.length) undef:=by
  rw [aM,Array.getD_eq_getD_getElem?]
  simp only [Array.getElem?_map,Array.getElem?_range,hi,if_true,Option.map_some,Option.getD_some,hsz]
  have:i%zs.length<z.size:=by omega
  simp [this,Array.getD]
 rw [e2]
 exact hr _ hm
theorem sV {G:Gh} {t e:TypeId} {n len:Nat} {zs cs:List DV} {i:TypeInfo} {parts:List (Nat×X)} {ps:Array (Nat×Operand)} {fr:Fr} {a:Act} {w:World} (ht:P.underlying t=some (.slice e)) (hi:P.info? e=some i) (hn:i.size=n) (hz:aX P e=some zs) (hzl:zs.length=n)
 (hsz:len*n≤16777216) (hp:ps.toList.length=parts.length∧∀ (k j j':Nat) (x:X) (o:Operand),parts[k]? = some (j,x)→ps.toList[k]? = some (j',o)→j=j'∧bb fm x o) (hf:cf fm G fr a.tmps)
 (h:dL (bk zs len) (parts.map fun (i,x)=>(i*n,n,x.ev fr))=some cs) :
 ∃ arr,(Instr.buildSlice t len (ps.map fun (i,x)=>(i,a.eval x))).run P w=.ok (.slice (some ⟨w.heap.size,0,none⟩) len len) (w.alloc (.cells arr e))∧arr.size=cs.length∧cs.length=len*n∧(∀ i (h:i<cs.length),Rel fm G (cs[i]) (arr.getD i undef))∧cs.all DV.bg=true:=by
 obtain ⟨i',z,hi',hzz,hc⟩:=bj hz
 rw [hi] at hi';cases hi'
 obtain ⟨zl,zr⟩:=bL (fm:=fm) hc
 obtain ⟨s1,s2⟩:=kP (fm:=fm) (G:=G) (zs:=zs) (z:=z.cells) (by simpa using zl) (fun i hi=>zr G i hi) len
 have hscal:(bk zs len).all DV.bg=true:=by
  rw [List.all_eq_true]
  intro x hx
  obtain ⟨j,hj,rfl⟩:=List.getElem_of_mem hx
  have hj':=hj
  rw [cS] at hj'
  have:=getElem?_repl zs len j hj'
  rw [List.getElem?_eq_getElem hj] at this
  exact List.all_eq_true.1 (b0 (cm hc)) _ (List.mem_of_getElem? this.symm)
 obtain ⟨arr,g1,g2,g3,g4,g5⟩:=p4 (fm:=fm) (G:=G) (place:=fun i=>some (i*n,n)) (parts.map fun (i,x)=>(i*n,n,x.ev fr)) (ps.toList.map fun (i,x)=>(i,a.eval x)) (bk zs len) _ cs (by simp [hp.1])
  (fun k off n' v i x h1 h2=>by
   rw [List.getElem?_map] at h1 h2
   cases e1:parts[k]? with
   | none=>rw [e1] at h1;cases h1
   | some q=>
     cases e2:ps.toList[k]? with
     | none=>rw [e2] at h2;cases h2
     | some q'=>
       obtain ⟨qo,qx⟩:=q
       obtain ⟨qi,qv⟩:=q'
       rw [e1] at h1;rw [e2] at h2
       simp only [Option.map_some,Option.some.injEq,Prod.mk.injEq] at h1 h2
       obtain ⟨rfl,rfl,rfl⟩:=h1
       obtain ⟨rfl,rfl⟩:=h2
       obtain ⟨e3,e4⟩:=hp.2 k _ _ _ _ e1 e2
       exact ⟨by rw [e3],e4.ev hf⟩)
  s1 s2 hscal h
 refine ⟨arr,?_,g2,by rw [g3,cS,hzl],g4,g5⟩
 have hsize:(sizeOf e).run P w=.ok n w:=by unfold sizeOf typeInfo;simp [hi,hn]
 have hbig:¬ (len*n>2 ^ 24):=by omega
 have e0:(ps.map fun (i,x)=>(i,a.eval x)).toList=ps.toList.map fun (i,x)=>(i,a.eval x):=by rw [Array.toList_map]
 rw [hzl] at g1
 unfold Instr.buildSlice
 simp only [Sem.run_bind,run_underlying ht,Result.andThen_ok,hsize,if_neg hbig,e0]
 by_cases e:len*n=0
 · rw [e] at g1 ⊢
   simp only [if_true,Sem.run_bind,Sem.run_pure,Result.andThen_ok]
   have g1':Instr.fill (fun i=>some (i*n,n)) ((Array.range 0).map fun x=>(#[]:Array Value)[x%(#[]:Array Value).size]!) (ps.toList.map fun (i,x)=>(i,a.eval x))=some arr:=by
    rw [← g1];congr 1;simp [Array.range]
   rw [g1']
   rfl
 · simp only [if_neg e,Sem.run_bind,jc hi hzz,Sem.run_pure,Result.andThen_ok]
   rw [g1]
   rfl
theorem zx {t e:TypeId} {n len:Nat} {ag:Bool} {zs:List DV} {i:TypeInfo} {parts:List (Nat×X)} {ps:Array (Nat×Operand)} {o:Oper} (ho:o.op=.buildSlice t len ps) (ht:P.underlying t=some (.slice e)) (hi:P.info? e=some i) (hn:i.size=n) (hz:aX P e=some zs) (hzl:zs.length=n)
 (hsz:len*n≤16777216) (hp:ps.toList.length=parts.length∧∀ (k j j':Nat) (x:X) (o:Operand),parts[k]? = some (j,x)→ps.toList[k]? = some (j',o)→j=j'∧bb fm x o):az P fm (.kA n ag zs len parts) o:=by
 intro CR G w0 st w fr a v st' hs hf hrun
 simp only [aw] at hrun
 split at hrun
 · rename_i cs hcs
   simp only [Option.some.injEq,Prod.mk.injEq] at hrun
   obtain ⟨rfl,rfl⟩:=hrun
   obtain ⟨arr,h1,h2,h3,h4,h5⟩:=sV (P:=P) (w:=w) ht hi hn hz hzl hsz hp hf hcs
   have hle:=Gh.bC (r:=w.heap.size) (size:=0) hs.bQ
   have hs':=hs.push (o:=.cells .plain cs) (ob:=.cells arr e) 0 ⟨arr,e,(0,0),rfl,h2,fun i hi=>(h4 i hi).le hle,fun i hi=>by simp,h5⟩ rfl
   refine ⟨_,_,.slice (some ⟨w.heap.size,0,none⟩) len len,_,?_,.inl rfl,hle,hs',.hsl _ _ _ _ _ _ _ _ (by simp [Gh.push]) ⟨rfl,Nat.le_refl _⟩⟩
   unfold execOp
   simp only [ho]
   exact af h1
 · cases hrun
def Gh.gU (G:Gh) (r:Nat) (arr:Array Value) (k:Nat):Gh:={ G with ro:=fun r' i=>if r'=r then (if i<k then arr[i]? else none) else G.ro r' i }
theorem Gh.p8 {CR:Nat→RC→Code→Prop} {G:Gh} {w0 w:World} {st:St} (hs:Sim fm CR G w0 st w) (arr:Array Value) (k:Nat):G.le (G.gU w.heap.size arr k):=by
 refine ⟨⟨fun r i v hr => ?_,fun _ _ x=>x,fun _ _ _ x=>x,fun _ _ _=>rfl⟩,fun _ x=>x,fun _ x=>x,rfl,fun r i hr => ?_,rfl,rfl,rfl⟩
 · have:r≠w.heap.size:=Nat.ne_of_lt (hs.Aa hr)
   simp only [Gh.gU,if_neg this];exact hr
 · have:r≠w.heap.size:=Nat.ne_of_lt (Nat.lt_of_lt_of_le hr hs.aF)
   simp only [Gh.gU,if_neg this]
theorem Sim.gU {CR:Nat→RC→Code→Prop} {G:Gh} {w0 w w':World} {st:St} (hs:Sim fm CR G w0 st w) (hb:Below w.heap.size w w') {arr:Array Value} {e:TypeId} {fz:Nat×Nat} (hnew:w'.heap[w.heap.size]? = some (.cells arr e fz)) (k:Nat):Sim fm CR (G.gU w.heap.size arr k) w0 st w':=by
 have h:=hs.grow hb
 have hle:=(Gh.p8 hs arr k).toSub
 refine { bW:=h.bW,bR:=h.bR,obj:=?_,ro:=?_,c9:=?_,tok:=?_,bE:=h.bE,bB:=h.bB,dfr:=h.dfr,lps:=h.lps,aF:=h.aF,below:=h.below,base:=h.base,aR:=h.aR,bG:=h.bG,bm:=h.bm,env:=h.env }
 · intro b o ho hg hpd
   obtain ⟨r,ob,h1,h2,h3,h4⟩:=h.obj b o ho hg hpd
   exact ⟨r,ob,h1,h2,h3.sub hle h1,h4⟩
 · intro r i v hr
   simp only [Gh.gU] at hr
   split at hr
   · rename_i e1
     subst e1
     split at hr
     · exact ⟨arr,e,fz,hnew,hr⟩
     · cases hr
   · exact h.ro r i v hr
 · intro r i v b o hr ho hg hm
   simp only [Gh.gU] at hr
   split at hr
   · rename_i e1
     subst e1
     obtain ⟨r',ob,h1,h2,_⟩:=hs.obj b o ho hg (hs.np hm)
     have hm':G.mu b=some w.heap.size:=hm
     rw [hm'] at h1;cases h1
     exact absurd (get?_lt h2) (Nat.lt_irrefl _)
   · exact h.c9 r i v b o hr ho hg hm
 · intro t s ht
   obtain ⟨r,len,cap,n,cs,ty,h1,h2,h3,h4,h5,h6,h7,h8⟩:=hs.tok t s ht
   have hlt:=get?_lt h4
   refine ⟨r,len,cap,n,cs,ty,h1,h2,h3,(hb.block r hlt).trans h4,h5,fun i hi => ?_,h7,h8⟩
   simp only [Gh.gU,if_neg (Nat.ne_of_lt hlt)]
   exact h6 i hi
theorem Ca {t e:TypeId} {n len:Nat} {ag:Bool} {zs:List DV} {i:TypeInfo} {parts:List (Nat×X)} {ps:Array (Nat×Operand)} {o:Oper} (ho:o.op=.buildSlice t len ps) (ht:P.underlying t=some (.slice e)) (hi:P.info? e=some i) (hn:i.size=n) (hz:aX P e=some zs) (hzl:zs.length=n) (hag:ag=true∨n=1)
 (hsz:len*n≤16777216) (hp:ps.toList.length=parts.length∧∀ (k j j':Nat) (x:X) (o:Operand),parts[k]? = some (j,x)→ps.toList[k]? = some (j',o)→j=j'∧bb fm x o):az P fm (.lit n ag zs len parts) o:=by
 intro CR G w0 st w fr a v st' hs hf hrun
 simp only [aw] at hrun
 split at hrun
 · rename_i cs hcs
   split at hrun
   · rename_i hpure
     simp only [Option.some.injEq,Prod.mk.injEq] at hrun
     obtain ⟨rfl,rfl⟩:=hrun
     obtain ⟨arr,h1,h2,h3,h4,h5⟩:=sV (P:=P) (w:=w) ht hi hn hz hzl hsz hp hf hcs
     have hnew:(w.alloc (.cells arr e)).heap[w.heap.size]? = some (.cells arr e (0,0)):=World.alloc_heap_new w _
     have hs':=hs.gU ((Below.refl _ w).alloc (Nat.le_refl _) (.cells arr e)) hnew cs.length
     have hle:=Gh.p8 hs arr cs.length
     have hml:(cs.map DV.aQ).length=len*n:=by simp [h3]
     have hfl:=lU n ag hag len (cs.map DV.aQ) hml hpure
     have hlc:=jS n ag len (cs.map DV.aQ)
     have hlist:=Rel.list (fm:=fm) (G:=G.gU w.heap.size arr cs.length) st.cur n .tight (chunk n ag len (cs.map DV.aQ)) w.heap.size 0 len (fun i=>arr.getD i undef) ?_ ?_ ?_ ?_ ?_ ?_
     · rw [hlc] at hlist
       refine ⟨_,_,.slice (some ⟨w.heap.size,0,none⟩) len len,_,?_,.inl rfl,hle,hs',hlist⟩
       unfold execOp
       simp only [ho]
       exact af h1
     · intro j hj
       rw [hfl] at hj
       have hj':j<cs.length:=by simpa using hj
       have hj2:j<arr.size:=by omega
       simp [Gh.gU,hj',hj2]
     · intro j hj
       have hj0:=hj
       rw [hfl] at hj
       have hj':j<cs.length:=by simpa using hj
       have e1:(flat (chunk n ag len (cs.map DV.aQ)))[j]=(cs[j]).aQ:=by
        apply Option.some.inj
        rw [← List.getElem?_eq_getElem hj0,hfl]
        simp [hj']
       rw [e1]
       exact ((h4 j hj').le hle).aQ
     · rw [hfl];exact hpure
     · rw [hlc];rfl
     · rw [hlc];exact Nat.le_refl _
     · exact jN n ag hag len _ hml hpure
   · cases hrun
 · cases hrun
end Go.D
end
section
namespace Go.D
open Go.RowKit
variable {P:Program} {fm:FM}
theorem ux {t e:TypeId} {n len:Nat} {i:TypeInfo} {x j:X} {xo jo:Operand} {o:Oper} (ho:o.op=.indexAddr t xo jo) (ht:P.underlying t=some (.array len e)) (hi:P.info? e=some i) (hn:i.size=n) (hx:bb fm x xo) (hj:bb fm j jo):az P fm (.fT n len x j) o:=by
 refine aC fun CR G w0 st w fr a v st' hs hf hrun => ?_
 simp only [aw] at hrun
 have hxv:=hx.ev (a:=a) hf
 have hjv:=hj.ev (a:=a) hf
 generalize hx0:a.eval xo=x0 at hxv
 generalize hj0:a.eval jo=j0 at hjv
 have hsz:(sizeOf e).run P w=.ok n w:=by unfold sizeOf typeInfo;simp [hi,hn]
 split at hrun
 · rename_i b off k q hb hq
   rw [hb] at hxv
   rw [hq] at hjv
   split at hrun
   · rename_i hc
     obtain ⟨hc1,hc2⟩:=hc
     simp only [Option.some.injEq,Prod.mk.injEq] at hrun
     obtain ⟨rfl,rfl⟩:=hrun
     cases hjv
     cases hxv with
     | ptr _ _ r hm=>
       refine ⟨rfl,.pointer (some ⟨r,off+q.toNat*n,none⟩),?_,.ptr b (off+q.toNat*n) r hm⟩
       unfold execOp
       simp only [ho,hx0,hj0]
       refine af ?_
       unfold Instr.indexAt
       simp [asIntOf,run_underlying ht,hc1,hc2,hsz,Addr.add_lit,Instr.sureAddr]
   · cases hrun
 · rename_i cs k q hb hq
   rw [hb] at hxv
   rw [hq] at hjv
   split at hrun
   · rename_i hc
     obtain ⟨hc1,hc2,hc3⟩:=hc
     simp only [Option.some.injEq,Prod.mk.injEq] at hrun
     obtain ⟨rfl,rfl⟩:=hrun
     cases hjv
     cases hxv with
     | bX _ r off f hr hcc hp=>
       refine ⟨rfl,.pointer (some ⟨r,off+q.toNat*n,none⟩),?_,.bX _ r (off+q.toNat*n) (fun i=>f (q.toNat*n+i)) (fun i hi => ?_) (fun i hi => ?_) ?_⟩
       · unfold execOp
         simp only [ho,hx0,hj0]
         refine af ?_
         unfold Instr.indexAt
         simp [asIntOf,run_underlying ht,hc1,hc2,hsz,Addr.add_lit,Instr.sureAddr]
       · simp only [List.length_drop] at hi
         rw [Nat.add_assoc];exact hr _ (by omega)
       · simp only [List.length_drop] at hi
         rw [List.getElem_drop]
         exact hcc _ (by omega)
       · rw [List.all_eq_true] at hp ⊢
         exact fun y hy=>hp y (List.mem_of_mem_drop hy)
   · cases hrun
 · cases hrun
theorem tH {t e:TypeId} {n len:Nat} {ag:Bool} {x j:X} {xo jo:Operand} {o:Oper} (ho:o.op=.index t xo jo) (ht:P.underlying t=some (.array len e)) (hty:ie P e n ag) (hx:bb fm x xo) (hj:bb fm j jo):az P fm (.jO n ag len x j) o:=by
 refine aC fun CR G w0 st w fr a v st' hs hf hrun => ?_
 simp only [aw] at hrun
 have hxv:=hx.ev (a:=a) hf
 have hjv:=hj.ev (a:=a) hf
 generalize hx0:a.eval xo=x0 at hxv
 generalize hj0:a.eval jo=j0 at hjv
 split at hrun
 · rename_i vs k q hb hq
   rw [hb] at hxv
   rw [hq] at hjv
   split at hrun
   · rename_i hc
     obtain ⟨hc1,hc2⟩:=hc
     simp only [Option.map_eq_some_iff] at hrun
     obtain ⟨u,hu,hrun⟩:=hrun
     cases hrun
     cases hjv
     cases hxv with
     | agg _ cs hl hcc=>
       obtain ⟨y,g1,g2⟩:=ow (P:=P) (w:=w) hl hcc hu hty
       refine ⟨rfl,y,?_,g2⟩
       unfold execOp
       simp only [ho,hx0,hj0]
       refine af ?_
       obtain ⟨⟨d,hd,hag⟩,⟨i,hi,hsz⟩,h1⟩:=hty
       have hsz:(sizeOf e).run P w=.ok n w:=by unfold sizeOf typeInfo;simp [hi,hsz]
       unfold Instr.index
       simp [asIntOf,run_underlying ht,hc1,hc2,hsz,g1]
   · cases hrun
 · cases hrun
theorem fY {w:World} {r off q:Nat} (f:Nat→Value) (h:∀ i,i<q→w.cell? ⟨r,off+i,none⟩=some (f i)):(loadCells ⟨r,off,none⟩ q).run P w=.ok ((List.range q).map f).toArray w:=
 run_loadCells (P:=P) w ⟨r,off,none⟩ q f (fun j hj=>by rw [Addr.add_lit];exact h j hj)
structure AR (P:Program) (fm:FM) (G:Gh) (w:World) (n m:Nat) (news:List DV) (x:Value):Prop where
 len:(Builtin.lenOf x).run P w=.ok m w
 length:news.length=m*n
 bg:news.all DV.bg=true
 cells:∀ k w',k≤m→Below w.heap.size w w'→∃ vs,(Builtin.firstCells n k x).run P w'=.ok vs w'∧vs.size=k*n∧(∀ i (h:i<news.length),i<k*n→Rel fm G (news[i]) (vs.getD i undef))
theorem cI {CR:Nat→RC→Code→Prop} {G:Gh} {w0 w:World} {st:St} (hs:Sim fm CR G w0 st w) {n m:Nat} {news:List DV} {v:DV} {x:Value} (hv:Rel fm G v x) (h:bP st n v=some (m,news)):AR P fm G w n m news x:=by
 unfold bP at h
 split at h
 · rename_i tag n' tk nn xs
   split at h
   · rename_i hnn
     subst hnn
     simp only [Option.some.injEq,Prod.mk.injEq] at h
     obtain ⟨rfl,rfl⟩:=h
     cases hv
     refine ⟨rfl,by simp,rfl,fun k w' hk _=>⟨#[],rfl,by have h0:k=0:=Nat.le_zero.1 hk;subst h0;simp,fun i hi=>by simp at hi⟩⟩
   · rename_i hnn
     split at h
     · rename_i hn'
       subst hn'
       simp only [Option.some.injEq,Prod.mk.injEq] at h
       obtain ⟨rfl,rfl⟩:=h
       cases hv with
       | fV=>simp at hnn
       | list _ _ _ _ r off cap f hr hc hp hk hl hn=>
         have hfl:=dr xs n' hn
         refine ⟨rfl,hfl,b0 hp,fun k w' hk hb => ?_⟩
         have hkn:k*n'≤(flat xs).length:=by rw [hfl];exact Nat.mul_le_mul_right _ hk
         have hcell:∀ i,i<k*n'→w'.cell? ⟨r,off+i,none⟩=some (f i):=by
          intro i hi
          obtain ⟨cs,t,fz,h1,h2⟩:=hs.ro r (off+i) (f i) (hr i (by omega))
          rw [cell?_cells ((hb.block r (get?_lt h1)).trans h1)]
          exact h2
         refine ⟨_,fY f hcell,by simp,fun i hi hik => ?_⟩
         rw [gB f _ i hik]
         exact hc i (by omega)
     · cases h
 · rename_i s
   split at h
   · rename_i hn
     subst hn
     simp only [Option.some.injEq,Prod.mk.injEq] at h
     obtain ⟨rfl,rfl⟩:=h
     cases hv with
     | str _ ba hba=>
       subst hba
       have hsz:ba.data.toList.length=ba.size:=by rw [Array.length_toList];rfl
       refine ⟨by rw [hsz];rfl,by simp,?_,fun k w' hk _=>⟨_,rfl,?_,fun i hi hik => ?_⟩⟩
       · rw [List.all_eq_true]
         intro y hy
         obtain ⟨b,_,rfl⟩:=List.mem_map.1 hy
         rfl
       · have:(ba.extract 0 k).data.size=k:=by
          have h1:(ba.extract 0 k).data.size=(ba.extract 0 k).size:=rfl
          rw [h1,ByteArray.size_extract];omega
         rw [Array.size_map,this,Nat.mul_one]
       · have hi':i<ba.data.size:=by simpa using hi
         have hg:(ba.extract 0 k).data[i]? = some ba.data[i]:=by
          rw [ByteArray.data_extract]
          rw [Array.getElem?_extract]
          rw [if_pos (by omega),Nat.zero_add,Array.getElem?_eq_getElem hi']
         have:((ba.extract 0 k).data.map fun b=>Value.int .u8 b.toNat).getD i undef=.int .u8 ba.data[i].toNat:=by
          rw [Array.getD_eq_getD_getElem?,Array.getElem?_map,hg]
          rfl
         rw [this]
         simp only [List.getElem_map,Array.getElem_toList]
         exact .int _ _
   · cases h
 · rename_i n' ag b off len cap
   split at h
   · rename_i hn'
     subst hn'
     split at h
     · rename_i g vs hb
       split at h
       · rename_i hle
         simp only [Option.some.injEq,Prod.mk.injEq] at h
         obtain ⟨rfl,rfl⟩:=h
         cases hv with
         | hsl _ _ _ _ _ _ r c hm hcap=>
           have hbo:st.heap[b]? = some (.cells g vs):=by
            unfold St.cells at hb
            split at hb
            · rename_i g' vs' e;simp only [Option.some.injEq,Prod.mk.injEq] at hb;obtain ⟨rfl,rfl⟩:=hb;exact e
            · cases hb
           obtain ⟨r',ob,h1,h2,h3,h4⟩:=hs.obj b _ hbo rfl (hs.np hm)
           rw [hm] at h1;cases h1
           have key:∃ cs t fz,ob=.cells cs t fz∧vs.length≤cs.size∧(∀ i (h:i<vs.length),Rel fm G (vs[i]) (cs.getD i undef))∧vs.all DV.bg=true:=by
            cases g with
            | plain=>obtain ⟨cs,t,fz,e,f1,f2,f3,f4⟩:=h3;exact ⟨cs,t,fz,e,by omega,f2,f4⟩
            | typed ty=>obtain ⟨cs,t,fz,e,_,f1,f2,f3,f4⟩:=h3;exact ⟨cs,t,fz,e,by omega,f2,f4⟩
            | frz ty=>obtain ⟨cs,t,fz,e,_,f1,_,f2,f3,f4⟩:=h3;exact ⟨cs,t,fz,e,f1,f2,f4⟩
            | grown=>obtain ⟨cs,t,fz,e,f1,_,f2,f3,f4⟩:=h3;exact ⟨cs,t,fz,e,f1,f2,f4⟩
           obtain ⟨cs,t,fz,rfl,k1,k2,k3⟩:=key
           refine ⟨rfl,by simp;omega,?_,fun k w' hk hbw => ?_⟩
           · rw [List.all_eq_true] at k3 ⊢
             exact fun y hy=>k3 y (List.mem_of_mem_drop (List.mem_of_mem_take hy))
           · have hkn:k*n'≤len*n':=Nat.mul_le_mul_right _ hk
             have hcell:∀ i,i<k*n'→w'.cell? ⟨r,off+i,none⟩=some (cs.getD (off+i) undef):=by
              intro i hi
              rw [cell?_cells ((hbw.block r (get?_lt h2)).trans h2)]
              rw [Array.getD_eq_getD_getElem?,Array.getElem?_eq_getElem (by omega)]
              rfl
             refine ⟨_,fY _ hcell,by simp,fun i hi hik => ?_⟩
             rw [gB _ _ i hik]
             have:=k2 (off+i) (by omega)
             simpa using this
       · cases h
     · cases h
   · cases h
 · cases h
theorem so {G:Gh}:∀ (vs:List DV) (l:List UInt8) (xs:List Value),gD vs=some l→xs.length=vs.length→(∀ i (h:i<vs.length),Rel fm G (vs[i]) (xs.getD i undef))→∃ ns:List Int,xs=ns.map (Value.int .u8)∧ns.map (fun n=>UInt8.ofNat n.toNat)=l
 | [],l,xs,h,hl,_=>by
   simp only [gD,Option.some.injEq] at h;subst h
   exact ⟨[],by simpa using hl,rfl⟩
 | v::vs,l,[],_,hl,_=>by simp at hl
 | v::vs,l,x::xs,h,hl,hr=>by
   unfold gD at h
   split at h
   · rename_i heq;cases heq
   · rename_i n r heq
     simp only [List.cons.injEq] at heq
     obtain ⟨rfl,rfl⟩:=heq
     simp only [Option.map_eq_some_iff] at h
     obtain ⟨l',h1,rfl⟩:=h
     obtain ⟨ns,e1,e2⟩:=so vs l' xs h1 (by simpa using hl) (fun i hi=>hr (i+1) (Nat.succ_lt_succ hi))
     have h0:=hr 0 (by simp)
     simp only [List.getElem_cons_zero,List.getD_cons_zero] at h0
     cases h0
     exact ⟨n::ns,by simp [e1],by simp [e2]⟩
   · cases h
theorem iO:∀ (ns:List Int) (r:ByteArray),ns.foldl (fun r n=>r.push (UInt8.ofNat n.toNat)) r=⟨r.data++(ns.map fun n=>UInt8.ofNat n.toNat).toArray⟩
 | [],r=>by simp
 | n::ns,r=>by
   simp only [List.foldl_cons]
   rw [iO ns]
   simp [ByteArray.push]
theorem Cs {s d e:TypeId} {x:X} {xo:Operand} {o:Oper} (ho:o.op=.convert s d xo) (hs0:P.underlying s=some (.slice e)) (he:P.underlying e=some (.int .u8)) (hd:P.underlying d=some .string) (hx:bb fm x xo):az P fm (.b2s x) o:=by
 refine aC fun CR G w0 st w fr a v st' hs hf hrun => ?_
 simp only [aw] at hrun
 have hxv:=hx.ev (a:=a) hf
 split at hrun
 · rename_i m vs hnews
   simp only [Option.map_eq_some_iff] at hrun
   obtain ⟨l,hl,hrun⟩:=hrun
   cases hrun
   split at hnews
   · cases hnews
   rename_i dv hdv hns
   have hnr:=cI (P:=P) hs hxv hnews
   generalize hx0:a.eval xo=x0 at hxv hnr
   obtain ⟨cs,g1,g2,g3⟩:=hnr.cells m w (Nat.le_refl _) (Below.refl _ w)
   have hlen:=hnr.length
   obtain ⟨ns,e1,e2⟩:=so (fm:=fm) (G:=G) vs l cs.toList hl (by simp [g2,hlen]) (fun i hi=>by rw [aM];exact g3 i hi (by omega))
   have ecs:cs=(ns.map (Value.int .u8)).toArray:=by rw [← e1]
   have hsl:∀ (p:Option Addr) (n c:Nat),x0=.slice p n c→(execOp a.eval o).run P w=.ok (.value (.string ⟨l.toArray⟩)) w:=by
    intro p n c hp
    subst hp
    unfold execOp
    simp only [ho,hx0]
    refine af ?_
    rw [run_convert_bytes_string w s d e p n c hs0 he hd]
    have hnm:n=m:=by
     have:=hnr.len
     simp only [Builtin.lenOf,Sem.run_pure] at this
     cases this;rfl
    subst hnm
    cases p with
    | none=>
      have h0:cs = #[]:=by
       simp only [Builtin.firstCells,Sem.run_pure] at g1
       cases g1;rfl
      have:ns=[]:=by
       rw [h0] at e1
       cases ns with
       | nil=>rfl
       | cons _ _=>simp at e1
      subst this
      simp only [List.map_nil] at e2
      subst e2
      rfl
    | some ad=>
      have g1':(loadCells ad n).run P w=.ok (ns.map (Value.int .u8)).toArray w:=by
       simp only [Builtin.firstCells,Nat.mul_one] at g1
       rw [g1,ecs]
      rw [run_bytesToString w ad n c ns g1',iO,e2]
      simp
   generalize X.ev fr x=dv' at hxv hnews hns
   unfold bP at hnews
   split at hnews
   · cases hxv with
     | fV=>exact ⟨rfl,_,hsl _ _ _ rfl,.str _ _ rfl⟩
     | list=>exact ⟨rfl,_,hsl _ _ _ rfl,.str _ _ rfl⟩
   · exact absurd rfl (hns _)
   · cases hxv with
     | hsl=>exact ⟨rfl,_,hsl _ _ _ rfl,.str _ _ rfl⟩
   · cases hnews
 · cases hrun
theorem jz (s:ByteArray) (c i:Nat) (h:i<s.data.toList.length):(bytesRow s c)[i]? = some (.int .u8 (s.data.toList[i]).toNat):=by
 have hi:i<s.data.size:=by simpa using h
 unfold bytesRow
 rw [Array.getElem?_append_left (by simpa using hi),Array.getElem?_map,Array.getElem?_eq_getElem hi]
 simp
theorem ru (s:ByteArray) (c:Nat) (h:s.size≤c):(bytesRow s c).size=c:=by
 have:s.data.size=s.size:=rfl
 simp [bytesRow,this];omega
theorem jk (s:List UInt8):flat (s.map fun b=>DV.int .u8 b.toNat)=s.map fun b=>DV.int .u8 b.toNat:=by
 induction s with
 | nil=>rfl
 | cons b s ih=>
   show DV.leaves (DV.int .u8 b.toNat)++flat (s.map fun b=>DV.int .u8 b.toNat)=_
   rw [ih];rfl
theorem Cm {s d e:TypeId} {x:X} {xo:Operand} {o:Oper} (ho:o.op=.convert s d xo) (hs0:P.underlying s=some .string) (hd:P.underlying d=some (.slice e)) (he:P.underlying e=some (.int .u8)) (hx:bb fm x xo):az P fm (.s2b x) o:=by
 intro CR G w0 st w fr a v st' hs hf hrun
 simp only [aw] at hrun
 have hxv:=hx.ev (a:=a) hf
 split at hrun
 · rename_i l hl
   rw [hl] at hxv
   simp only [Option.some.injEq,Prod.mk.injEq] at hrun
   obtain ⟨rfl,rfl⟩:=hrun
   generalize hx0:a.eval xo=x0 at hxv
   cases hxv with
   | str _ ba hba=>
     subst hba
     have hc:=run_bytes_of_string (P:=P) w s d e ba hs0 hd he
     generalize hcap:grownCap w ba.size 0 e=cap at hc
     have hge:ba.size≤cap:=by rw [← hcap];exact grownCap_ge _ _ _ _
     have hsz:ba.data.toList.length=ba.size:=by rw [Array.length_toList];rfl
     have hb:Below w.heap.size w (w.drew.alloc (.cells (bytesRow ba cap) e ((bytesRow ba cap).size,(bytesRow ba cap).size+1))):=(Below.refl _ w).drew.alloc (Nat.le_refl _) _
     have hnew:(w.drew.alloc (.cells (bytesRow ba cap) e ((bytesRow ba cap).size,(bytesRow ba cap).size+1))).heap[w.heap.size]? = some (.cells (bytesRow ba cap) e ((bytesRow ba cap).size,(bytesRow ba cap).size+1)):=World.alloc_heap_new w.drew _
     have hs':=hs.gU hb hnew ba.size
     have hle:=Gh.p8 hs (bytesRow ba cap) ba.size
     have hlist:=Rel.list (fm:=fm) (G:=G.gU w.heap.size (bytesRow ba cap) ba.size) st.cur 1 .no (ba.data.toList.map fun b=>DV.int .u8 b.toNat) w.heap.size 0 cap (fun i=>(bytesRow ba cap).getD i undef) ?_ ?_ ?_ trivial ?_ ?_
     · have e1:(ba.data.toList.map fun b=>DV.int .u8 b.toNat).length=ba.size:=by simp
       rw [e1] at hlist
       refine ⟨_,_,.slice (some ⟨w.heap.size,0,none⟩) ba.size cap,_,?_,.inl rfl,hle,hs',hlist⟩
       unfold execOp
       simp only [ho,hx0]
       exact af hc
     · intro i hi
       rw [jk] at hi
       have hi':i<ba.data.toList.length:=by simpa using hi
       have hlt:i<ba.size:=by omega
       simp [Gh.gU,hlt,jz ba cap i hi',Array.getD_eq_getD_getElem?]
     · intro i hi
       have hi0:=hi
       rw [jk] at hi
       have hi':i<ba.data.toList.length:=by simpa using hi
       have e1:(flat (ba.data.toList.map fun b=>DV.int .u8 b.toNat))[i]=.int .u8 (ba.data.toList[i]).toNat:=by
        apply Option.some.inj
        rw [← List.getElem?_eq_getElem hi0,jk]
        rw [List.getElem?_map,List.getElem?_eq_getElem hi'];rfl
       rw [e1,Array.getD_eq_getD_getElem?,jz ba cap i hi']
       exact .int _ _
     · rw [jk,List.all_eq_true]
       intro y hy
       obtain ⟨b,_,rfl⟩:=List.mem_map.1 hy
       rfl
     · simpa [hsz] using hge
     · intro y hy
       obtain ⟨b,_,rfl⟩:=List.mem_map.1 hy
       rfl
 · cases hrun
theorem Cv {s d e:TypeId} {x:X} {xo:Operand} {o:Oper} (ho:o.op=.convert s d xo) (hs0:P.underlying s=some .string) (hd:P.underlying d=some (.slice e)) (he:P.underlying e=some (.int .u8)) (hx:bb fm x xo):az P fm (.s2h x) o:=by
 intro CR G w0 st w fr a v st' hs hf hrun
 simp only [aw] at hrun
 have hxv:=hx.ev (a:=a) hf
 split at hrun
 · rename_i l hl
   rw [hl] at hxv
   simp only [Option.some.injEq,Prod.mk.injEq] at hrun
   obtain ⟨rfl,rfl⟩:=hrun
   generalize hx0:a.eval xo=x0 at hxv
   cases hxv with
   | str _ ba hba=>
     subst hba
     have hc:=run_bytes_of_string (P:=P) w s d e ba hs0 hd he
     generalize hcap:grownCap w ba.size 0 e=cap at hc
     have hge:ba.size≤cap:=by rw [← hcap];exact grownCap_ge _ _ _ _
     have hsz:ba.data.toList.length=ba.size:=by rw [Array.length_toList];rfl
     have hss:=ru ba cap hge
     have hs':=hs.drew.push (o:=.cells .grown (ba.data.toList.map fun b=>DV.int .u8 b.toNat)) (ob:=.cells (bytesRow ba cap) e ((bytesRow ba cap).size,(bytesRow ba cap).size+1)) cap
      ⟨bytesRow ba cap,e,_,rfl,by simpa [hss,hsz] using hge,by simp [Gh.push,hss],fun i hi=>by
       have hi':i<ba.data.toList.length:=by simpa using hi
       rw [Array.getD_eq_getD_getElem?,jz ba cap i hi']
       simp only [List.getElem_map]
       exact .int _ _,fun i hi=>by omega,by
       rw [List.all_eq_true]
       intro y hy
       obtain ⟨b,_,rfl⟩:=List.mem_map.1 hy
       rfl⟩ rfl
     have hle:G.le (G.push st.heap.length w.heap.size cap):=Gh.bC hs.bQ
     refine ⟨_,_,.slice (some ⟨w.heap.size,0,none⟩) ba.size cap,_,?_,.inl rfl,hle,hs',?_⟩
     · unfold execOp
       simp only [ho,hx0]
       exact af hc
     · rw [hsz]
       exact .hsl _ _ _ _ _ _ _ _ (by simp [Gh.push]) ⟨hge,by simp [Gh.push]⟩
 · cases hrun
end Go.D
end
section
namespace Go.D
open Go.RowKit
variable {P:Program} {fm:FM}
theorem rq {t e:TypeId} {n bytes:Nat} {ag:Bool} {zs:List DV} {i:TypeInfo} {l c:X} {lo co:Operand} {o:Oper} (ho:o.op=.makeSlice t lo co) (ht:P.underlying t=some (.slice e)) (hi:P.info? e=some i) (hn:i.size=n) (hby:i.bytes=bytes) (hz:aX P e=some zs) (hzl:zs.length=n)
 (hl:bb fm l lo) (hc:bb fm c co):az P fm (.bI n ag bytes zs l c) o:=by
 intro CR G w0 st w fr a v st' hs hf hrun
 simp only [aw] at hrun
 have hlv:=hl.ev (a:=a) hf
 have hcv:=hc.ev (a:=a) hf
 split at hrun
 · rename_i lv cv el ec
   rw [el] at hlv;rw [ec] at hcv
   split at hrun
   · rename_i hcond
     obtain ⟨c1,c2,c3,c4⟩:=hcond
     simp only [Option.some.injEq,Prod.mk.injEq] at hrun
     obtain ⟨rfl,rfl⟩:=hrun
     generalize hl0:a.eval lo=l0 at hlv
     generalize hc0:a.eval co=c0 at hcv
     cases hlv;cases hcv
     obtain ⟨i',z,hi',hzz,hcc⟩:=bj hz
     rw [hi] at hi';cases hi'
     obtain ⟨zl,zr⟩:=bL (fm:=fm) hcc
     have hle:G.le (G.push st.heap.length w.heap.size 0):=Gh.bC hs.bQ
     have hrd:(aA:Int)=140737488355328:=rfl
     rw [hrd] at c3 c4
     have hrun:=run_make (P:=P) w t e i z ht hi hzz .i64 .i64 lv cv c1 c2 (by rw [hby,Int.mul_comm];omega) (by omega)
     obtain ⟨s1,s2⟩:=kP (fm:=fm) (G:=G.push st.heap.length w.heap.size 0) (zs:=zs) (z:=z.cells) (by simpa using zl) (fun i hi=>zr _ i hi) cv.toNat
     have hscal:(bk zs cv.toNat).all DV.bg=true:=by
      rw [List.all_eq_true]
      intro x hx
      obtain ⟨j,hj,rfl⟩:=List.getElem_of_mem hx
      have hj':=hj
      rw [cS] at hj'
      have:=getElem?_repl zs cv.toNat j hj'
      rw [List.getElem?_eq_getElem hj] at this
      exact List.all_eq_true.1 (b0 (cm hcc)) _ (List.mem_of_getElem? this.symm)
     have hmade:madeCells z.cells (cv.toNat*i.size)=(Array.range (cv.toNat*zs.length)).map (z.cells[· % z.cells.size]!):=by rw [hn,hzl];rfl
     rw [← hmade] at s1 s2
     have hs':=hs.push (o:=.cells .plain (bk zs cv.toNat)) (ob:=.cells (madeCells z.cells (cv.toNat*i.size)) e) 0 ⟨_,e,(0,0),rfl,s1,s2,fun i hi=>by simp,hscal⟩ rfl
     refine ⟨_,_,.slice (some ⟨w.heap.size,0,none⟩) lv.toNat cv.toNat,_,?_,.inl rfl,hle,hs',.hsl _ _ _ _ _ _ _ _ (by simp [Gh.push]) ⟨rfl,by omega⟩⟩
     unfold execOp
     simp only [ho,hl0,hc0]
     exact af hrun
   · cases hrun
 · cases hrun
theorem rK {e:TypeId} {zs:List DV} {o:Oper} (ho:o.op=.alloc e) (hz:aX P e=some zs):jm P fm (.alloc zs) o:=by
 obtain ⟨i,z,hi,hzz,hc⟩:=bj hz
 intro CR G w0 st w fr a b v ob hs hf hfree
 simp only [iM,Option.some.injEq,Prod.mk.injEq] at hfree
 obtain ⟨rfl,rfl⟩:=hfree
 obtain ⟨hl,hr⟩:=bL (fm:=fm) hc
 refine ⟨rfl,.cells z.cells e,.pointer (some ⟨w.heap.size,0,none⟩),_,?_,.inl rfl,fun G' hG'=>⟨⟨z.cells,e,(0,0),rfl,by simpa using hl,fun i hi=>by rw [← aM];exact hr _ i hi,fun i hi=>by simp,b0 (cm hc)⟩,.ptr _ _ _ hG'⟩⟩
 unfold execOp
 simp only [ho]
 refine af ?_
 unfold Instr.alloc
 simp only [Sem.run_bind,jc hi hzz,Result.andThen_ok]
 rfl
theorem rI {t:TypeId} {o:Oper} (ho:o.op=.makeMap t none):jm P fm .gJ o:=by
 intro CR G w0 st w fr a b v ob hs hf hfree
 simp only [iM,Option.some.injEq,Prod.mk.injEq] at hfree
 obtain ⟨rfl,rfl⟩:=hfree
 refine ⟨rfl,.map #[] 0,.map (some w.heap.size),_,?_,.inl rfl,fun G' hG'=>⟨⟨#[],0,rfl,rfl,fun i k v hi=>by simp at hi⟩,.map _ _ hG'⟩⟩
 unfold execOp
 simp only [ho,Option.map_none]
 exact af (by simp [Instr.makeMap])
theorem oR {t e:TypeId} {n bytes:Nat} {ag:Bool} {zs:List DV} {i:TypeInfo} {l c:X} {lo co:Operand} {o:Oper} (ho:o.op=.makeSlice t lo co) (ht:P.underlying t=some (.slice e)) (hi:P.info? e=some i) (hn:i.size=n) (hby:i.bytes=bytes) (hz:aX P e=some zs) (hzl:zs.length=n)
 (hl:bb fm l lo) (hc:bb fm c co):jm P fm (.bI n ag bytes zs l c) o:=by
 intro CR G w0 st w fr a b v ob hs hf hfree
 simp only [iM] at hfree
 have hlv:=hl.ev (a:=a) hf
 have hcv:=hc.ev (a:=a) hf
 split at hfree
 · rename_i lv cv el ec
   rw [el] at hlv;rw [ec] at hcv
   split at hfree
   · rename_i hcond
     obtain ⟨c1,c2,c3,c4⟩:=hcond
     simp only [Option.some.injEq,Prod.mk.injEq] at hfree
     obtain ⟨rfl,rfl⟩:=hfree
     generalize hl0:a.eval lo=l0 at hlv
     generalize hc0:a.eval co=c0 at hcv
     cases hlv;cases hcv
     obtain ⟨i',z,hi',hzz,hcc⟩:=bj hz
     rw [hi] at hi';cases hi'
     obtain ⟨zl,zr⟩:=bL (fm:=fm) hcc
     have hrd:(aA:Int)=140737488355328:=rfl
     rw [hrd] at c3 c4
     have hrun:=run_make (P:=P) w t e i z ht hi hzz .i64 .i64 lv cv c1 c2 (by rw [hby,Int.mul_comm];omega) (by omega)
     have hscal:(bk zs cv.toNat).all DV.bg=true:=by
      rw [List.all_eq_true]
      intro x hx
      obtain ⟨j,hj,rfl⟩:=List.getElem_of_mem hx
      have hj':=hj
      rw [cS] at hj'
      have:=getElem?_repl zs cv.toNat j hj'
      rw [List.getElem?_eq_getElem hj] at this
      exact List.all_eq_true.1 (b0 (cm hcc)) _ (List.mem_of_getElem? this.symm)
     have hmade:madeCells z.cells (cv.toNat*i.size)=(Array.range (cv.toNat*zs.length)).map (z.cells[· % z.cells.size]!):=by rw [hn,hzl];rfl
     refine ⟨rfl,.cells (madeCells z.cells (cv.toNat*i.size)) e,.slice (some ⟨w.heap.size,0,none⟩) lv.toNat cv.toNat,_,?_,.inl rfl,fun G' hG' => ?_⟩
     · unfold execOp
       simp only [ho,hl0,hc0]
       exact af hrun
     · obtain ⟨s1,s2⟩:=kP (fm:=fm) (G:=G') (zs:=zs) (z:=z.cells) (by simpa using zl) (fun i hi=>zr _ i hi) cv.toNat
       rw [← hmade] at s1 s2
       exact ⟨⟨_,e,(0,0),rfl,s1,s2,fun i hi=>by simp,hscal⟩,.hsl _ _ _ _ _ _ _ _ hG' ⟨rfl,by omega⟩⟩
   · cases hfree
 · cases hfree
def Gh.dj (G:Gh) (t s r len cap n:Nat):Gh:={ G with bB:=fun t' s'=>if t'=t∧s'=s then some (r,len,cap,n) else G.bB t' s' }
theorem Sim.C8 {CR:Nat→RC→Code→Prop} {G:Gh} {w0 w:World} {st:St} (hs:Sim fm CR G w0 st w) {t s:Nat} (h:∀ s',st.aW[t]? = some s'→s'<s):G.bB t s=none:=by
 cases e:G.bB t s with
 | none=>rfl
 | some x=>
   obtain ⟨s',h1,h2⟩:=hs.bB t s x e
   have:=h s' h1
   omega
theorem Gh.kZ {CR:Nat→RC→Code→Prop} {G:Gh} {w0 w:World} {st:St} (hs:Sim fm CR G w0 st w) {t s:Nat} (h:∀ s',st.aW[t]? = some s'→s'<s) (r len cap n:Nat):G.le (G.dj t s r len cap n):=by
 have hn:=hs.C8 h
 refine ⟨⟨fun _ _ _ x=>x,fun _ _ x=>x,fun t' s' x hx => ?_,fun _ _ _=>rfl⟩,fun _ x=>x,fun _ x=>x,rfl,fun _ _ _=>rfl,rfl,rfl,rfl⟩
 simp only [Gh.dj]
 rw [if_neg]
 · exact hx
 · rintro ⟨rfl,rfl⟩;rw [hn] at hx;cases hx
theorem get?_append_cases {α:Type} {l:List α} {x y:α} {t:Nat} (h:(l++[x])[t]? = some y):(t<l.length∧l[t]? = some y)∨(t=l.length∧y=x):=by
 rcases getElem?_push_cases _ _ _ _ h with h | h
 · exact .inr h
 · exact .inl h
theorem Sim.x4 {CR:Nat→RC→Code→Prop} {G:Gh} {w0 w:World} {st:St} (hs:Sim fm CR G w0 st w) {t s r len cap n:Nat} {aW:List Nat} {cs:Array Value} {ty:TypeId}
 (hold:∀ s',st.aW[t]? = some s'→s'<s) (hnew:aW[t]? = some s) (hoth:∀ u x,u≠t→(aW[u]? = some x↔st.aW[u]? = some x))
 (hn:0<n) (hlc:len≤cap) (hrow:w.heap[r]? = some (.cells cs ty (0,0))) (hsz:cs.size=cap*n) (hro:∀ i,len*n≤i→G.ro r i=none)
 (hobj:∀ b o,st.heap[b]? = some o→o.b8=false→G.mu b≠some r) (hfl:st.aR≤t→G.floor≤r)
 (hdis:∀ u x y,u≠t→st.aW[u]? = some x→G.bB u x=some y→y.1≠r) :
 Sim fm CR (G.dj t s r len cap n) w0 { st with aW:=aW } w:=by
 have hle:=(Gh.kZ hs hold r len cap n).toSub
 have hh:∀ u x,u≠t→(G.dj t s r len cap n).bB u x=G.bB u x:=fun u x hu=>by simp only [Gh.dj];rw [if_neg (fun h=>hu h.1)]
 have hh':(G.dj t s r len cap n).bB t s=some (r,len,cap,n):=by simp [Gh.dj]
 refine { bW:=hs.bW,bR:=hs.bR,obj:=?_,ro:=hs.ro,c9:=hs.c9,tok:=?_,bE:=?_,bB:=?_,dfr:=hs.dfr,lps:=hs.lps,aF:=hs.aF,below:=hs.below,base:=hs.base,aR:=hs.aR,bG:=hs.bG,bm:=hs.bm,env:=hs.env }
 · intro b o ho hg hpd
   obtain ⟨r',ob,h1,h2,h3,h4⟩:=hs.obj b o ho hg hpd
   exact ⟨r',ob,h1,h2,h3.sub hle h1,h4⟩
 · intro u x hu
   by_cases e:u=t
   · subst e
     rw [hnew] at hu;cases hu
     exact ⟨r,len,cap,n,cs,ty,hh',hn,hlc,hrow,hsz,hro,hobj,hfl⟩
   · obtain ⟨r',len',cap',n',cs',ty',h1,h2⟩:=hs.tok u x ((hoth u x e).1 hu)
     exact ⟨r',len',cap',n',cs',ty',by rw [hh u x e];exact h1,h2⟩
 · intro u u' x x' y y' hu hu' hy hy' hyy
   by_cases e:u=t<;>by_cases e':u'=t
   · rw [e,e']
   · subst e
     rw [hnew] at hu;cases hu
     rw [hh'] at hy;cases hy
     rw [hh u' x' e'] at hy'
     exact absurd hyy.symm (hdis u' x' y' e' ((hoth u' x' e').1 hu') hy')
   · subst e'
     rw [hnew] at hu';cases hu'
     rw [hh'] at hy';cases hy'
     rw [hh u x e] at hy
     exact absurd hyy (hdis u x y e ((hoth u x e).1 hu) hy)
   · rw [hh u x e] at hy;rw [hh u' x' e'] at hy'
     exact hs.bE u u' x x' y y' ((hoth u x e).1 hu) ((hoth u' x' e').1 hu') hy hy' hyy
 · intro u x y hy
   by_cases e:u=t
   · subst e
     by_cases e2:x=s
     · subst e2;exact ⟨x,hnew,Nat.le_refl _⟩
     · have:G.bB u x=some y:=by
        simp only [Gh.dj] at hy
        rwa [if_neg (fun h=>e2 h.2)] at hy
       obtain ⟨s',h1,h2⟩:=hs.bB u x y this
       exact ⟨s,hnew,by have:=hold s' h1;omega⟩
   · rw [hh u x e] at hy
     obtain ⟨s',h1,h2⟩:=hs.bB u x y hy
     exact ⟨s',(hoth u s' e).2 h1,h2⟩
theorem Sim.dO {CR:Nat→RC→Code→Prop} {G:Gh} {w0 w:World} {st:St} (hs:Sim fm CR G w0 st w):∀ b o,st.heap[b]? = some o→o.b8=false→G.mu b≠some w.heap.size:=by
 intro b o ho hg e
 obtain ⟨r,ob,h1,h2,_⟩:=hs.obj b o ho hg (hs.np e)
 rw [e] at h1;cases h1
 exact absurd (get?_lt h2) (Nat.lt_irrefl _)
theorem Sim.zH {CR:Nat→RC→Code→Prop} {G:Gh} {w0 w:World} {st:St} (hs:Sim fm CR G w0 st w):∀ u x y,st.aW[u]? = some x→G.bB u x=some y→y.1≠w.heap.size:=by
 intro u x y hu hy e
 obtain ⟨r,len,cap,n,cs,ty,h1,h2,h3,h4,h5⟩:=hs.tok u x hu
 rw [hy] at h1;cases h1
 simp only at e
 rw [e] at h4
 exact absurd (get?_lt h4) (Nat.lt_irrefl _)
theorem Sim.Ek {CR:Nat→RC→Code→Prop} {G:Gh} {w0 w:World} {st:St} (hs:Sim fm CR G w0 st w) (i:Nat):G.ro w.heap.size i=none:=by
 cases e:G.ro w.heap.size i with
 | none=>rfl
 | some v=>exact absurd (hs.Aa e) (Nat.lt_irrefl _)
theorem vk {t e:TypeId} {n bytes:Nat} {zs:List DV} {i:TypeInfo} {l c:X} {lo co:Operand} {o:Oper} (ho:o.op=.makeSlice t lo co) (ht:P.underlying t=some (.slice e)) (hi:P.info? e=some i) (hn:i.size=n) (hby:i.bytes=bytes) (hz:aX P e=some zs)
 (hl:bb fm l lo) (hc:bb fm c co):az P fm (.jB n bytes l c) o:=by
 intro CR G w0 st w fr a v st' hs hf hrun
 simp only [aw] at hrun
 have hlv:=hl.ev (a:=a) hf
 have hcv:=hc.ev (a:=a) hf
 split at hrun
 · rename_i lv cv el ec
   rw [el] at hlv;rw [ec] at hcv
   split at hrun
   · rename_i hcond
     obtain ⟨rfl,c2,c3,c4,c5⟩:=hcond
     simp only [Option.some.injEq,Prod.mk.injEq] at hrun
     obtain ⟨rfl,rfl⟩:=hrun
     generalize hl0:a.eval lo=l0 at hlv
     generalize hc0:a.eval co=c0 at hcv
     cases hlv;cases hcv
     obtain ⟨i',z,hi',hzz,hcc⟩:=bj hz
     rw [hi] at hi';cases hi'
     have hrd:(aA:Int)=140737488355328:=rfl
     rw [hrd] at c3 c4
     have hrun:=run_make (P:=P) w t e i z ht hi hzz .i64 .i64 0 cv (Int.le_refl _) c2 (by rw [hby,Int.mul_comm];omega) (by omega)
     have hold:∀ s',st.aW[st.aW.length]? = some s'→s'<0:=fun s' h=>by simp at h
     have hal:=hs.alloc (.cells (madeCells z.cells (cv.toNat*i.size)) e)
     have hs':=hal.x4 (t:=st.aW.length) (s:=0) (r:=w.heap.size) (len:=0) (cap:=cv.toNat) (n:=n) (aW:=st.aW++[0]) (cs:=madeCells z.cells (cv.toNat*i.size)) (ty:=e)
      hold (by simp) (fun u x hu=>by
       constructor
       · intro h;rcases get?_append_cases h with h | h;exact h.2;exact absurd h.1 hu
       · intro h;rw [List.getElem?_append_left (List.getElem?_eq_some_iff.1 h).1];exact h)
      c5 (Nat.zero_le _) (World.alloc_heap_new w _) (by rw [size_madeCells,hn]) (fun i _=>hs.Ek i) hs.dO (fun _=>hs.aF)
      (fun u x y _ hx hy=>hs.zH u x y hx hy)
     refine ⟨_,_,.slice (some ⟨w.heap.size,0,none⟩) 0 cv.toNat,_,?_,.inl rfl,Gh.kZ hs hold _ _ _ _,hs',?_⟩
     · unfold execOp
       simp only [ho,hl0,hc0]
       exact af hrun
     · exact Rel.list st.cur n (.own st.aW.length 0) [] w.heap.size 0 cv.toNat (fun _=>undef) (fun i hi=>absurd hi (by simp [flat])) (fun i hi=>absurd hi (by simp [flat])) rfl ⟨rfl,by simp [Gh.dj]⟩ (Nat.zero_le _) (fun x hx=>by simp at hx)
   · cases hrun
 · cases hrun
theorem yD {t u e:TypeId} {n:Nat} {i:TypeInfo} {x y:X} {xo yo:Operand} {o:Oper} (ho:builtinCall .copy [xo,yo] [t,u] o.op) (ht:P.underlying t=some (.slice e)) (hi:P.info? e=some i) (hn:i.size=n) (hx:bb fm x xo) (hy:bb fm y yo):az P fm (.copy n x y) o:=by
 intro CR G w0 st w fr a v st' hs hf hrun
 simp only [aw,Fw] at hrun
 have hxv:=hx.ev (a:=a) hf
 have hyv:=hy.ev (a:=a) hf
 split at hrun
 · rename_i m news n' ag b off len cap hnews hb
   rw [hb] at hxv
   split at hrun
   · rename_i hc
     obtain ⟨rfl,hbase⟩:=hc
     split at hrun
     · rename_i hk0
       simp only [Option.some.injEq,Prod.mk.injEq] at hrun
       obtain ⟨rfl,rfl⟩:=hrun
       have hnr:=cI (P:=P) hs hyv hnews
       obtain ⟨cs,g1,g2,g3⟩:=hnr.cells (min m len) w (Nat.min_le_left _ _) (Below.refl _ w)
       generalize hx0:a.eval xo=x0 at hxv
       generalize hy0:a.eval yo=y0 at hyv hnr g1
       cases hxv with
       | hsl _ _ _ _ _ _ r c hm hcap=>
         refine ⟨G,w,goInt 0,_,?_,.inl rfl,Gh.le.refl G,hs,.int _ _⟩
         obtain ⟨consts,he⟩:=bn ho a.eval
         rw [he]
         simp only [List.map_cons,List.map_nil,hx0,hy0]
         unfold builtin
         refine af ?_
         have hsize:(sizeOf e).run P w=.ok i.size w:=by unfold sizeOf typeInfo;simp [hi]
         rw [← hn] at g1
         have hcs:cs = #[]:=by
          have:cs.size=0:=by rw [g2,hk0];simp
          exact Array.eq_empty_of_size_eq_zero this
         subst hcs
         have hmin:Nat.min m len=0:=hk0
         rw [hk0] at g1
         simp [Builtin.copy_,run_underlying ht,hnr.len,hsize,hmin,g1,storeCells]
     rename_i hk0
     split at hrun
     · rename_i g vs hcell
       obtain ⟨hcell,hw⟩:=lX hcell
       split at hrun
       · rename_i hle
         simp only [Option.some.injEq,Prod.mk.injEq] at hrun
         obtain ⟨rfl,rfl⟩:=hrun
         have hnr:=cI (P:=P) hs hyv hnews
         obtain ⟨cs,g1,g2,g3⟩:=hnr.cells (min m len) w (Nat.min_le_left _ _) (Below.refl _ w)
         generalize hx0:a.eval xo=x0 at hxv
         generalize hy0:a.eval yo=y0 at hyv hnr g1
         cases hxv with
         | hsl _ _ _ _ _ _ r c hm hcap=>
           have hbo:st.heap[b]? = some (.cells g vs):=by
            unfold St.cells at hcell
            split at hcell
            · rename_i g' vs' e;simp only [Option.some.injEq,Prod.mk.injEq] at hcell;obtain ⟨rfl,rfl⟩:=hcell;exact e
            · cases hcell
           have hmn:min m len*n'≤news.length:=by rw [hnr.length];exact Nat.mul_le_mul_right _ (Nat.min_le_left _ _)
           have htl:(news.take (min m len*n')).length=min m len*n':=by simp;omega
           have hrel:∀ i (h:i<(news.take (min m len*n')).length),Rel fm G ((news.take (min m len*n'))[i]) (cs.toList.getD i undef):=fun i hi=>by
            rw [aM]
            have:=g3 i (by omega) (by omega)
            simpa using this
           have hsc:(news.take (min m len*n')).all DV.bg=true:=by
            have:=hnr.bg
            rw [List.all_eq_true] at this ⊢
            exact fun y hy=>this y (List.mem_of_mem_take hy)
           have hone:∀ u∈cs.toList,u.oneCell'=true:=by
            intro u hu
            obtain ⟨j,hj,rfl⟩:=List.getElem_of_mem hu
            have hj':j<(news.take (min m len*n')).length:=by rw [htl,← g2];simpa using hj
            have h1:=hrel j hj'
            rw [List.getD_eq_getElem?_getD,List.getElem?_eq_getElem hj] at h1
            exact qN h1 (List.all_eq_true.1 hsc _ (List.getElem_mem hj'))
           obtain ⟨cur,ty,fz,k1,k2,k3,k4⟩:=jJ (P:=P) hs hw hbo hbase (k:=off) (ns:=news.take (min m len*n')) (xs:=cs.toList) (by omega) (by simp [g2,htl]) hrel hsc hone hm
           refine ⟨G,_,goInt ((min m len:Nat):Int),_,?_,.inl rfl,Gh.le.refl G,k4,.int _ _⟩
           obtain ⟨consts,he⟩:=bn ho a.eval
           rw [he]
           simp only [List.map_cons,List.map_nil,hx0,hy0]
           unfold builtin
           refine af ?_
           have hsize:(sizeOf e).run P w=.ok i.size w:=by unfold sizeOf typeInfo;simp [hi]
           rw [← hn] at g1
           have hmin:Nat.min m len=min m len:=rfl
           simp [Builtin.copy_,run_underlying ht,hnr.len,hsize,hmin,g1,k3]
       · cases hrun
     · cases hrun
   · cases hrun
 · cases hrun
end Go.D
end
section
namespace Go.D
open Go.RowKit
variable {P:Program} {fm:FM}
def dM (P:Program) (u:TypeId):Bool:=match P.underlying u with | some (.slice _)=>true | some .string=>true | _=>false
theorem appArg {u:TypeId} (h:dM P u=true):(∃ e,P.underlying u=some (.slice e))∨P.underlying u=some .string:=by
 unfold dM at h
 split at h
 · rename_i e he;exact .inl ⟨e,he⟩
 · rename_i he;exact .inr he
 · cases h
theorem cQ {w w':World} {t u ty e:TypeId} {i:TypeInfo} {a:Option Addr} {sLen sCap m:Nat} {x:Value} {news:Array Value} (ht:P.underlying t=some (.slice e)) (hi:P.info? e=some i) (hu:dM P u=true)
 (hlen:(Builtin.lenOf x).run P w=.ok m w) (hfit:sLen+m≤sCap) (hnews:(Builtin.firstCells i.size m x).run P w=.ok news w)
 (hst:(match a with | some a=>storeCells (a.add (sLen*i.size)) news.toList | none=>pure ():Sem Unit).run P w=.ok () w') :
 (Builtin.append_ #[t,u] ty #[.slice a sLen sCap,x]).run P w=.ok (.slice a (sLen+m) sCap) w':=by
 have hsize:(sizeOf e).run P w=.ok i.size w:=by unfold sizeOf typeInfo;simp [hi]
 cases a with
 | none=>
   simp only [Sem.run_pure] at hst
   cases hst
   rcases appArg hu with ⟨e',hd⟩ | hd<;>simp [Builtin.append_,run_underlying ht,run_underlying hd,hsize,hlen,hfit,hnews]
 | some a=>
   simp only at hst
   rcases appArg hu with ⟨e',hd⟩ | hd<;>simp [Builtin.append_,run_underlying ht,run_underlying hd,hsize,hlen,hfit,hnews,hst]
theorem b7 {w:World} {t u ty e:TypeId} {i:TypeInfo} {z:Value} {a:Option Addr} {sLen sCap m:Nat} {x:Value} {olds news:Array Value} (ht:P.underlying t=some (.slice e)) (hi:P.info? e=some i) (hz:i.zero=some z) (hu:dM P u=true)
 (hlen:(Builtin.lenOf x).run P w=.ok m w) (hg:sCap<sLen+m) (hb:(sLen+m)*i.bytes≤140737488355328) (h63:sLen+m≤140737488355328)
 (holds:(Builtin.firstCells i.size sLen (.slice a sLen sCap)).run P w.drew=.ok olds w.drew) (hnews:(Builtin.firstCells i.size m x).run P w.drew=.ok news w.drew) :
 (Builtin.append_ #[t,u] ty #[.slice a sLen sCap,x]).run P w =
  .ok (.slice (some ⟨w.heap.size,0,none⟩) (sLen+m) (grownCap w (sLen+m) sCap e)) (w.drew.alloc (.cells (olds++news++Builtin.zeroCells z.cells (grownCap w (sLen+m) sCap e-(sLen+m))) e)):=by
 have hsize:(sizeOf e).run P w=.ok i.size w:=by unfold sizeOf typeInfo;simp [hi]
 have hn:¬ (sLen+m≤sCap):=by omega
 have h63':¬ (9223372036854775807<((sLen:Int)+(m:Int))):=by omega
 have h48':¬ (281474976710656<Builtin.nextslicecap (sLen+m) sCap*i.bytes):=by
  have:=growslice_fits (bytes:=i.bytes) hg hb;omega
 rcases appArg hu with ⟨e',hd⟩ | hd<;>simp [Builtin.append_,run_underlying ht,run_underlying hd,sizeOf,hlen,hn,h63',h48',Question.forced,typeInfo,zeroValue,hi,hz,holds,hnews,newRow,grownCap]
section
variable {CR:Nat→RC→Code→Prop} {G:Gh} {w0 w:World} {st:St}
def Gh.df (G:Gh) (r:Nat) (arr:Array Value) (lo hi:Nat):Gh:={ G with ro:=fun r' i=>if r'=r∧lo≤i∧i<hi then arr[i]? else G.ro r' i }
theorem Gh.lC (G:Gh) (r:Nat) (arr:Array Value) (lo hi:Nat) (hn:∀ i,lo≤i→i<hi→G.ro r i=none) (hr:G.floor≤r):G.le (G.df r arr lo hi):=by
 refine ⟨⟨fun r' i v hv => ?_,fun _ _ x=>x,fun _ _ _ x=>x,fun _ _ _=>rfl⟩,fun _ x=>x,fun _ x=>x,rfl,fun r' i hv => ?_,rfl,rfl,rfl⟩
 · simp only [Gh.df]
   rw [if_neg]
   · exact hv
   · rintro ⟨rfl,h1,h2⟩
     rw [hn i h1 h2] at hv;cases hv
 · simp only [Gh.df]
   rw [if_neg]
   rintro ⟨rfl,_⟩
   omega
theorem Sim.df (h:Sim fm CR G w0 st w) {r:Nat} {arr:Array Value} {ty:TypeId} {fz:Nat×Nat} (lo hi:Nat) (hn:∀ i,lo≤i→i<hi→G.ro r i=none) (hr:G.floor≤r) (hrow:w.heap[r]? = some (.cells arr ty fz))
 (hobj:∀ b o,st.heap[b]? = some o→o.b8=false→G.mu b≠some r)
 (htok:∀ u x y,st.aW[u]? = some x→G.bB u x=some y→y.1=r→hi≤y.2.1*y.2.2.2):Sim fm CR (G.df r arr lo hi) w0 st w:=by
 have hle:=(Gh.lC G r arr lo hi hn hr).toSub
 refine { bW:=h.bW,bR:=h.bR,obj:=?_,ro:=?_,c9:=?_,tok:=?_,bE:=h.bE,bB:=h.bB,dfr:=h.dfr,lps:=h.lps,aF:=h.aF,below:=h.below,base:=h.base,aR:=h.aR,bG:=h.bG,bm:=h.bm,env:=h.env }
 · intro b o ho hg hpd
   obtain ⟨r',ob,h1,h2,h3,h4⟩:=h.obj b o ho hg hpd
   exact ⟨r',ob,h1,h2,h3.sub hle h1,h4⟩
 · intro r' i v hv
   simp only [Gh.df] at hv
   split at hv
   · rename_i e1
     obtain ⟨rfl,_,_⟩:=e1
     exact ⟨arr,ty,fz,hrow,hv⟩
   · exact h.ro r' i v hv
 · intro r' i v b o hv ho hg hm
   simp only [Gh.df] at hv
   split at hv
   · rename_i e1
     obtain ⟨rfl,_,_⟩:=e1
     exact hobj b o ho hg hm
   · exact h.c9 r' i v b o hv ho hg hm
 · intro u x hu
   obtain ⟨r',len,cap,n,cs,ty',h1,h2,h3,h4,h5,h6,h7,h8⟩:=h.tok u x hu
   refine ⟨r',len,cap,n,cs,ty',h1,h2,h3,h4,h5,fun i hi' => ?_,h7,h8⟩
   simp only [Gh.df]
   rw [if_neg]
   · exact h6 i hi'
   · rintro ⟨rfl,e1,e2⟩
     have:=htok u x _ hu h1 rfl
     simp only at this
     omega
theorem Sim.zb (h:Sim fm CR G w0 st w) {r:Nat} {cs cs':Array Value} {ty:TypeId} {fz:Nat×Nat} (hrow:w.heap[r]? = some (.cells cs ty fz)) (hr:G.floor≤r)
 (hobj:∀ b o,st.heap[b]? = some o→o.b8=false→G.mu b≠some r) (hsz:cs'.size=cs.size) (hsame:∀ i v,G.ro r i=some v→cs'[i]? = cs[i]?):Sim fm CR G w0 st (w.putObj r (.cells cs' ty fz)):=by
 have hlt:=get?_lt hrow
 have hp:=fun k=>eF w r k (.cells cs' ty fz) hlt
 refine { bW:=h.bW,bR:=h.bR,obj:=?_,ro:=?_,c9:=h.c9,tok:=?_,bE:=h.bE,bB:=h.bB,dfr:=?_,lps:=?_,aF:=?_,below:=?_,base:=h.base,aR:=h.aR,bG:=h.bG,bm:=h.bm,env:=h.env }
 · intro b o ho hg hpd
   obtain ⟨r',ob,h1,h2,h3,h4⟩:=h.obj b o ho hg hpd
   refine ⟨r',ob,h1,?_,h3,h4⟩
   rw [hp,if_neg]
   · exact h2
   · rintro rfl;exact hobj b o ho hg h1
 · intro r' i v hv
   obtain ⟨c,t,f,g1,g2⟩:=h.ro r' i v hv
   by_cases e:r'=r
   · subst e
     rw [hrow] at g1;cases g1
     exact ⟨cs',ty,fz,by rw [hp];simp,by rw [hsame i v hv];exact g2⟩
   · exact ⟨c,t,f,by rw [hp,if_neg e];exact g1,g2⟩
 · intro u x hu
   obtain ⟨r',len,cap,n,c,t,h1,h2,h3,h4,h5,h6,h7,h8⟩:=h.tok u x hu
   by_cases e:r'=r
   · subst e
     rw [hrow] at h4;cases h4
     exact ⟨r',len,cap,n,cs',ty,h1,h2,h3,by rw [hp];simp,by rw [hsz];exact h5,h6,h7,h8⟩
   · exact ⟨r',len,cap,n,c,t,h1,h2,h3,by rw [hp,if_neg e];exact h4,h5,h6,h7,h8⟩
 · intro r' hd
   have:=h.dfr r' hd
   rw [hp,if_neg]
   · exact this
   · rintro rfl;rw [hrow] at this;cases this
 · intro r' hd
   obtain ⟨l,hl⟩:=h.lps r' hd
   refine ⟨l,?_⟩
   rw [hp,if_neg]
   · exact hl
   · rintro rfl;rw [hrow] at hl;cases hl
 · simpa [World.putObj] using h.aF
 · exact h.below.trans (jw _ _ _ hr)
theorem Sim.Dc (h:Sim fm CR G w0 st w) (b:Nat) (hnp:G.bm b=none):Sim fm CR G w0 { st with heap:=st.heap.set b .gone } w:=by
 have old:∀ k o,(st.heap.set b .gone)[k]? = some o→o.b8=false→k≠b∧st.heap[k]? = some o:=by
  intro k o hk hg
  rcases getElem?_set_cases _ _ _ _ _ hk with ⟨rfl,rfl,_⟩ | h
  · cases hg
  · exact h
 refine { bW:=?_,bR:=?_,obj:=?_,ro:=h.ro,c9:=?_,tok:=?_,bE:=h.bE,bB:=h.bB,dfr:=h.dfr,lps:=h.lps,aF:=h.aF,below:=h.below,base:=h.base,aR:=h.aR,bG:=by simpa using h.bG,bm:=?_,env:=h.env }
 · intro k x hk;simpa using h.bW k x hk
 · intro k k' x x' y hk hk' gx gx'
   exact h.bR k k' x x' y (old k x hk gx).2 (old k' x' hk' gx').2 gx gx'
 · intro k o hk hg hpd;exact h.obj k o (old k o hk hg).2 hg hpd
 · intro r i v k o hv hk hg;exact h.c9 r i v k o hv (old k o hk hg).2 hg
 · intro u x hu
   obtain ⟨r',len,cap,n,c,t,h1,h2,h3,h4,h5,h6,h7,h8⟩:=h.tok u x hu
   exact ⟨r',len,cap,n,c,t,h1,h2,h3,h4,h5,h6,fun k o hk hg=>h7 k o (old k o hk hg).2 hg,h8⟩
 · intro k o hk
   obtain ⟨p1,p2⟩:=h.bm k o hk
   have:b≠k:=by rintro rfl;rw [hnp] at hk;cases hk
   exact ⟨by rw [List.getElem?_set_ne this];exact p1,p2⟩
theorem Sim.Od (h:Sim fm CR G w0 st w) {r:Nat} {o:HO} {ob:Obj} (size:Nat) (hrow:w.heap[r]? = some ob) (hr0:G.floor≤r) (hobj:∀ b o,st.heap[b]? = some o→o.b8=false→G.mu b≠some r)
 (hro:∀ i,G.ro r i=none) (htok:∀ u x y,st.aW[u]? = some x→G.bB u x=some y→y.1≠r)
 (hr:cC fm CR (G.push st.heap.length r size) st.heap.length o ob) (hg:o.b8=false):Sim fm CR (G.push st.heap.length r size) w0 (st.push o) w:=by
 have hn:=h.bQ
 have hle:G.le (G.push st.heap.length r size):=Gh.bC hn
 have muOld:∀ k,k<st.heap.length→(G.push st.heap.length r size).mu k=G.mu k:=fun k hk=>by simp [Gh.push,Nat.ne_of_lt hk]
 have dO:(G.push st.heap.length r size).mu st.heap.length=some r:=by simp [Gh.push]
 refine { bW:=?_,bR:=?_,obj:=?_,ro:=h.ro,c9:=?_,tok:=?_,bE:=h.bE,bB:=h.bB,dfr:=h.dfr,lps:=h.lps,aF:=h.aF,below:=h.below,base:=h.base,aR:=h.aR,bG:=by have:=h.bG;simp only [St.push,List.length_append];omega,bm:=?_,env:=h.env }
 · intro k x hk
   simp only [St.push,List.length_append,List.length_cons,List.length_nil]
   by_cases e:k=st.heap.length
   · omega
   · have:G.mu k=some x:=by simpa [Gh.push,e] using hk
     have:=h.bW _ _ this;omega
 · intro k k' x x' y hk hk' gx gx' mk mk'
   rcases getElem?_push_cases _ _ _ _ hk with ⟨rfl,rfl⟩ | ⟨e,hk1⟩<;>rcases getElem?_push_cases _ _ _ _ hk' with ⟨rfl,rfl⟩ | ⟨e',hk1'⟩
   · rfl
   · rw [dO] at mk;rw [muOld _ e'] at mk';cases mk
     exact absurd mk' (hobj _ _ hk1' gx')
   · rw [dO] at mk';rw [muOld _ e] at mk;cases mk'
     exact absurd mk (hobj _ _ hk1 gx)
   · rw [muOld _ e] at mk;rw [muOld _ e'] at mk'
     exact h.bR _ _ _ _ _ hk1 hk1' gx gx' mk mk'
 · intro k x hk gx hpd
   rcases getElem?_push_cases _ _ _ _ hk with ⟨rfl,rfl⟩ | ⟨e,hk⟩
   · exact ⟨_,_,dO,hrow,hr,fun _=>hr0⟩
   · obtain ⟨r2,ob2,m2,g2,o2,f2⟩:=h.obj _ _ hk gx hpd
     exact ⟨r2,ob2,by rw [muOld _ e];exact m2,g2,o2.le hle m2,f2⟩
 · intro r' i v k x hv hk gx mk
   rcases getElem?_push_cases _ _ _ _ hk with ⟨rfl,rfl⟩ | ⟨e,hk⟩
   · rw [dO] at mk;cases mk
     have:G.ro r i=some v:=hv
     rw [hro i] at this;cases this
   · rw [muOld _ e] at mk;exact h.c9 _ _ _ _ _ hv hk gx mk
 · intro t s ht
   obtain ⟨r2,len,cap,n,cs,ty,a1,a2,a3,a4,a5,a6,a7,a8⟩:=h.tok t s ht
   refine ⟨r2,len,cap,n,cs,ty,a1,a2,a3,a4,a5,a6,?_,a8⟩
   intro k x hk gx
   rcases getElem?_push_cases _ _ _ _ hk with ⟨rfl,rfl⟩ | ⟨e,hk⟩
   · rw [dO];intro e;cases e;exact htok t s _ ht a1 rfl
   · rw [muOld _ e];exact a7 _ _ hk gx
 · intro k x hk
   obtain ⟨p1,p2⟩:=h.bm k x hk
   have hlt:=(List.getElem?_eq_some_iff.1 p1).1
   exact ⟨by simp only [St.push];rw [List.getElem?_append_left hlt];exact p1,(muOld k hlt).trans p2⟩
end
end Go.D
end
section
namespace Go.D
open Go.RowKit
variable {P:Program} {fm:FM}
section
variable {CR:Nat→RC→Code→Prop} {G:Gh} {w0 w:World} {st:St}
theorem BX (hs:Sim fm CR G w0 st w) {t s n len cap:Nat} {aW:List Nat} {arr:Array Value} {e:TypeId}
 (hold:∀ s',st.aW[t]? = some s'→s'<s) (hnew:aW[t]? = some s) (hoth:∀ u x,u≠t→(aW[u]? = some x↔st.aW[u]? = some x))
 (hn:0<n) (hlc:len≤cap) (hsz:arr.size=cap*n) :
 ∃ G',G.le G'∧Sim fm CR G' w0 { st with aW:=aW } (w.drew.alloc (.cells arr e))∧(∀ i,i<len*n→G'.ro w.heap.size i=some (arr.getD i undef))∧G'.bB t s=some (w.heap.size,len,cap,n):=by
 have h1:=hs.drew.alloc (.cells arr e)
 have hrow:(w.drew.alloc (.cells arr e)).heap[w.heap.size]? = some (.cells arr e (0,0)):=World.alloc_heap_new w.drew _
 have h2:=h1.x4 (t:=t) (s:=s) (r:=w.heap.size) (len:=len) (cap:=cap) (n:=n) (aW:=aW) (cs:=arr) (ty:=e) hold hnew hoth hn hlc hrow hsz (fun i _=>hs.Ek i) hs.dO (fun _=>hs.aF) (fun u x y _ hx hy=>hs.zH u x y hx hy)
 have hro:∀ i,0≤i→i<len*n→(G.dj t s w.heap.size len cap n).ro w.heap.size i=none:=fun i _ _=>hs.Ek i
 have h3:=h2.df 0 (len*n) hro hs.aF hrow hs.dO (fun u x y hu hy hr=>by
  by_cases e:u=t
  · subst e
    have hu':aW[u]? = some x:=hu
    rw [hnew] at hu';cases hu'
    have:y=(w.heap.size,len,cap,n):=by simpa [Gh.dj] using hy.symm
    subst this;exact Nat.le_refl _
  · have hy':G.bB u x=some y:=by
     simp only [Gh.dj] at hy
     rwa [if_neg (fun h=>e h.1)] at hy
    exact absurd hr (hs.zH u x y ((hoth u x e).1 hu) hy'))
 refine ⟨_,(Gh.kZ hs hold _ _ _ _).trans (Gh.lC _ _ _ _ _ hro hs.aF),h3,fun i hi => ?_,by simp [Gh.df,Gh.dj]⟩
 have hlt:i<arr.size:=by rw [hsz];exact Nat.lt_of_lt_of_le hi (Nat.mul_le_mul_right _ hlc)
 simp [Gh.df,hi,hlt,Array.getD]
theorem xk (hs:Sim fm CR G w0 st w) {t s n r len cap m:Nat} {N:List Value} (ht:st.aW[t]? = some s) (htb:st.aR≤t) (hh:G.bB t s=some (r,len,cap,n)) (hfit:len+m≤cap) (hN:N.length=m*n) (h1:∀ u∈N,u.oneCell'=true) :
 ∃ G' w',(storeCells ⟨r,len*n,none⟩ N).run P w=.ok () w'∧G.le G'∧Sim fm CR G' w0 { st with aW:=st.aW.set t (s+1) } w'∧(∀ i,i<m*n→G'.ro r (len*n+i)=some (N.getD i undef))∧G'.bB t (s+1)=some (r,len+m,cap,n):=by
 obtain ⟨r',len',cap',n',cs,ty,a1,a2,a3,a4,a5,a6,a7,a8⟩:=hs.tok t s ht
 rw [hh] at a1;cases a1
 have hfl:=a8 htb
 have hmul:len*n+m*n≤cs.size:=by rw [a5,← Nat.add_mul];exact Nat.mul_le_mul_right _ hfit
 have hst:=cV (P:=P) (off:=len*n) N 0 cs w a4 (by omega) (fun i hi=>by simp) h1
 rw [Nat.add_zero,fC a4] at hst
 have hssz:=eP (cur:=cs) (k:=len*n) (vs:=N) (by omega)
 have hget:∀ i,i<len*n→(aP cs (len*n) N)[i]? = cs[i]?:=by
  intro i hi
  unfold aP
  rw [List.getElem?_toArray,List.append_assoc,List.getElem?_append_left (by simp;omega),List.getElem?_take]
  simp [hi]
 have h2:=hs.zb (cs':=aP cs (len*n) N) a4 hfl a7 hssz (fun i v hv=>by
  apply hget
  rcases Nat.lt_or_ge i (len*n) with h | h
  · exact h
  · rw [a6 i h] at hv;cases hv)
 have hrow:(w.putObj r (.cells (aP cs (len*n) N) ty (0,0))).heap[r]? = some (.cells (aP cs (len*n) N) ty (0,0)):=by rw [eF w r r _ (get?_lt a4)];simp
 have hlt:t<st.aW.length:=(List.getElem?_eq_some_iff.1 ht).1
 have hoth:∀ u x,u≠t→((st.aW.set t (s+1))[u]? = some x↔st.aW[u]? = some x):=fun u x hu=>by rw [List.getElem?_set_ne (fun e=>hu e.symm)]
 have hold:∀ s',st.aW[t]? = some s'→s'<s+1:=fun s' h=>by rw [ht] at h;cases h;omega
 have hdis:∀ u x y,u≠t→st.aW[u]? = some x→G.bB u x=some y→y.1≠r:=fun u x y hu hx hy e=>hu (hs.bE u t x s y _ hx ht hy hh e)
 have hrange:∀ i,(len+m)*n≤i→len*n≤i:=fun i hi=>by rw [Nat.add_mul] at hi;omega
 have h3:=h2.x4 (t:=t) (s:=s+1) (r:=r) (len:=len+m) (cap:=cap) (n:=n) (aW:=st.aW.set t (s+1)) (cs:=aP cs (len*n) N) (ty:=ty)
  hold (by simp [hlt]) hoth a2 hfit hrow (by rw [hssz,a5]) (fun i hi=>a6 i (hrange i hi)) a7 a8 hdis
 have hro:∀ i,len*n≤i→i<(len+m)*n→(G.dj t (s+1) r (len+m) cap n).ro r i=none:=fun i hi _=>a6 i hi
 have h4:=h3.df (len*n) ((len+m)*n) hro hfl hrow a7 (fun u x y hu hy hr=>by
  by_cases e:u=t
  · subst e
    have hu':(st.aW.set u (s+1))[u]? = some x:=hu
    simp only [List.getElem?_set_self hlt,Option.some.injEq] at hu'
    subst hu'
    have:y=(r,len+m,cap,n):=by simpa [Gh.dj] using hy.symm
    subst this;exact Nat.le_refl _
  · have hy':G.bB u x=some y:=by
     simp only [Gh.dj] at hy
     rwa [if_neg (fun h=>e h.1)] at hy
    exact absurd hr (hdis u x y e ((hoth u x e).1 hu) hy'))
 refine ⟨_,_,hst,(Gh.kZ hs hold _ _ _ _).trans (Gh.lC _ _ _ _ _ hro hfl),h4,fun i hi => ?_,by simp [Gh.df,Gh.dj]⟩
 have e1:len*n+i<(len+m)*n:=by rw [Nat.add_mul];omega
 have e2:(aP cs (len*n) N)[len*n+i]? = some (N.getD i undef):=by
  unfold aP
  have hiN:i<N.length:=by omega
  rw [List.getElem?_toArray,List.append_assoc,List.getElem?_append_right (by simp;omega)]
  have e3:len*n+i-(cs.toList.take (len*n)).length=i:=by simp;omega
  rw [e3,List.getElem?_append_left hiN,List.getD_eq_getElem?_getD,List.getElem?_eq_getElem hiN]
  rfl
 simp [Gh.df,e1,e2]
end
theorem gC {G:Gh} {olds news:List DV} {O N Z:Array Value} (hO:O.size=olds.length) (hN:N.size=news.length) (rO:∀ i (h:i<olds.length),Rel fm G (olds[i]) (O.getD i undef)) (rN:∀ i (h:i<news.length),Rel fm G (news[i]) (N.getD i undef)) :
 ∀ i (h:i<(olds++news).length),Rel fm G ((olds++news)[i]) ((O++N++Z).getD i undef):=by
 intro i h
 have hi:i<olds.length+news.length:=by simpa using h
 have e0:(O++N++Z).getD i undef=(O++N).getD i undef:=by
  rw [Array.getD_eq_getD_getElem?,Array.getD_eq_getD_getElem?,Array.getElem?_append_left (by simp;omega)]
 rw [e0]
 by_cases e:i<olds.length
 · rw [List.getElem_append_left e]
   have:(O++N).getD i undef=O.getD i undef:=by
    rw [Array.getD_eq_getD_getElem?,Array.getD_eq_getD_getElem?,Array.getElem?_append_left (by omega)]
   rw [this];exact rO i e
 · rw [List.getElem_append_right (by omega)]
   have:(O++N).getD i undef=N.getD (i-olds.length) undef:=by
    rw [Array.getD_eq_getD_getElem?,Array.getD_eq_getD_getElem?,Array.getElem?_append_right (by omega),hO]
   rw [this];exact rN _ (by omega)
theorem kx (news:List DV) (i:Nat) (h:i<(news.map DV.aQ).length):(news.map DV.aQ)[i]=(news[i]'(by simpa using h)).aQ:=by simp
end Go.D
end
section
namespace Go.D
open Go.RowKit
variable {P:Program} {fm:FM}
theorem qq {G:Gh} {tag n r len cap:Nat} {tk:Tk} {ys:List DV} (f:Nat→Value) (hlen:ys.length=len) (hn:∀ y∈ys,y.leaves.length=n) (hp:(flat ys).all DV.pure=true) (hr:∀ i,i<len*n→G.ro r i=some (f i))
 (hc:∀ i (h:i<(flat ys).length),Rel fm G ((flat ys)[i]) (f i)) (hk:Ck G n tk r 0 len cap) (hl:len≤cap):Rel fm G (.list tag n tk true ys) (.slice (some ⟨r,0,none⟩) len cap):=by
 subst hlen
 refine .list tag n tk ys r 0 cap f (fun i hi => ?_) hc hp hk hl hn
 rw [Nat.zero_add]
 exact hr i (by rw [← dr ys n hn];exact hi)
theorem mH {G:Gh} {news:List DV} {N:Array Value} (hN:N.size=news.length) (rN:∀ i (h:i<news.length),Rel fm G (news[i]) (N.getD i undef)) (hsc:news.all DV.bg=true):∀ u∈N.toList,u.oneCell'=true:=by
 intro u hu
 obtain ⟨j,hj,rfl⟩:=List.getElem_of_mem hu
 have hj':j<news.length:=by rw [← hN];simpa using hj
 have h1:=rN j hj'
 rw [← aM,List.getD_eq_getElem?_getD,List.getElem?_eq_getElem hj] at h1
 exact qN h1 (List.all_eq_true.1 hsc _ (List.getElem_mem hj'))
theorem mN {t u e:TypeId} {n bytes:Nat} {ag:Bool} {zs:List DV} {i:TypeInfo} {x y:X} {xo yo:Operand} {o:Oper} (ho:builtinCall .append [xo,yo] [t,u] o.op) (ht:P.underlying t=some (.slice e)) (hu:dM P u=true)
 (hi:P.info? e=some i) (hn:i.size=n) (hby:i.bytes=bytes) (hz:aX P e=some zs) (hzl:zs.length=n) (hag:ag=true∨n=1) (hx:bb fm x xo) (hy:bb fm y yo):az P fm (.append n ag bytes x y) o:=by
 intro CR G w0 st w fr a v st' hs hf hrun
 simp only [aw,bd] at hrun
 have hxv:=hx.ev (a:=a) hf
 have hyv:=hy.ev (a:=a) hf
 split at hrun
 · cases hrun
 rename_i m news hnews
 have hnr:=cI (P:=P) hs hyv hnews
 generalize hx0:a.eval xo=x0 at hxv
 generalize hy0:a.eval yo=y0 at hyv hnr
 obtain ⟨N,n1,n2,n3⟩:=hnr.cells m w (Nat.le_refl _) (Below.refl _ w)
 obtain ⟨N',d1,d2,d3⟩:=hnr.cells m w.drew (Nat.le_refl _) ((Below.refl _ w).drew)
 have hnl:=hnr.length
 obtain ⟨i',z,hi',hzz,hcc⟩:=bj hz
 rw [hi] at hi';cases hi'
 obtain ⟨zl,zr⟩:=bL (fm:=fm) hcc
 have hzsz:z.cells.size=n:=by rw [← hzl,← zl];simp
 have fin:∀ (r:Value) (w':World),(Builtin.append_ #[t,u] o.type #[x0,y0]).run P w=.ok r w'→(execOp a.eval o).run P w=.ok (.value r) w':=by
  intro r w' h
  obtain ⟨consts,he⟩:=bn ho a.eval
  rw [he]
  simp only [List.map_cons,List.map_nil,hx0,hy0]
  unfold builtin
  exact af h
 have none0:∀ (p:Option Addr) (l c:Nat),m=0→x0=.slice p l c→l≤c→(Builtin.append_ #[t,u] o.type #[x0,y0]).run P w=.ok x0 w:=by
  intro p l c hm hp hlc
  subst hm
  have hN0:N = #[]:=by simpa using n2
  rw [hp]
  rw [← hn] at n1
  have:=cQ (P:=P) (w:=w) (w':=w) (ty:=o.type) (a:=p) (sLen:=l) (sCap:=c) (m:=0) (x:=y0) (news:=N) ht hi hu hnr.len (by omega) n1 (by subst hN0;cases p<;>rfl)
  simpa using this
 generalize X.ev fr x=xv at hxv hrun
 split at hrun
 ·
  rename_i tag n' tk nn xs
  have hshape:∃ p cap,x0=.slice p xs.length cap∧xs.length≤cap:=by
   cases hxv with
   | fV=>exact ⟨none,0,rfl,Nat.le_refl _⟩
   | list _ _ _ _ r off cap f hr hc hp hk hl hnn=>exact ⟨_,cap,rfl,hl⟩
  obtain ⟨p,cap,hxe,hlc⟩:=hshape
  split at hrun
  · rename_i hm
    simp only [Option.some.injEq,Prod.mk.injEq] at hrun
    obtain ⟨rfl,rfl⟩:=hrun
    exact ⟨G,w,x0,_,fin _ _ (none0 p _ _ hm hxe hlc),.inl rfl,Gh.le.refl G,hs,hxv⟩
  rename_i hm
  split at hrun
  · cases hrun
  rename_i hcond
  simp only [not_or,Bool.not_eq_true,Bool.not_eq_false'] at hcond
  obtain ⟨hn0,hnn',hb1,hb2,hpure⟩:=hcond
  have hpure:(news.map DV.aQ).all DV.pure=true:=by simpa using hpure
  have hn0:0<n:=by omega
  have hb1:(xs.length+m)*bytes≤140737488355328:=by simpa [aA] using hb1
  have hb2:xs.length+m≤140737488355328:=by simpa [aA] using hb2
  have hml:(news.map DV.aQ).length=m*n:=by simpa using hnl
  have hold:AR P fm G w n xs.length (flat xs) x0∧(∀ y∈xs,y.leaves.length=n)∧(flat xs).all DV.pure=true:=by
   cases hxv with
   | fV=>exact ⟨cI (P:=P) hs (.fV tag n' tk) (by simp [bP,flat]),fun y hy=>by simp at hy,rfl⟩
   | list _ _ _ _ r off cap f hr hc hp hk hl hnn=>
     have:n'=n:=by simpa using hnn'
     subst this
     exact ⟨cI (P:=P) hs (.list tag n' tk xs r off cap f hr hc hp hk hl hnn) (by simp [bP]),hnn,hp⟩
  obtain ⟨hor,hxn,hxp⟩:=hold
  obtain ⟨O,o1,o2,o3⟩:=hor.cells xs.length w.drew (Nat.le_refl _) ((Below.refl _ w).drew)
  have hfx:=dr xs n hxn
  have hfc:=lU n ag hag m (news.map DV.aQ) hml hpure
  have hlc':=jS n ag m (news.map DV.aQ)
  generalize hys:xs++chunk n ag m (news.map DV.aQ)=ys at hrun
  have hyf:flat ys=flat xs++news.map DV.aQ:=by rw [← hys,kq,hfc]
  have hyl:ys.length=xs.length+m:=by rw [← hys];simp [hlc']
  have hyn:∀ y∈ys,y.leaves.length=n:=by
   intro y hy
   rw [← hys] at hy
   rcases List.mem_append.1 hy with h | h
   · exact hxn y h
   · exact jN n ag hag m _ hml hpure y h
  have hyp:(flat ys).all DV.pure=true:=by rw [hyf,List.all_append,hxp,hpure];rfl
  have grown:∀ (t0 s0:Nat) (aW:List Nat),(∀ s',st.aW[t0]? = some s'→s'<s0)→aW[t0]? = some s0→(∀ u x,u≠t0→(aW[u]? = some x↔st.aW[u]? = some x))→cap<xs.length+m →
   ∃ G' w' x nx,(execOp a.eval o).run P w=.ok nx w'∧ye nx x∧G.le G'∧Sim fm CR G' w0 { st with aW:=aW } w'∧Rel fm G' (.list st.cur n (.own t0 s0) true ys) x:=by
   intro t0 s0 aW h1 h2 h3 hg
   have hge:=grownCap_ge w (xs.length+m) cap e
   have hd1:=d1
   rw [← hn] at hd1
   have ho1:=o1
   rw [← hn,hxe] at ho1
   have hr:=b7 (P:=P) (w:=w) (u:=u) (ty:=o.type) (z:=z) (a:=p) (sLen:=xs.length) (sCap:=cap) (m:=m) (x:=y0) (olds:=O) (news:=N') ht hi hzz hu hnr.len hg (by rw [hby];omega) (by omega) ho1 hd1
   rw [← hxe] at hr
   have hsz:(O++N'++Builtin.zeroCells z.cells (grownCap w (xs.length+m) cap e-(xs.length+m))).size=grownCap w (xs.length+m) cap e*n:=by
    simp only [Array.size_append,o2,d2,size_zeroCells,hzsz,← Nat.add_mul]
    congr 1;omega
   obtain ⟨G',g1,g2,g3,g4⟩:=BX hs (t:=t0) (s:=s0) (n:=n) (len:=xs.length+m) (cap:=grownCap w (xs.length+m) cap e) (aW:=aW) (arr:=O++N'++Builtin.zeroCells z.cells (grownCap w (xs.length+m) cap e-(xs.length+m))) (e:=e) h1 h2 h3 hn0 hge hsz
   refine ⟨G',_,_,_,fin _ _ hr,.inl rfl,g1,g2,?_⟩
   refine qq _ hyl hyn hyp g3 (fun i hi => ?_) ⟨rfl,g4⟩ hge
   have:=gC (fm:=fm) (G:=G') (olds:=flat xs) (news:=news.map DV.aQ) (O:=O) (N:=N') (Z:=Builtin.zeroCells z.cells (grownCap w (xs.length+m) cap e-(xs.length+m))) (by rw [o2,hfx]) (by rw [d2,hml])
    (fun i hi=>(o3 i hi (by rw [← hfx];exact hi)).le g1) (fun i hi=>by
     rw [kx]
     have hi':i<news.length:=by simpa using hi
     exact ((d3 i hi' (by omega)).le g1).aQ) i (by rw [← hyf];exact hi)
   have e1:(flat ys)[i]=(flat xs++news.map DV.aQ)[i]'(by rw [← hyf];exact hi):=by congr 1
   rw [e1]
   exact this
  split at hrun
  ·
   simp only [Option.some.injEq,Prod.mk.injEq] at hrun
   obtain ⟨rfl,rfl⟩:=hrun
   cases hxv
   simp only [Value.slice.injEq] at hxe
   obtain ⟨rfl,_,rfl⟩:=hxe
   exact grown st.aW.length 0 (st.aW++[0]) (fun s' h=>by simp at h) (by simp) (fun u x hu=>by
    constructor
    · intro h;rcases get?_append_cases h with h | h;exact h.2;exact absurd h.1 hu
    · intro h;rw [List.getElem?_append_left (List.getElem?_eq_some_iff.1 h).1];exact h) (by simp;omega)
  ·
   simp only [Option.some.injEq,Prod.mk.injEq] at hrun
   obtain ⟨rfl,rfl⟩:=hrun
   have hcap:cap=xs.length:=by
    cases hxv with
    | list _ _ _ _ r off cap' f hr hc hp hk hl hnn=>
      simp only [Value.slice.injEq] at hxe
      rw [← hxe.2.2];exact hk
   exact grown st.aW.length 0 (st.aW++[0]) (fun s' h=>by simp at h) (by simp) (fun u x hu=>by
    constructor
    · intro h;rcases get?_append_cases h with h | h;exact h.2;exact absurd h.1 hu
    · intro h;rw [List.getElem?_append_left (List.getElem?_eq_some_iff.1 h).1];exact h) (by omega)
  ·
   rename_i t0 s0
   split at hrun
   · rename_i htok
     obtain ⟨htb,ht0⟩:=htok
     simp only [Option.some.injEq,Prod.mk.injEq] at hrun
     obtain ⟨rfl,rfl⟩:=hrun
     have hlt:t0<st.aW.length:=(List.getElem?_eq_some_iff.1 ht0).1
     by_cases hg:cap<xs.length+m
     · exact grown t0 (s0+1) (st.aW.set t0 (s0+1)) (fun s' h=>by rw [ht0] at h;cases h;omega) (by simp [hlt]) (fun u x hu=>by rw [List.getElem?_set_ne (fun e=>hu e.symm)]) hg
     · cases hxv with
       | list _ _ _ _ r off cap' f hr hc hp hk hl hnn=>
         simp only [Value.slice.injEq] at hxe
         obtain ⟨hpe,_,hce⟩:=hxe
         subst hce;subst hpe
         obtain ⟨hoff,hhist⟩:=hk
         subst hoff
         have:n'=n:=by simpa using hnn'
         subst this
         obtain ⟨G',w',g1,g2,g3,g4,g5⟩:=xk (P:=P) hs ht0 htb hhist (m:=m) (N:=N.toList) (by omega) (by simpa using n2) (mH (G:=G) (news:=news) (by rw [n2,hnl]) (fun i hi=>n3 i hi (by omega)) hnr.bg)
         have hn1:=n1
         rw [← hn] at hn1
         have hr':=cQ (P:=P) (w:=w) (w':=w') (ty:=o.type) (a:=some ⟨r,0,none⟩) (sLen:=xs.length) (sCap:=cap') (m:=m) (x:=y0) (news:=N) ht hi hu hnr.len (by omega) hn1 (by
          show (storeCells ((⟨r,0,none⟩:Addr).add (xs.length*i.size)) N.toList).run P w=.ok () w'
          rw [Addr.add_lit,Nat.zero_add,hn];exact g1)
         refine ⟨G',w',_,_,fin _ _ hr',.inl rfl,g2,g3,?_⟩
         refine qq (fun j=>if j<xs.length*n' then f j else N.getD (j-xs.length*n') undef) hyl hyn hyp (fun j hj => ?_) (fun j hj => ?_) ⟨rfl,g5⟩ (by omega)
         · by_cases ej:j<xs.length*n'
           · rw [if_pos ej]
             have:=hr j (by rw [hfx];exact ej)
             rw [Nat.zero_add] at this
             exact g2.toSub.ro _ _ _ this
           · rw [if_neg ej]
             have:=g4 (j-xs.length*n') (by rw [Nat.add_mul] at hj;omega)
             have e2:xs.length*n'+(j-xs.length*n')=j:=by omega
             rw [e2,aM] at this
             exact this
         · have hj':j<(flat xs++news.map DV.aQ).length:=by rw [← hyf];exact hj
           have e1:(flat ys)[j]=(flat xs++news.map DV.aQ)[j]'hj':=by congr 1
           rw [e1]
           by_cases ej:j<xs.length*n'
           · rw [if_pos ej,List.getElem_append_left (by rw [hfx];exact ej)]
             exact (hc j _).le g2
           · rw [if_neg ej,List.getElem_append_right (by rw [hfx];omega),kx]
             have hj2:j-(flat xs).length<news.length:=by
              simp only [List.length_append,List.length_map] at hj';omega
             have ek:j-xs.length*n'=j-(flat xs).length:=by rw [hfx]
             rw [ek]
             exact ((n3 (j-(flat xs).length) hj2 (by omega)).le g2).aQ
   · cases hrun
  · cases hrun
 ·
  rename_i n' ag' b off len capx
  cases hxv with
  | hsl _ _ _ _ _ _ r c hmu hcap=>
  have hlc:len≤c:=by
   cases capx with
   | none=>exact hcap.1
   | some k=>have:=hcap.2;rw [hcap.1];exact this
  split at hrun
  · rename_i hm
    simp only [Option.some.injEq,Prod.mk.injEq] at hrun
    obtain ⟨rfl,rfl⟩:=hrun
    exact ⟨G,w,_,_,fin _ _ (none0 _ _ _ hm rfl hlc),.inl rfl,Gh.le.refl G,hs,.hsl _ _ _ _ _ _ _ _ hmu hcap⟩
  rename_i hm
  split at hrun
  · rename_i hcond
    obtain ⟨rfl,hn0,hb1,hb2⟩:=hcond
    have hb1:(len+m)*bytes≤140737488355328:=by simpa [aA] using hb1
    have hb2:len+m≤140737488355328:=by simpa [aA] using hb2
    split at hrun
    · rename_i cap0
      split at hrun
      · rename_i hcond2
        obtain ⟨rfl,hbase⟩:=hcond2
        split at hrun
        · rename_i vs hcell
          split at hrun
          · rename_i hvl
            simp only [Option.some.injEq,Prod.mk.injEq] at hrun
            obtain ⟨rfl,rfl⟩:=hrun
            have hbo:st.heap[b]? = some (.cells .grown vs):=by
             unfold St.cells at hcell
             split at hcell
             · rename_i g' vs' e;simp only [Option.some.injEq,Prod.mk.injEq] at hcell;obtain ⟨rfl,rfl⟩:=hcell;exact e
             · cases hcell
            obtain ⟨r',ob,q1,q2,q3,q4⟩:=hs.obj b _ hbo rfl (hs.np hmu)
            rw [hmu] at q1;cases q1
            obtain ⟨cs,ty,fz,rfl,k1,k2,k3,k4,k5⟩:=q3
            have hro:∀ i,G.ro r i=none:=by
             intro i
             cases er:G.ro r i with
             | none=>rfl
             | some v=>exact absurd hmu (fun h=>hs.c9 r i v b _ er hbo rfl h)
            have htk:∀ u x y,st.aW[u]? = some x→G.bB u x=some y→y.1≠r:=by
             intro u x y hu hy e
             obtain ⟨r',len',cap',n'',cs',ty',h1,h2,h3,h4,h5,h6,h7,h8⟩:=hs.tok u x hu
             rw [hy] at h1;cases h1
             simp only at e
             subst e
             exact h7 b _ hbo rfl hmu
            have hgone:=hs.Dc b (hs.np hmu)
            have hfree:∀ b' o,(st.heap.set b .gone)[b']? = some o→o.b8=false→G.mu b'≠some r:=by
             intro b' o hb' hg e
             rcases getElem?_set_cases _ _ _ _ _ hb' with ⟨rfl,rfl,_⟩ | ⟨e1,e2⟩
             · cases hg
             · exact e1 (hs.bR _ _ _ _ _ e2 hbo hg rfl e hmu)
            have hset:(st.heap.set b .gone).length=st.heap.length:=by simp
            have hscal:(vs++news).all DV.bg=true:=by rw [List.all_append,k5,hnr.bg];rfl
            have hcapo:=hcap.2
            by_cases hg:c<len+m
            ·
             have hge:=grownCap_ge w (len+m) c e
             have hor:=cI (P:=P) (n:=n') (m:=len) (news:=(vs.drop 0).take (len*n')) hs (.hsl n' ag' b 0 len none r c hmu hcap) (by
              simp only [bP,if_true,St.cells,hbo]
              rw [if_pos (by omega)])
             obtain ⟨O,o1,o2,o3⟩:=hor.cells len w.drew (Nat.le_refl _) ((Below.refl _ w).drew)
             have hvs:(vs.drop 0).take (len*n')=vs:=by rw [List.drop_zero,List.take_of_length_le (by omega)]
             rw [hvs] at o3
             have hd1:=d1
             rw [← hn] at hd1 o1
             have hr:=b7 (P:=P) (w:=w) (u:=u) (ty:=o.type) (z:=z) (a:=some ⟨r,0,none⟩) (sLen:=len) (sCap:=c) (m:=m) (x:=y0) (olds:=O) (news:=N') ht hi hzz hu hnr.len hg (by rw [hby];omega) (by omega) o1 hd1
             generalize harr:O++N'++Builtin.zeroCells z.cells (grownCap w (len+m) c e-(len+m))=arr at hr
             have hsz:arr.size=grownCap w (len+m) c e*n':=by
              rw [← harr]
              simp only [Array.size_append,o2,d2,size_zeroCells,hzsz,← Nat.add_mul]
              congr 1;omega
             have hpush:=hgone.drew.push (o:=.cells .grown (vs++news)) (ob:=.cells arr e) (grownCap w (len+m) c e*n') ⟨arr,e,(0,0),rfl,by
              rw [hsz,List.length_append,← hvl,hnl,← Nat.add_mul];exact Nat.mul_le_mul_right _ hge,by simp [Gh.push,hsz],fun i hi=>by
               have:=gC (fm:=fm) (G:=G) (olds:=vs) (news:=news) (O:=O) (N:=N') (Z:=Builtin.zeroCells z.cells (grownCap w (len+m) c e-(len+m))) (by rw [o2,hvl]) (by rw [d2,hnl])
                (fun i hi=>o3 i hi (by rw [hvl];exact hi)) (fun i hi=>d3 i hi (by omega)) i hi
               rw [harr] at this
               refine this.le ?_
               have:=hgone.bQ
               exact Gh.bC this,fun i hi=>by simp,hscal⟩ rfl
             have hle:G.le (G.push (st.heap.set b .gone).length w.heap.size (grownCap w (len+m) c e*n')):=Gh.bC hgone.bQ
             refine ⟨_,_,_,_,fin _ _ hr,.inl rfl,hle,hpush,?_⟩
             rw [← hset]
             exact .hsl _ _ _ _ _ _ _ _ (by simp [Gh.push]) ⟨hge,by simp [Gh.push]⟩
            ·
             have hcn:c*n'≤cs.size:=by rw [k2];omega
             have hmul:len*n'+m*n'≤cs.size:=by
              rw [← Nat.add_mul];exact Nat.le_trans (Nat.mul_le_mul_right _ (by omega)) hcn
             have hNl:N.toList.length=m*n':=by simpa using n2
             have hst:=cV (P:=P) (off:=len*n') N.toList 0 cs w q2 (by omega) k4 (mH (G:=G) (news:=news) (by rw [n2,hnl]) (fun i hi=>n3 i hi (by omega)) hnr.bg)
             rw [Nat.add_zero,fC q2] at hst
             have hssz:=eP (cur:=cs) (k:=len*n') (vs:=N.toList) (by omega)
             have hput:=hgone.zb (cs':=aP cs (len*n') N.toList) q2 (q4 hbase) hfree hssz (fun i v hv=>by rw [hro i] at hv;cases hv)
             have hrow:(w.putObj r (.cells (aP cs (len*n') N.toList) ty fz)).heap[r]? = some (.cells (aP cs (len*n') N.toList) ty fz):=by rw [eF w r r _ (get?_lt q2)];simp
             have hlow:∀ i,i<vs.length→(aP cs (len*n') N.toList).getD i undef=cs.getD i undef:=by
              intro i hi
              unfold aP
              rw [Array.getD_eq_getD_getElem?,Array.getD_eq_getD_getElem?,List.getElem?_toArray,List.append_assoc,List.getElem?_append_left (by simp;omega),List.getElem?_take,if_pos (by omega)]
              simp
             have hhigh:∀ i,i<news.length→(aP cs (len*n') N.toList).getD (vs.length+i) undef=N.getD i undef:=by
              intro i hi
              unfold aP
              have hiN:i<N.toList.length:=by omega
              have e3:vs.length+i-(cs.toList.take (len*n')).length=i:=by simp;omega
              rw [Array.getD_eq_getD_getElem?,List.getElem?_toArray,List.append_assoc,List.getElem?_append_right (by simp;omega),e3,List.getElem?_append_left hiN,← aM,List.getD_eq_getElem?_getD]
             have hle:G.le (G.push (st.heap.set b .gone).length r cs.size):=Gh.bC hgone.bQ
             have hadopt:=hput.Od (o:=.cells .grown (vs++news)) cs.size hrow (q4 hbase) hfree hro htk ⟨_,ty,fz,rfl,by
              rw [hssz,List.length_append,← hvl,hnl];exact hmul,by simp [Gh.push,hssz],fun i hi=>by
               by_cases ei:i<vs.length
               · rw [List.getElem_append_left ei,hlow i ei]
                 exact (k3 i ei).le hle
               · have hi2:i-vs.length<news.length:=by simp only [List.length_append] at hi;omega
                 rw [List.getElem_append_right (by omega)]
                 have e4:vs.length+(i-vs.length)=i:=by omega
                 have:=hhigh (i-vs.length) hi2
                 rw [e4] at this
                 rw [this]
                 exact (n3 _ hi2 (by omega)).le hle,by rw [hssz];exact k4,hscal⟩ rfl
             have hn1:=n1
             rw [← hn] at hn1
             have hr':=cQ (P:=P) (w:=w) (w':=w.putObj r (.cells (aP cs (len*n') N.toList) ty fz)) (ty:=o.type) (a:=some ⟨r,0,none⟩) (sLen:=len) (sCap:=c) (m:=m) (x:=y0) (news:=N) ht hi hu hnr.len (by omega) hn1 (by
              show (storeCells ((⟨r,0,none⟩:Addr).add (len*i.size)) N.toList).run P w=_
              rw [Addr.add_lit,Nat.zero_add,hn];exact hst)
             refine ⟨_,_,_,_,fin _ _ hr',.inl rfl,hle,hadopt,?_⟩
             rw [← hset]
             exact .hsl _ _ _ _ _ _ _ _ (by simp [Gh.push]) ⟨by omega,by simp [Gh.push];omega⟩
          · cases hrun
        · cases hrun
      · cases hrun
    · rename_i k
      obtain ⟨hck,hlk⟩:=hcap
      subst hck
      split at hrun
      · rename_i g vs hcell
        have hbo:st.heap[b]? = some (.cells g vs):=by
         unfold St.cells at hcell
         split at hcell
         · rename_i g' vs' e;simp only [Option.some.injEq,Prod.mk.injEq] at hcell;obtain ⟨rfl,rfl⟩:=hcell;exact e
         · cases hcell
        split at hrun
        · rename_i hfit
          split at hrun
          · rename_i hc3
            obtain ⟨hbase,hvl,hw⟩:=hc3
            simp only [Option.some.injEq,Prod.mk.injEq] at hrun
            obtain ⟨rfl,rfl⟩:=hrun
            obtain ⟨cur,ty,fz,k1,k2,k3,k4⟩:=jJ (P:=P) hs hw hbo hbase (k:=off+len*n') (ns:=news) (xs:=N.toList) hvl (by simp [n2,hnl]) (fun i hi=>by rw [aM];exact n3 i hi (by omega)) hnr.bg
             (mH (G:=G) (news:=news) (by rw [n2,hnl]) (fun i hi=>n3 i hi (by omega)) hnr.bg) hmu
            have hn1:=n1
            rw [← hn] at hn1
            have hr':=cQ (P:=P) (w:=w) (ty:=o.type) (a:=some ⟨r,off,none⟩) (sLen:=len) (sCap:=c) (m:=m) (x:=y0) (news:=N) ht hi hu hnr.len hfit hn1 (by
             show (storeCells ((⟨r,off,none⟩:Addr).add (len*i.size)) N.toList).run P w=_
             rw [Addr.add_lit,hn];exact k3)
            exact ⟨G,_,_,_,fin _ _ hr',.inl rfl,Gh.le.refl G,k4,.hsl _ _ _ _ _ _ _ _ hmu ⟨rfl,hfit⟩⟩
          · cases hrun
        · rename_i hfit
          split at hrun
          · rename_i hvl
            simp only [Option.some.injEq,Prod.mk.injEq] at hrun
            obtain ⟨rfl,rfl⟩:=hrun
            have hge:=grownCap_ge w (len+m) c e
            have hor:=cI (P:=P) (n:=n') (m:=len) (news:=(vs.drop off).take (len*n')) hs (.hsl n' ag' b off len (some c) r c hmu ⟨rfl,hlk⟩) (by
             simp only [bP,if_true,hcell]
             rw [if_pos hvl])
            obtain ⟨O,o1,o2,o3⟩:=hor.cells len w.drew (Nat.le_refl _) ((Below.refl _ w).drew)
            have hd1:=d1
            rw [← hn] at hd1 o1
            have hr:=b7 (P:=P) (w:=w) (u:=u) (ty:=o.type) (z:=z) (a:=some ⟨r,off,none⟩) (sLen:=len) (sCap:=c) (m:=m) (x:=y0) (olds:=O) (news:=N') ht hi hzz hu hnr.len (by omega) (by rw [hby];omega) (by omega) o1 hd1
            generalize harr:O++N'++Builtin.zeroCells z.cells (grownCap w (len+m) c e-(len+m))=arr at hr
            have hsz:arr.size=grownCap w (len+m) c e*n':=by
             rw [← harr]
             simp only [Array.size_append,o2,d2,size_zeroCells,hzsz,← Nat.add_mul]
             congr 1;omega
            have hol:=hor.length
            have hpush:=hs.drew.push (o:=.cells .grown ((vs.drop off).take (len*n')++news)) (ob:=.cells arr e) (grownCap w (len+m) c e*n') ⟨arr,e,(0,0),rfl,by
             rw [hsz,List.length_append,hol,hnl,← Nat.add_mul];exact Nat.mul_le_mul_right _ hge,by simp [Gh.push,hsz],fun i hi=>by
              have:=gC (fm:=fm) (G:=G) (olds:=(vs.drop off).take (len*n')) (news:=news) (O:=O) (N:=N') (Z:=Builtin.zeroCells z.cells (grownCap w (len+m) c e-(len+m))) (by rw [o2,hol]) (by rw [d2,hnl])
               (fun i hi=>o3 i hi (by rw [← hol];exact hi)) (fun i hi=>d3 i hi (by omega)) i hi
              rw [harr] at this
              exact this.le (Gh.bC hs.bQ),fun i hi=>by simp,by rw [List.all_append,hor.bg,hnr.bg];rfl⟩ rfl
            have hle:G.le (G.push st.heap.length w.heap.size (grownCap w (len+m) c e*n')):=Gh.bC hs.bQ
            refine ⟨_,_,_,_,fin _ _ hr,.inl rfl,hle,hpush,?_⟩
            exact .hsl _ _ _ _ _ _ _ _ (by simp [Gh.push]) ⟨hge,by simp [Gh.push]⟩
          · cases hrun
      · cases hrun
  · cases hrun
 · cases hrun
end Go.D
end
section
namespace Go.D
open Go.RowKit
variable {P:Program} {fm:FM}
def jL (P:Program) (t:TypeId) (ks:List LK):Bool:=
 match P.underlying t,ks with
 | some .bool,[.bool]=>true
 | some (.int _),[.int]=>true
 | some .string,[.str]=>true
 | _,_=>false
def lM (fm:FM) (G:Gh) (es:List (DV×DV)) (en:List MapEntry):Prop:=
 en.length=es.length∧∀ (i:Nat) (k v:DV),es[i]? = some (k,v)→∃ e:MapEntry,en[i]? = some e∧Rel fm G k e.key∧Rel fm G v e.val
def Cl:LK→TypeDesc→Bool
 | .bool,.bool | .int,.int _ | .str,.string=>true
 | _,_=>false
theorem wB {G:Gh} {lk:LK} {a b:DV} {x y:Value} {r:Bool} (h:cR lk a b=some r) (ha:Rel fm G a x) (hb:Rel fm G b y) {d:TypeDesc} (hd:Cl lk d=true) :
 Instr.sameNow d x y=some r∧(r=true→y=x):=by
 unfold cR at h
 split at h
 · cases ha;cases hb
   injection h with h;subst h
   cases d<;>first | (simp [Cl] at hd;done) | skip
   simp [Instr.sameNow]
   intro h;exact h.symm
 · rename_i k a k' b
   split at h
   · rename_i hk
     subst hk
     cases ha;cases hb
     injection h with h;subst h
     cases d<;>first | (simp [Cl] at hd;done) | skip
     simp [Instr.sameNow]
     intro h;exact h.symm
   · cases h
 · rename_i a b
   cases ha with
   | str _ s1 e1=>
     cases hb with
     | str _ s2 e2=>
       injection h with h;subst h
       cases d<;>first | (simp [Cl] at hd;done) | skip
       subst e1;subst e2
       have heq:(s1==s2)=(s1.data.toList==s2.data.toList):=by
        have h1:(s1==s2)=(s1.data==s2.data):=rfl
        rw [h1,Bool.eq_iff_iff]
        simp only [beq_iff_eq]
        exact ⟨fun h=>by rw [h],fun h=>Array.toList_inj.1 h⟩
       refine ⟨by simp only [Instr.sameNow,heq],fun h => ?_⟩
       rw [beq_iff_eq] at h
       have:s1.data=s2.data:=Array.toList_inj.1 h
       cases s1;cases s2;simp at this;subst this;rfl
 · cases h
theorem sQ {t:TypeId} {d:TypeDesc} {ks:List LK} (hd:P.underlying t=some d) (hk:jL P t ks=true):∃ lk,ks=[lk]∧Cl lk d=true:=by
 unfold jL at hk
 rw [hd] at hk
 split at hk
 · rename_i h;cases h;exact ⟨_,rfl,rfl⟩
 · rename_i h;cases h;exact ⟨_,rfl,rfl⟩
 · rename_i h;cases h;exact ⟨_,rfl,rfl⟩
 · cases hk
theorem oK {G:Gh} {t:TypeId} {d:TypeDesc} {ks:List LK} (hd:P.underlying t=some d) (hk:jL P t ks=true) {k:DV} {kv:Value} (hkv:Rel fm G k kv):∀ (es:List (DV×DV)) (en:List MapEntry) (i:Nat) (r:Option (Nat×DV)),lM fm G es en→findD ks k es i=some r →
 ∃ r',Instr.findNow d kv en i=some r'∧(match r,r' with
   | none,none=>True
   | some (j,v),some (j',v')=>j=j'∧Rel fm G v v'∧i≤j∧∃ e:MapEntry,en[j-i]? = some e∧e.key=kv
   | _,_=>False)
 | [],en,i,r,he,h=>by
   have:en=[]:=List.eq_nil_of_length_eq_zero (by simpa using he.1)
   subst this
   simp only [findD,Option.some.injEq] at h;subst h
   exact ⟨none,rfl,trivial⟩
 | (a,v)::es,[],i,r,he,h=>by have:=he.1;simp at this
 | (a,v)::es,e::en,i,r,he,h=>by
   obtain ⟨e',h1,h2,h3⟩:=he.2 0 a v rfl
   simp only [List.getElem?_cons_zero,Option.some.injEq] at h1
   subst h1
   have htl:lM fm G es en:=⟨by have:=he.1;simpa using this,fun i k v hi=>he.2 (i+1) k v hi⟩
   obtain ⟨lk,rfl,hlk⟩:=sQ hd hk
   have same:∀ b,jd [lk] k a=some b→Instr.sameNow d kv e.key=some b∧(b=true→e.key=kv):=fun b hb=>wB hb hkv h2 hlk
   simp only [findD] at h
   split at h
   · rename_i hb
     obtain ⟨s1,s2⟩:=same true hb
     injection h with h;subst h
     exact ⟨some (i,e.val),by simp [Instr.findNow,s1],rfl,h3,Nat.le_refl _,e,by simp,s2 rfl⟩
   · rename_i hb
     obtain ⟨s1,s2⟩:=same false hb
     obtain ⟨r',g1,g2⟩:=oK hd hk hkv es en (i+1) r htl h
     refine ⟨r',by simp [Instr.findNow,s1,g1],?_⟩
     match r,r',g2 with
     | none,none,_=>trivial
     | some (j,v),some (j',v'),g2=>
       obtain ⟨q1,q2,q3,e0,q4,q5⟩:=g2
       refine ⟨q1,q2,by omega,e0,?_,q5⟩
       have:j-i=(j-(i+1))+1:=by omega
       rw [this,List.getElem?_cons_succ];exact q4
   · cases h
theorem run_checkKey {w:World} {t:TypeId} {d:TypeDesc} {ks:List LK} (b:Bool) (n:Nat) (v:Value) (hd:P.underlying t=some d) (hk:jL P t ks=true):(Instr.checkKey b (n+1) t v).run P w=.ok () w:=by
 obtain ⟨lk,rfl,hlk⟩:=sQ hd hk
 unfold Instr.checkKey
 simp only [Sem.run_bind,run_underlying hd,Result.andThen_ok]
 cases d<;>first | rfl | (cases lk<;>simp [Cl] at hlk)
def uU (P:Program) (t:TypeId):Bool:=match P.underlying t with | some .bool=>true | some (.int _)=>true | some .string=>true | _=>false
def cr (P:Program) (t:TypeId) (ks:List LK):Bool:=
 (match P.underlying t with | some (.struct fs)=>fs.toList.all (fun f=>uU P f.type&&Nat.blt f.offset ks.length) | _=>false)&&(fx P Op.maxDepth t==some ks)&&Nat.ble 2 ks.length
theorem mn {w:World} {t:TypeId} (b:Bool) (n:Nat) (v:Value) (h:uU P t=true):(Instr.checkKey b (n+1) t v).run P w=.ok () w:=by
 unfold uU at h
 unfold Instr.checkKey
 split at h<;>first | (cases h;done) | (rename_i hd;simp only [Sem.run_bind,run_underlying hd,Result.andThen_ok];rfl)
theorem tc {w:World} {β:Type} (l:List β) (F:β→PUnit→Sem (ForInStep PUnit)) (h:∀ x∈l,(F x ⟨⟩).run P w=.ok (.yield ⟨⟩) w):(forIn l PUnit.unit F).run P w=.ok ⟨⟩ w:=by
 induction l with
 | nil=>rfl
 | cons x r ih=>
   simp only [List.forIn_cons,Sem.run_bind,h x (by simp),Result.andThen_ok]
   exact ih fun y hy=>h y (by simp [hy])
theorem k9 {w:World} {t:TypeId} {ks:List LK} (b:Bool) (n:Nat) {cs:Array Value} (hk:cr P t ks=true) (hsz:cs.size=ks.length):(Instr.checkKey b (n+2) t (.agg cs)).run P w=.ok () w:=by
 unfold cr at hk
 simp only [Bool.and_eq_true] at hk
 obtain ⟨⟨h1,h2⟩,h3⟩:=hk
 split at h1
 · rename_i fs hd
   have hall:=List.all_eq_true.1 h1
   unfold Instr.checkKey
   simp only [Sem.run_bind,run_underlying hd,Result.andThen_ok]
   rw [← Array.forIn_toList]
   rw [tc]
   · rfl
   intro f hf
   have hf:=hall f hf
   simp only [Bool.and_eq_true] at hf
   have hs:=hf.1
   have hlt:f.offset<cs.size:=by rw [hsz];exact Nat.le_of_ble_eq_true hf.2
   have hpart:(part f.type cs f.offset).run P w=.ok (cs.getD f.offset undef) w:=by
    unfold uU at hs
    split at hs<;>first | (cases hs;done) | (rename_i hdd;exact gk hdd cs f.offset hlt trivial)
   by_cases hn:f.name = "_"
   · simp [hn]
   · simp only [ne_eq,hn,not_false_eq_true,if_true,Sem.run_bind,hpart,Result.andThen_ok,mn b n _ hs,Sem.run_pure]
 · cases h1
theorem nE {w:World} {t:TypeId} {ks:List LK} (hk:cr P t ks=true) {G:Gh} {vs us:List DV} {cs ds:Array Value} {b:Bool} (h1:Rel fm G (.agg vs) (.agg cs)) (h2:Rel fm G (.agg us) (.agg ds)) (hb:aU ks vs us=some b) :
 (Op.equal t (.agg cs) (.agg ds)).run P w=.ok b w:=by
 unfold cr at hk
 simp only [Bool.and_eq_true,beq_iff_eq] at hk
 obtain ⟨⟨k1,k2⟩,k3⟩:=hk
 split at k1
 · rename_i fs htd
   cases h1 with
   | agg _ _ hl hc=>
   cases h2 with
   | agg _ _ hl' hc'=>
   obtain ⟨l1,l2⟩:=b9 _ _ _ _ hb
   obtain ⟨p,q,p1,q1,r1⟩:=oQ (w:=w) Op.maxDepth t ks k2 G vs us cs ds 0 0 b ⟨by omega,fun i hi=>by rw [Nat.zero_add];exact hc i hi⟩ ⟨by omega,fun i hi=>by rw [Nat.zero_add];exact hc' i hi⟩ hb
   obtain ⟨i,hi,hsz⟩:=mQ 9999 t ks htd k2
   rw [gN htd hi cs 0 trivial] at p1
   rw [gN htd hi ds 0 trivial] at q1
   cases p1;cases q1
   have e1:cs.extract 0 (0+i.size)=cs:=by rw [Nat.zero_add,show i.size=cs.size by omega];exact Array.extract_size
   have e2:ds.extract 0 (0+i.size)=ds:=by rw [Nat.zero_add,show i.size=ds.size by omega];exact Array.extract_size
   rw [e1,e2] at r1
   exact r1
 · cases k1
theorem mY:∀ (ks:List LK) (as_ bs:List DV),aU ks as_ bs=some true→∀ i (h:i<as_.length) (h':i<bs.length),∃ k,cR k (as_[i]) (bs[i])=some true
 | [],[],[],_,i,h,_=>by simp at h
 | k::ks,a::as_,c::bs,hl,i,h,h'=>by
   simp only [aU] at hl
   split at hl
   · rename_i x y h1 h2
     injection hl with hl
     simp only [Bool.and_eq_true] at hl
     obtain ⟨rfl,rfl⟩:=hl
     cases i with
     | zero=>exact ⟨k,h1⟩
     | succ i=>exact mY ks as_ bs h2 i (by simpa using h) (by simpa using h')
   · cases hl
 | [],_::_,_,h,_,_,_=>by simp [aU] at h
 | [],[],_::_,h,_,_,h'=>by simp [aU] at h
 | _::_,[],_,h,_,_,_=>by simp [aU] at h
 | _::_,_::_,[],h,_,_,_=>by simp [aU] at h
theorem yh {G:Gh} {k:LK} {a b:DV} {x y:Value} (h:cR k a b=some true) (ha:Rel fm G a x) (hb:Rel fm G b y):x=y∧∀ n,Instr.sameBits n x x=true:=by
 unfold cR at h
 split at h
 · cases ha;cases hb
   simp only [Option.some.injEq,beq_iff_eq] at h
   subst h
   exact ⟨rfl,fun n=>by simp [Instr.sameBits]⟩
 · split at h
   · rename_i hk
     subst hk
     cases ha;cases hb
     simp only [Option.some.injEq,beq_iff_eq] at h
     subst h
     exact ⟨rfl,fun n=>by simp [Instr.sameBits]⟩
   · cases h
 · cases ha with
   | str _ s1 e1=>
     cases hb with
     | str _ s2 e2=>
       simp only [Option.some.injEq,beq_iff_eq] at h
       have h2:s1=s2:=by
        have:s1.data=s2.data:=Array.toList_inj.1 (e1.trans (h.trans e2.symm))
        cases s1;cases s2;simp at this;subst this;rfl
       subst h2
       refine ⟨rfl,fun n => ?_⟩
       have h1:(s1==s1)=(s1.data==s1.data):=rfl
       simp [Instr.sameBits,h1]
 · cases h
theorem CA {G:Gh} {ks:List LK} {vs us:List DV} {cs ds:Array Value} (hb:aU ks vs us=some true) (h1:Rel fm G (.agg vs) (.agg cs)) (h2:Rel fm G (.agg us) (.agg ds)) :
 cs=ds∧Instr.sameBits 10000 (.agg cs) (.agg cs)=true:=by
 cases h1 with
 | agg _ _ hl hc=>
 cases h2 with
 | agg _ _ hl' hc'=>
 obtain ⟨l1,l2⟩:=b9 _ _ _ _ hb
 have key:∀ i (h:i<cs.size),∃ (h':i<ds.size),cs[i]=ds[i]∧∀ n,Instr.sameBits n cs[i] cs[i]=true:=by
  intro i h
  have h':i<ds.size:=by omega
  obtain ⟨k,hk⟩:=mY ks vs us hb i (by omega) (by omega)
  have r1:=hc i (by omega)
  have r2:=hc' i (by omega)
  rw [Array.getD_eq_getD_getElem?,Array.getElem?_eq_getElem h] at r1
  rw [Array.getD_eq_getD_getElem?,Array.getElem?_eq_getElem h'] at r2
  exact ⟨h',yh hk r1 r2⟩
 refine ⟨Array.ext (by omega) fun i h h'=>(key i h).2.1,?_⟩
 simp only [Instr.sameBits,Bool.and_eq_true,beq_self_eq_true,true_and,List.all_eq_true]
 intro p hp
 have:p.1=p.2∧p.1∈cs.toList:=by
  have:=List.mem_iff_getElem.1 hp
  obtain ⟨i,hi,rfl⟩:=this
  simp
 obtain ⟨e,hm⟩:=this
 obtain ⟨i,hi,he⟩:=List.mem_iff_getElem.1 hm
 have:=(key i (by simpa using hi)).2.2 9999
 rw [← e]
 simp at he
 rw [he] at this
 exact this
def oN (P:Program) (t:TypeId) (ks:List LK):Bool:=jL P t ks||cr P t ks
theorem iQ {w:World} {t:TypeId} {ks:List LK} {G:Gh} {k:DV} {kv:Value} (b:Bool) (hk:oN P t ks=true) (hfit:iw ks k=true) (hkv:Rel fm G k kv):(Instr.checkKey b 10000 t kv).run P w=.ok () w:=by
 unfold oN at hk
 rw [Bool.or_eq_true] at hk
 rcases hk with hk | hk
 · have hdk:∃ d,P.underlying t=some d:=by
    unfold jL at hk
    split at hk<;>first | exact ⟨_,by assumption⟩ | cases hk
   obtain ⟨d,hd⟩:=hdk
   exact run_checkKey (w:=w) (P:=P) b 9999 kv hd hk
 · have hk':=hk
   unfold cr at hk'
   simp only [Bool.and_eq_true] at hk'
   have h2:=Nat.le_of_ble_eq_true hk'.2
   unfold iw at hfit
   split at hfit
   · simp at h2
   · split at hfit
     · rename_i xs
       cases hkv with
       | agg _ cs hl _=>
         exact k9 (w:=w) b 9998 hk (by rw [hl];exact eq_of_beq hfit)
     · cases hfit
theorem ka {G:Gh} {w:World} {t:TypeId} {ks:List LK} (hk:cr P t ks=true) {k:DV} {kv:Value} (hkv:Rel fm G k kv):∀ (es:List (DV×DV)) (en:List MapEntry) (i:Nat) (r:Option (Nat×DV)),lM fm G es en→findD ks k es i=some r →
 ∃ r',(Instr.findAsking t kv en i).run P w=.ok r' w∧(match r,r' with
   | none,none=>True
   | some (j,v),some (j',v')=>j=j'∧Rel fm G v v'∧i≤j∧∃ e:MapEntry,en[j-i]? = some e∧e.key=kv
   | _,_=>False)∧(r.isSome=true→Instr.sameBits 10000 kv kv=true)
 | [],en,i,r,he,h=>by
   have:en=[]:=List.eq_nil_of_length_eq_zero (by simpa using he.1)
   subst this
   simp only [findD,Option.some.injEq] at h;subst h
   exact ⟨none,rfl,trivial,fun h=>by cases h⟩
 | (a,v)::es,[],i,r,he,h=>by have:=he.1;simp at this
 | (a,v)::es,e::en,i,r,he,h=>by
   obtain ⟨e',h1,h2,h3⟩:=he.2 0 a v rfl
   simp only [List.getElem?_cons_zero,Option.some.injEq] at h1
   subst h1
   have htl:lM fm G es en:=⟨by have:=he.1;simpa using this,fun i k v hi=>he.2 (i+1) k v hi⟩
   have hlen:2≤ks.length:=by
    unfold cr at hk
    simp only [Bool.and_eq_true] at hk
    exact Nat.le_of_ble_eq_true hk.2
   have same:∀ b,jd ks k a=some b→(Op.equal t kv e.key).run P w=.ok b w∧(b=true→e.key=kv∧Instr.sameBits 10000 kv kv=true):=by
    intro b hb
    unfold jd at hb
    split at hb
    · simp at hlen
    · split at hb
      · rename_i xs ys
        generalize e.key=ek at h2
        cases hkv with
        | agg _ cs hl hc=>
        cases h2 with
        | agg _ ds hl' hc'=>
        refine ⟨nE hk (.agg _ _ hl hc) (.agg _ _ hl' hc') hb,fun hbt => ?_⟩
        subst hbt
        obtain ⟨g1,g2⟩:=CA hb (.agg _ _ hl hc) (.agg _ _ hl' hc')
        exact ⟨by rw [g1],g2⟩
      · cases hb
   simp only [findD] at h
   split at h
   · rename_i hb
     obtain ⟨s1,s2⟩:=same true hb
     injection h with h;subst h
     refine ⟨some (i,e.val),by unfold Instr.findAsking;simp [s1],⟨rfl,h3,Nat.le_refl _,e,by simp,(s2 rfl).1⟩,fun _=>(s2 rfl).2⟩
   · rename_i hb
     obtain ⟨s1,s2⟩:=same false hb
     obtain ⟨r',g1,g2,g3⟩:=ka (w:=w) hk hkv es en (i+1) r htl h
     refine ⟨r',by unfold Instr.findAsking;simp [s1,g1],?_,g3⟩
     match r,r',g2 with
     | none,none,_=>trivial
     | some (j,v),some (j',v'),g2=>
       obtain ⟨q1,q2,q3,e0,q4,q5⟩:=g2
       refine ⟨q1,q2,by omega,e0,?_,q5⟩
       have:j-i=(j-(i+1))+1:=by omega
       rw [this,List.getElem?_cons_succ];exact q4
   · cases h
def vU (P:Program) (t:TypeId):Option DV:=
 match P.info? t with
 | some i=>match i.zero with | some z=>Dq z | none=>none
 | none=>none
theorem BA {t:TypeId} {z:DV} (h:vU P t=some z):∃ i x,P.info? t=some i∧i.zero=some x∧Dq x=some z:=by
 unfold vU at h
 split at h
 · rename_i i hi
   split at h
   · rename_i x hx;exact ⟨i,x,hi,hx,h⟩
   · cases h
 · cases h
theorem run_findKey {w:World} {t:TypeId} {d:TypeDesc} {kv:Value} {es:List MapEntry} {r:Option (Nat×Value)} (hd:P.underlying t=some d) (h:Instr.findNow d kv es 0=some r):(Instr.findKey t kv es).run P w=.ok r w:=by
 unfold Instr.findKey
 simp [run_underlying hd,h]
theorem mW {d:TypeDesc} {x:Value}:∀ {en:List MapEntry} {i:Nat} {p:Nat×Value},Instr.findNow d x en i=some (some p)→∃ y,Instr.sameNow d x y=some true
 | [],i,p,h=>by simp [Instr.findNow] at h
 | e::en,i,p,h=>by
   simp only [Instr.findNow] at h
   split at h
   · exact ⟨_,by assumption⟩
   · exact mW h
   · cases h
theorem tj {d:TypeDesc} {x y:Value} {b:Bool} (h:Instr.sameNow d x y=some b):Instr.sameBits 10000 x x=true:=by
 unfold Instr.sameNow at h
 split at h<;>first | cases h;done | skip
 · simp [Instr.sameBits]
 · rename_i s _
   have h1:(s==s)=(s.data==s.data):=rfl
   simp [Instr.sameBits,h1]
 · simp [Instr.sameBits]
theorem kp {G:Gh} {w:World} {t:TypeId} {ks:List LK} (hk:oN P t ks=true) {k:DV} {kv:Value} (hkv:Rel fm G k kv) {es:List (DV×DV)} {en:List MapEntry} {r:Option (Nat×DV)} (he:lM fm G es en) (h:findD ks k es 0=some r) :
 ∃ r',(Instr.findKey t kv en).run P w=.ok r' w∧(match r,r' with
   | none,none=>True
   | some (j,v),some (j',v')=>j=j'∧Rel fm G v v'∧∃ e:MapEntry,en[j]? = some e∧e.key=kv
   | _,_=>False)∧(r.isSome=true→Instr.sameBits 10000 kv kv=true):=by
 unfold oN at hk
 rw [Bool.or_eq_true] at hk
 rcases hk with hk | hk
 · have hdk:∃ d,P.underlying t=some d:=by
    unfold jL at hk
    split at hk<;>first | exact ⟨_,by assumption⟩ | cases hk
   obtain ⟨d,hd⟩:=hdk
   obtain ⟨r',g1,g2⟩:=oK (fm:=fm) (G:=G) hd hk hkv es en 0 r he h
   refine ⟨r',run_findKey hd g1,?_,?_⟩
   · match r,r',g2 with
     | none,none,_=>trivial
     | some (j,v),some (j',v'),g2=>
       obtain ⟨q1,q2,q3,e0,q4,q5⟩:=g2
       exact ⟨q1,q2,e0,q4,q5⟩
   · intro hsome
     match r,r',g2 with
     | some (j,v),some (j',v'),g2=>
       obtain ⟨y,hy⟩:=mW g1
       exact tj hy
 · obtain ⟨r',g1,g2,g3⟩:=ka (w:=w) hk hkv es en 0 r he h
   have hd:∃ fs,P.underlying t=some (.struct fs):=by
    unfold cr at hk
    simp only [Bool.and_eq_true] at hk
    have:=hk.1.1
    split at this
    · exact ⟨_,by assumption⟩
    · cases this
   obtain ⟨fs,hd⟩:=hd
   refine ⟨r',?_,?_,g3⟩
   · unfold Instr.findKey
     simp only [Sem.run_bind,run_underlying hd,Result.andThen_ok]
     cases en with
     | nil=>
       have:r'=none:=by
        have:(Instr.findAsking t kv [] 0).run P w=.ok none w:=rfl
        rw [this] at g1;cases g1;rfl
       subst this
       rfl
     | cons e en=>
       have hn:Instr.findNow (.struct fs) kv (e::en) 0=none:=by simp [Instr.findNow,Instr.sameNow]
       rw [hn]
       exact g1
   · match r,r',g2 with
     | none,none,_=>trivial
     | some (j,v),some (j',v'),g2=>
       obtain ⟨q1,q2,q3,e0,q4,q5⟩:=g2
       exact ⟨q1,q2,e0,q4,q5⟩
theorem vb {t kt et:TypeId} {ks:List LK} {zero:DV} {ok:Bool} {x j:X} {xo jo:Operand} {o:Oper} (ho:o.op=.lookup t xo jo ok) (ht:P.underlying t=some (.map kt et)) (hk:oN P kt ks=true) (hz:vU P et=some zero)
 (hx:bb fm x xo) (hj:bb fm j jo):az P fm (.lookup ks zero x j ok) o:=by
 refine aC fun CR G w0 st w fr a v st' hs hf hrun => ?_
 simp only [aw] at hrun
 split at hrun
 case isFalse=>cases hrun
 rename_i hfit
 simp only [Option.map_eq_some_iff] at hrun
 obtain ⟨u,hu,hrun⟩:=hrun
 cases hrun
 have hxv:=hx.ev (a:=a) hf
 have hjv:=hj.ev (a:=a) hf
 generalize hx0:a.eval xo=x0 at hxv
 generalize hj0:a.eval jo=j0 at hjv
 obtain ⟨i,z,hi,hzz,hc⟩:=BA hz
 unfold cU at hu
 split at hu
 · cases hu
 rename_i es hes
 have hen:∃ en:Array MapEntry,lM fm G es en.toList∧∀ (K:Array MapEntry→Sem Value),((do
  let es ← match x0 with
   | .map none=>pure #[]
   | .map (some r)=>do
     let .map es _ ← getObj r | stuck "Lookup: map expected"
     pure es
   | _=>stuck "Lookup: map expected"
  K es):Sem Value).run P w=(K en).run P w:=by
  split at hes
  · rename_i e0
    injection hes with hes;subst hes
    rw [e0] at hxv
    cases hxv
    exact ⟨#[],⟨rfl,fun i k v h=>by simp at h⟩,fun K=>by simp⟩
  · rename_i b e0
    rw [e0] at hxv
    split at hes
    · rename_i es' hb
      injection hes with hes;subst hes
      cases hxv with
      | map _ r hm=>
        obtain ⟨r',ob,h1,h2,h3,h4⟩:=hs.obj b _ hb rfl (hs.np hm)
        rw [hm] at h1;cases h1
        obtain ⟨en,ck,rfl,g1,g2⟩:=h3
        refine ⟨en,⟨by simpa using g1,fun i k v h=>by simpa using g2 i k v h⟩,fun K => ?_⟩
        simp [getObj,Sem.run,h2]
    · cases hes
  · cases hes
 obtain ⟨en,he,hK⟩:=hen
 split at hu
 · cases hu
 rename_i r hfind
 obtain ⟨r',hfk,g2,_⟩:=kp (fm:=fm) (G:=G) (w:=w) hk hjv he hfind
 have hchk:=iQ (w:=w) (P:=P) en.isEmpty hk hfit hjv
 have hzv:=jc (w:=w) hi hzz
 have run:∀ (y:Value×Bool),(match r' with | some (_,v)=>(pure (v,true):Sem (Value×Bool)) | none=>do pure (← zeroValue et,false)).run P w=.ok y w→(execOp a.eval o).run P w=.ok (.value (if ok then .tuple #[y.1,.bool y.2] else y.1)) w:=by
  intro y hy
  unfold execOp
  simp only [ho,hx0,hj0]
  refine af ?_
  unfold Instr.lookup
  simp only [Sem.run_bind,run_underlying ht,Result.andThen_ok]
  have:=hK (fun es=>do
   Instr.checkKey es.isEmpty 10000 kt j0
   let (v,there) ← match ← Instr.findKey kt j0 es.toList with
    | some (_,v)=>pure (v,true)
    | none=>pure (← zeroValue et,false)
   pure (if ok then .tuple #[v,.bool there] else v))
  simp only [Sem.run_bind,hchk,hfk,Result.andThen_ok] at this
  refine this.trans ?_
  cases r' with
  | none=>
    simp only [Sem.run_bind,Sem.run_pure,hzv,Result.andThen_ok,Result.ok.injEq,and_true] at hy ⊢
    subst hy;rfl
  | some p=>
    simp only [Sem.run_bind,Sem.run_pure,Result.andThen_ok,Result.ok.injEq,and_true] at hy ⊢
    subst hy;rfl
 have tup:∀ (u:DV) (y:Value) (b:Bool),Rel fm G u y→Rel fm G (if ok then .tuple [u,.bool b] else u) (if ok then .tuple #[y,.bool b] else y):=by
  intro u y b h
  cases ok with
  | false=>exact h
  | true=>
    refine .tuple _ _ rfl fun i hi => ?_
    match i,hi with
    | 0,_=>exact h
    | 1,_=>exact .bool _
 simp only [Option.some.injEq] at hu
 subst hu
 cases r with
 | none=>
   cases r' with
   | none=>exact ⟨rfl,_,run (z,false) (by simp [hzv]),tup _ _ _ (xA hc G)⟩
   | some p=>exact absurd g2 (by simp)
 | some q=>
   cases r' with
   | none=>exact absurd g2 (by simp)
   | some p=>exact ⟨rfl,_,run (p.2,true) rfl,tup _ _ _ g2.2.1⟩
theorem uv {t kt et:TypeId} {ks:List LK} {m k v:X} {mo ko vo:Operand} {o:Oper} (ho:o.op=.mapUpdate t mo ko vo) (ht:P.underlying t=some (.map kt et)) (hk:oN P kt ks=true)
 (hm:bb fm m mo) (hkx:bb fm k ko) (hv:bb fm v vo):az P fm (.eQ ks m k v) o:=by
 intro CR G w0 st w fr a u st' hs hf hrun
 simp only [aw] at hrun
 split at hrun
 case isFalse=>cases hrun
 rename_i hfit
 simp only [Option.map_eq_some_iff] at hrun
 obtain ⟨st2,hu,hrun⟩:=hrun
 cases hrun
 have hmv:=hm.ev (a:=a) hf
 have hkv:=hkx.ev (a:=a) hf
 have hvv:=hv.ev (a:=a) hf
 generalize hm0:a.eval mo=m0 at hmv
 generalize hk0:a.eval ko=k0 at hkv
 generalize hv0:a.eval vo=v0 at hvv
 unfold gf at hu
 split at hu
 · rename_i b e0
   rw [e0] at hmv
   split at hu
   · rename_i es hb
     split at hu
     · rename_i hbase
       cases hmv with
       | map _ r hmu=>
         obtain ⟨r1,ob,h1,h2,h3,h4⟩:=hs.obj b _ hb rfl (hs.np hmu)
         rw [hmu] at h1;cases h1
         obtain ⟨en,ck,rfl,g1,g2⟩:=h3
         have he:lM fm G es en.toList:=⟨by simpa using g1,fun i k v h=>by simpa using g2 i k v h⟩
         have hchk:=iQ (w:=w) (P:=P) false hk hfit hkv
         have hget:=run_getObj_map (P:=P) w r en ck h2
         have hset:∀ o',(setObj r o').run P w=.ok () (w.putObj r o'):=fun o'=>by simp [setObj,Sem.run,h2,World.putObj]
         have fin:∀ w',(Instr.mapUpdate t (.map (some r)) k0 v0).run P w=.ok () w'→(execOp a.eval o).run P w=.ok .skip w':=by
          intro w' h
          unfold execOp
          simp only [ho,hm0,hk0,hv0]
          exact mg h
         split at hu
         · cases hu
         · rename_i i v' hfind
           injection hu with hu;subst hu
           obtain ⟨r',hfk,f2,f3⟩:=kp (fm:=fm) (G:=G) (w:=w) hk hkv he hfind
           cases r' with
           | none=>exact absurd f2 (by simp)
           | some p=>
             obtain ⟨q1,q2,e,q4,q5⟩:=f2
             have hi:i=p.1:=q1
             have hsame:Instr.sameBits 10000 k0 k0=true:=f3 rfl
             refine ⟨G,_,undef,_,fin _ ?_,.inr ⟨rfl,rfl⟩,Gh.le.refl G,hs.put (ob':=.map (en.modify i fun e=>{ e with key:=k0,val:=v0 }) ck) hb rfl hmu hbase ⟨_,ck,rfl,by simp [g1],?_⟩ rfl (fun h=>by cases h),.undef _⟩
             · unfold Instr.mapUpdate
               have hold:((en[p.1]?).map (·.key)).getD k0=k0:=by
                rw [← hi]
                have:en[i]? = some e:=by simpa using q4
                simp [this,q5]
               have hkeep:(Instr.keyThatStays k0 k0).run P w=.ok k0 w:=by unfold Instr.keyThatStays;simp [hsame]
               simp [run_underlying ht,hget,hchk,hfk,hold,hkeep,hset,hi]
             · intro j kk vv hj
               rw [List.getElem?_modify] at hj
               cases hes:es[j]? with
               | none=>rw [hes] at hj;cases hj
               | some x=>
                 obtain ⟨e',w1,w2,w3⟩:=g2 j x.1 x.2 hes
                 rw [hes] at hj
                 rw [Array.getElem?_modify,w1]
                 by_cases ej:i=j
                 · subst ej
                   simp only [if_true,Option.map_eq_map,Option.map_some,Option.some.injEq] at hj ⊢
                   cases hj
                   exact ⟨_,rfl,hkv,hvv⟩
                 · simp only [if_neg ej,Option.map_eq_map,Option.map_some,Option.some.injEq] at hj ⊢
                   subst hj
                   exact ⟨_,rfl,w2,w3⟩
         · rename_i hfind
           injection hu with hu;subst hu
           obtain ⟨r',hfk,f2,_⟩:=kp (fm:=fm) (G:=G) (w:=w) hk hkv he hfind
           cases r' with
           | some p=>exact absurd f2 (by simp)
           | none=>
             refine ⟨G,_,undef,_,fin _ ?_,.inr ⟨rfl,rfl⟩,Gh.le.refl G,hs.put (ob':=.map (en.push { key:=k0,val:=v0,born:=ck }) (ck+1)) hb rfl hmu hbase ⟨_,ck+1,rfl,by simp [g1],?_⟩ rfl (fun h=>by cases h),.undef _⟩
             · unfold Instr.mapUpdate
               simp [run_underlying ht,hget,hchk,hfk,hset]
             · intro j kk vv hj
               rcases get?_append_cases hj with ⟨e1,e2⟩ | ⟨rfl,e2⟩
               · obtain ⟨e',w1,w2,w3⟩:=g2 j kk vv e2
                 refine ⟨e',?_,w2,w3⟩
                 rw [Array.getElem?_push,if_neg (by omega)];exact w1
               · cases e2
                 exact ⟨_,by rw [Array.getElem?_push,if_pos g1.symm],hkv,hvv⟩
     · cases hu
   · cases hu
 · cases hu
end Go.D
end
section
namespace Go.D
open Go.RowKit
variable {P:Program} {fm:FM}
theorem rD {t u e:TypeId} {n bytes:Nat} {ag:Bool} {zs:List DV} {i:TypeInfo} {x y:X} {xo yo:Operand} {o:Oper} (ho:builtinCall .append [xo,yo] [t,u] o.op) (ht:P.underlying t=some (.slice e)) (hu:dM P u=true)
 (hi:P.info? e=some i) (hn:i.size=n) (hby:i.bytes=bytes) (hz:aX P e=some zs) (hzl:zs.length=n) (hag:ag=true∨n=1) (hx:bb fm x xo) (hy:bb fm y yo):az P fm (.dC n ag bytes x y) o:=by
 intro CR G w0 st w fr a v st' hs hf hrun
 have hall:=mN (P:=P) (fm:=fm) ho ht hu hi hn hby hz hzl hag hx hy CR G w0 st w fr a v st' hs hf
 simp only [aw,kC] at hrun hall
 have hxv:=hx.ev (a:=a) hf
 have hyv:=hy.ev (a:=a) hf
 split at hrun
 · rename_i tag n' tk hxe
   rw [hxe] at hxv
   split at hrun
   · rename_i m news hnews
     split at hrun
     · rename_i hm0
       refine hall ?_
       rw [hxe]
       simp only [bd,hnews,hm0,if_true]
       rw [hxe] at hrun
       exact hrun
     split at hrun
     · rename_i hm00 hcond
       obtain ⟨hn0,hb1,hb2⟩:=hcond
       have hm0:0<m:=by omega
       simp only [Option.some.injEq,Prod.mk.injEq] at hrun
       obtain ⟨rfl,rfl⟩:=hrun
       have hb1:m*bytes≤140737488355328:=by simpa [aA] using hb1
       have hb2:m≤140737488355328:=by simpa [aA] using hb2
       have hnr:=cI (P:=P) hs hyv hnews
       generalize hx0:a.eval xo=x0 at hxv
       generalize hy0:a.eval yo=y0 at hyv hnr
       cases hxv
       obtain ⟨N',d1,d2,d3⟩:=hnr.cells m w.drew (Nat.le_refl _) ((Below.refl _ w).drew)
       have hnl:=hnr.length
       obtain ⟨i',z,hi',hzz,hcc⟩:=bj hz
       rw [hi] at hi';cases hi'
       obtain ⟨zl,zr⟩:=bL (fm:=fm) hcc
       have hzsz:z.cells.size=n:=by rw [← hzl,← zl];simp
       have hd1:=d1
       rw [← hn] at hd1
       have hge:=grownCap_ge w (0+m) 0 e
       have hr:=b7 (P:=P) (w:=w) (u:=u) (ty:=o.type) (z:=z) (a:=none) (sLen:=0) (sCap:=0) (m:=m) (x:=y0) (olds:=#[]) (news:=N') ht hi hzz hu hnr.len (by omega) (by rw [hby,Nat.zero_add];omega) (by omega) rfl hd1
       generalize harr:(#[]:Array Value)++N'++Builtin.zeroCells z.cells (grownCap w (0+m) 0 e-(0+m))=arr at hr
       have hsz:arr.size=grownCap w (0+m) 0 e*n:=by
        rw [← harr]
        simp only [Array.size_append,d2,size_zeroCells,hzsz,Array.size_empty]
        rw [Nat.zero_add,← Nat.add_mul]
        congr 1;omega
       have hpush:=hs.drew.push (o:=.cells .grown news) (ob:=.cells arr e) (grownCap w (0+m) 0 e*n) ⟨arr,e,(0,0),rfl,by
        rw [hsz,hnl];exact Nat.mul_le_mul_right _ (by omega),by simp [Gh.push,hsz],fun i hi=>by
         have:=gC (fm:=fm) (G:=G) (olds:=[]) (news:=news) (O:=#[]) (N:=N') (Z:=Builtin.zeroCells z.cells (grownCap w (0+m) 0 e-(0+m))) rfl (by rw [d2,hnl])
          (fun i hi=>by simp at hi) (fun i hi=>d3 i hi (by omega)) i (by simpa using hi)
         rw [harr] at this
         exact this.le (Gh.bC hs.bQ),fun i hi=>by simp,hnr.bg⟩ rfl
       have hle:G.le (G.push st.heap.length w.heap.size (grownCap w (0+m) 0 e*n)):=Gh.bC hs.bQ
       refine ⟨_,_,.slice (some ⟨w.heap.size,0,none⟩) (0+m) (grownCap w (0+m) 0 e),_,?_,.inl rfl,hle,hpush,?_⟩
       · obtain ⟨consts,he⟩:=bn ho a.eval
         rw [he]
         simp only [List.map_cons,List.map_nil,hx0,hy0]
         unfold builtin
         exact af hr
       · rw [show 0+m=m by omega] at hge ⊢
         exact .hsl _ _ _ _ _ _ _ _ (by simp [Gh.push]) ⟨hge,by simp [Gh.push]⟩
     · cases hrun
   · cases hrun
 · rename_i tag n' hxe
   rw [hxe] at hxv
   split at hrun
   · rename_i m news hnews
     split at hrun
     · rename_i hm0
       refine hall ?_
       rw [hxe]
       simp only [bd,hnews,hm0,if_true]
       rw [hxe] at hrun
       exact hrun
     split at hrun
     · rename_i hm00 hcond
       obtain ⟨⟨hn0,hnn'⟩,hb1,hb2⟩:=hcond
       have hnn2:=hnn'.symm
       subst hnn2
       have hm0:0<m:=by omega
       simp only [Option.some.injEq,Prod.mk.injEq] at hrun
       obtain ⟨rfl,rfl⟩:=hrun
       have hb1:m*bytes≤140737488355328:=by simpa [aA] using hb1
       have hb2:m≤140737488355328:=by simpa [aA] using hb2
       have hnr:=cI (P:=P) hs hyv hnews
       generalize hx0:a.eval xo=x0 at hxv
       generalize hy0:a.eval yo=y0 at hyv hnr
       cases hxv with
       | list _ _ _ _ r off cap f hr0 hc0 hp0 hk0 hl0 hnn0=>
       have hkc:cap=0:=hk0
       subst hkc
       obtain ⟨O,ho1,ho2,ho3⟩:=(cI (P:=P) (n:=n) (m:=0) (news:=[]) hs (.list tag n .tight [] r off 0 f hr0 hc0 hp0 hk0 hl0 hnn0) (by simp [bP,flat])).cells 0 w.drew (Nat.le_refl _) ((Below.refl _ w).drew)
       obtain rfl:O = #[]:=by simpa using ho2
       rw [← hn] at ho1
       simp only [List.length_nil] at ho1
       simp only [List.length_nil] at hx0
       obtain ⟨N',d1,d2,d3⟩:=hnr.cells m w.drew (Nat.le_refl _) ((Below.refl _ w).drew)
       have hnl:=hnr.length
       obtain ⟨i',z,hi',hzz,hcc⟩:=bj hz
       rw [hi] at hi';cases hi'
       obtain ⟨zl,zr⟩:=bL (fm:=fm) hcc
       have hzsz:z.cells.size=n:=by rw [← hzl,← zl];simp
       have hd1:=d1
       rw [← hn] at hd1
       have hge:=grownCap_ge w (0+m) 0 e
       have hr:=b7 (P:=P) (w:=w) (u:=u) (ty:=o.type) (z:=z) (a:=some ⟨r,off,none⟩) (sLen:=0) (sCap:=0) (m:=m) (x:=y0) (olds:=#[]) (news:=N') ht hi hzz hu hnr.len (by omega) (by rw [hby,Nat.zero_add];omega) (by omega) ho1 hd1
       generalize harr:(#[]:Array Value)++N'++Builtin.zeroCells z.cells (grownCap w (0+m) 0 e-(0+m))=arr at hr
       have hsz:arr.size=grownCap w (0+m) 0 e*n:=by
        rw [← harr]
        simp only [Array.size_append,d2,size_zeroCells,hzsz,Array.size_empty]
        rw [Nat.zero_add,← Nat.add_mul]
        congr 1;omega
       have hpush:=hs.drew.push (o:=.cells .grown news) (ob:=.cells arr e) (grownCap w (0+m) 0 e*n) ⟨arr,e,(0,0),rfl,by
        rw [hsz,hnl];exact Nat.mul_le_mul_right _ (by omega),by simp [Gh.push,hsz],fun i hi=>by
         have:=gC (fm:=fm) (G:=G) (olds:=[]) (news:=news) (O:=#[]) (N:=N') (Z:=Builtin.zeroCells z.cells (grownCap w (0+m) 0 e-(0+m))) rfl (by rw [d2,hnl])
          (fun i hi=>by simp at hi) (fun i hi=>d3 i hi (by omega)) i (by simpa using hi)
         rw [harr] at this
         exact this.le (Gh.bC hs.bQ),fun i hi=>by simp,hnr.bg⟩ rfl
       have hle:G.le (G.push st.heap.length w.heap.size (grownCap w (0+m) 0 e*n)):=Gh.bC hs.bQ
       refine ⟨_,_,.slice (some ⟨w.heap.size,0,none⟩) (0+m) (grownCap w (0+m) 0 e),_,?_,.inl rfl,hle,hpush,?_⟩
       · obtain ⟨consts,he⟩:=bn ho a.eval
         rw [he]
         simp only [List.map_cons,List.map_nil,hx0,hy0]
         unfold builtin
         exact af hr
       · rw [show 0+m=m by omega] at hge ⊢
         exact .hsl _ _ _ _ _ _ _ _ (by simp [Gh.push]) ⟨hge,by simp [Gh.push]⟩
     · cases hrun
   · cases hrun
 · rename_i hxe
   exact hall hrun
 · cases hrun
theorem wU {t e:TypeId} {n:Nat} {zs:List DV} {i:TypeInfo} {x:X} {xo:Operand} {o:Oper} (ho:builtinCall .clear [xo] [t] o.op) (ht:P.underlying t=some (.slice e)) (hi:P.info? e=some i) (hn:i.size=n) (hz:aX P e=some zs) (hzl:zs.length=n)
 (hx:bb fm x xo):az P fm (.clear n zs x) o:=by
 intro CR G w0 st w fr a v st' hs hf hrun
 simp only [aw,yj] at hrun
 have hxv:=hx.ev (a:=a) hf
 have fin:∀ (w':World),(Builtin.clear_ #[t] o.type #[a.eval xo]).run P w=.ok (.tuple #[]) w'→(execOp a.eval o).run P w=.ok (.value (.tuple #[])) w':=by
  intro w' h
  obtain ⟨consts,he⟩:=bn ho a.eval
  rw [he]
  simp only [List.map_cons,List.map_nil]
  unfold builtin
  exact af h
 have tup:Rel fm G (.tuple []) (.tuple #[]):=.tuple [] #[] rfl (fun i hi=>absurd hi (by simp))
 generalize hx0:a.eval xo=x0 at hxv fin
 split at hrun
 · rename_i hxe
   rw [hxe] at hxv
   simp only [Option.some.injEq,Prod.mk.injEq] at hrun
   obtain ⟨rfl,rfl⟩:=hrun
   cases hxv
   exact ⟨G,w,_,_,fin w (by simp [Builtin.clear_,run_underlying ht]),.inl rfl,Gh.le.refl G,hs,tup⟩
 · rename_i n' ag b off len cap hxe
   rw [hxe] at hxv
   cases hxv with
   | hsl _ _ _ _ _ _ r c hm hcap=>
   split at hrun
   · rename_i hl0
     subst hl0
     simp only [Option.some.injEq,Prod.mk.injEq] at hrun
     obtain ⟨rfl,rfl⟩:=hrun
     exact ⟨G,w,_,_,fin w (by simp [Builtin.clear_,run_underlying ht]),.inl rfl,Gh.le.refl G,hs,tup⟩
   · rename_i hl0
     split at hrun
     · rename_i hc
       obtain ⟨rfl,hbase⟩:=hc
       split at hrun
       · rename_i g vs hcell
         obtain ⟨hcell,hw⟩:=lX hcell
         split at hrun
         · rename_i hlen
           simp only [Option.some.injEq,Prod.mk.injEq] at hrun
           obtain ⟨rfl,rfl⟩:=hrun
           have hbo:st.heap[b]? = some (.cells g vs):=by
            unfold St.cells at hcell
            split at hcell
            · rename_i g' vs' e;simp only [Option.some.injEq,Prod.mk.injEq] at hcell;obtain ⟨rfl,rfl⟩:=hcell;exact e
            · cases hcell
           obtain ⟨i',z,hi',hzz,hcc⟩:=bj hz
           rw [hi] at hi';cases hi'
           obtain ⟨zl,zr⟩:=bL (fm:=fm) hcc
           have hscal:(bk zs len).all DV.bg=true:=by
            rw [List.all_eq_true]
            intro x hx
            obtain ⟨j,hj,rfl⟩:=List.getElem_of_mem hx
            have hj':=hj
            rw [cS] at hj'
            have:=getElem?_repl zs len j hj'
            rw [List.getElem?_eq_getElem hj] at this
            exact List.all_eq_true.1 (b0 (cm hcc)) _ (List.mem_of_getElem? this.symm)
           obtain ⟨s1,s2⟩:=kP (fm:=fm) (G:=G) (zs:=zs) (z:=z.cells) (by simpa using zl) (fun i hi=>zr _ i hi) len
           have hzz2:Builtin.zeroCells z.cells len=(Array.range (len*zs.length)).map (z.cells[· % z.cells.size]!):=by
            unfold Builtin.zeroCells
            have:z.cells.size=zs.length:=by rw [← zl];simp
            rw [this]
           rw [← hzz2] at s1 s2
           obtain ⟨cur,ty,fz,k1,k2,k3,k4⟩:=jJ (P:=P) hs hw hbo hbase (k:=off) (ns:=bk zs len) (xs:=(Builtin.zeroCells z.cells len).toList) hlen (by simpa using s1) (fun i hi=>by rw [aM];exact s2 i hi) hscal
            (mH s1 s2 hscal) hm
           refine ⟨G,_,_,_,fin _ ?_,.inl rfl,Gh.le.refl G,k4,tup⟩
           obtain ⟨len',rfl⟩:∃ k,len=k+1:=⟨len-1,by omega⟩
           simp [Builtin.clear_,run_underlying ht,jc hi hzz,k3]
         · cases hrun
       · cases hrun
     · cases hrun
 · cases hrun
end Go.D
end
section
namespace Go.D
open Go.RowKit
variable {P:Program} {fm:FM}
theorem va {e:TypeId} {zs:List DV} {o:Oper} (ho:o.op=.alloc e) (hz:aX P e=some zs):az P fm (.iD e zs) o:=by
 obtain ⟨i,z,hi,hzz,hc⟩:=bj hz
 intro CR G w0 st w fr a v st' hs hf hrun
 simp only [aw,Option.some.injEq,Prod.mk.injEq] at hrun
 obtain ⟨rfl,rfl⟩:=hrun
 obtain ⟨hl,hr⟩:=bL (fm:=fm) hc
 have hs':=hs.push (o:=.cells (.typed e) zs) (ob:=.cells z.cells e) 0 ⟨z.cells,e,(0,0),rfl,rfl,by simpa using hl,fun i hi=>by rw [← aM];exact hr _ i hi,fun i hi=>by simp,b0 (cm hc)⟩ rfl
 refine ⟨_,_,.pointer (some ⟨w.heap.size,0,none⟩),_,?_,.inl rfl,Gh.bC hs.bQ,hs',.ptr _ _ _ (by simp [Gh.push])⟩
 unfold execOp
 simp only [ho]
 refine af ?_
 unfold Instr.alloc
 simp only [Sem.run_bind,jc hi hzz,Result.andThen_ok]
 rfl
theorem xT {CR:Nat→RC→Code→Prop} {G:Gh} {w0 w:World} {st:St} (hs:Sim fm CR G w0 st w) {b r ty:Nat} {vs:List DV} (hb:st.heap[b]? = some (.cells (.typed ty) vs)) (hm:G.mu b=some r):w.shape? r=some (ty,vs.length):=by
 obtain ⟨r',ob,h1,h2,h3,_⟩:=hs.obj b _ hb rfl (hs.np hm)
 rw [hm] at h1;cases h1
 obtain ⟨cs,t,fz,rfl,rfl,h4,_⟩:=h3
 unfold World.shape?
 rw [h2]
 simp [h4]
theorem sE {st:St} {ty n:Nat} {x v:DV} (h:Be st ty n x=some v):∃ b vs,x=.ptr b 0∧v=.ptr b 0∧st.heap[b]? = some (.cells (.typed ty) vs)∧vs.length=n:=by
 unfold Be at h
 split at h
 · rename_i b
   split at h
   · rename_i t vs hb
     split at h
     · rename_i hc
       obtain ⟨rfl,hn⟩:=hc
       injection h with h
       exact ⟨b,vs,rfl,h.symm,hb,hn⟩
     · cases h
   · cases h
 · cases h
theorem uT {s d t:TypeId} {j:TypeInfo} {ty n:Nat} {x:X} {xo:Operand} {o:Oper} (ho:o.op=.convert s d xo) (hs0:P.underlying s=some (.pointer t)) (hd:P.underlying d=some .unsafePointer) (ht:P.info? t=some j) (hj:j.size≠0) (hn:0<n)
 (hx:bb fm x xo):az P fm (.conv ty n x) o:=by
 refine aC fun CR G w0 st w fr a v st' hs hf hrun => ?_
 simp only [aw,Option.map_eq_some_iff] at hrun
 obtain ⟨u,hu,hrun⟩:=hrun
 cases hrun
 obtain ⟨b,vs,e1,rfl,hb,hl⟩:=sE hu
 have hxv:=hx.ev (a:=a) hf
 rw [e1] at hxv
 generalize hx0:a.eval xo=x0 at hxv
 cases hxv with
 | ptr _ _ r hm=>
   refine ⟨rfl,_,?_,.ptr _ _ _ hm⟩
   unfold execOp
   simp only [ho,hx0]
   exact af (Lib.run_to_unsafe w ⟨r,0,none⟩ hs0 hd ht hj (xT hs hb hm) (by show 0<vs.length;omega))
theorem qV {s d u:TypeId} {j:TypeInfo} {ty n:Nat} {x:X} {xo:Operand} {o:Oper} (ho:o.op=.convert s d xo) (hs0:P.underlying s=some .unsafePointer) (hd:P.underlying d=some (.pointer u)) (hu0:P.info? u=some j)
 (hlies:liesAt P P.depth ty (n/P.cellsOf ty) 0 u 1=true) (hx:bb fm x xo):az P fm (.conv ty n x) o:=by
 refine aC fun CR G w0 st w fr a v st' hs hf hrun => ?_
 simp only [aw,Option.map_eq_some_iff] at hrun
 obtain ⟨u',hu,hrun⟩:=hrun
 cases hrun
 obtain ⟨b,vs,e1,rfl,hb,hl⟩:=sE hu
 have hxv:=hx.ev (a:=a) hf
 rw [e1] at hxv
 generalize hx0:a.eval xo=x0 at hxv
 cases hxv with
 | ptr _ _ r hm=>
   refine ⟨rfl,_,?_,.ptr _ _ _ hm⟩
   unfold execOp
   simp only [ho,hx0]
   exact af (Lib.run_from_unsafe w ⟨r,0,none⟩ hs0 hd hu0 (xT hs hb hm) (by rw [hl];exact hlies))
theorem tO {t:TypeId} {x:X} {xo:Operand} {o:Oper} (ho:builtinCall .unsafeSliceData [xo] [t] o.op) (hx:bb fm x xo):az P fm (.iq x) o:=by
 refine aC fun CR G w0 st w fr a v st' hs hf hrun => ?_
 simp only [aw,Option.map_eq_some_iff] at hrun
 obtain ⟨u,hu,hrun⟩:=hrun
 cases hrun
 have hxv:=hx.ev (a:=a) hf
 generalize hx0:a.eval xo=x0 at hxv
 have fin:∀ (r:Value),(Builtin.unsafeSliceData_ #[t] o.type #[x0]).run P w=.ok r w→(execOp a.eval o).run P w=.ok (.value r) w:=by
  intro r h
  obtain ⟨consts,he⟩:=bn ho a.eval
  rw [he]
  simp only [List.map_cons,List.map_nil,hx0]
  unfold builtin
  exact af h
 generalize x.ev fr=xv at hu hxv
 unfold uK at hu
 split at hu
 · injection hu with hu;subst hu
   cases hxv
   exact ⟨rfl,_,fin _ (Lib.run_unsafeSliceData_nil w _ _ _ _),.bu⟩
 · split at hu
   · rename_i hl
     injection hu with hu;subst hu
     cases hxv with
     | hsl _ _ _ _ _ _ r c hm hcap=>
       rename_i cap
       have hc:c≠0:=by
        cases cap with
        | none=>have:=hcap.1;omega
        | some k=>have:=hcap.2;rw [hcap.1];omega
       exact ⟨rfl,_,fin _ (Lib.run_unsafeSliceData_row w _ _ _ _ _ hc),.ptr _ _ _ hm⟩
   · cases hu
 · cases hu
theorem mL:∀ (vs:List DV) (bs:List UInt8),gv vs=some bs→bs.length=vs.length∧∀ (j:Nat) (x:UInt8),bs[j]? = some x→vs[j]? = some (.int .u8 (x.toNat:Int))
 | [],bs,h=>by
   simp only [gv,Option.some.injEq] at h;subst h
   exact ⟨rfl,fun j x h=>by simp at h⟩
 | v::vs,bs,h=>by
   cases v<;>try (simp [gv] at h;done)
   rename_i k n
   cases k<;>try (simp [gv] at h;done)
   simp only [gv] at h
   split at h
   · rename_i hn
     simp only [Option.map_eq_some_iff] at h
     obtain ⟨l,hl,rfl⟩:=h
     obtain ⟨h1,h2⟩:=mL vs l hl
     refine ⟨by simp [h1],fun j x hx => ?_⟩
     cases j with
     | zero=>
       simp only [List.getElem?_cons_zero,Option.some.injEq] at hx ⊢
       subst hx
       have:(UInt8.ofNat n.toNat).toNat=n.toNat:=by
        rw [UInt8.toNat_ofNat'];omega
       rw [this]
       congr 1
       omega
     | succ j=>simpa using h2 j x (by simpa using hx)
   · cases h
theorem yu {w:World} {r:Nat} {cs:Array Value} {t:TypeId} {lo hi n:Nat} (h:w.heap[r]? = some (.cells cs t (lo,hi))) (hn:n≠0) :
 w.freeze ⟨r,0,none⟩ n=w.putObj r (.cells cs t (if lo==hi then (0,n) else (min lo 0,max hi n))):=by
 unfold World.freeze World.putObj
 rw [if_neg hn]
 congr 1
 apply Array.ext_getElem?
 intro k
 rw [Array.getElem?_modify,Array.getElem?_setIfInBounds]
 by_cases e:r=k
 · subst e
   have hlt:=get?_lt h
   have hv:w.heap[r]=.cells cs t (lo,hi):=(Array.getElem?_eq_some_iff.1 h).2
   simp [hlt,hv]
 · simp [e]
theorem DL {α:Type} {l:List α} {b:Nat} {x:α} (h:l[b]? = some x):l.set b x=l:=by
 apply List.ext_getElem?
 intro i
 rw [List.getElem?_set]
 by_cases e:b=i
 · subst e
   rw [if_pos rfl,if_pos (List.getElem?_eq_some_iff.1 h).1,h]
 · rw [if_neg e]
theorem z3 {pt it e:TypeId} {x l:X} {xo lo:Operand} {o:Oper} (ho:builtinCall .unsafeString [xo,lo] [pt,it] o.op) (hp:P.underlying pt=some (.pointer e)) (hc1:P.cellsOf e=1) (hx:bb fm x xo) (hl:bb fm l lo):az P fm (.rp e x l) o:=by
 intro CR G w0 st w fr a v st' hs hf hrun
 simp only [aw,Option.map_eq_some_iff] at hrun
 obtain ⟨u,hu,hrun⟩:=hrun
 cases hrun
 have hxv:=hx.ev (a:=a) hf
 have hlv:=hl.ev (a:=a) hf
 generalize hx0:a.eval xo=x0 at hxv
 generalize hl0:a.eval lo=l0 at hlv
 have fin:∀ (r:Value) (w':World),(Builtin.unsafeString_ #[pt,it] o.type #[x0,l0]).run P w=.ok r w'→(execOp a.eval o).run P w=.ok (.value r) w':=by
  intro r w' h
  obtain ⟨consts,he⟩:=bn ho a.eval
  rw [he]
  simp only [List.map_cons,List.map_nil,hx0,hl0]
  unfold builtin
  exact af h
 generalize x.ev fr=xv at hu hxv
 generalize l.ev fr=lv at hu hlv
 unfold CW at hu
 split at hu
 · split at hu
   · rename_i h0
     subst h0
     injection hu with hu;subst hu
     cases hxv;cases hlv
     exact ⟨G,w,_,_,fin _ _ (Lib.run_unsafeString_none w pt it _ none),.inl rfl,Gh.le.refl G,hs,.str _ _ rfl⟩
   · cases hu
 · rename_i b off n
   cases hxv with
   | ptr _ _ r hm=>
   cases hlv
   split at hu
   · rename_i h0
     subst h0
     injection hu with hu;subst hu
     exact ⟨G,w,_,_,fin _ _ (Lib.run_unsafeString_none w pt it _ (some _)),.inl rfl,Gh.le.refl G,hs,.str _ _ rfl⟩
   · rename_i h0
     split at hu
     · rename_i t vs hcell
       split at hu
       · rename_i hcond
         obtain ⟨rfl,rfl,hbase,hn0,hnl,hroom⟩:=hcond
         simp only [Option.map_eq_some_iff] at hu
         obtain ⟨bs,hbs,rfl⟩:=hu
         have hbo:=iS hcell
         obtain ⟨r',ob,q1,q2,q3,q4⟩:=hs.obj b _ hbo rfl (hs.np hm)
         rw [hm] at q1;cases q1
         obtain ⟨cs,t,⟨flo,fhi⟩,rfl,rfl,k1,k2,k3,k4,k5⟩:=q3
         obtain ⟨g1,g2⟩:=mL _ _ hbs
         have hlen:bs.length=n.toNat:=by rw [g1];simp;omega
         have hne:bs≠[]:=by
          intro e0
          rw [e0] at hlen
          simp at hlen
          omega
         have hcellr:∀ j x,bs[j]? = some x→w.cell? ((⟨r,0,none⟩:Addr).add j)=some (.int .u8 x.toNat):=by
          intro j y hy
          have h1:=g2 j y hy
          have hj:j<bs.length:=(List.getElem?_eq_some_iff.1 hy).1
          have hjv:j<vs.length:=by omega
          rw [List.getElem?_take,if_pos (by omega)] at h1
          have h2:=k3 j hjv
          rw [(List.getElem?_eq_some_iff.1 h1).2] at h2
          have hjc:j<cs.size:=by omega
          rw [Array.getD_eq_getD_getElem?,Array.getElem?_eq_getElem hjc] at h2
          rw [Addr.add_lit,Nat.zero_add]
          simp only [World.cell?,q2]
          rw [Array.getElem?_eq_getElem hjc]
          simp only [Option.getD_some] at h2
          generalize cs[j]=cj at h2
          cases h2
          simp
         have hrd:(aA:Int)=140737488355328:=rfl
         rw [hrd] at hroom
         have hrun:=Lib.run_unsafeString_row w pt it o.type t hp hc1 r cs.size (by unfold World.shape?;rw [q2]) bs hne (by omega) (by omega) hcellr
         rw [hlen,show ((n.toNat:Nat):Int)=n by omega] at hrun
         have hfz:=yu (n:=n.toNat) q2 (by omega)
         rw [hfz] at hrun
         have hput:=hs.put (o':=.cells (.frz t) vs) (ob':=.cells cs t (if flo==fhi then (0,n.toNat) else (min flo 0,max fhi n.toNat))) hbo rfl hm hbase
          ⟨cs,t,_,rfl,rfl,k1,k2,k3,by split<;>simp<;>omega,k5⟩ rfl (fun h=>by cases h)
         rw [DL hbo] at hput
         exact ⟨G,_,_,_,fin _ _ hrun,.inl rfl,Gh.le.refl G,hput,.str _ _ rfl⟩
       · cases hu
     · cases hu
 · cases hu
theorem rL {t u e:TypeId} {bytes:Nat} {zs:List DV} {i:TypeInfo} {x y:X} {xo yo:Operand} {o:Oper} (ho:builtinCall .append [xo,yo] [t,u] o.op) (ht:P.underlying t=some (.slice e)) (hu:dM P u=true)
 (hi:P.info? e=some i) (hn:i.size=1) (hby:i.bytes=bytes) (hz:aX P e=some zs) (hzl:zs.length=1) (hx:bb fm x xo) (hy:bb fm y yo):az P fm (.fv e bytes x y) o:=by
 intro CR G w0 st w fr a v st' hs hf hrun
 simp only [aw,pZ] at hrun
 have hxv:=hx.ev (a:=a) hf
 have hyv:=hy.ev (a:=a) hf
 split at hrun
 · cases hrun
 rename_i m news hnews
 have hnr:=cI (P:=P) hs hyv hnews
 generalize hx0:a.eval xo=x0 at hxv
 generalize hy0:a.eval yo=y0 at hyv hnr
 obtain ⟨N,n1,n2,n3⟩:=hnr.cells m w (Nat.le_refl _) (Below.refl _ w)
 obtain ⟨N',d1,d2,d3⟩:=hnr.cells m w.drew (Nat.le_refl _) ((Below.refl _ w).drew)
 have hnl:=hnr.length
 obtain ⟨i',z,hi',hzz,hcc⟩:=bj hz
 rw [hi] at hi';cases hi'
 obtain ⟨zl,zr⟩:=bL (fm:=fm) hcc
 have hzsz:z.cells.size=1:=by rw [← hzl,← zl];simp
 have fin:∀ (r:Value) (w':World),(Builtin.append_ #[t,u] o.type #[x0,y0]).run P w=.ok r w'→(execOp a.eval o).run P w=.ok (.value r) w':=by
  intro r w' h
  obtain ⟨consts,he⟩:=bn ho a.eval
  rw [he]
  simp only [List.map_cons,List.map_nil,hx0,hy0]
  unfold builtin
  exact af h
 have none0:∀ (p:Option Addr) (l c:Nat),m=0→x0=.slice p l c→l≤c→(Builtin.append_ #[t,u] o.type #[x0,y0]).run P w=.ok x0 w:=by
  intro p l c hm hp hlc
  subst hm
  have hN0:N = #[]:=by simpa using n2
  rw [hp]
  rw [← hn] at n1
  have:=cQ (P:=P) (w:=w) (w':=w) (ty:=o.type) (a:=p) (sLen:=l) (sCap:=c) (m:=0) (x:=y0) (news:=N) ht hi hu hnr.len (by omega) n1 (by subst hN0;cases p<;>rfl)
  simpa using this
 generalize X.ev fr x=xv at hxv hrun
 split at hrun
 ·
  rename_i tag n' tk
  cases hxv
  split at hrun
  · rename_i hm
    simp only [Option.some.injEq,Prod.mk.injEq] at hrun
    obtain ⟨rfl,rfl⟩:=hrun
    exact ⟨G,w,_,_,fin _ _ (none0 none 0 0 hm rfl (Nat.le_refl _)),.inl rfl,Gh.le.refl G,hs,.fV _ _ _⟩
  rename_i hm0
  split at hrun
  · rename_i hcond
    obtain ⟨hb1,hb2⟩:=hcond
    simp only [Option.some.injEq,Prod.mk.injEq] at hrun
    obtain ⟨rfl,rfl⟩:=hrun
    have hb1:m*bytes≤140737488355328:=by simpa [aA] using hb1
    have hb2:m≤140737488355328:=by simpa [aA] using hb2
    have hd1:=d1
    rw [← hn] at hd1
    have hge:=grownCap_ge w (0+m) 0 e
    have hr:=b7 (P:=P) (w:=w) (u:=u) (ty:=o.type) (z:=z) (a:=none) (sLen:=0) (sCap:=0) (m:=m) (x:=y0) (olds:=#[]) (news:=N') ht hi hzz hu hnr.len (by omega) (by rw [hby,Nat.zero_add];omega) (by omega) rfl hd1
    generalize harr:(#[]:Array Value)++N'++Builtin.zeroCells z.cells (grownCap w (0+m) 0 e-(0+m))=arr at hr
    have hsz:arr.size=grownCap w (0+m) 0 e*1:=by
     rw [← harr]
     simp only [Array.size_append,d2,size_zeroCells,hzsz,Array.size_empty]
     omega
    have hpush:=hs.drew.push (o:=.cells (.frz e) news) (ob:=.cells arr e) (grownCap w (0+m) 0 e*1) ⟨arr,e,(0,0),rfl,rfl,by
     rw [hsz,hnl];exact Nat.mul_le_mul_right _ (by omega),by simp [Gh.push,hsz],fun i hi=>by
      have:=gC (fm:=fm) (G:=G) (olds:=[]) (news:=news) (O:=#[]) (N:=N') (Z:=Builtin.zeroCells z.cells (grownCap w (0+m) 0 e-(0+m))) rfl (by rw [d2,hnl])
       (fun i hi=>by simp at hi) (fun i hi=>d3 i hi (by omega)) i (by simpa using hi)
      rw [harr] at this
      exact this.le (Gh.bC hs.bQ),Nat.zero_le _,hnr.bg⟩ rfl
    have hle:G.le (G.push st.heap.length w.heap.size (grownCap w (0+m) 0 e*1)):=Gh.bC hs.bQ
    refine ⟨_,_,.slice (some ⟨w.heap.size,0,none⟩) (0+m) (grownCap w (0+m) 0 e),_,fin _ _ hr,.inl rfl,hle,hpush,?_⟩
    rw [show 0+m=m by omega] at hge ⊢
    exact .hsl _ _ _ _ _ _ _ _ (by simp [Gh.push]) ⟨hge,by simp [Gh.push]⟩
  · cases hrun
 ·
  rename_i n' ag' b off len
  cases hxv with
  | hsl _ _ _ _ _ _ r c hmu hcap=>
  have hlc:len≤c:=hcap.1
  split at hrun
  · rename_i hm
    simp only [Option.some.injEq,Prod.mk.injEq] at hrun
    obtain ⟨rfl,rfl⟩:=hrun
    exact ⟨G,w,_,_,fin _ _ (none0 _ _ _ hm rfl hlc),.inl rfl,Gh.le.refl G,hs,.hsl _ _ _ _ _ _ _ _ hmu hcap⟩
  rename_i hm
  split at hrun
  · rename_i hcond
    obtain ⟨rfl,rfl,hbase,hb1,hb2⟩:=hcond
    have hb1:(len+m)*bytes≤140737488355328:=by simpa [aA] using hb1
    have hb2:len+m≤140737488355328:=by simpa [aA] using hb2
    split at hrun
    · rename_i ty0 vs hcell
      split at hrun
      · rename_i hcond2
        obtain ⟨rfl,hvl⟩:=hcond2
        simp only [Option.some.injEq,Prod.mk.injEq] at hrun
        obtain ⟨rfl,rfl⟩:=hrun
        have hbo:=iS hcell
        obtain ⟨r',ob,q1,q2,q3,q4⟩:=hs.obj b _ hbo rfl (hs.np hmu)
        rw [hmu] at q1;cases q1
        obtain ⟨cs,ty,fz,rfl,rfl,k1,k2,k3,k4,k5⟩:=q3
        have hro:∀ i,G.ro r i=none:=by
         intro i
         cases er:G.ro r i with
         | none=>rfl
         | some v=>exact absurd hmu (fun h=>hs.c9 r i v b _ er hbo rfl h)
        have htk:∀ u x y,st.aW[u]? = some x→G.bB u x=some y→y.1≠r:=by
         intro u x y hu hy e
         obtain ⟨r',len',cap',n'',cs',ty',h1,h2,h3,h4,h5,h6,h7,h8⟩:=hs.tok u x hu
         rw [hy] at h1;cases h1
         simp only at e
         subst e
         exact h7 b _ hbo rfl hmu
        have hgone:=hs.Dc b (hs.np hmu)
        have hfree:∀ b' o,(st.heap.set b .gone)[b']? = some o→o.b8=false→G.mu b'≠some r:=by
         intro b' o hb' hg e
         rcases getElem?_set_cases _ _ _ _ _ hb' with ⟨rfl,rfl,_⟩ | ⟨e1,e2⟩
         · cases hg
         · exact e1 (hs.bR _ _ _ _ _ e2 hbo hg rfl e hmu)
        have hset:(st.heap.set b .gone).length=st.heap.length:=by simp
        have hscal:(vs++news).all DV.bg=true:=by rw [List.all_append,k5,hnr.bg];rfl
        have hcapo:=hcap.2
        by_cases hg:c<len+m
        ·
         have hge:=grownCap_ge w (len+m) c ty
         have hor:=cI (P:=P) (n:=1) (m:=len) (news:=(vs.drop 0).take (len*1)) hs (.hsl 1 ag' b 0 len none r c hmu hcap) (by
          simp only [bP,if_true,St.cells,hbo]
          rw [if_pos (by omega)])
         obtain ⟨O,o1,o2,o3⟩:=hor.cells len w.drew (Nat.le_refl _) ((Below.refl _ w).drew)
         have hvs:(vs.drop 0).take (len*1)=vs:=by rw [List.drop_zero,List.take_of_length_le (by omega)]
         rw [hvs] at o3
         have hd1:=d1
         rw [← hn] at hd1 o1
         have hr:=b7 (P:=P) (w:=w) (u:=u) (ty:=o.type) (z:=z) (a:=some ⟨r,0,none⟩) (sLen:=len) (sCap:=c) (m:=m) (x:=y0) (olds:=O) (news:=N') ht hi hzz hu hnr.len hg (by rw [hby];omega) (by omega) o1 hd1
         generalize harr:O++N'++Builtin.zeroCells z.cells (grownCap w (len+m) c ty-(len+m))=arr at hr
         have hsz:arr.size=grownCap w (len+m) c ty*1:=by
          rw [← harr]
          simp only [Array.size_append,o2,d2,size_zeroCells,hzsz]
          omega
         have hpush:=hgone.drew.push (o:=.cells (.frz ty) (vs++news)) (ob:=.cells arr ty) (grownCap w (len+m) c ty*1) ⟨arr,ty,(0,0),rfl,rfl,by
          rw [hsz,List.length_append,← hvl,hnl];omega,by simp [Gh.push,hsz],fun i hi=>by
           have:=gC (fm:=fm) (G:=G) (olds:=vs) (news:=news) (O:=O) (N:=N') (Z:=Builtin.zeroCells z.cells (grownCap w (len+m) c ty-(len+m))) (by rw [o2,hvl];omega) (by rw [d2,hnl])
            (fun i hi=>o3 i hi (by omega)) (fun i hi=>d3 i hi (by omega)) i hi
           rw [harr] at this
           refine this.le ?_
           have:=hgone.bQ
           exact Gh.bC this,Nat.zero_le _,hscal⟩ rfl
         have hle:G.le (G.push (st.heap.set b .gone).length w.heap.size (grownCap w (len+m) c ty*1)):=Gh.bC hgone.bQ
         refine ⟨_,_,_,_,fin _ _ hr,.inl rfl,hle,hpush,?_⟩
         rw [← hset]
         exact .hsl _ _ _ _ _ _ _ _ (by simp [Gh.push]) ⟨hge,by simp [Gh.push]⟩
        ·
         have hcn:c≤cs.size:=by rw [k2];omega
         have hmul:len+m≤cs.size:=by omega
         have hNl:N.toList.length=m:=by simpa using n2
         have hst:=run_storeCells_atF P r len ty fz N.toList 0 cs w q2 (by omega) (by omega) (mH (G:=G) (news:=news) (by rw [n2,hnl]) (fun i hi=>n3 i hi (by omega)) hnr.bg)
         rw [Nat.add_zero,fC q2] at hst
         have hsp:(cs.toList.take len++N.toList++cs.toList.drop (len+N.toList.length)).toArray=aP cs len N.toList:=rfl
         rw [hsp] at hst
         have hssz:=eP (cur:=cs) (k:=len) (vs:=N.toList) (by omega)
         have hput:=hgone.zb (cs':=aP cs len N.toList) q2 (q4 hbase) hfree hssz (fun i v hv=>by rw [hro i] at hv;cases hv)
         have hrow:(w.putObj r (.cells (aP cs len N.toList) ty fz)).heap[r]? = some (.cells (aP cs len N.toList) ty fz):=by rw [eF w r r _ (get?_lt q2)];simp
         have hlow:∀ i,i<vs.length→(aP cs len N.toList).getD i undef=cs.getD i undef:=by
          intro i hi
          unfold aP
          rw [Array.getD_eq_getD_getElem?,Array.getD_eq_getD_getElem?,List.getElem?_toArray,List.append_assoc,List.getElem?_append_left (by simp;omega),List.getElem?_take,if_pos (by omega)]
          simp
         have hhigh:∀ i,i<news.length→(aP cs len N.toList).getD (vs.length+i) undef=N.getD i undef:=by
          intro i hi
          unfold aP
          have hiN:i<N.toList.length:=by omega
          have e3:vs.length+i-(cs.toList.take len).length=i:=by simp;omega
          rw [Array.getD_eq_getD_getElem?,List.getElem?_toArray,List.append_assoc,List.getElem?_append_right (by simp;omega),e3,List.getElem?_append_left hiN,← aM,List.getD_eq_getElem?_getD]
         have hle:G.le (G.push (st.heap.set b .gone).length r cs.size):=Gh.bC hgone.bQ
         have hadopt:=hput.Od (o:=.cells (.frz ty) (vs++news)) cs.size hrow (q4 hbase) hfree hro htk ⟨_,ty,fz,rfl,rfl,by
          rw [hssz,List.length_append,← hvl,hnl];omega,by simp [Gh.push,hssz],fun i hi=>by
           by_cases ei:i<vs.length
           · rw [List.getElem_append_left ei,hlow i ei]
             exact (k3 i ei).le hle
           · have hi2:i-vs.length<news.length:=by simp only [List.length_append] at hi;omega
             rw [List.getElem_append_right (by omega)]
             have e4:vs.length+(i-vs.length)=i:=by omega
             have:=hhigh (i-vs.length) hi2
             rw [e4] at this
             rw [this]
             exact (n3 _ hi2 (by omega)).le hle,by simp;omega,hscal⟩ rfl
         have hn1:=n1
         rw [← hn] at hn1
         have hr':=cQ (P:=P) (w:=w) (w':=w.putObj r (.cells (aP cs len N.toList) ty fz)) (ty:=o.type) (a:=some ⟨r,0,none⟩) (sLen:=len) (sCap:=c) (m:=m) (x:=y0) (news:=N) ht hi hu hnr.len (by omega) hn1 (by
          show (storeCells ((⟨r,0,none⟩:Addr).add (len*i.size)) N.toList).run P w=_
          rw [Addr.add_lit,Nat.zero_add,hn,Nat.mul_one];exact hst)
         refine ⟨_,_,_,_,fin _ _ hr',.inl rfl,hle,hadopt,?_⟩
         rw [← hset]
         exact .hsl _ _ _ _ _ _ _ _ (by simp [Gh.push]) ⟨by omega,by simp [Gh.push];omega⟩
      · cases hrun
    · cases hrun
  · cases hrun
 · cases hrun
theorem tA {t arr e:TypeId} {n len:Nat} {ag:Bool} {i:TypeInfo} {x:X} {xo:Operand} {o:Oper} (ho:o.op=.slice t xo none none none) (ht:P.underlying t=some (.pointer arr)) (ha:P.underlying arr=some (.array len e)) (hi:P.info? e=some i)
 (hx:bb fm x xo):az P fm (.jl n ag len x) o:=by
 refine aC fun CR G w0 st w fr a v st' hs hf hrun => ?_
 simp only [aw] at hrun
 have hxv:=hx.ev (a:=a) hf
 generalize hx0:a.eval xo=x0 at hxv
 split at hrun
 · rename_i b off e0
   rw [e0] at hxv
   simp only [Option.some.injEq,Prod.mk.injEq] at hrun
   obtain ⟨rfl,rfl⟩:=hrun
   cases hxv with
   | ptr _ _ r hm=>
     refine ⟨rfl,.slice (some ⟨r,off,none⟩) len len,?_,.hsl _ _ _ _ _ _ _ _ hm ⟨rfl,Nat.le_refl _⟩⟩
     unfold execOp
     simp only [ho,hx0,Option.map_none]
     refine af ?_
     unfold Instr.sliceAt Instr.slice
     simp [run_underlying ht,run_underlying ha,asAddr,Instr.sliceBounds,sizeOf,typeInfo,hi,Addr.add]
 · cases hrun
theorem rT {t e:TypeId} {n len:Nat} {ag:Bool} {i:TypeInfo} {x:X} {xo:Operand} {o:Oper} (ho:o.op=.slice t xo none none none) (ht:P.underlying t=some (.array len e)) (hi:P.info? e=some i)
 (hx:bb fm x xo):az P fm (.jl n ag len x) o:=by
 refine aC fun CR G w0 st w fr a v st' hs hf hrun => ?_
 simp only [aw] at hrun
 have hxv:=hx.ev (a:=a) hf
 generalize hx0:a.eval xo=x0 at hxv
 split at hrun
 · rename_i b off e0
   rw [e0] at hxv
   simp only [Option.some.injEq,Prod.mk.injEq] at hrun
   obtain ⟨rfl,rfl⟩:=hrun
   cases hxv with
   | ptr _ _ r hm=>
     refine ⟨rfl,.slice (some ⟨r,off,none⟩) len len,?_,.hsl _ _ _ _ _ _ _ _ hm ⟨rfl,Nat.le_refl _⟩⟩
     unfold execOp
     simp only [ho,hx0,Option.map_none]
     refine af ?_
     unfold Instr.sliceAt Instr.slice
     simp [run_underlying ht,Instr.sureAddr,Instr.sliceBounds,sizeOf,typeInfo,hi,Addr.add]
 · cases hrun
end Go.D
end
section
namespace Go.D
open Go.RowKit
variable {P:Program} {fm:FM}
def Fp (fm:FM) (g:Nat):List DV→Nat→Bool
 | [],_=>true
 | d::ds,i=>(match fm.env g i with | some v=>(match oz v with | some u=>DV.beq u d | none=>false) | none=>false)&&Fp fm g ds (i+1)
theorem AI {g:Nat}:∀ {ds:List DV} {k:Nat},Fp fm g ds k=true→∀ i (h:i<ds.length),∃ v,fm.env g (k+i)=some v∧oz v=some ds[i]
 | [],_,_,i,h=>by simp at h
 | d::ds,k,hb,i,h=>by
   simp only [Fp,Bool.and_eq_true] at hb
   obtain ⟨h1,h2⟩:=hb
   cases i with
   | zero=>
     split at h1
     · rename_i v hv
       split at h1
       · rename_i u hu
         have:=DV.beq_eq _ _ h1
         subst this
         exact ⟨v,hv,hu⟩
       · cases h1
     · cases h1
   | succ i=>
     obtain ⟨v,g1,g2⟩:=AI h2 i (by simpa using h)
     exact ⟨v,by rwa [show k+(i+1)=k+1+i by omega],by simpa using g2⟩
theorem Jq {g:Nat} {ds:List DV} (h:Fp fm g ds 0=true) (G:Gh):Rel fm G (.bX ds) (.pointer (some ⟨g,0,none⟩)):=by
 have key:=AI h
 refine .bX ds g 0 (fun i=>(fm.env g i).getD undef) (fun i hi => ?_) (fun i hi => ?_) ?_
 · obtain ⟨v,h1,h2⟩:=key i hi
   rw [Nat.zero_add] at h1 ⊢
   exact .inr (by rw [h1];rfl)
 · obtain ⟨v,h1,h2⟩:=key i hi
   rw [Nat.zero_add] at h1
   simp only [h1,Option.getD_some]
   exact nU h2 G
 · rw [List.all_eq_true]
   intro x hx
   obtain ⟨i,hi,rfl⟩:=List.getElem_of_mem hx
   obtain ⟨v,h1,h2⟩:=key i hi
   exact pB h2
def xB (fm:FM):X→Operand→Bool
 | .t n,.tmp m=>n==m
 | .c v,.const x=>(match Dq x with | some u=>DV.beq u v | none=>false)
 | .f g,.func f=>(match fm g with | some f'=>f'==f | none=>false)
 | .c (.bX cs),.global g=>Fp fm g cs 0
 | _,_=>false
theorem aL {x:X} {o:Operand} (h:xB fm x o=true):bb fm x o:=by
 unfold xB at h
 split at h
 · exact eq_of_beq h
 · split at h
   · rename_i u hu
     have:=DV.beq_eq _ _ h
     subst this
     exact fun G=>xA hu G
   · cases h
 · split at h
   · rename_i f' hf
     have:=eq_of_beq h
     subst this
     exact hf
   · cases h
 · exact fun G=>Jq h G
 · cases h
def xsB (fm:FM):List X→List Operand→Bool
 | [],[]=>true
 | x::xs,o::os=>xB fm x o&&xsB fm xs os
 | _,_=>false
theorem kg:∀ {xs:List X} {os:List Operand},xsB fm xs os=true→lA fm xs os
 | [],[],_=>⟨rfl,fun i x o h=>by simp at h⟩
 | x::xs,o::os,h=>by
   simp only [xsB,Bool.and_eq_true] at h
   obtain ⟨h1,h2⟩:=kg h.2
   refine ⟨by simp [h1],fun i y z hy hz => ?_⟩
   cases i with
   | zero=>simp only [List.getElem?_cons_zero,Option.some.injEq] at hy hz;subst hy;subst hz;exact aL h.1
   | succ i=>exact h2 i y z (by simpa using hy) (by simpa using hz)
 | [],_::_,h=>by simp [xsB] at h
 | _::_,[],h=>by simp [xsB] at h
def xoB (fm:FM):Option X→Option Operand→Bool
 | none,none=>true
 | some x,some o=>xB fm x o
 | _,_=>false
theorem pR {x:Option X} {o:Option Operand} (h:xoB fm x o=true):gi fm x o:=by
 unfold xoB at h
 split at h
 · trivial
 · exact aL h
 · cases h
def adP:TypeDesc→Bool
 | .struct _ | .array _ _=>true
 | _=>false
def iW (P:Program) (t:TypeId) (n:Nat) (ag:Bool):Bool:=
 (match P.underlying t with | some d=>adP d==ag | none=>false)&&(match P.info? t with | some i=>i.size==n | none=>false)&&(ag||n==1)
theorem gT {t:TypeId} {n:Nat} {ag:Bool} (h:iW P t n ag=true):ie P t n ag:=by
 unfold iW at h
 simp only [Bool.and_eq_true,Bool.or_eq_true] at h
 obtain ⟨⟨h1,h2⟩,h3⟩:=h
 refine ⟨?_,?_,?_⟩
 · split at h1
   · rename_i d hd
     refine ⟨d,hd,?_⟩
     rw [← eq_of_beq h1]
     cases d<;>rfl
   · cases h1
 · split at h2
   · rename_i i hi;exact ⟨i,hi,eq_of_beq h2⟩
   · cases h2
 · intro hag
   rcases h3 with h3 | h3
   · rw [hag] at h3;cases h3
   · exact eq_of_beq h3
def jt (P:Program) (t:TypeId) (zs:List DV):Bool:=match aX P t with | some u=>DV.mU u zs | none=>false
theorem dE {t:TypeId} {zs:List DV} (h:jt P t zs=true):aX P t=some zs:=by
 unfold jt at h
 split at h
 · rename_i u hu;rw [hu,DV.jF _ _ h]
 · cases h
def De (P:Program) (t:TypeId) (z:DV):Bool:=match vU P t with | some u=>DV.beq u z | none=>false
theorem DZ {t:TypeId} {z:DV} (h:De P t z=true):vU P t=some z:=by
 unfold De at h
 split at h
 · rename_i u hu;rw [hu,DV.beq_eq _ _ h]
 · cases h
def nK (P:Program) (fm:FM) (t:TypeId):List (Nat×Nat×X)→List (Nat×Operand)→Bool
 | [],[]=>true
 | (off,n,x)::xs,(i,o)::os=>(match placeOf P t i with | some (a,b)=>a==off&&b==n | none=>false)&&xB fm x o&&nK P fm t xs os
 | _,_=>false
theorem sD {t:TypeId}:∀ {xs:List (Nat×Nat×X)} {os:List (Nat×Operand)},nK P fm t xs os=true→vX fm (placeOf P t) xs os
 | [],[],_=>⟨rfl,fun k off n x i o h=>by simp at h⟩
 | (off,n,x)::xs,(i,o)::os,h=>by
   simp only [nK,Bool.and_eq_true] at h
   obtain ⟨⟨h0,h1⟩,h2⟩:=h
   obtain ⟨g1,g2⟩:=sD h2
   refine ⟨by simp [g1],fun k off' n' y i' o' hy hz => ?_⟩
   cases k with
   | zero=>
     simp only [List.getElem?_cons_zero,Option.some.injEq,Prod.mk.injEq] at hy hz
     obtain ⟨rfl,rfl,rfl⟩:=hy
     obtain ⟨rfl,rfl⟩:=hz
     refine ⟨?_,aL h1⟩
     split at h0
     · rename_i a b hab
       simp only [Bool.and_eq_true] at h0
       rw [hab,eq_of_beq h0.1,eq_of_beq h0.2]
     · cases h0
   | succ k=>exact g2 k off' n' y i' o' (by simpa using hy) (by simpa using hz)
 | [],_::_,h=>by simp [nK] at h
 | _::_,[],h=>by simp [nK] at h
def qO (fm:FM):List (Nat×X)→List (Nat×Operand)→Bool
 | [],[]=>true
 | (j,x)::xs,(i,o)::os=>j==i&&xB fm x o&&qO fm xs os
 | _,_=>false
theorem qL:∀ {xs:List (Nat×X)} {os:List (Nat×Operand)},qO fm xs os=true→os.length=xs.length∧∀ (k j j':Nat) (x:X) (o:Operand),xs[k]? = some (j,x)→os[k]? = some (j',o)→j=j'∧bb fm x o
 | [],[],_=>⟨rfl,fun k off n x i h=>by simp at h⟩
 | (j,x)::xs,(i,o)::os,h=>by
   simp only [qO,Bool.and_eq_true] at h
   obtain ⟨⟨h0,h1⟩,h2⟩:=h
   obtain ⟨g1,g2⟩:=qL h2
   refine ⟨by simp [g1],fun k j1 j2 y o' hy hz => ?_⟩
   cases k with
   | zero=>
     simp only [List.getElem?_cons_zero,Option.some.injEq,Prod.mk.injEq] at hy hz
     obtain ⟨rfl,rfl⟩:=hy
     obtain ⟨rfl,rfl⟩:=hz
     exact ⟨eq_of_beq h0,aL h1⟩
   | succ k=>exact g2 k j1 j2 y o' (by simpa using hy) (by simpa using hz)
 | [],_::_,h=>by simp [qO] at h
 | _::_,[],h=>by simp [qO] at h
def opB (P:Program) (fm:FM) (r:ROp) (o:Op):Bool:=
 match r with
 | .mv x=>(match o with | .move xo=>xB fm x xo | .assign xo=>xB fm x xo | _=>false)
 | .pick c a b=>(match o with | .pick co ao bo=>xB fm c co&&xB fm a ao&&xB fm b bo | _=>false)
 | .alloc zs=>(match o with | .alloc e=>jt P e zs | _=>false)
 | .box _ x=>(match o with | .box _ xo=>xB fm x xo | _=>false)
 | .build zs parts=>(match o with | .build t ps=>jt P t zs&&nT P t&&nK P fm t parts ps.toList | _=>false)
 | .lit n ag zs len parts=>(match o with
   | .buildSlice t l ps=>l==len&&(match P.underlying t with
     | some (.slice e)=>(match P.info? e with | some i=>i.size==n | none=>false)&&jt P e zs&&zs.length==n&&(ag||n==1)&&Nat.ble (len*n) 16777216&&qO fm parts ps.toList
     | _=>false)
   | _=>false)
 | .kA n _ zs len parts=>(match o with
   | .buildSlice t l ps=>l==len&&(match P.underlying t with
     | some (.slice e)=>(match P.info? e with | some i=>i.size==n | none=>false)&&jt P e zs&&zs.length==n&&Nat.ble (len*n) 16777216&&qO fm parts ps.toList
     | _=>false)
   | _=>false)
 | .load n ag x=>(match o with | .load t xo=>iW P t n ag&&xB fm x xo | _=>false)
 | .store n x v=>(match o with | .store t xo vo=>(match P.info? t with | some i=>i.size==n | none=>false)&&xB fm x xo&&xB fm v vo | _=>false)
 | .al x=>(match o with | .nilCheck xo=>xB fm x xo | _=>false)
 | .bin op x y=>(match o with | .binOp op' _ xo yo _=>decide (op=op')&&xB fm x xo&&xB fm y yo | _=>false)
 | .eq k neg x y=>(match o with | .binOp op' t xo yo _=>decide (op'=if neg then .neq else .eql)&&zK P t k&&xB fm x xo&&xB fm y yo | _=>false)
 | .un op x=>(match o with | .unOp op' _ xo=>decide (op=op')&&xB fm x xo | _=>false)
 | .i2i k x=>(match o with | .convert s d xo=>(P.underlying s).isSome&&(match P.underlying d with | some (.int k')=>decide (k=k') | _=>false)&&xB fm x xo | _=>false)
 | .i2s x=>(match o with | .convert s d xo=>(P.underlying s).isSome&&(match P.underlying d with | some .string=>true | _=>false)&&xB fm x xo | _=>false)
 | .same x=>(match o with | .convert s d xo=>(P.underlying s).isSome&&(match P.underlying d with | some .string=>true | _=>false)&&xB fm x xo | _=>false)
 | .s2b x | .s2h x=>(match o with
   | .convert s d xo=>(match P.underlying s with | some .string=>true | _=>false)&&(match P.underlying d with | some (.slice e)=>(match P.underlying e with | some (.int k)=>decide (k=.u8) | _=>false) | _=>false)&&xB fm x xo
   | _=>false)
 | .b2s x=>(match o with
   | .convert s d xo=>(match P.underlying d with | some .string=>true | _=>false)&&(match P.underlying s with | some (.slice e)=>(match P.underlying e with | some (.int k)=>decide (k=.u8) | _=>false) | _=>false)&&xB fm x xo
   | _=>false)
 | .fM g fs cs=>(match o with | .makeFunc (.func f) fo co=>(match fm g with | some f'=>f'==f | none=>false)&&xsB fm fs fo.toList&&xsB fm cs co.toList | _=>false)
 | .gJ=>(match o with | .makeMap _ none=>true | _=>false)
 | .bI n _ bytes zs l c=>(match o with
   | .makeSlice t lo co=>(match P.underlying t with
     | some (.slice e)=>(match P.info? e with | some i=>i.size==n&&i.bytes==bytes | none=>false)&&jt P e zs&&zs.length==n&&xB fm l lo&&xB fm c co
     | _=>false)
   | _=>false)
 | .jB n bytes l c=>(match o with
   | .makeSlice t lo co=>(match P.underlying t with
     | some (.slice e)=>(match P.info? e with | some i=>i.size==n&&i.bytes==bytes | none=>false)&&(aX P e).isSome&&xB fm l lo&&xB fm c co
     | _=>false)
   | _=>false)
 | .slice true _ x lo hi mx=>(match o with | .slice t xo lo' hi' none=>(match P.underlying t with | some .string=>true | _=>false)&&mx.isNone&&xB fm x xo&&xoB fm lo lo'&&xoB fm hi hi' | _=>false)
 | .slice false n x lo hi mx=>(match o with
   | .slice t xo lo' hi' mx'=>(match P.underlying t with | some (.slice e)=>(match P.info? e with | some i=>i.size==n | none=>false) | _=>false)&&xB fm x xo&&xoB fm lo lo'&&xoB fm hi hi'&&xoB fm mx mx'
   | _=>false)
 | .fF off x=>(match o with
   | .fieldAddr s xo k=>(match P.underlying s with | some (.struct fs)=>(match fs[k]? with | some f=>(match P.info? f.type with | some i => !(i.size==0) | none=>false)&&f.offset==off | none=>false) | _=>false)&&xB fm x xo
   | _=>false)
 | .field n ag off x=>(match o with
   | .field s xo k=>(match P.underlying s with | some (.struct fs)=>(match fs[k]? with | some f=>iW P f.type n ag&&f.offset==off | none=>false) | _=>false)&&xB fm x xo
   | _=>false)
 | .aE n x j=>(match o with
   | .indexAddr t xo jo=>(match P.underlying t with | some (.slice e)=>(match P.info? e with | some i=>i.size==n | none=>false) | _=>false)&&xB fm x xo&&xB fm j jo
   | _=>false)
 | .fT n len x j=>(match o with
   | .indexAddr t xo jo=>(match P.underlying t with | some (.array l e)=>l==len&&(match P.info? e with | some i=>i.size==n | none=>false) | _=>false)&&xB fm x xo&&xB fm j jo
   | _=>false)
 | .index x j=>(match o with | .index t xo jo=>(match P.underlying t with | some .string=>true | _=>false)&&xB fm x xo&&xB fm j jo | _=>false)
 | .jO n ag len x j=>(match o with
   | .index t xo jo=>(match P.underlying t with | some (.array l e)=>l==len&&iW P e n ag | _=>false)&&xB fm x xo&&xB fm j jo
   | _=>false)
 | .lookup ks zero x j ok=>(match o with
   | .lookup t xo jo ok'=>(ok==ok')&&(match P.underlying t with | some (.map k e)=>oN P k ks&&De P e zero | _=>false)&&xB fm x xo&&xB fm j jo
   | _=>false)
 | .eQ ks m k v=>(match o with
   | .mapUpdate t mo ko vo=>(match P.underlying t with | some (.map kt _)=>oN P kt ks | _=>false)&&xB fm m mo&&xB fm k ko&&xB fm v vo
   | _=>false)
 | .extract x i=>(match o with | .extract xo j=>i==j&&xB fm x xo | _=>false)
 | .iface t x=>(match o with | .makeInterface t' xo=>t==t'&&(match P.underlying t with | some (.interface _)=>false | some _=>true | none=>false)&&xB fm x xo | _=>false)
 | .len k x=>(match o with | .call c=>(match c.callee,c.args.toList,c.argTypes.toList with | .builtin .len,[xo],[t]=>uG P t k&&xB fm x xo | _,_,_=>false) | _=>false)
 | .wZ n=>(match o with
   | .call c=>(match c.callee,c.args.toList,c.argTypes.toList with
     | .builtin .len,[_],[t]=>(match P.underlying t with | some (.array m _)=>m==n | _=>false)
     | .builtin .cap,[_],[t]=>(match P.underlying t with | some (.array m _)=>m==n | _=>false)
     | _,_,_=>false)
   | _=>false)
 | .cap x=>(match o with | .call c=>(match c.callee,c.args.toList,c.argTypes.toList with | .builtin .cap,[xo],[t]=>(match P.underlying t with | some (.slice _)=>true | _=>false)&&xB fm x xo | _,_,_=>false) | _=>false)
 | .append n ag bytes x y=>(match o with
   | .call c=>(match c.callee,c.args.toList,c.argTypes.toList with
     | .builtin .append,[xo,yo],[t,u]=>(match P.underlying t with
       | some (.slice e)=>(match P.info? e with | some i=>i.size==n&&i.bytes==bytes | none=>false)&&(match aX P e with | some zs=>zs.length==n | none=>false)&&(ag||n==1)&&dM P u&&xB fm x xo&&xB fm y yo
       | _=>false)
     | _,_,_=>false)
   | _=>false)
 | .dC n ag bytes x y=>(match o with
   | .call c=>(match c.callee,c.args.toList,c.argTypes.toList with
     | .builtin .append,[xo,yo],[t,u]=>(match P.underlying t with
       | some (.slice e)=>(match P.info? e with | some i=>i.size==n&&i.bytes==bytes | none=>false)&&(match aX P e with | some zs=>zs.length==n | none=>false)&&(ag||n==1)&&dM P u&&xB fm x xo&&xB fm y yo
       | _=>false)
     | _,_,_=>false)
   | _=>false)
 | .clear n zs x=>(match o with
   | .call c=>(match c.callee,c.args.toList,c.argTypes.toList with
     | .builtin .clear,[xo],[t]=>(match P.underlying t with
       | some (.slice e)=>(match P.info? e with | some i=>i.size==n | none=>false)&&jt P e zs&&zs.length==n&&xB fm x xo
       | _=>false)
     | _,_,_=>false)
   | _=>false)
 | .copy n x y=>(match o with
   | .call c=>(match c.callee,c.args.toList,c.argTypes.toList with
     | .builtin .copy,[xo,yo],[t,_]=>(match P.underlying t with | some (.slice e)=>(match P.info? e with | some i=>i.size==n | none=>false) | _=>false)&&xB fm x xo&&xB fm y yo
     | _,_,_=>false)
   | _=>false)
 | .max args=>(match o with | .call c=>(match c.callee with | .builtin .max=>xsB fm args c.args.toList | _=>false) | _=>false)
 | .min args=>(match o with | .call c=>(match c.callee with | .builtin .min=>xsB fm args c.args.toList | _=>false) | _=>false)
 | .call .. | .bt .. | .dd .. => false
 | .iD ty zs=>(match o with | .alloc e=>e==ty&&jt P e zs | _=>false)
 | .conv ty n x=>(match o with
   | .convert s d xo=>(match P.underlying s,P.underlying d with
     | some (.pointer t),some .unsafePointer=>(match P.info? t with | some j => !(j.size==0) | none=>false)&&Nat.blt 0 n
     | some .unsafePointer,some (.pointer u)=>(P.info? u).isSome&&liesAt P P.depth ty (n/P.cellsOf ty) 0 u 1
     | _,_=>false)&&xB fm x xo
   | _=>false)
 | .fv ty bytes x y=>(match o with
   | .call c=>(match c.callee,c.args.toList,c.argTypes.toList with
     | .builtin .append,[xo,yo],[t,u]=>(match P.underlying t with
       | some (.slice e)=>e==ty&&(match P.info? e with | some i=>i.size==1&&i.bytes==bytes | none=>false)&&(match aX P e with | some zs=>zs.length==1 | none=>false)&&dM P u&&xB fm x xo&&xB fm y yo
       | _=>false)
     | _,_,_=>false)
   | _=>false)
 | .iq x=>(match o with
   | .call c=>(match c.callee,c.args.toList,c.argTypes.toList with
     | .builtin .unsafeSliceData,[xo],[_]=>xB fm x xo
     | _,_,_=>false)
   | _=>false)
 | .rp ty x l=>(match o with
   | .call c=>(match c.callee,c.args.toList,c.argTypes.toList with
     | .builtin .unsafeString,[xo,lo],[pt,_]=>(match P.underlying pt with | some (.pointer e)=>e==ty&&P.cellsOf e==1 | _=>false)&&xB fm x xo&&xB fm l lo
     | _,_,_=>false)
   | _=>false)
 | .jl _ _ len x=>(match o with
   | .slice t xo none none none=>(match P.underlying t with
     | some (.pointer arr)=>(match P.underlying arr with | some (.array l e)=>l==len&&(P.info? e).isSome | _=>false)
     | some (.array l e)=>l==len&&(P.info? e).isSome
     | _=>false)&&xB fm x xo
   | _=>false)
 | .got .. => false
 | .fail=>(match o with | .defer _=>false | _=>true)
end Go.D
end
section
namespace Go.D
open Go.RowKit
variable {P:Program} {fm:FM}
theorem dB {b:Builtin} {c:Call} {as_:List Operand} {ts:List TypeId} {op:Op} (ho:op=.call c) (h1:c.callee=.builtin b) (h2:c.args.toList=as_) (h3:c.argTypes.toList=ts):builtinCall b as_ ts op:=⟨c,ho,h1,h2,h3⟩
theorem vZ {e:TypeId} {n:Nat} (h:(match P.info? e with | some i=>i.size==n | none=>false)=true):∃ i,P.info? e=some i∧i.size=n:=by
 split at h
 · rename_i i hi;exact ⟨i,hi,eq_of_beq h⟩
 · cases h
theorem oa {e:TypeId} {n b:Nat} (h:(match P.info? e with | some i=>i.size==n&&i.bytes==b | none=>false)=true):∃ i,P.info? e=some i∧i.size=n∧i.bytes=b:=by
 split at h
 · rename_i i hi;simp only [Bool.and_eq_true] at h;exact ⟨i,hi,eq_of_beq h.1,eq_of_beq h.2⟩
 · cases h
theorem Bj {α:Type} {o:Option α} (h:o.isSome=true):∃ x,o=some x:=Option.isSome_iff_exists.1 h
theorem zS {t:TypeId} (h:(match P.underlying t with | some .string=>true | _=>false)=true):P.underlying t=some .string:=by
 split at h
 · assumption
 · cases h
theorem yv {t:TypeId} (h:(match P.underlying t with | some (.slice e)=>(match P.underlying e with | some (.int k)=>decide (k=.u8) | _=>false) | _=>false)=true):∃ e,P.underlying t=some (.slice e)∧P.underlying e=some (.int .u8):=by
 split at h
 · rename_i e he
   split at h
   · rename_i k hk
     have:=of_decide_eq_true h
     subst this
     exact ⟨e,he,hk⟩
   · cases h
 · cases h
theorem slB {t:TypeId} {n:Nat} (h:(match P.underlying t with | some (.slice e)=>(match P.info? e with | some i=>i.size==n | none=>false) | _=>false)=true):∃ e i,P.underlying t=some (.slice e)∧P.info? e=some i∧i.size=n:=by
 split at h
 · rename_i e he
   obtain ⟨i,h1,h2⟩:=vZ h
   exact ⟨e,i,he,h1,h2⟩
 · cases h
theorem orB {ag:Bool} {n:Nat} (h:(ag||n==1)=true):ag=true∨n=1:=by
 simp only [Bool.or_eq_true] at h
 rcases h with h | h
 · exact .inl h
 · exact .inr (eq_of_beq h)
theorem W4 {r:ROp} {o:Oper} (h:opB P fm r o.op=true):az P fm r o:=by
 cases r with
 | mv x=>
   simp only [opB] at h
   split at h
   · exact wo (.inl (by assumption)) (aL h)
   · exact wo (.inr (by assumption)) (aL h)
   · cases h
 | pick c a b=>
   simp only [opB] at h
   split at h
   · simp only [Bool.and_eq_true] at h
     exact z5 (by assumption) (aL h.1.1) (aL h.1.2) (aL h.2)
   · cases h
 | alloc zs=>
   simp only [opB] at h
   split at h
   · exact vJ (by assumption) (dE h)
   · cases h
 | box n x=>
   simp only [opB] at h
   split at h
   · exact BL (by assumption) (aL h)
   · cases h
 | build zs parts=>
   simp only [opB] at h
   split at h
   · simp only [Bool.and_eq_true] at h
     exact xm (by assumption) (dE h.1.1) h.1.2 (sD h.2)
   · cases h
 | lit n ag zs len parts=>
   simp only [opB] at h
   split at h
   · rename_i ho
     simp only [Bool.and_eq_true] at h
     have hl:=eq_of_beq h.1
     subst hl
     have h:=h.2
     split at h
     · rename_i e he
       simp only [Bool.and_eq_true] at h
       obtain ⟨⟨⟨⟨⟨h1,h2⟩,h3⟩,h4⟩,h5⟩,h6⟩:=h
       obtain ⟨i,hi,hn⟩:=vZ h1
       exact Ca ho he hi hn (dE h2) (eq_of_beq h3) (orB h4) (Nat.le_of_ble_eq_true h5) (qL h6)
     · cases h
   · cases h
 | kA n ag zs len parts=>
   simp only [opB] at h
   split at h
   · rename_i ho
     simp only [Bool.and_eq_true] at h
     have hl:=eq_of_beq h.1
     subst hl
     have h:=h.2
     split at h
     · rename_i e he
       simp only [Bool.and_eq_true] at h
       obtain ⟨⟨⟨⟨h1,h2⟩,h3⟩,h5⟩,h6⟩:=h
       obtain ⟨i,hi,hn⟩:=vZ h1
       exact zx ho he hi hn (dE h2) (eq_of_beq h3) (Nat.le_of_ble_eq_true h5) (qL h6)
     · cases h
   · cases h
 | load n ag x=>
   simp only [opB] at h
   split at h
   · simp only [Bool.and_eq_true] at h
     exact zF (by assumption) (gT h.1) (aL h.2)
   · cases h
 | store n x v=>
   simp only [opB] at h
   split at h
   · simp only [Bool.and_eq_true] at h
     obtain ⟨i,hi,hn⟩:=vZ h.1.1
     exact vF (by assumption) hi hn (aL h.1.2) (aL h.2)
   · cases h
 | al x=>
   simp only [opB] at h
   split at h
   · exact uW (by assumption) (aL h)
   · cases h
 | bin op x y=>
   simp only [opB] at h
   split at h
   · rename_i ho
     simp only [Bool.and_eq_true] at h
     have:=of_decide_eq_true h.1.1
     subst this
     exact B9 ho (aL h.1.2) (aL h.2)
   · cases h
 | eq k neg x y=>
   simp only [opB] at h
   split at h
   · rename_i ho
     simp only [Bool.and_eq_true] at h
     have:=of_decide_eq_true h.1.1.1
     subst this
     exact DI ho h.1.1.2 (aL h.1.2) (aL h.2)
   · cases h
 | un op x=>
   simp only [opB] at h
   split at h
   · rename_i ho
     simp only [Bool.and_eq_true] at h
     have:=of_decide_eq_true h.1
     subst this
     exact Ed ho (aL h.2)
   · cases h
 | i2i k x=>
   simp only [opB] at h
   split at h
   · rename_i ho
     simp only [Bool.and_eq_true] at h
     obtain ⟨⟨h1,h2⟩,h3⟩:=h
     obtain ⟨e,he⟩:=Bj h1
     split at h2
     · rename_i k' hk
       have:=of_decide_eq_true h2
       subst this
       exact Cy ho he hk (aL h3)
     · cases h2
   · cases h
 | i2s x=>
   simp only [opB] at h
   split at h
   · rename_i ho
     simp only [Bool.and_eq_true] at h
     obtain ⟨⟨h1,h2⟩,h3⟩:=h
     obtain ⟨e,he⟩:=Bj h1
     exact CF ho he (zS h2) (aL h3)
   · cases h
 | same x=>
   simp only [opB] at h
   split at h
   · rename_i ho
     simp only [Bool.and_eq_true] at h
     obtain ⟨⟨h1,h2⟩,h3⟩:=h
     obtain ⟨e,he⟩:=Bj h1
     exact yN ho he (zS h2) (aL h3)
   · cases h
 | s2b x=>
   simp only [opB] at h
   split at h
   · rename_i ho
     simp only [Bool.and_eq_true] at h
     obtain ⟨⟨h1,h2⟩,h3⟩:=h
     obtain ⟨e,he,hu⟩:=yv h2
     exact Cm ho (zS h1) he hu (aL h3)
   · cases h
 | s2h x=>
   simp only [opB] at h
   split at h
   · rename_i ho
     simp only [Bool.and_eq_true] at h
     obtain ⟨⟨h1,h2⟩,h3⟩:=h
     obtain ⟨e,he,hu⟩:=yv h2
     exact Cv ho (zS h1) he hu (aL h3)
   · cases h
 | b2s x=>
   simp only [opB] at h
   split at h
   · rename_i ho
     simp only [Bool.and_eq_true] at h
     obtain ⟨⟨h1,h2⟩,h3⟩:=h
     obtain ⟨e,he,hu⟩:=yv h2
     exact Cs ho he hu (zS h1) (aL h3)
   · cases h
 | fM g fs cs=>
   simp only [opB] at h
   split at h
   · rename_i ho
     simp only [Bool.and_eq_true] at h
     obtain ⟨⟨h1,h2⟩,h3⟩:=h
     split at h1
     · rename_i f' hf
       have:=eq_of_beq h1
       subst this
       exact zX ho hf (kg h2) (kg h3)
     · cases h1
   · cases h
 | gJ=>
   simp only [opB] at h
   split at h
   · exact wb (by assumption)
   · cases h
 | bI n ag bytes zs l c=>
   simp only [opB] at h
   split at h
   · rename_i ho
     split at h
     · rename_i e he
       simp only [Bool.and_eq_true] at h
       obtain ⟨⟨⟨⟨h1,h2⟩,h3⟩,h4⟩,h5⟩:=h
       obtain ⟨i,hi,hn,hb⟩:=oa (P:=P) (e:=e) (n:=n) (b:=bytes) (by
        split
        · rename_i i hi;rw [hi] at h1;simpa using h1
        · rename_i hi;rw [hi] at h1;cases h1)
       exact rq ho he hi hn hb (dE h2) (eq_of_beq h3) (aL h4) (aL h5)
     · cases h
   · cases h
 | jB n bytes l c=>
   simp only [opB] at h
   split at h
   · rename_i ho
     split at h
     · rename_i e he
       simp only [Bool.and_eq_true] at h
       obtain ⟨⟨⟨h1,h2⟩,h4⟩,h5⟩:=h
       obtain ⟨i,hi,hn,hb⟩:=oa (P:=P) (e:=e) (n:=n) (b:=bytes) (by
        split
        · rename_i i hi;rw [hi] at h1;simpa using h1
        · rename_i hi;rw [hi] at h1;cases h1)
       obtain ⟨zs,hz⟩:=Bj h2
       exact vk ho he hi hn hb hz (aL h4) (aL h5)
     · cases h
   · cases h
 | slice str n x lo hi mx=>
   cases str with
   | true=>
     simp only [opB] at h
     split at h
     · rename_i ho
       simp only [Bool.and_eq_true] at h
       obtain ⟨⟨⟨⟨h1,h2⟩,h3⟩,h4⟩,h5⟩:=h
       have:mx=none:=Option.isNone_iff_eq_none.1 h2
       subst this
       exact o6 ho (zS h1) (aL h3) (pR h4) (pR h5)
     · cases h
   | false=>
     simp only [opB] at h
     split at h
     · rename_i ho
       simp only [Bool.and_eq_true] at h
       obtain ⟨⟨⟨⟨h1,h2⟩,h3⟩,h4⟩,h5⟩:=h
       obtain ⟨e,i,he,hi,hn⟩:=slB h1
       exact xe ho he hi hn (aL h2) (pR h3) (pR h4) (pR h5)
     · cases h
 | fF off x=>
   simp only [opB] at h
   split at h
   · rename_i ho
     simp only [Bool.and_eq_true] at h
     obtain ⟨h1,h2⟩:=h
     split at h1
     · rename_i fs hfs
       split at h1
       · rename_i f hf
         simp only [Bool.and_eq_true] at h1
         obtain ⟨h3,h4⟩:=h1
         split at h3
         · rename_i i hi
           exact wC ho hfs hf hi (by intro e;rw [e] at h3;simp at h3) (eq_of_beq h4) (aL h2)
         · cases h3
       · cases h1
     · cases h1
   · cases h
 | field n ag off x=>
   simp only [opB] at h
   split at h
   · rename_i ho
     simp only [Bool.and_eq_true] at h
     obtain ⟨h1,h2⟩:=h
     split at h1
     · rename_i fs hfs
       split at h1
       · rename_i f hf
         simp only [Bool.and_eq_true] at h1
         exact wF ho hfs hf (gT h1.1) (eq_of_beq h1.2) (aL h2)
       · cases h1
     · cases h1
   · cases h
 | aE n x j=>
   simp only [opB] at h
   split at h
   · rename_i ho
     simp only [Bool.and_eq_true] at h
     obtain ⟨⟨h1,h2⟩,h3⟩:=h
     obtain ⟨e,i,he,hi,hn⟩:=slB h1
     exact wW ho he hi hn (aL h2) (aL h3)
   · cases h
 | fT n len x j=>
   simp only [opB] at h
   split at h
   · rename_i ho
     simp only [Bool.and_eq_true] at h
     obtain ⟨⟨h1,h2⟩,h3⟩:=h
     split at h1
     · rename_i l e he
       simp only [Bool.and_eq_true] at h1
       obtain ⟨i,hi,hn⟩:=vZ (P:=P) (e:=e) (n:=n) (by
        have h1:=h1.2
        split
        · rename_i i hi;rw [hi] at h1;simpa using h1
        · rename_i hi;rw [hi] at h1;cases h1)
       have:=eq_of_beq h1.1
       subst this
       exact ux ho he hi hn (aL h2) (aL h3)
     · cases h1
   · cases h
 | index x j=>
   simp only [opB] at h
   split at h
   · rename_i ho
     simp only [Bool.and_eq_true] at h
     exact wD ho (zS h.1.1) (aL h.1.2) (aL h.2)
   · cases h
 | jO n ag len x j=>
   simp only [opB] at h
   split at h
   · rename_i ho
     simp only [Bool.and_eq_true] at h
     obtain ⟨⟨h1,h2⟩,h3⟩:=h
     split at h1
     · rename_i l e he
       simp only [Bool.and_eq_true] at h1
       have:=eq_of_beq h1.1
       subst this
       exact tH ho he (gT h1.2) (aL h2) (aL h3)
     · cases h1
   · cases h
 | lookup ks zero x j ok=>
   simp only [opB] at h
   split at h
   · rename_i ho
     simp only [Bool.and_eq_true] at h
     obtain ⟨⟨⟨h0,h1⟩,h2⟩,h3⟩:=h
     split at h1
     · rename_i k e he
       simp only [Bool.and_eq_true] at h1
       have:=eq_of_beq h0
       subst this
       exact vb ho he h1.1 (DZ h1.2) (aL h2) (aL h3)
     · cases h1
   · cases h
 | eQ ks m k v=>
   simp only [opB] at h
   split at h
   · rename_i ho
     simp only [Bool.and_eq_true] at h
     obtain ⟨⟨⟨h1,h2⟩,h3⟩,h4⟩:=h
     split at h1
     · rename_i kt e he
       exact uv ho he h1 (aL h2) (aL h3) (aL h4)
     · cases h1
   · cases h
 | extract x i=>
   simp only [opB] at h
   split at h
   · rename_i ho
     simp only [Bool.and_eq_true] at h
     have:=eq_of_beq h.1
     subst this
     exact rP ho (aL h.2)
   · cases h
 | iface t x=>
   simp only [opB] at h
   split at h
   · rename_i ho
     simp only [Bool.and_eq_true] at h
     obtain ⟨⟨h0,h1⟩,h2⟩:=h
     have:=eq_of_beq h0
     subst this
     split at h1
     · cases h1
     · rename_i d hne hd
       exact vK ho (aL h2) hd (by cases d<;>first | rfl | exact absurd rfl (hne _))
     · cases h1
   · cases h
 | len k x=>
   simp only [opB] at h
   split at h
   · rename_i c ho
     split at h
     · rename_i h1 h2 h3
       simp only [Bool.and_eq_true] at h
       exact BE (dB ho h1 h2 h3) h.1 (aL h.2)
     · cases h
   · cases h
 | wZ n=>
   simp only [opB] at h
   split at h
   · rename_i c ho
     split at h
     · rename_i h1 h2 h3
       split at h
       · rename_i m e he
         have:=eq_of_beq h
         subst this
         exact qm (.inl (dB ho h1 h2 h3)) he
       · cases h
     · rename_i h1 h2 h3
       split at h
       · rename_i m e he
         have:=eq_of_beq h
         subst this
         exact qm (.inr (dB ho h1 h2 h3)) he
       · cases h
     · cases h
   · cases h
 | cap x=>
   simp only [opB] at h
   split at h
   · rename_i c ho
     split at h
     · rename_i h1 h2 h3
       simp only [Bool.and_eq_true] at h
       obtain ⟨h4,h5⟩:=h
       split at h4
       · rename_i e he
         exact B1 (dB ho h1 h2 h3) he (aL h5)
       · cases h4
     · cases h
   · cases h
 | append n ag bytes x y=>
   simp only [opB] at h
   split at h
   · rename_i c ho
     split at h
     · rename_i h1 h2 h3
       split at h
       · rename_i e he
         simp only [Bool.and_eq_true] at h
         obtain ⟨⟨⟨⟨⟨g1,g2⟩,g3⟩,g4⟩,g5⟩,g6⟩:=h
         obtain ⟨i,hi,hn,hb⟩:=oa (P:=P) (e:=e) (n:=n) (b:=bytes) (by
          split
          · rename_i i hi;rw [hi] at g1;simpa using g1
          · rename_i hi;rw [hi] at g1;cases g1)
         split at g2
         · rename_i zs hz
           exact mN (dB ho h1 h2 h3) he g4 hi hn hb hz (eq_of_beq g2) (orB g3) (aL g5) (aL g6)
         · cases g2
       · cases h
     · cases h
   · cases h
 | dC n ag bytes x y=>
   simp only [opB] at h
   split at h
   · rename_i c ho
     split at h
     · rename_i h1 h2 h3
       split at h
       · rename_i e he
         simp only [Bool.and_eq_true] at h
         obtain ⟨⟨⟨⟨⟨g1,g2⟩,g3⟩,g4⟩,g5⟩,g6⟩:=h
         obtain ⟨i,hi,hn,hb⟩:=oa (P:=P) (e:=e) (n:=n) (b:=bytes) (by
          split
          · rename_i i hi;rw [hi] at g1;simpa using g1
          · rename_i hi;rw [hi] at g1;cases g1)
         split at g2
         · rename_i zs hz
           exact rD (dB ho h1 h2 h3) he g4 hi hn hb hz (eq_of_beq g2) (orB g3) (aL g5) (aL g6)
         · cases g2
       · cases h
     · cases h
   · cases h
 | clear n zs x=>
   simp only [opB] at h
   split at h
   · rename_i c ho
     split at h
     · rename_i h1 h2 h3
       split at h
       · rename_i e he
         simp only [Bool.and_eq_true] at h
         obtain ⟨⟨⟨g1,g2⟩,g3⟩,g4⟩:=h
         split at g1
         · rename_i i hi
           exact wU (dB ho h1 h2 h3) he hi (eq_of_beq g1) (dE g2) (eq_of_beq g3) (aL g4)
         · cases g1
       · cases h
     · cases h
   · cases h
 | copy n x y=>
   simp only [opB] at h
   split at h
   · rename_i c ho
     split at h
     · rename_i h1 h2 h3
       simp only [Bool.and_eq_true] at h
       obtain ⟨⟨g1,g2⟩,g3⟩:=h
       obtain ⟨e,i,he,hi,hn⟩:=slB g1
       exact yD (dB ho h1 h2 h3) he hi hn (aL g2) (aL g3)
     · cases h
   · cases h
 | max args=>
   simp only [opB] at h
   split at h
   · rename_i c ho
     split at h
     · rename_i h1
       exact BJ (dB ho h1 rfl rfl) (kg h)
     · cases h
   · cases h
 | min args=>
   simp only [opB] at h
   split at h
   · rename_i c ho
     split at h
     · rename_i h1
       exact B2 (dB ho h1 rfl rfl) (kg h)
     · cases h
   · cases h
 | call g args=>simp [opB] at h
 | bt f args=>simp [opB] at h
 | dd f args=>simp [opB] at h
 | iD ty zs=>
   simp only [opB] at h
   split at h
   · rename_i e ho
     simp only [Bool.and_eq_true] at h
     have:=eq_of_beq h.1
     subst this
     exact va ho (dE h.2)
   · cases h
 | conv ty n x=>
   simp only [opB] at h
   split at h
   · rename_i s d xo ho
     simp only [Bool.and_eq_true] at h
     obtain ⟨h1,h2⟩:=h
     split at h1
     · rename_i t hs hd
       simp only [Bool.and_eq_true] at h1
       obtain ⟨h3,h4⟩:=h1
       split at h3
       · rename_i j hj
         exact uT ho hs hd hj (by simpa using h3) (Nat.le_of_ble_eq_true h4) (aL h2)
       · cases h3
     · rename_i u hs hd
       simp only [Bool.and_eq_true] at h1
       obtain ⟨j,hj⟩:=Option.isSome_iff_exists.1 h1.1
       exact qV ho hs hd hj h1.2 (aL h2)
     · cases h1
   · cases h
 | fv ty bytes x y=>
   simp only [opB] at h
   split at h
   · rename_i c ho
     split at h
     · rename_i h1 h2 h3
       split at h
       · rename_i e he
         simp only [Bool.and_eq_true] at h
         obtain ⟨⟨⟨⟨⟨g0,g1⟩,g2⟩,g4⟩,g5⟩,g6⟩:=h
         have:=eq_of_beq g0
         subst this
         obtain ⟨i,hi,hn,hb⟩:=oa (P:=P) (e:=e) (n:=1) (b:=bytes) (by
          split
          · rename_i i hi;rw [hi] at g1;simpa using g1
          · rename_i hi;rw [hi] at g1;cases g1)
         split at g2
         · rename_i zs hz
           exact rL (dB ho h1 h2 h3) he g4 hi hn hb hz (eq_of_beq g2) (aL g5) (aL g6)
         · cases g2
       · cases h
     · cases h
   · cases h
 | iq x=>
   simp only [opB] at h
   split at h
   · rename_i c ho
     split at h
     · rename_i h1 h2 h3
       exact tO (dB ho h1 h2 h3) (aL h)
     · cases h
   · cases h
 | rp ty x l=>
   simp only [opB] at h
   split at h
   · rename_i c ho
     split at h
     · rename_i h1 h2 h3
       simp only [Bool.and_eq_true] at h
       obtain ⟨⟨g1,g2⟩,g3⟩:=h
       split at g1
       · rename_i e he
         simp only [Bool.and_eq_true] at g1
         have:=eq_of_beq g1.1
         subst this
         exact z3 (dB ho h1 h2 h3) he (eq_of_beq g1.2) (aL g2) (aL g3)
       · cases g1
     · cases h
   · cases h
 | jl n ag len x=>
   simp only [opB] at h
   split at h
   · rename_i t xo ho
     simp only [Bool.and_eq_true] at h
     obtain ⟨h1,h2⟩:=h
     split at h1
     · rename_i arr ht
       split at h1
       · rename_i l e ha
         simp only [Bool.and_eq_true] at h1
         have:=eq_of_beq h1.1
         subst this
         obtain ⟨i,hi⟩:=Option.isSome_iff_exists.1 h1.2
         exact tA ho ht ha hi (aL h2)
       · cases h1
     · rename_i l e ht
       simp only [Bool.and_eq_true] at h1
       have:=eq_of_beq h1.1
       subst this
       obtain ⟨i,hi⟩:=Option.isSome_iff_exists.1 h1.2
       exact rT ho ht hi (aL h2)
     · cases h1
   · cases h
 | got v xs=>simp only [opB] at h;cases h
 | fail=>
   intro CR G w0 st w fr a v st' hs hf hrun
   simp [aw] at hrun
def pY:ROp→Bool
 | .alloc _ | .gJ | .bI .. => true
 | _=>false
theorem Fj {r:ROp} {o:Oper} (h:opB P fm r o.op=true) (hf:pY r=true):jm P fm r o:=by
 cases r<;>simp only [pY,Bool.false_eq_true] at hf
 case alloc zs=>
  simp only [opB] at h
  split at h
  · exact rK (by assumption) (dE h)
  · cases h
 case gJ=>
  simp only [opB] at h
  split at h
  · exact rI (by assumption)
  · cases h
 case bI n ag bytes zs l c=>
  simp only [opB] at h
  split at h
  · rename_i ho
    split at h
    · rename_i e he
      simp only [Bool.and_eq_true] at h
      obtain ⟨⟨⟨⟨h1,h2⟩,h3⟩,h4⟩,h5⟩:=h
      obtain ⟨i,hi,hn,hb⟩:=oa (P:=P) (e:=e) (n:=n) (b:=bytes) (by
       split
       · rename_i i hi;rw [hi] at h1;simpa using h1
       · rename_i hi;rw [hi] at h1;cases h1)
      exact oR ho he hi hn hb (dE h2) (eq_of_beq h3) (aL h4) (aL h5)
    · cases h
  · cases h
end Go.D
end
section
namespace Go.D
open Go.RowKit
variable {P:Program} {fm:FM} {T:Tab}
def zJ (ops:Array Oper):Option (Nat×Bool)→Option (Nat×Bool)→Bool
 | none,none=>true
 | some (t,want),some (j,want')=>want==want'&&(match ops[j]? with | some o=>(match o.dst with | some u=>u==t | none=>false) | none=>false)
 | _,_=>false
theorem B3 {ops:Array Oper} {g g':Option (Nat×Bool)} (h:zJ ops g g'=true):kB ops g g':=by
 unfold zJ at h
 split at h
 · trivial
 · rename_i t want j want'
   simp only [Bool.and_eq_true] at h
   obtain ⟨h1,h2⟩:=h
   refine ⟨eq_of_beq h1,?_⟩
   split at h2
   · rename_i o ho
     split at h2
     · rename_i u hu
       rw [ho];simp [hu,eq_of_beq h2]
     · cases h2
   · cases h2
 · cases h
def ajm (N:Nat):Option Nat→Option Nat→Bool
 | none,none=>true
 | some a,some b=>a==b&&Nat.blt b N
 | _,_=>false
theorem Lz {N:Nat} {a b:Option Nat} (h:ajm N a b=true):a=b∧∀ t,b=some t→t<N:=by
 unfold ajm at h
 split at h
 · exact ⟨rfl,fun t h=>by cases h⟩
 · rename_i a b
   simp only [Bool.and_eq_true] at h
   have h2:=h.2
   refine ⟨by rw [eq_of_beq h.1],fun t ht => ?_⟩
   cases ht
   exact Nat.le_of_ble_eq_true h2
 · cases h
def xb (fm:FM):ROp→Op→Bool
 | .call g args,.call c=>(match c.callee with | .value (.func f)=>(match fm g with | some f'=>f'==f | none=>false)&&xsB fm args c.args.toList | _=>false)
 | .bt f args,.call c=>(match c.callee with | .value fo=>xB fm f fo&&xsB fm args c.args.toList | _=>false)
 | .dd f args,.call c=>(match c.callee with | .value fo=>xB fm f fo&&xsB fm args c.args.toList | _=>false)
 | _,_=>false
def vH (P:Program) (fm:FM) (N:Nat) (ops:Array Oper) (r:aq) (o:Oper):Bool:=
 ajm N r.dst o.dst&&zJ ops r.guard o.guard&&(if nN r.op then xb fm r.op o.op else opB P fm r.op o.op)
theorem E7 {N:Nat} {ops:Array Oper} {r:aq} {o:Oper} (h:vH P fm N ops r o=true):l8 P fm N ops r o:=by
 unfold vH at h
 simp only [Bool.and_eq_true] at h
 obtain ⟨⟨h1,h2⟩,h3⟩:=h
 obtain ⟨g1,g2⟩:=Lz h1
 have g3:=B3 h2
 have nd:∀ c,o.op≠.defer c:=by
  intro c e
  split at h3
  · unfold xb at h3
    rw [e] at h3
    split at h3<;>first | (cases h3;done) | (rename_i heq;cases heq)
  · unfold opB at h3
    rw [e] at h3
    split at h3<;>first | (cases h3;done) | (simp at h3;done)
 refine ⟨g1,g2,g3,nd,?_⟩
 cases hr:r.op with
 | call g args=>
   rw [hr] at h3
   simp only [nN,if_true] at h3
   unfold xb at h3
   split at h3
   · rename_i c heq ho
     cases heq
     split at h3
     · rename_i f hc
       simp only [Bool.and_eq_true] at h3
       obtain ⟨h4,h5⟩:=h3
       split at h4
       · rename_i f' hf
         have:=eq_of_beq h4
         subst this
         exact ⟨c,f',ho,hc,hf,kg h5⟩
       · cases h4
     · cases h3
   all_goals first | (rename_i heq _;cases heq;done) | cases h3
 | bt f args=>
   rw [hr] at h3
   simp only [nN,if_true] at h3
   unfold xb at h3
   split at h3
   · rename_i heq _;cases heq
   · rename_i c heq ho
     cases heq
     split at h3
     · rename_i fo hc
       simp only [Bool.and_eq_true] at h3
       exact ⟨c,fo,ho,hc,aL h3.1,kg h3.2⟩
     · cases h3
   · rename_i heq _;cases heq
   · cases h3
 | dd f args=>
   rw [hr] at h3
   simp only [nN,if_true] at h3
   unfold xb at h3
   split at h3
   · rename_i heq _;cases heq
   · rename_i heq _;cases heq
   · rename_i c heq ho
     cases heq
     split at h3
     · rename_i fo hc
       simp only [Bool.and_eq_true] at h3
       exact ⟨c,fo,ho,hc,aL h3.1,kg h3.2⟩
     · cases h3
   · cases h3
 | _=>
   rw [hr] at h3
   simp only [nN,if_false,Bool.false_eq_true] at h3
   exact W4 h3
def lx (P:Program) (fm:FM) (N:Nat) (ops:Array Oper):List aq→List Oper→Bool
 | [],[]=>true
 | r::rs,o::os=>vH P fm N ops r o&&lx P fm N ops rs os
 | _,_=>false
theorem wa {N:Nat} {ops:Array Oper}:∀ {rs:List aq} {os:List Oper},lx P fm N ops rs os=true→rs.length=os.length∧∀ (i:Nat) (r:aq),rs[i]? = some r→∃ o,os[i]? = some o∧l8 P fm N ops r o
 | [],[],_=>⟨rfl,fun i r h=>by simp at h⟩
 | r::rs,o::os,h=>by
   simp only [lx,Bool.and_eq_true] at h
   obtain ⟨h1,h2⟩:=wa h.2
   refine ⟨by simp [h1],fun i r' hr => ?_⟩
   cases i with
   | zero=>simp only [List.getElem?_cons_zero,Option.some.injEq] at hr;subst hr;exact ⟨o,rfl,E7 h.1⟩
   | succ i=>simpa using h2 i r' (by simpa using hr)
 | [],_::_,h=>by simp [lx] at h
 | _::_,[],h=>by simp [lx] at h
def aiS (P:Program) (fm:FM) (N:Nat) (rs:List aq) (ops:Array Oper):Bool:=lx P fm N ops rs ops.toList
theorem Ag {N:Nat} {rs:List aq} {ops:Array Oper} (h:aiS P fm N rs ops=true):vf P fm N rs ops:=by
 obtain ⟨h1,h2⟩:=wa h
 exact ⟨by simpa using h1,fun i r hr=>by simpa using h2 i r hr⟩
theorem yx {N:Nat} {ops:Array Oper} {r:aq} {o:Oper} (h:vH P fm N ops r o=true) (hf:pY r.op=true):jm P fm r.op o:=by
 unfold vH at h
 simp only [Bool.and_eq_true] at h
 obtain ⟨⟨h1,h2⟩,h3⟩:=h
 have hc:nN r.op=false:=by cases hr:r.op<;>rw [hr] at hf<;>first | rfl | cases hf
 rw [hc] at h3
 simp only [if_false,Bool.false_eq_true] at h3
 exact Fj h3 hf
theorem qp {N:Nat} {ops:Array Oper}:∀ {rs:List aq} {os:List Oper},lx P fm N ops rs os=true→∀ (i:Nat) (r:aq) (o:Oper),rs[i]? = some r→os[i]? = some o→pY r.op=true→jm P fm r.op o
 | [],[],_=>fun i r o h=>by simp at h
 | r::rs,o::os,h=>by
   simp only [lx,Bool.and_eq_true] at h
   intro i r' o' hr ho hf
   cases i with
   | zero=>
     simp only [List.getElem?_cons_zero,Option.some.injEq] at hr ho
     subst hr;subst ho
     exact yx h.1 hf
   | succ i=>exact qp h.2 i r' o' (by simpa using hr) (by simpa using ho) hf
 | [],_::_,h=>by simp [lx] at h
 | _::_,[],h=>by simp [lx] at h
end Go.D
end
section
namespace Go.D
open Go.RowKit
variable {P:Program} {fm:FM} {T:Tab}
def Kb (A:List (List Nat)) (o:Oper):List (List Nat):=
 A++[(o.after.toList.foldl (fun (s:List Nat) e=>if Region.binds .any e then s++(e.on::A.getD e.on []).filter (fun i => !s.contains i) else s) [])]
def Gk (ops:List Oper):List (List Nat):=ops.foldl Kb []
def gA {α:Type} (p:Nat→α→Bool):List α→Nat→Bool
 | [],_=>true
 | x::xs,i=>p i x&&gA p xs (i+1)
theorem vS {α:Type} {p:Nat→α→Bool}:∀ {l:List α} {k:Nat},gA p l k=true→∀ i x,l[i]? = some x→p (k+i) x=true
 | [],_,_,i,x,h=>by simp at h
 | y::ys,k,h,i,x,hx=>by
   simp only [gA,Bool.and_eq_true] at h
   cases i with
   | zero=>simp only [List.getElem?_cons_zero,Option.some.injEq] at hx;subst hx;exact h.1
   | succ i=>
     have:=vS h.2 i x (by simpa using hx)
     rwa [show k+1+i=k+(i+1) by omega] at this
theorem je {α:Type} {p:Nat→α→Bool} {l:List α} (h:gA p l 0=true) (i:Nat) (x:α) (hx:l[i]? = some x):p i x=true:=by
 have:=vS h i x hx
 rwa [Nat.zero_add] at this
def E5 (r:aq) (t:Nat):Bool:=match r.dst with | some u=>u==t | none=>false
theorem E4 {r:aq} {t:Nat} (h:r.dst=some t):E5 r t=true:=by unfold E5;rw [h];simp
def A3 (A:List (List Nat)) (j:Nat) (o:Oper):Bool:=
 (A.getD j []).all (fun i=>Nat.blt i j&&o.after.toList.any (fun e=>Region.binds .any e&&(e.on==i||(Nat.blt e.on j&&(A.getD e.on []).contains i)))) &&
 o.after.toList.all (fun e => !Region.binds .any e||Nat.blt e.on j)
def vQ (pf:Nat→Bool) (A:List (List Nat)) (i:Nat) (r:aq) (j:Nat) (r':aq):Bool:=
 (!(Nat.blt i j) || !(bh pf r.op) || !(bh pf r'.op)||(A.getD j []).contains i) &&
 (match r.dst with
  | none=>true
  | some t=>(i==j || !E5 r' t)&&(!(r'.reads.contains t)||(!(i==j)&&(!(Nat.blt i j)||(A.getD j []).contains i)&&(!(Nat.blt j i)||(A.getD i []).contains j))))
def sa (rs:List aq) (chk:List (Nat×List Nat)):Bool:=
 chk.all fun (j,_)=>match rs[j]? with
  | none=>true
  | some r=>gA (fun i r'=>match r'.dst with | none=>true | some t => !(r.reads.contains t)||Nat.blt i j) rs 0
def CT (pf:Nat→Bool) (A:List (List Nat)) (rs:List aq) (chk:List (Nat×List Nat)) (j:Nat) (r:aq):Bool:=
 bh pf r.op||ca r.op||(List.range (ay pf rs rs.length+1)).all fun v=>
  !(gA (fun i r' => !(bh pf r'.op) || !((A.getD j []).contains i)||Nat.blt (ay pf rs i) v) rs 0) ||
  !(gA (fun i r' => !(bh pf r'.op) || !((A.getD i []).contains j)||Nat.ble v (ay pf rs i)) rs 0) ||
  v==ay pf rs j||(r.dst.isSome&&chk.any fun (j',vs)=>j'==j&&vs.contains v)
def DC (pf:Nat→Bool) (rs:List aq) (chk:List (Nat×List Nat)) (ops:Array Oper) (A:List (List Nat)):Bool:=
 gA (A3 A) ops.toList 0&&sa rs chk&&gA (fun i r=>gA (fun j r'=>vQ pf A i r j r') rs 0) rs 0&&gA (CT pf A rs chk) rs 0
def E6 (rs:List aq) (j:Nat):Bool:=match rs[j]? with | some r=>pY r.op | none=>true
def ER (P:Program) (fm:FM) (pf:Nat→Bool) (N:Nat) (rs:List aq) (hs:List Nat) (chk:List (Nat×List Nat)) (ops:Array Oper) (A:List (List Nat)):Bool:=
 aiS P fm N rs ops&&DC pf (mA hs 0 rs) chk ops A&&hs.all (E6 rs)
theorem pk {a b:Nat} (h:Nat.blt a b=true):a<b:=Nat.le_of_ble_eq_true h
theorem tQ {a b:Nat} (h:a<b):Nat.blt a b=true:=Nat.ble_eq_true_of_le h
theorem contains_of {l:List Nat} {i:Nat} (h:l.contains i=true):i∈l:=List.contains_iff_mem.1 h
theorem oC {l:List Nat} {i:Nat} (h:i∈l):l.contains i=true:=List.contains_iff_mem.2 h
theorem wH {a b:Bool} (h:(!a||b)=true) (ha:a=true):b=true:=by subst ha;simpa using h
theorem po {α:Type} {p:Nat→α→Bool}:∀ {l:List α} {k:Nat},(∀ i x,l[i]? = some x→p (k+i) x=true)→gA p l k=true
 | [],_,_=>rfl
 | y::ys,k,h=>by
   simp only [gA,Bool.and_eq_true]
   refine ⟨h 0 y rfl,po fun i x hx => ?_⟩
   have:=h (i+1) x (by simpa using hx)
   rwa [show k+1+i=k+(i+1) by omega]
theorem DY {rs:List aq} {chk:List (Nat×List Nat)} {ops:Array Oper} {A:List (List Nat)} (h:DC (ab T) rs chk ops A=true):ou T rs chk ops (fun j=>A.getD j []):=by
 unfold DC at h
 simp only [Bool.and_eq_true] at h
 obtain ⟨⟨⟨h2,h3⟩,h4⟩,h5⟩:=h
 have hj:∀ (j:Nat) (o:Oper),ops[j]? = some o→A3 A j o=true:=fun j o ho=>je h2 j o (by simpa using ho)
 have hp:∀ (i j:Nat) (r r':aq),rs[i]? = some r→rs[j]? = some r'→vQ (ab T) A i r j r'=true:=fun i j r r' hr hr'=>je (je h4 i r hr) j r' hr'
 refine { Cr:=?_,sC:=?_,iY:=?_,uw:=?_,gg:=?_,kR:=?_,cover:=?_ }
 · intro j o ho i hi
   have:=hj j o ho
   unfold A3 at this
   simp only [Bool.and_eq_true] at this
   have:=List.all_eq_true.1 this.1 i hi
   simp only [Bool.and_eq_true] at this
   refine ⟨pk this.1,?_⟩
   obtain ⟨e,he,hb⟩:=List.any_eq_true.1 this.2
   simp only [Bool.and_eq_true,Bool.or_eq_true] at hb
   refine ⟨e,he,hb.1,?_⟩
   rcases hb.2 with h | h
   · exact .inl (eq_of_beq h)
   · exact .inr ⟨pk h.1,contains_of h.2⟩
 · intro j o ho e he hb
   have:=hj j o ho
   unfold A3 at this
   simp only [Bool.and_eq_true] at this
   exact pk (wH (List.all_eq_true.1 this.2 e he) hb)
 · intro j vs r hc hr i t r' hr' hd ht
   unfold sa at h3
   have:=List.all_eq_true.1 h3 _ hc
   simp only [hr] at this
   have:=je this i r' hr'
   simp only [hd] at this
   exact pk (wH this (oC ht))
 · intro i j r r' hij hr hr' hl hl'
   have:=hp i j r r' hr hr'
   unfold vQ at this
   simp only [Bool.and_eq_true] at this
   have:=this.1
   rw [tQ hij,hl,hl'] at this
   exact contains_of (by simpa using this)
 · intro i j t r r' hij hr hr' hd hd'
   have:=hp i j r r' hr hr'
   unfold vQ at this
   simp only [Bool.and_eq_true,hd] at this
   have:=this.2.1
   rw [E4 hd'] at this
   simp at this
   exact hij this
 · intro i j t r r' hr hr' hd ht
   have:=hp i j r r' hr hr'
   unfold vQ at this
   simp only [Bool.and_eq_true,hd] at this
   have:=wH this.2.2 (oC ht)
   simp only [Bool.and_eq_true] at this
   refine ⟨by rintro rfl;have:=this.1.1;simp at this,fun h=>contains_of (wH this.1.2 (tQ h)),fun h=>contains_of (wH this.2 (tQ h))⟩
 · intro j v r hr hl hsl hlow hup hv
   have:=je h5 j r hr
   unfold CT at this
   rw [hl,hsl] at this
   simp only [Bool.false_or] at this
   have:=List.all_eq_true.1 this v (List.mem_range.2 (by omega))
   have e1:gA (fun i r' => !(bh (ab T) r'.op) || !((A.getD j []).contains i)||Nat.blt (ay (ab T) rs i) v) rs 0=true:=by
    refine po fun i x hx => ?_
    rw [Nat.zero_add]
    cases hlx:bh (ab T) x.op with
    | false=>rfl
    | true=>
      cases hcx:(A.getD j []).contains i with
      | false=>rfl
      | true=>simpa using tQ (hlow i x hx hlx (contains_of hcx))
   have e2:gA (fun i r' => !(bh (ab T) r'.op) || !((A.getD i []).contains j)||Nat.ble v (ay (ab T) rs i)) rs 0=true:=by
    refine po fun i x hx => ?_
    rw [Nat.zero_add]
    cases hlx:bh (ab T) x.op with
    | false=>rfl
    | true=>
      cases hcx:(A.getD i []).contains j with
      | false=>rfl
      | true=>simpa using Nat.ble_eq_true_of_le (hup i x hx hlx (contains_of hcx))
   rw [e1,e2] at this
   simp only [Bool.not_true,Bool.false_or,Bool.or_eq_true,Bool.and_eq_true] at this
   rcases this with h | h
   · exact .inl (eq_of_beq h)
   · obtain ⟨q,hq,hqq⟩:=List.any_eq_true.1 h.2
     obtain ⟨j',vs⟩:=q
     simp only [Bool.and_eq_true] at hqq
     have:=eq_of_beq hqq.1
     subst this
     exact .inr ⟨vs,hq,contains_of hqq.2,h.1⟩
theorem EU {N:Nat} {rs:List aq} {hs:List Nat} {chk:List (Nat×List Nat)} {ops:Array Oper} {A:List (List Nat)} (h:ER P fm (ab T) N rs hs chk ops A=true):Xh P fm T N rs hs chk ops (fun j=>A.getD j []):=by
 unfold ER at h
 simp only [Bool.and_eq_true] at h
 obtain ⟨⟨h1,h2⟩,h3⟩:=h
 refine ⟨Ag h1,fun j r o hj hr ho => ?_,DY h2⟩
 have:=List.all_eq_true.1 h3 j hj
 unfold E6 at this
 rw [hr] at this
 exact qp h1 j r o hr (by simpa using ho) this
def eM (P:Program) (fm:FM) (pf:Nat→Bool) (N:Nat):RC→Code→Bool
 | .skip,c=>(match c with | .skip=>true | .label _=>true | _=>false)
 | .region ops _,c=>(match c with | .region _ oops false=>aiS P fm N ops oops | _=>false)
 | .au ops hs chk _,c=>(match c with | .region _ oops true=>ER P fm pf N ops hs chk oops (Gk oops.toList) | _=>false)
 | .seq a b,c=>(match c with | .seq x y=>eM P fm pf N a x&&eM P fm pf N b y | _=>false)
 | .cond x a b,c=>(match c with | .cond o y z=>xB fm x o&&eM P fm pf N a y&&eM P fm pf N b z | _=>false)
 | .block id a,c=>(match c with | .block i x=>i==id&&eM P fm pf N a x | _=>false)
 | .loop _ a,c=>(match c with | .loop x=>eM P fm pf N a x | _=>false)
 | .exit id,c=>(match c with | .exit i=>i==id | _=>false)
 | .ret,c=>(match c with | .ret=>true | _=>false)
 | .stuck,_=>true
 | .fg f ps as_ bo _,c=>(match c with | .rangeFunc o qs x y=>xB fm f o&&decide (qs.toList=ps)&&ps.all (fun p=>Nat.blt p N)&&eM P fm pf N as_ x&&eM P fm pf N bo y | _=>false)
theorem fa {N:Nat}:∀ (rc:RC) (c:Code),eM P fm (ab T) N rc c=true→gR P fm T N rc c
 | .skip,c,h=>by
   unfold eM at h
   split at h
   · exact .inl rfl
   · exact .inr ⟨_,rfl⟩
   · cases h
 | .region ops l,c,h=>by
   unfold eM at h
   split at h
   · exact ⟨_,_,rfl,Ag h⟩
   · cases h
 | .au ops hs chk l,c,h=>by
   unfold eM at h
   split at h
   · exact ⟨_,_,_,rfl,EU h⟩
   · cases h
 | .seq a b,c,h=>by
   unfold eM at h
   split at h
   · simp only [Bool.and_eq_true] at h
     exact ⟨_,_,rfl,fa a _ h.1,fa b _ h.2⟩
   · cases h
 | .cond x a b,c,h=>by
   unfold eM at h
   split at h
   · simp only [Bool.and_eq_true] at h
     exact ⟨_,_,_,rfl,aL h.1.1,fa a _ h.1.2,fa b _ h.2⟩
   · cases h
 | .block id a,c,h=>by
   unfold eM at h
   split at h
   · simp only [Bool.and_eq_true] at h
     have:=eq_of_beq h.1
     subst this
     exact ⟨_,rfl,fa a _ h.2⟩
   · cases h
 | .loop l a,c,h=>by
   unfold eM at h
   split at h
   · exact ⟨_,rfl,fa a _ h⟩
   · cases h
 | .exit id,c,h=>by
   unfold eM at h
   split at h
   · have:=eq_of_beq h
     subst this
     rfl
   · cases h
 | .stuck,_,_=>trivial
 | .ret,c,h=>by
   unfold eM at h
   split at h
   · rfl
   · cases h
 | .fg f ps as_ bo l,c,h=>by
   unfold eM at h
   split at h
   · simp only [Bool.and_eq_true] at h
     obtain ⟨⟨⟨⟨h1,h2⟩,h3⟩,h4⟩,h5⟩:=h
     exact ⟨_,_,_,_,rfl,aL h1,of_decide_eq_true h2,fun p hp=>pk (List.all_eq_true.1 h3 p hp),fa as_ _ h4,fa bo _ h5⟩
   · cases h
def abX (P:Program):fc→ResultVar→Bool
 | .t n,.tmp m=>n==m
 | .cell a n ag,.cell b ty=>a==b&&iW P ty n ag
 | _,_=>false
theorem Mk {a:fc} {b:ResultVar} (h:abX P a b=true):l3 P a b:=by
 unfold abX at h
 split at h
 · exact eq_of_beq h
 · simp only [Bool.and_eq_true] at h
   exact ⟨eq_of_beq h.1,gT h.2⟩
 · cases h
def sJ (P:Program):List fc→List ResultVar→Bool
 | [],[]=>true
 | a::as_,b::bs=>abX P a b&&sJ P as_ bs
 | _,_=>false
theorem xS:∀ {as_:List fc} {bs:List ResultVar},sJ P as_ bs=true→bs.length=as_.length∧∀ (i:Nat) (a:fc) (b:ResultVar),as_[i]? = some a→bs[i]? = some b→l3 P a b
 | [],[],_=>⟨rfl,fun i a b h=>by simp at h⟩
 | a::as_,b::bs,h=>by
   simp only [sJ,Bool.and_eq_true] at h
   obtain ⟨h1,h2⟩:=xS h.2
   refine ⟨by simp [h1],fun i x y hx hy => ?_⟩
   cases i with
   | zero=>simp only [List.getElem?_cons_zero,Option.some.injEq] at hx hy;subst hx;subst hy;exact Mk h.1
   | succ i=>exact h2 i x y (by simpa using hx) (by simpa using hy)
 | [],_::_,h=>by simp [sJ] at h
 | _::_,[],h=>by simp [sJ] at h
def ar (P:Program) (fm:FM) (pf:Nat→Bool) (F:an) (fn:Func):Bool:=
 !(fn.name == "runtime.NumGoroutine")&&(match fn.body with | some c=>eM P fm pf fn.ntmps F.body c | none=>false)&&sJ P F.results fn.results.toList
theorem ae {F:an} {f:FuncId} {fn:Func} (hf:P.funcs[f]? = some fn) (h:ar P fm (ab T) F fn=true):ai P fm T (.code F) f:=by
 unfold ar at h
 simp only [Bool.and_eq_true] at h
 obtain ⟨⟨h1,h2⟩,h3⟩:=h
 split at h2
 · rename_i c hc
   obtain ⟨g1,g2⟩:=xS h3
   refine ⟨fn,c,fun args w => ?_,hf,hc,fa _ _ h2,g1,g2⟩
   have hname:fn.name ≠ "runtime.NumGoroutine":=by simpa using h1
   simp [callFunc,hf,hname,hc]
 · cases h2
theorem DH {f:FuncId} {F:an} (h:ai P fm T (.code F) f):∀ (args:Array Value) (w:World),(callFunc f args).run P w=.ok (.enter f args) w:=by
 obtain ⟨fn,c,h1,_⟩:=h
 exact h1
end Go.D
end
section
namespace Go.D
open Go.RowKit
variable {P:Program} {fm:FM}
inductive TT where
 | nil
 | leaf (g:Nat) (d:Def)
 | node (k:Nat) (l r:TT)
def TT.get:TT→Nat→Option Def
 | .nil,_=>none
 | .leaf g d,h=>bif Nat.beq h g then some d else none
 | .node k l r,h=>bif Nat.blt h k then l.get h else r.get h
def TT.ok (P:Program) (fm:FM) (T:Tab):TT→Prop
 | .nil=>True
 | .leaf g d=>∀ f,fm g=some f→ai P fm T d f
 | .node _ l r=>l.ok P fm T∧r.ok P fm T
theorem TT.zP {T:Tab}:∀ (t:TT),t.ok P fm T→∀ g d f,t.get g=some d→fm g=some f→ai P fm T d f
 | .nil,_,g,d,f,h,_=>by simp [TT.get] at h
 | .leaf g0 d0,h0,g,d,f,h,hf=>by
   simp only [TT.get] at h
   cases hb:Nat.beq g g0 with
   | false=>rw [hb] at h;simp at h
   | true=>
     rw [hb] at h
     simp only [cond_true,Option.some.injEq] at h
     subst h
     have:=Nat.eq_of_beq_eq_true hb
     subst this
     exact h0 f hf
 | .node k l r,h0,g,d,f,h,hf=>by
   simp only [TT.get] at h
   cases hb:Nat.blt g k with
   | true=>rw [hb] at h;exact l.zP h0.1 g d f h hf
   | false=>rw [hb] at h;exact r.zP h0.2 g d f h hf
theorem vE {t:TT} (h:t.ok P fm t.get):dc P fm t.get:=fun g d f hg hf=>t.zP h g d f hg hf
def FA:List (Nat×FuncId)→Nat→Option FuncId
 | [],_=>none
 | (g,f)::r,h=>bif Nat.beq h g then some f else FA r h
def CP:List (Nat×List Nat)→Nat→Nat→Option Value
 | [],_,_=>none
 | (g,l)::r,b,i=>bif Nat.beq b g then (l[i]?).map (fun n=>.int .u8 (Int.ofNat n)) else CP r b i
def aa (l:List (Nat×FuncId)) (env:List (Nat×List Nat)):FM:=⟨FA l,CP env⟩
def sP (fm:FM) (w:World):Prop:=∀ r i v,fm.env r i=some v→r<w.heap.size∧∃ cs t fz,w.heap[r]? = some (.cells cs t fz)∧cs[i]? = some v
def st0:St:={ heap:=[],aW:=[],cur:=0,base:=0,aR:=0 }
def gh0 (w:World):Gh:={ ro:=fun _ _=>none,mu:=fun _=>none,bB:=fun _ _=>none,gsz:=fun _=>0,dfr:=fun _=>False,lps:=fun _=>False,bm:=fun _=>none,floor:=w.heap.size,base:=0,aR:=0 }
end Go.D
end
section
namespace Go.D
open Go.RowKit
variable {P:Program} {fm:FM} {T:Tab}
theorem sH {G:Gh} {a b:DV} {args:Array Value} (h:cp fm G [a,b] args):∃ x y,args = #[x,y]∧Rel fm G a x∧Rel fm G b y:=by
 obtain ⟨h1,h2⟩:=h
 match args,h1 with
 | ⟨[x,y]⟩,_=>exact ⟨x,y,rfl,h2 0 (by simp),h2 1 (by simp)⟩
theorem oJ {p:List DV→St→Option (DV×St)} {f:FuncId} {fn:Func} {e:Array Value→Sem Value} (hf:P.funcs[f]? = some fn) (hname:(fn.name == "runtime.NumGoroutine")=false) (hb:fn.body.isNone=true) (hn:Extern.findNext fn=none)
 (he:Extern.find fn=some e) (h:∀ (G:Gh) (w:World) (st:St) (args:List DV) (args':Array Value) (v:DV) (st':St),cp fm G args args'→p args st=some (v,st')→st'=st∧∃ x,(e args').run P w=.ok x w∧Rel fm G v x):gl P fm T p f:=by
 intro G w0 st w args args' v st' hs ha hp
 obtain ⟨rfl,x,h1,h2⟩:=h G w st args args' v st' ha hp
 refine .inr ⟨x,w,?_,G,Gh.le.refl G,hs,h2⟩
 rw [run_callFunc_extern hf hname hb hn he,h1]
 rfl
def eE:List DV→St→Option (DV×St)
 | [.str s,.int .u8 c],st=>some (.int .i64 (Lib.indexByte s c.toNat.toUInt8),st)
 | _,_=>none
theorem qM {f:FuncId} {fn:Func} (hf:P.funcs[f]? = some fn) (hname:(fn.name == "runtime.NumGoroutine")=false) (hb:fn.body.isNone=true) (hn:Extern.findNext fn=none)
 (he:Extern.find fn=some Extern.BytealgIndexByte.indexByte):gl P fm T eE f:=by
 refine oJ hf hname hb hn he fun G w st args args' v st' ha hp => ?_
 unfold eE at hp
 split at hp
 · simp only [Option.some.injEq,Prod.mk.injEq] at hp
   obtain ⟨rfl,rfl⟩:=hp
   obtain ⟨x,y,rfl,hx,hy⟩:=sH ha
   cases hy
   cases hx with
   | str _ b hb=>subst hb;exact ⟨rfl,_,Lib.run_indexByteString b _ w,.int _ _⟩
 · cases hp
def ef:List DV→St→Option (DV×St)
 | [.str s,.int .u8 c],st=>some (.int .i64 (Lib.countByte s c.toNat.toUInt8:Nat),st)
 | _,_=>none
theorem qQ {f:FuncId} {fn:Func} (hf:P.funcs[f]? = some fn) (hname:(fn.name == "runtime.NumGoroutine")=false) (hb:fn.body.isNone=true) (hn:Extern.findNext fn=none)
 (he:Extern.find fn=some Extern.BytealgCount.count):gl P fm T ef f:=by
 refine oJ hf hname hb hn he fun G w st args args' v st' ha hp => ?_
 unfold ef at hp
 split at hp
 · simp only [Option.some.injEq,Prod.mk.injEq] at hp
   obtain ⟨rfl,rfl⟩:=hp
   obtain ⟨x,y,rfl,hx,hy⟩:=sH ha
   cases hy
   cases hx with
   | str _ b hb=>subst hb;exact ⟨rfl,_,Lib.run_countString b _ w,.int _ _⟩
 · cases hp
def g9:List Nat:=[0,0,0,0,0,0,0,0,0,1,1,1,1,1,0,0,0,0,0,0,0,0,0,0,0,0,0,0,0,0,0,0,1,0,0,0,0,0,0,0,0,0,0,0,0,0,0,0,0,0,0,0,0,0,0,0,0,0,0,0,0,0,0,0,0,0,0,0,0,0,0,0,0,0,0,0,0,0,0,0,0,0,0,0,0,0,0,0,0,0,0,0,0,0,0,0,0,0,0,0,0,0,0,0,0,0,0,0,0,0,0,0,0,0,0,0,0,0,0,0,0,0,0,0,0,0,0,0,0,0,0,0,0,0,0,0,0,0,0,0,0,0,0,0,0,0,0,0,0,0,0,0,0,0,0,0,0,0,0,0,0,0,0,0,0,0,0,0,0,0,0,0,0,0,0,0,0,0,0,0,0,0,0,0,0,0,0,0,0,0,0,0,0,0,0,0,0,0,0,0,0,0,0,0,0,0,0,0,0,0,0,0,0,0,0,0,0,0,0,0,0,0,0,0,0,0,0,0,0,0,0,0,0,0,0,0,0,0,0,0,0,0,0,0,0,0,0,0,0,0,0,0,0,0,0,0]
def gY:DV:=.bX (g9.map fun n=>.int .u8 (Int.ofNat n))
theorem B4 {l:List (Nat×FuncId)} {g:Nat} {t:List Nat} {w:World} (h:∀ i (h:i<t.length),w.cell? ⟨g,i,none⟩=some (.int .u8 (Int.ofNat t[i]))):sP (aa l [(g,t)]) w:=by
 intro r i v hv
 simp only [aa,CP] at hv
 cases hb:Nat.beq r g with
 | false=>rw [hb] at hv;simp at hv
 | true=>
   rw [hb] at hv
   simp only [cond_true,Option.map_eq_some_iff] at hv
   obtain ⟨n,hn,rfl⟩:=hv
   have:=Nat.eq_of_beq_eq_true hb
   subst this
   obtain ⟨hi,rfl⟩:=List.getElem?_eq_some_iff.1 hn
   have hc:=h i hi
   simp only [World.cell?] at hc
   split at hc
   · rename_i cs t' fz hcs
     exact ⟨get?_lt hcs,cs,t',fz,hcs,by simpa using hc⟩
   all_goals first | (cases hc;done) | skip
end Go.D
end
