import Derived.Laws.IdiomStrings
import Derived.Laws.MakeOwn
import Derived.Lib.Builder
import Derived.Lib.UnsafeStr
import Derived.Lib.FrozenHead
import Derived.Lib.MakeNoZero
import Derived.Lib.Bytealg
import Derived.Test.YtgafmfaopjljjaaGreatDoorM0
/-! Texts 1 of this claim, joined. -/
set_option linter.unnecessarySimpa false
set_option linter.unusedSimpArgs false
set_option linter.unusedVariables false
open _root_.Array renaming getD_eq_getD_getElem? → aag, getElem?_append_left → abi, getElem?_eq_getElem → abj, getElem?_eq_some_iff → aa6, length_toList → aba
open _root_.Bool renaming and_eq_true → aac, false_eq_true → aaq
open _root_.Int renaming ofNat → abs
open _root_.List renaming all_eq_true → aaf, append_assoc → aas, getD_eq_getElem?_getD → aak, getElem?_append_left → aaj, getElem?_append_right → aat, getElem?_cons_zero → aaw, getElem?_eq_getElem → aaa, getElem?_eq_some_iff → aae, getElem?_map → abe, getElem?_set_ne → aaA, getElem?_set_self → abh, getElem?_toArray → abk, getElem_append_left → aa0, getElem_append_right → aaV, getElem_mem → aar, getElem_of_mem → aa9, length_append → aah, length_cons → aax, length_map → aaM, length_nil → aaP, map_cons → aaS, map_nil → abp, mem_append → aaL, mem_map → aaT, mem_of_getElem? → aaB, mem_of_mem_drop → aao, mem_of_mem_take → aaz, mem_range → abz, range → aal, take_of_length_le → aa8
open _root_.Nat renaming add_assoc → aby, add_mul → aaN, add_zero → aa5, beq → aaD, eq_of_beq_eq_true → aaJ, le_of_ble_eq_true → aaG, le_refl → aai, le_trans → abu, lt_irrefl → aa4, lt_of_lt_of_le → abm, mul_le_mul_right → aaC, zero_add → aay
open _root_.Option renaming getD_some → abr, isSome_iff_exists → aa1, map_eq_some_iff → aad, map_none → abw, some → aab
open _root_.UInt8 renaming ofNat → aa2
section
namespace Go.D
open Go.RowKit
variable {P:Program} {fm:FM}
theorem sO {t e:TypeId} {n len:Nat} {i:TypeInfo} {x j:X} {xo jo:Operand} {o:Oper} (ho:o.op=.indexAddr t xo jo) (ht:P.underlying t=some (.array len e)) (hi:P.info? e=some i) (hn:i.size=n) (hx:bu fm x xo) (hj:bu fm j jo):aA P fm (.cA n len x j) o:=by
 refine aE fun CR G w0 st w fr a v st' hs hf hrun=>?_;simp only[an] at hrun;have hxv:=hx.ev (a:=a) hf;have hjv:=hj.ev (a:=a) hf;generalize hx0:a.eval xo=x0 at hxv;generalize hj0:a.eval jo=j0 at hjv;have hsz:(sizeOf e).run P w=.ok n w:=by unfold sizeOf typeInfo;simp[hi,hn]
 split at hrun
 · rename_i b off k q hb hq;rw[hb] at hxv;rw[hq] at hjv;split at hrun
   · rename_i hc;obtain⟨hc1,hc2⟩:=hc;simp only[aab.injEq,Prod.mk.injEq] at hrun;obtain⟨rfl,rfl⟩:=hrun;cases hjv
     cases hxv with
     | ptr _ _ r hm=>
       refine⟨rfl,.pointer (some ⟨r,off+q.toNat*n,none⟩),?_,.ptr b (off+q.toNat*n) r hm⟩;unfold execOp;simp only[ho,hx0,hj0];refine ai ?_;unfold Instr.indexAt;simp[asIntOf,run_underlying ht,hc1,hc2,hsz,Addr.add_lit,Instr.sureAddr]
   · cases hrun
 · rename_i cs k q hb hq;rw[hb] at hxv;rw[hq] at hjv;split at hrun
   · rename_i hc;obtain⟨hc1,hc2,hc3⟩:=hc;simp only[aab.injEq,Prod.mk.injEq] at hrun;obtain⟨rfl,rfl⟩:=hrun;cases hjv
     cases hxv with
     | bW _ r off f hr hcc hp=>
       refine⟨rfl,.pointer (some ⟨r,off+q.toNat*n,none⟩),?_,.bW _ r (off+q.toNat*n) (fun i=>f (q.toNat*n+i)) (fun i hi=>?_) (fun i hi=>?_) ?_⟩
       · unfold execOp;simp only[ho,hx0,hj0];refine ai ?_;unfold Instr.indexAt;simp[asIntOf,run_underlying ht,hc1,hc2,hsz,Addr.add_lit,Instr.sureAddr]
       · simp only[List.length_drop] at hi;rw[aby];exact hr _ (by omega)
       · simp only[List.length_drop] at hi;rw[List.getElem_drop];exact hcc _ (by omega)
       · rw[aaf] at hp ⊢;exact fun y hy=>hp y (aao hy)
   · cases hrun
 · cases hrun
theorem te {t e:TypeId} {n len:Nat} {ag:Bool} {x j:X} {xo jo:Operand} {o:Oper} (ho:o.op=.index t xo jo) (ht:P.underlying t=some (.array len e)) (hty:ik P e n ag) (hx:bu fm x xo) (hj:bu fm j jo):aA P fm (.jE n ag len x j) o:=by
 refine aE fun CR G w0 st w fr a v st' hs hf hrun=>?_;simp only[an] at hrun;have hxv:=hx.ev (a:=a) hf;have hjv:=hj.ev (a:=a) hf;generalize hx0:a.eval xo=x0 at hxv;generalize hj0:a.eval jo=j0 at hjv;split at hrun
 · rename_i vs k q hb hq;rw[hb] at hxv;rw[hq] at hjv;split at hrun
   · rename_i hc;obtain⟨hc1,hc2⟩:=hc;simp only[aad] at hrun;obtain⟨u,hu,hrun⟩:=hrun;cases hrun;cases hjv
     cases hxv with
     | agg _ cs hl hcc=>
       obtain⟨y,g1,g2⟩:=nA (P:=P) (w:=w) hl hcc hu hty;refine⟨rfl,y,?_,g2⟩;unfold execOp;simp only[ho,hx0,hj0];refine ai ?_;obtain⟨⟨d,hd,hag⟩,⟨i,hi,hsz⟩,h1⟩:=hty;have hsz:(sizeOf e).run P w=.ok n w:=by unfold sizeOf typeInfo;simp[hi,hsz]
       unfold Instr.index;simp[asIntOf,run_underlying ht,hc1,hc2,hsz,g1]
   · cases hrun
 · cases hrun
theorem gi {w:World} {r off q:Nat} (f:Nat→Value) (h:∀ i,i<q→w.cell? ⟨r,off+i,none⟩=some (f i)):(loadCells ⟨r,off,none⟩ q).run P w=.ok ((aal q).map f).toArray w:=
 run_loadCells (P:=P) w ⟨r,off,none⟩ q f (fun j hj=>by rw[Addr.add_lit];exact h j hj)
structure zC (P:Program) (fm:FM) (G:Gh) (w:World) (n m:Nat) (news:List DV) (x:Value):Prop where
 len:(Builtin.lenOf x).run P w=.ok m w
 length:news.length=m*n
 bp:news.all DV.bp=true
 cells:∀ k w',k≤m→Below w.heap.size w w'→∃ vs,(Builtin.firstCells n k x).run P w'=.ok vs w'∧vs.size=k*n∧(∀ i (h:i<news.length),i<k*n→Rel fm G (news[i]) (vs.getD i undef))
theorem fW {CR:Nat→RC→Code→Prop} {G:Gh} {w0 w:World} {st:St} (hs:Sim fm CR G w0 st w) {n m:Nat} {news:List DV} {v:DV} {x:Value} (hv:Rel fm G v x) (h:cd st n v=some (m,news)):zC P fm G w n m news x:=by
 unfold cd at h;split at h
 · rename_i tag n' tk nn xs;split at h
   · rename_i hnn;subst hnn;simp only[aab.injEq,Prod.mk.injEq] at h;obtain⟨rfl,rfl⟩:=h;cases hv;refine⟨rfl,by simp,rfl,fun k w' hk _=>⟨#[],rfl,by have h0:k=0:=Nat.le_zero.1 hk;subst h0;simp,fun i hi=>by simp at hi⟩⟩
   · rename_i hnn;split at h
     · rename_i hn';subst hn';simp only[aab.injEq,Prod.mk.injEq] at h;obtain⟨rfl,rfl⟩:=h
       cases hv with
       | ga=>simp at hnn
       | list _ _ _ _ r off cap f hr hc hp hk hl hn=>
         have hfl:=dD xs n' hn;refine⟨rfl,hfl,cm hp,fun k w' hk hb=>?_⟩;have hkn:k*n'≤(flat xs).length:=by rw[hfl];exact aaC _ hk
         have hcell:∀ i,i<k*n'→w'.cell? ⟨r,off+i,none⟩=some (f i):=by
          intro i hi;obtain⟨cs,t,fz,h1,h2⟩:=hs.ro r (off+i) (f i) (hr i (by omega));rw[cell?_cells ((hb.block r (get?_lt h1)).trans h1)];exact h2
         refine⟨_,gi f hcell,by simp,fun i hi hik=>?_⟩;rw[gT f _ i hik];exact hc i (by omega)
     · cases h
 · rename_i s;split at h
   · rename_i hn;subst hn;simp only[aab.injEq,Prod.mk.injEq] at h;obtain⟨rfl,rfl⟩:=h
     cases hv with
     | str _ ba hba=>
       subst hba;have hsz:ba.data.toList.length=ba.size:=by rw[aba];rfl
       refine⟨by rw[hsz];rfl,by simp,?_,fun k w' hk _=>⟨_,rfl,?_,fun i hi hik=>?_⟩⟩
       · rw[aaf];intro y hy;obtain⟨b,_,rfl⟩:=aaT.1 hy;rfl
       · have:(ba.extract 0 k).data.size=k:=by
          have h1:(ba.extract 0 k).data.size=(ba.extract 0 k).size:=rfl;rw[h1,ByteArray.size_extract];omega
         rw[Array.size_map,this,Nat.mul_one]
       · have hi':i<ba.data.size:=by simpa using hi
         have hg:(ba.extract 0 k).data[i]? = some ba.data[i]:=by
          rw[ByteArray.data_extract];rw[Array.getElem?_extract];rw[if_pos (by omega),aay,abj hi']
         have:((ba.extract 0 k).data.map fun b=>Value.int .u8 b.toNat).getD i undef=.int .u8 ba.data[i].toNat:=by
          rw[aag,Array.getElem?_map,hg];rfl
         rw[this];simp only[List.getElem_map,Array.getElem_toList];exact .int _ _
   · cases h
 · rename_i n' ag b off len cap;split at h
   · rename_i hn';subst hn';split at h
     · rename_i g vs hb;split at h
       · rename_i hle;simp only[aab.injEq,Prod.mk.injEq] at h;obtain⟨rfl,rfl⟩:=h
         cases hv with
         | hsl _ _ _ _ _ _ r c hm hcap=>
           have hbo:st.heap[b]? = some (.cells g vs):=by
            unfold St.cells at hb;split at hb
            · rename_i g' vs' e;simp only[aab.injEq,Prod.mk.injEq] at hb;obtain⟨rfl,rfl⟩:=hb;exact e
            · cases hb
           obtain⟨r',ob,h1,h2,h3,h4⟩:=hs.obj b _ hbo rfl (hs.np hm);rw[hm] at h1;cases h1
           have key:∃ cs t fz,ob=.cells cs t fz∧vs.length≤cs.size∧(∀ i (h:i<vs.length),Rel fm G (vs[i]) (cs.getD i undef))∧vs.all DV.bp=true:=by
            cases g with
            | plain=>obtain⟨cs,t,fz,e,f1,f2,f3,f4⟩:=h3;exact⟨cs,t,fz,e,by omega,f2,f4⟩
            | typed ty=>obtain⟨cs,t,fz,e,_,f1,f2,f3,f4⟩:=h3;exact⟨cs,t,fz,e,by omega,f2,f4⟩
            | frz ty=>obtain⟨cs,t,fz,e,_,f1,_,f2,f3,f4⟩:=h3;exact⟨cs,t,fz,e,f1,f2,f4⟩
            | grown=>obtain⟨cs,t,fz,e,f1,_,f2,f3,f4⟩:=h3;exact⟨cs,t,fz,e,f1,f2,f4⟩
           obtain⟨cs,t,fz,rfl,k1,k2,k3⟩:=key;refine⟨rfl,by simp;omega,?_,fun k w' hk hbw=>?_⟩
           · rw[aaf] at k3 ⊢;exact fun y hy=>k3 y (aao (aaz hy))
           · have hkn:k*n'≤len*n':=aaC _ hk
             have hcell:∀ i,i<k*n'→w'.cell? ⟨r,off+i,none⟩=some (cs.getD (off+i) undef):=by
              intro i hi;rw[cell?_cells ((hbw.block r (get?_lt h2)).trans h2)];rw[aag,abj (by omega)];rfl
             refine⟨_,gi _ hcell,by simp,fun i hi hik=>?_⟩;rw[gT _ _ i hik];have:=k2 (off+i) (by omega);simpa using this
       · cases h
     · cases h
   · cases h
 · cases h
theorem ra {G:Gh}:∀ (vs:List DV) (l:List UInt8) (xs:List Value),jb vs=some l→xs.length=vs.length→(∀ i (h:i<vs.length),Rel fm G (vs[i]) (xs.getD i undef))→∃ ns:List Int,xs=ns.map (Value.int .u8)∧ns.map (fun n=>aa2 n.toNat)=l
 | [],l,xs,h,hl,_=>by
   simp only[jb,aab.injEq] at h;subst h;exact⟨[],by simpa using hl,rfl⟩
 | v::vs,l,[],_,hl,_=>by simp at hl
 | v::vs,l,x::xs,h,hl,hr=>by
   unfold jb at h;split at h
   · rename_i heq;cases heq
   · rename_i n r heq;simp only[List.cons.injEq] at heq;obtain⟨rfl,rfl⟩:=heq;simp only[aad] at h;obtain⟨l',h1,rfl⟩:=h;obtain⟨ns,e1,e2⟩:=ra vs l' xs h1 (by simpa using hl) (fun i hi=>hr (i+1) (Nat.succ_lt_succ hi));have h0:=hr 0 (by simp);simp only[List.getElem_cons_zero,List.getD_cons_zero] at h0;cases h0;exact⟨n::ns,by simp[e1],by simp[e2]⟩
   · cases h
theorem ja:∀ (ns:List Int) (r:ByteArray),ns.foldl (fun r n=>r.push (aa2 n.toNat)) r=⟨r.data++(ns.map fun n=>aa2 n.toNat).toArray⟩
 | [],r=>by simp
 | n::ns,r=>by
   simp only[List.foldl_cons];rw[ja ns];simp[ByteArray.push]
theorem A8 {s d e:TypeId} {x:X} {xo:Operand} {o:Oper} (ho:o.op=.convert s d xo) (hs0:P.underlying s=some (.slice e)) (he:P.underlying e=some (.int .u8)) (hd:P.underlying d=some .string) (hx:bu fm x xo):aA P fm (.b2s x) o:=by
 refine aE fun CR G w0 st w fr a v st' hs hf hrun=>?_;simp only[an] at hrun;have hxv:=hx.ev (a:=a) hf;split at hrun
 · rename_i m vs hnews;simp only[aad] at hrun;obtain⟨l,hl,hrun⟩:=hrun;cases hrun;split at hnews
   · cases hnews
   rename_i dv hdv hns;have hnr:=fW (P:=P) hs hxv hnews;generalize hx0:a.eval xo=x0 at hxv hnr;obtain⟨cs,g1,g2,g3⟩:=hnr.cells m w (aai _) (Below.refl _ w);have hlen:=hnr.length;obtain⟨ns,e1,e2⟩:=ra (fm:=fm) (G:=G) vs l cs.toList hl (by simp[g2,hlen]) (fun i hi=>by rw[aR];exact g3 i hi (by omega));have ecs:cs=(ns.map (Value.int .u8)).toArray:=by rw[← e1]
   have hsl:∀ (p:Option Addr) (n c:Nat),x0=.slice p n c→(execOp a.eval o).run P w=.ok (.value (.string ⟨l.toArray⟩)) w:=by
    intro p n c hp;subst hp;unfold execOp;simp only[ho,hx0];refine ai ?_;rw[run_convert_bytes_string w s d e p n c hs0 he hd]
    have hnm:n=m:=by
     have:=hnr.len;simp only[Builtin.lenOf,Sem.run_pure] at this;cases this;rfl
    subst hnm
    cases p with
    | none=>
      have h0:cs = #[]:=by
       simp only[Builtin.firstCells,Sem.run_pure] at g1;cases g1;rfl
      have:ns=[]:=by
       rw[h0] at e1
       cases ns with
       | nil=>rfl
       | cons _ _=>simp at e1
      subst this;simp only[abp] at e2;subst e2;rfl
    | some ad=>
      have g1':(loadCells ad n).run P w=.ok (ns.map (Value.int .u8)).toArray w:=by
       simp only[Builtin.firstCells,Nat.mul_one] at g1;rw[g1,ecs]
      rw[run_bytesToString w ad n c ns g1',ja,e2];simp
   generalize X.ev fr x=dv' at hxv hnews hns;unfold cd at hnews;split at hnews
   · cases hxv with
     | ga=>exact⟨rfl,_,hsl _ _ _ rfl,.str _ _ rfl⟩
     | list=>exact⟨rfl,_,hsl _ _ _ rfl,.str _ _ rfl⟩
   · exact absurd rfl (hns _)
   · cases hxv with
     | hsl=>exact⟨rfl,_,hsl _ _ _ rfl,.str _ _ rfl⟩
   · cases hnews
 · cases hrun
theorem jj (s:ByteArray) (c i:Nat) (h:i<s.data.toList.length):(bytesRow s c)[i]? = some (.int .u8 (s.data.toList[i]).toNat):=by
 have hi:i<s.data.size:=by simpa using h
 unfold bytesRow;rw[abi (by simpa using hi),Array.getElem?_map,abj hi];simp
theorem qm (s:ByteArray) (c:Nat) (h:s.size≤c):(bytesRow s c).size=c:=by
 have:s.data.size=s.size:=rfl;simp[bytesRow,this];omega
theorem jn (s:List UInt8):flat (s.map fun b=>DV.int .u8 b.toNat)=s.map fun b=>DV.int .u8 b.toNat:=by
 induction s with
 | nil=>rfl
 | cons b s ih=>
   show DV.leaves (DV.int .u8 b.toNat)++flat (s.map fun b=>DV.int .u8 b.toNat)=_;rw[ih];rfl
theorem AX {s d e:TypeId} {x:X} {xo:Operand} {o:Oper} (ho:o.op=.convert s d xo) (hs0:P.underlying s=some .string) (hd:P.underlying d=some (.slice e)) (he:P.underlying e=some (.int .u8)) (hx:bu fm x xo):aA P fm (.s2b x) o:=by
 intro CR G w0 st w fr a v st' hs hf hrun;simp only[an] at hrun;have hxv:=hx.ev (a:=a) hf;split at hrun
 · rename_i l hl;rw[hl] at hxv;simp only[aab.injEq,Prod.mk.injEq] at hrun;obtain⟨rfl,rfl⟩:=hrun;generalize hx0:a.eval xo=x0 at hxv
   cases hxv with
   | str _ ba hba=>
     subst hba;have hc:=run_bytes_of_string (P:=P) w s d e ba hs0 hd he;generalize hcap:grownCap w ba.size 0 e=cap at hc;have hge:ba.size≤cap:=by rw[← hcap];exact grownCap_ge _ _ _ _
     have hsz:ba.data.toList.length=ba.size:=by rw[aba];rfl
     have hb:Below w.heap.size w (w.drew.alloc (.cells (bytesRow ba cap) e ((bytesRow ba cap).size,(bytesRow ba cap).size+1))):=(Below.refl _ w).drew.alloc (aai _) _;have hnew:(w.drew.alloc (.cells (bytesRow ba cap) e ((bytesRow ba cap).size,(bytesRow ba cap).size+1))).heap[w.heap.size]? = some (.cells (bytesRow ba cap) e ((bytesRow ba cap).size,(bytesRow ba cap).size+1)):=World.alloc_heap_new w.drew _;have hs':=hs.ir hb hnew ba.size;have hle:=Gh.pT hs (bytesRow ba cap) ba.size;have hlist:=Rel.list (fm:=fm) (G:=G.ir w.heap.size (bytesRow ba cap) ba.size) st.cur 1 .no (ba.data.toList.map fun b=>DV.int .u8 b.toNat) w.heap.size 0 cap (fun i=>(bytesRow ba cap).getD i undef) ?_ ?_ ?_ trivial ?_ ?_
     · have e1:(ba.data.toList.map fun b=>DV.int .u8 b.toNat).length=ba.size:=by simp
       rw[e1] at hlist;refine⟨_,_,.slice (some ⟨w.heap.size,0,none⟩) ba.size cap,_,?_,.inl rfl,hle,hs',hlist⟩;unfold execOp;simp only[ho,hx0];exact ai hc
     · intro i hi;rw[jn] at hi;have hi':i<ba.data.toList.length:=by simpa using hi
       have hlt:i<ba.size:=by omega
       simp[Gh.ir,hlt,jj ba cap i hi',aag]
     · intro i hi;have hi0:=hi;rw[jn] at hi;have hi':i<ba.data.toList.length:=by simpa using hi
       have e1:(flat (ba.data.toList.map fun b=>DV.int .u8 b.toNat))[i]=.int .u8 (ba.data.toList[i]).toNat:=by
        apply aab.inj;rw[← aaa hi0,jn];rw[abe,aaa hi'];rfl
       rw[e1,aag,jj ba cap i hi'];exact .int _ _
     · rw[jn,aaf];intro y hy;obtain⟨b,_,rfl⟩:=aaT.1 hy;rfl
     · simpa[hsz] using hge
     · intro y hy;obtain⟨b,_,rfl⟩:=aaT.1 hy;rfl
 · cases hrun
theorem AH {s d e:TypeId} {x:X} {xo:Operand} {o:Oper} (ho:o.op=.convert s d xo) (hs0:P.underlying s=some .string) (hd:P.underlying d=some (.slice e)) (he:P.underlying e=some (.int .u8)) (hx:bu fm x xo):aA P fm (.s2h x) o:=by
 intro CR G w0 st w fr a v st' hs hf hrun;simp only[an] at hrun;have hxv:=hx.ev (a:=a) hf;split at hrun
 · rename_i l hl;rw[hl] at hxv;simp only[aab.injEq,Prod.mk.injEq] at hrun;obtain⟨rfl,rfl⟩:=hrun;generalize hx0:a.eval xo=x0 at hxv
   cases hxv with
   | str _ ba hba=>
     subst hba;have hc:=run_bytes_of_string (P:=P) w s d e ba hs0 hd he;generalize hcap:grownCap w ba.size 0 e=cap at hc;have hge:ba.size≤cap:=by rw[← hcap];exact grownCap_ge _ _ _ _
     have hsz:ba.data.toList.length=ba.size:=by rw[aba];rfl
     have hss:=qm ba cap hge
     have hs':=hs.drew.push (o:=.cells .grown (ba.data.toList.map fun b=>DV.int .u8 b.toNat)) (ob:=.cells (bytesRow ba cap) e ((bytesRow ba cap).size,(bytesRow ba cap).size+1)) cap
      ⟨bytesRow ba cap,e,_,rfl,by simpa[hss,hsz] using hge,by simp[Gh.push,hss],fun i hi=>by
       have hi':i<ba.data.toList.length:=by simpa using hi
       rw[aag,jj ba cap i hi'];simp only[List.getElem_map]
       exact .int _ _,fun i hi=>by omega,by
       rw[aaf];intro y hy;obtain⟨b,_,rfl⟩:=aaT.1 hy
       rfl⟩ rfl
     have hle:G.le (G.push st.heap.length w.heap.size cap):=Gh.bK hs.b9;refine⟨_,_,.slice (some ⟨w.heap.size,0,none⟩) ba.size cap,_,?_,.inl rfl,hle,hs',?_⟩
     · unfold execOp;simp only[ho,hx0];exact ai hc
     · rw[hsz];exact .hsl _ _ _ _ _ _ _ _ (by simp[Gh.push]) ⟨hge,by simp[Gh.push]⟩
 · cases hrun
end Go.D
end
section
namespace Go.D
open Go.RowKit
variable {P:Program} {fm:FM}
theorem qt {t e:TypeId} {n bytes:Nat} {ag:Bool} {zs:List DV} {i:TypeInfo} {l c:X} {lo co:Operand} {o:Oper} (ho:o.op=.makeSlice t lo co) (ht:P.underlying t=some (.slice e)) (hi:P.info? e=some i) (hn:i.size=n) (hby:i.bytes=bytes) (hz:bx P e=some zs) (hzl:zs.length=n)
 (hl:bu fm l lo) (hc:bu fm c co):aA P fm (.cE n ag bytes zs l c) o:=by
 intro CR G w0 st w fr a v st' hs hf hrun;simp only[an] at hrun;have hlv:=hl.ev (a:=a) hf;have hcv:=hc.ev (a:=a) hf;split at hrun
 · rename_i lv cv el ec;rw[el] at hlv;rw[ec] at hcv;split at hrun
   · rename_i hcond;obtain⟨c1,c2,c3,c4⟩:=hcond;simp only[aab.injEq,Prod.mk.injEq] at hrun;obtain⟨rfl,rfl⟩:=hrun;generalize hl0:a.eval lo=l0 at hlv;generalize hc0:a.eval co=c0 at hcv;cases hlv;cases hcv;obtain⟨i',z,hi',hzz,hcc⟩:=bR hz;rw[hi] at hi';cases hi';obtain⟨zl,zr⟩:=ca (fm:=fm) hcc;have hle:G.le (G.push st.heap.length w.heap.size 0):=Gh.bK hs.b9;have hrd:(aD:Int)=140737488355328:=rfl;rw[hrd] at c3 c4;have hrun:=run_make (P:=P) w t e i z ht hi hzz .i64 .i64 lv cv c1 c2 (by rw[hby,Int.mul_comm];omega) (by omega);obtain⟨s1,s2⟩:=mE (fm:=fm) (G:=G.push st.heap.length w.heap.size 0) (zs:=zs) (z:=z.cells) (by simpa using zl) (fun i hi=>zr _ i hi) cv.toNat
     have hscal:(aK zs cv.toNat).all DV.bp=true:=by
      rw[aaf];intro x hx;obtain⟨j,hj,rfl⟩:=aa9 hx;have hj':=hj;rw[dB] at hj';have:=getElem?_repl zs cv.toNat j hj';rw[aaa hj] at this;exact aaf.1 (cm (db hcc)) _ (aaB this.symm)
     have hmade:madeCells z.cells (cv.toNat*i.size)=(Array.range (cv.toNat*zs.length)).map (z.cells[· % z.cells.size]!):=by rw[hn,hzl];rfl
     rw[← hmade] at s1 s2;have hs':=hs.push (o:=.cells .plain (aK zs cv.toNat)) (ob:=.cells (madeCells z.cells (cv.toNat*i.size)) e) 0 ⟨_,e,(0,0),rfl,s1,s2,fun i hi=>by simp,hscal⟩ rfl;refine⟨_,_,.slice (some ⟨w.heap.size,0,none⟩) lv.toNat cv.toNat,_,?_,.inl rfl,hle,hs',.hsl _ _ _ _ _ _ _ _ (by simp[Gh.push]) ⟨rfl,by omega⟩⟩;unfold execOp;simp only[ho,hl0,hc0];exact ai hrun
   · cases hrun
 · cases hrun
theorem ql {e:TypeId} {zs:List DV} {o:Oper} (ho:o.op=.alloc e) (hz:bx P e=some zs):jH P fm (.alloc zs) o:=by
 obtain⟨i,z,hi,hzz,hc⟩:=bR hz;intro CR G w0 st w fr a b v ob hs hf hfree;simp only[je,aab.injEq,Prod.mk.injEq] at hfree;obtain⟨rfl,rfl⟩:=hfree;obtain⟨hl,hr⟩:=ca (fm:=fm) hc;refine⟨rfl,.cells z.cells e,.pointer (some ⟨w.heap.size,0,none⟩),_,?_,.inl rfl,fun G' hG'=>⟨⟨z.cells,e,(0,0),rfl,by simpa using hl,fun i hi=>by rw[← aR];exact hr _ i hi,fun i hi=>by simp,cm (db hc)⟩,.ptr _ _ _ hG'⟩⟩;unfold execOp;simp only[ho];refine ai ?_;unfold Instr.alloc;simp only[Sem.run_bind,lS hi hzz,Result.andThen_ok];rfl
theorem qf {t:TypeId} {o:Oper} (ho:o.op=.makeMap t none):jH P fm .jL o:=by
 intro CR G w0 st w fr a b v ob hs hf hfree;simp only[je,aab.injEq,Prod.mk.injEq] at hfree;obtain⟨rfl,rfl⟩:=hfree;refine⟨rfl,.map #[] 0,.map (some w.heap.size),_,?_,.inl rfl,fun G' hG'=>⟨⟨#[],0,rfl,rfl,fun i k v hi=>by simp at hi⟩,.map _ _ hG'⟩⟩;unfold execOp;simp only[ho,abw];exact ai (by simp[Instr.makeMap])
theorem nN {t e:TypeId} {n bytes:Nat} {ag:Bool} {zs:List DV} {i:TypeInfo} {l c:X} {lo co:Operand} {o:Oper} (ho:o.op=.makeSlice t lo co) (ht:P.underlying t=some (.slice e)) (hi:P.info? e=some i) (hn:i.size=n) (hby:i.bytes=bytes) (hz:bx P e=some zs) (hzl:zs.length=n)
 (hl:bu fm l lo) (hc:bu fm c co):jH P fm (.cE n ag bytes zs l c) o:=by
 intro CR G w0 st w fr a b v ob hs hf hfree;simp only[je] at hfree;have hlv:=hl.ev (a:=a) hf;have hcv:=hc.ev (a:=a) hf;split at hfree
 · rename_i lv cv el ec;rw[el] at hlv;rw[ec] at hcv;split at hfree
   · rename_i hcond;obtain⟨c1,c2,c3,c4⟩:=hcond;simp only[aab.injEq,Prod.mk.injEq] at hfree;obtain⟨rfl,rfl⟩:=hfree;generalize hl0:a.eval lo=l0 at hlv;generalize hc0:a.eval co=c0 at hcv;cases hlv;cases hcv;obtain⟨i',z,hi',hzz,hcc⟩:=bR hz;rw[hi] at hi';cases hi';obtain⟨zl,zr⟩:=ca (fm:=fm) hcc;have hrd:(aD:Int)=140737488355328:=rfl;rw[hrd] at c3 c4;have hrun:=run_make (P:=P) w t e i z ht hi hzz .i64 .i64 lv cv c1 c2 (by rw[hby,Int.mul_comm];omega) (by omega)
     have hscal:(aK zs cv.toNat).all DV.bp=true:=by
      rw[aaf];intro x hx;obtain⟨j,hj,rfl⟩:=aa9 hx;have hj':=hj;rw[dB] at hj';have:=getElem?_repl zs cv.toNat j hj';rw[aaa hj] at this;exact aaf.1 (cm (db hcc)) _ (aaB this.symm)
     have hmade:madeCells z.cells (cv.toNat*i.size)=(Array.range (cv.toNat*zs.length)).map (z.cells[· % z.cells.size]!):=by rw[hn,hzl];rfl
     refine⟨rfl,.cells (madeCells z.cells (cv.toNat*i.size)) e,.slice (some ⟨w.heap.size,0,none⟩) lv.toNat cv.toNat,_,?_,.inl rfl,fun G' hG'=>?_⟩
     · unfold execOp;simp only[ho,hl0,hc0];exact ai hrun
     · obtain⟨s1,s2⟩:=mE (fm:=fm) (G:=G') (zs:=zs) (z:=z.cells) (by simpa using zl) (fun i hi=>zr _ i hi) cv.toNat;rw[← hmade] at s1 s2;exact⟨⟨_,e,(0,0),rfl,s1,s2,fun i hi=>by simp,hscal⟩,.hsl _ _ _ _ _ _ _ _ hG' ⟨rfl,by omega⟩⟩
   · cases hfree
 · cases hfree
def Gh.dP (G:Gh) (t s r len cap n:Nat):Gh:={ G with bt:=fun t' s'=>if t'=t∧s'=s then some (r,len,cap,n) else G.bt t' s' }
theorem Sim.Eh {CR:Nat→RC→Code→Prop} {G:Gh} {w0 w:World} {st:St} (hs:Sim fm CR G w0 st w) {t s:Nat} (h:∀ s',st.bc[t]? = some s'→s'<s):G.bt t s=none:=by
 cases e:G.bt t s with
 | none=>rfl
 | some x=>
   obtain⟨s',h1,h2⟩:=hs.bt t s x e;have:=h s' h1;omega
theorem Gh.mW {CR:Nat→RC→Code→Prop} {G:Gh} {w0 w:World} {st:St} (hs:Sim fm CR G w0 st w) {t s:Nat} (h:∀ s',st.bc[t]? = some s'→s'<s) (r len cap n:Nat):G.le (G.dP t s r len cap n):=by
 have hn:=hs.Eh h;refine⟨⟨fun _ _ _ x=>x,fun _ _ x=>x,fun t' s' x hx=>?_,fun _ _ _=>rfl⟩,fun _ x=>x,fun _ x=>x,rfl,fun _ _ _=>rfl,rfl,rfl,rfl⟩;simp only[Gh.dP];rw[if_neg]
 · exact hx
 · rintro⟨rfl,rfl⟩;rw[hn] at hx;cases hx
theorem get?_append_cases {α:Type} {l:List α} {x y:α} {t:Nat} (h:(l++[x])[t]? = some y):(t<l.length∧l[t]? = some y)∨(t=l.length∧y=x):=by
 rcases getElem?_push_cases _ _ _ _ h with h|h
 · exact .inr h
 · exact .inl h
theorem Sim.DY {CR:Nat→RC→Code→Prop} {G:Gh} {w0 w:World} {st:St} (hs:Sim fm CR G w0 st w) {t s r len cap n:Nat} {bc:List Nat} {cs:Array Value} {ty:TypeId}
 (hold:∀ s',st.bc[t]? = some s'→s'<s) (hnew:bc[t]? = some s) (hoth:∀ u x,u≠t→(bc[u]? = some x↔st.bc[u]? = some x))
 (hn:0<n) (hlc:len≤cap) (hrow:w.heap[r]? = some (.cells cs ty (0,0))) (hsz:cs.size=cap*n) (hro:∀ i,len*n≤i→G.ro r i=none)
 (hobj:∀ b o,st.heap[b]? = some o→o.cb=false→G.mu b≠some r) (hfl:st.aQ≤t→G.floor≤r)
 (hdis:∀ u x y,u≠t→st.bc[u]? = some x→G.bt u x=some y→y.1≠r) :
 Sim fm CR (G.dP t s r len cap n) w0 { st with bc:=bc } w:=by
 have hle:=(Gh.mW hs hold r len cap n).toSub;have hh:∀ u x,u≠t→(G.dP t s r len cap n).bt u x=G.bt u x:=fun u x hu=>by simp only[Gh.dP];rw[if_neg (fun h=>hu h.1)]
 have hh':(G.dP t s r len cap n).bt t s=some (r,len,cap,n):=by simp[Gh.dP]
 refine { bU:=hs.bU,bQ:=hs.bQ,obj:=?_,ro:=hs.ro,dj:=hs.dj,tok:=?_,bw:=?_,bt:=?_,dfr:=hs.dfr,lps:=hs.lps,aG:=hs.aG,below:=hs.below,base:=hs.base,aQ:=hs.aQ,bA:=hs.bA,bj:=hs.bj,env:=hs.env }
 · intro b o ho hg hpd;obtain⟨r',ob,h1,h2,h3,h4⟩:=hs.obj b o ho hg hpd;exact⟨r',ob,h1,h2,h3.sub hle h1,h4⟩
 · intro u x hu;by_cases e:u=t
   · subst e;rw[hnew] at hu;cases hu;exact⟨r,len,cap,n,cs,ty,hh',hn,hlc,hrow,hsz,hro,hobj,hfl⟩
   · obtain⟨r',len',cap',n',cs',ty',h1,h2⟩:=hs.tok u x ((hoth u x e).1 hu);exact⟨r',len',cap',n',cs',ty',by rw[hh u x e];exact h1,h2⟩
 · intro u u' x x' y y' hu hu' hy hy' hyy;by_cases e:u=t<;>by_cases e':u'=t
   · rw[e,e']
   · subst e;rw[hnew] at hu;cases hu;rw[hh'] at hy;cases hy;rw[hh u' x' e'] at hy';exact absurd hyy.symm (hdis u' x' y' e' ((hoth u' x' e').1 hu') hy')
   · subst e';rw[hnew] at hu';cases hu';rw[hh'] at hy';cases hy';rw[hh u x e] at hy;exact absurd hyy (hdis u x y e ((hoth u x e).1 hu) hy)
   · rw[hh u x e] at hy;rw[hh u' x' e'] at hy';exact hs.bw u u' x x' y y' ((hoth u x e).1 hu) ((hoth u' x' e').1 hu') hy hy' hyy
 · intro u x y hy;by_cases e:u=t
   · subst e;by_cases e2:x=s
     · subst e2;exact⟨x,hnew,aai _⟩
     · have:G.bt u x=some y:=by
        simp only[Gh.dP] at hy
        rwa [if_neg (fun h=>e2 h.2)] at hy
       obtain⟨s',h1,h2⟩:=hs.bt u x y this;exact⟨s,hnew,by have:=hold s' h1;omega⟩
   · rw[hh u x e] at hy;obtain⟨s',h1,h2⟩:=hs.bt u x y hy;exact⟨s',(hoth u s' e).2 h1,h2⟩
theorem Sim.eL {CR:Nat→RC→Code→Prop} {G:Gh} {w0 w:World} {st:St} (hs:Sim fm CR G w0 st w):∀ b o,st.heap[b]? = some o→o.cb=false→G.mu b≠some w.heap.size:=by
 intro b o ho hg e;obtain⟨r,ob,h1,h2,_⟩:=hs.obj b o ho hg (hs.np e);rw[e] at h1;cases h1;exact absurd (get?_lt h2) (aa4 _)
theorem Sim.Ci {CR:Nat→RC→Code→Prop} {G:Gh} {w0 w:World} {st:St} (hs:Sim fm CR G w0 st w):∀ u x y,st.bc[u]? = some x→G.bt u x=some y→y.1≠w.heap.size:=by
 intro u x y hu hy e;obtain⟨r,len,cap,n,cs,ty,h1,h2,h3,h4,h5⟩:=hs.tok u x hu;rw[hy] at h1;cases h1;simp only at e;rw[e] at h4;exact absurd (get?_lt h4) (aa4 _)
theorem Sim.Jd {CR:Nat→RC→Code→Prop} {G:Gh} {w0 w:World} {st:St} (hs:Sim fm CR G w0 st w) (i:Nat):G.ro w.heap.size i=none:=by
 cases e:G.ro w.heap.size i with
 | none=>rfl
 | some v=>exact absurd (hs.zU e) (aa4 _)
end Go.D
end
section
namespace Go.D
open Go.RowKit
variable {P:Program} {fm:FM}
def fJ (P:Program) (u:TypeId):Bool:=match P.underlying u with | some (.slice _)=>true | some .string=>true | _=>false
theorem appArg {u:TypeId} (h:fJ P u=true):(∃ e,P.underlying u=some (.slice e))∨P.underlying u=some .string:=by
 unfold fJ at h;split at h
 · rename_i e he;exact .inl ⟨e,he⟩
 · rename_i he;exact .inr he
 · cases h
theorem cX {w w':World} {t u ty e:TypeId} {i:TypeInfo} {a:Option Addr} {sLen sCap m:Nat} {x:Value} {news:Array Value} (ht:P.underlying t=some (.slice e)) (hi:P.info? e=some i) (hu:fJ P u=true)
 (hlen:(Builtin.lenOf x).run P w=.ok m w) (hfit:sLen+m≤sCap) (hnews:(Builtin.firstCells i.size m x).run P w=.ok news w)
 (hst:(match a with | some a=>storeCells (a.add (sLen*i.size)) news.toList | none=>pure ():Sem Unit).run P w=.ok () w') :
 (Builtin.append_ #[t,u] ty #[.slice a sLen sCap,x]).run P w=.ok (.slice a (sLen+m) sCap) w':=by
 have hsize:(sizeOf e).run P w=.ok i.size w:=by unfold sizeOf typeInfo;simp[hi]
 cases a with
 | none=>
   simp only[Sem.run_pure] at hst;cases hst;rcases appArg hu with ⟨e',hd⟩ | hd<;>simp[Builtin.append_,run_underlying ht,run_underlying hd,hsize,hlen,hfit,hnews]
 | some a=>
   simp only at hst;rcases appArg hu with ⟨e',hd⟩ | hd<;>simp[Builtin.append_,run_underlying ht,run_underlying hd,hsize,hlen,hfit,hnews,hst]
theorem di {w:World} {t u ty e:TypeId} {i:TypeInfo} {z:Value} {a:Option Addr} {sLen sCap m:Nat} {x:Value} {olds news:Array Value} (ht:P.underlying t=some (.slice e)) (hi:P.info? e=some i) (hz:i.zero=some z) (hu:fJ P u=true)
 (hlen:(Builtin.lenOf x).run P w=.ok m w) (hg:sCap<sLen+m) (hb:(sLen+m)*i.bytes≤140737488355328) (h63:sLen+m≤140737488355328)
 (holds:(Builtin.firstCells i.size sLen (.slice a sLen sCap)).run P w.drew=.ok olds w.drew) (hnews:(Builtin.firstCells i.size m x).run P w.drew=.ok news w.drew) :
 (Builtin.append_ #[t,u] ty #[.slice a sLen sCap,x]).run P w =
  .ok (.slice (some ⟨w.heap.size,0,none⟩) (sLen+m) (grownCap w (sLen+m) sCap e)) (w.drew.alloc (.cells (olds++news++Builtin.zeroCells z.cells (grownCap w (sLen+m) sCap e-(sLen+m))) e)):=by
 have hsize:(sizeOf e).run P w=.ok i.size w:=by unfold sizeOf typeInfo;simp[hi]
 have hn:¬ (sLen+m≤sCap):=by omega
 have h63':¬ (9223372036854775807<((sLen:Int)+(m:Int))):=by omega
 have h48':¬ (281474976710656<Builtin.nextslicecap (sLen+m) sCap*i.bytes):=by
  have:=growslice_fits (bytes:=i.bytes) hg hb;omega
 rcases appArg hu with ⟨e',hd⟩ | hd<;>simp[Builtin.append_,run_underlying ht,run_underlying hd,sizeOf,hlen,hn,h63',h48',Question.forced,typeInfo,zeroValue,hi,hz,holds,hnews,newRow,grownCap]
section
variable {CR:Nat→RC→Code→Prop} {G:Gh} {w0 w:World} {st:St}
def Gh.dr (G:Gh) (r:Nat) (arr:Array Value) (lo hi:Nat):Gh:={ G with ro:=fun r' i=>if r'=r∧lo≤i∧i<hi then arr[i]? else G.ro r' i }
theorem Gh.kW (G:Gh) (r:Nat) (arr:Array Value) (lo hi:Nat) (hn:∀ i,lo≤i→i<hi→G.ro r i=none) (hr:G.floor≤r):G.le (G.dr r arr lo hi):=by
 refine⟨⟨fun r' i v hv=>?_,fun _ _ x=>x,fun _ _ _ x=>x,fun _ _ _=>rfl⟩,fun _ x=>x,fun _ x=>x,rfl,fun r' i hv=>?_,rfl,rfl,rfl⟩
 · simp only[Gh.dr];rw[if_neg]
   · exact hv
   · rintro⟨rfl,h1,h2⟩;rw[hn i h1 h2] at hv;cases hv
 · simp only[Gh.dr];rw[if_neg];rintro⟨rfl,_⟩;omega
theorem Sim.dr (h:Sim fm CR G w0 st w) {r:Nat} {arr:Array Value} {ty:TypeId} {fz:Nat×Nat} (lo hi:Nat) (hn:∀ i,lo≤i→i<hi→G.ro r i=none) (hr:G.floor≤r) (hrow:w.heap[r]? = some (.cells arr ty fz))
 (hobj:∀ b o,st.heap[b]? = some o→o.cb=false→G.mu b≠some r)
 (htok:∀ u x y,st.bc[u]? = some x→G.bt u x=some y→y.1=r→hi≤y.2.1*y.2.2.2):Sim fm CR (G.dr r arr lo hi) w0 st w:=by
 have hle:=(Gh.kW G r arr lo hi hn hr).toSub;refine { bU:=h.bU,bQ:=h.bQ,obj:=?_,ro:=?_,dj:=?_,tok:=?_,bw:=h.bw,bt:=h.bt,dfr:=h.dfr,lps:=h.lps,aG:=h.aG,below:=h.below,base:=h.base,aQ:=h.aQ,bA:=h.bA,bj:=h.bj,env:=h.env }
 · intro b o ho hg hpd;obtain⟨r',ob,h1,h2,h3,h4⟩:=h.obj b o ho hg hpd;exact⟨r',ob,h1,h2,h3.sub hle h1,h4⟩
 · intro r' i v hv;simp only[Gh.dr] at hv;split at hv
   · rename_i e1;obtain⟨rfl,_,_⟩:=e1;exact⟨arr,ty,fz,hrow,hv⟩
   · exact h.ro r' i v hv
 · intro r' i v b o hv ho hg hm;simp only[Gh.dr] at hv;split at hv
   · rename_i e1;obtain⟨rfl,_,_⟩:=e1;exact hobj b o ho hg hm
   · exact h.dj r' i v b o hv ho hg hm
 · intro u x hu;obtain⟨r',len,cap,n,cs,ty',h1,h2,h3,h4,h5,h6,h7,h8⟩:=h.tok u x hu;refine⟨r',len,cap,n,cs,ty',h1,h2,h3,h4,h5,fun i hi'=>?_,h7,h8⟩;simp only[Gh.dr];rw[if_neg]
   · exact h6 i hi'
   · rintro⟨rfl,e1,e2⟩;have:=htok u x _ hu h1 rfl;simp only at this;omega
theorem Sim.x8 (h:Sim fm CR G w0 st w) {r:Nat} {cs cs':Array Value} {ty:TypeId} {fz:Nat×Nat} (hrow:w.heap[r]? = some (.cells cs ty fz)) (hr:G.floor≤r)
 (hobj:∀ b o,st.heap[b]? = some o→o.cb=false→G.mu b≠some r) (hsz:cs'.size=cs.size) (hsame:∀ i v,G.ro r i=some v→cs'[i]? = cs[i]?):Sim fm CR G w0 st (w.putObj r (.cells cs' ty fz)):=by
 have hlt:=get?_lt hrow;have hp:=fun k=>eG w r k (.cells cs' ty fz) hlt;refine { bU:=h.bU,bQ:=h.bQ,obj:=?_,ro:=?_,dj:=h.dj,tok:=?_,bw:=h.bw,bt:=h.bt,dfr:=?_,lps:=?_,aG:=?_,below:=?_,base:=h.base,aQ:=h.aQ,bA:=h.bA,bj:=h.bj,env:=h.env }
 · intro b o ho hg hpd;obtain⟨r',ob,h1,h2,h3,h4⟩:=h.obj b o ho hg hpd;refine⟨r',ob,h1,?_,h3,h4⟩;rw[hp,if_neg]
   · exact h2
   · rintro rfl;exact hobj b o ho hg h1
 · intro r' i v hv;obtain⟨c,t,f,g1,g2⟩:=h.ro r' i v hv;by_cases e:r'=r
   · subst e;rw[hrow] at g1;cases g1;exact⟨cs',ty,fz,by rw[hp];simp,by rw[hsame i v hv];exact g2⟩
   · exact⟨c,t,f,by rw[hp,if_neg e];exact g1,g2⟩
 · intro u x hu;obtain⟨r',len,cap,n,c,t,h1,h2,h3,h4,h5,h6,h7,h8⟩:=h.tok u x hu;by_cases e:r'=r
   · subst e;rw[hrow] at h4;cases h4;exact⟨r',len,cap,n,cs',ty,h1,h2,h3,by rw[hp];simp,by rw[hsz];exact h5,h6,h7,h8⟩
   · exact⟨r',len,cap,n,c,t,h1,h2,h3,by rw[hp,if_neg e];exact h4,h5,h6,h7,h8⟩
 · intro r' hd;have:=h.dfr r' hd;rw[hp,if_neg]
   · exact this
   · rintro rfl;rw[hrow] at this;cases this
 · intro r' hd;obtain⟨l,hl⟩:=h.lps r' hd;refine⟨l,?_⟩;rw[hp,if_neg]
   · exact hl
   · rintro rfl;rw[hrow] at hl;cases hl
 · simpa[World.putObj] using h.aG
 · exact h.below.trans (jv _ _ _ hr)
theorem Sim.Cd (h:Sim fm CR G w0 st w) (b:Nat) (hnp:G.bj b=none):Sim fm CR G w0 { st with heap:=st.heap.set b .gone } w:=by
 have old:∀ k o,(st.heap.set b .gone)[k]? = some o→o.cb=false→k≠b∧st.heap[k]? = some o:=by
  intro k o hk hg;rcases getElem?_set_cases _ _ _ _ _ hk with ⟨rfl,rfl,_⟩ | h
  · cases hg
  · exact h
 refine { bU:=?_,bQ:=?_,obj:=?_,ro:=h.ro,dj:=?_,tok:=?_,bw:=h.bw,bt:=h.bt,dfr:=h.dfr,lps:=h.lps,aG:=h.aG,below:=h.below,base:=h.base,aQ:=h.aQ,bA:=by simpa using h.bA,bj:=?_,env:=h.env }
 · intro k x hk;simpa using h.bU k x hk
 · intro k k' x x' y hk hk' gx gx';exact h.bQ k k' x x' y (old k x hk gx).2 (old k' x' hk' gx').2 gx gx'
 · intro k o hk hg hpd;exact h.obj k o (old k o hk hg).2 hg hpd
 · intro r i v k o hv hk hg;exact h.dj r i v k o hv (old k o hk hg).2 hg
 · intro u x hu;obtain⟨r',len,cap,n,c,t,h1,h2,h3,h4,h5,h6,h7,h8⟩:=h.tok u x hu;exact⟨r',len,cap,n,c,t,h1,h2,h3,h4,h5,h6,fun k o hk hg=>h7 k o (old k o hk hg).2 hg,h8⟩
 · intro k o hk;obtain⟨p1,p2⟩:=h.bj k o hk;have:b≠k:=by rintro rfl;rw[hnp] at hk;cases hk
   exact⟨by rw[aaA this];exact p1,p2⟩
theorem Sim.IK (h:Sim fm CR G w0 st w) {r:Nat} {o:HO} {ob:Obj} (size:Nat) (hrow:w.heap[r]? = some ob) (hr0:G.floor≤r) (hobj:∀ b o,st.heap[b]? = some o→o.cb=false→G.mu b≠some r)
 (hro:∀ i,G.ro r i=none) (htok:∀ u x y,st.bc[u]? = some x→G.bt u x=some y→y.1≠r)
 (hr:cS fm CR (G.push st.heap.length r size) st.heap.length o ob) (hg:o.cb=false):Sim fm CR (G.push st.heap.length r size) w0 (st.push o) w:=by
 have hn:=h.b9;have hle:G.le (G.push st.heap.length r size):=Gh.bK hn;have muOld:∀ k,k<st.heap.length→(G.push st.heap.length r size).mu k=G.mu k:=fun k hk=>by simp[Gh.push,Nat.ne_of_lt hk]
 have eL:(G.push st.heap.length r size).mu st.heap.length=some r:=by simp[Gh.push]
 refine { bU:=?_,bQ:=?_,obj:=?_,ro:=h.ro,dj:=?_,tok:=?_,bw:=h.bw,bt:=h.bt,dfr:=h.dfr,lps:=h.lps,aG:=h.aG,below:=h.below,base:=h.base,aQ:=h.aQ,bA:=by have:=h.bA;simp only[St.push,aah];omega,bj:=?_,env:=h.env }
 · intro k x hk;simp only[St.push,aah,aax,aaP];by_cases e:k=st.heap.length
   · omega
   · have:G.mu k=some x:=by simpa[Gh.push,e] using hk
     have:=h.bU _ _ this;omega
 · intro k k' x x' y hk hk' gx gx' mk mk';rcases getElem?_push_cases _ _ _ _ hk with ⟨rfl,rfl⟩ | ⟨e,hk1⟩<;>rcases getElem?_push_cases _ _ _ _ hk' with ⟨rfl,rfl⟩ | ⟨e',hk1'⟩
   · rfl
   · rw[eL] at mk;rw[muOld _ e'] at mk';cases mk;exact absurd mk' (hobj _ _ hk1' gx')
   · rw[eL] at mk';rw[muOld _ e] at mk;cases mk';exact absurd mk (hobj _ _ hk1 gx)
   · rw[muOld _ e] at mk;rw[muOld _ e'] at mk';exact h.bQ _ _ _ _ _ hk1 hk1' gx gx' mk mk'
 · intro k x hk gx hpd;rcases getElem?_push_cases _ _ _ _ hk with ⟨rfl,rfl⟩ | ⟨e,hk⟩
   · exact⟨_,_,eL,hrow,hr,fun _=>hr0⟩
   · obtain⟨r2,ob2,m2,g2,o2,f2⟩:=h.obj _ _ hk gx hpd;exact⟨r2,ob2,by rw[muOld _ e];exact m2,g2,o2.le hle m2,f2⟩
 · intro r' i v k x hv hk gx mk;rcases getElem?_push_cases _ _ _ _ hk with ⟨rfl,rfl⟩ | ⟨e,hk⟩
   · rw[eL] at mk;cases mk;have:G.ro r i=some v:=hv;rw[hro i] at this;cases this
   · rw[muOld _ e] at mk;exact h.dj _ _ _ _ _ hv hk gx mk
 · intro t s ht;obtain⟨r2,len,cap,n,cs,ty,a1,a2,a3,a4,a5,a6,a7,a8⟩:=h.tok t s ht;refine⟨r2,len,cap,n,cs,ty,a1,a2,a3,a4,a5,a6,?_,a8⟩;intro k x hk gx;rcases getElem?_push_cases _ _ _ _ hk with ⟨rfl,rfl⟩ | ⟨e,hk⟩
   · rw[eL];intro e;cases e;exact htok t s _ ht a1 rfl
   · rw[muOld _ e];exact a7 _ _ hk gx
 · intro k x hk;obtain⟨p1,p2⟩:=h.bj k x hk;have hlt:=(aae.1 p1).1;exact⟨by simp only[St.push];rw[aaj hlt];exact p1,(muOld k hlt).trans p2⟩
end
end Go.D
end
section
namespace Go.D
open Go.RowKit
variable {P:Program} {fm:FM}
section
variable {CR:Nat→RC→Code→Prop} {G:Gh} {w0 w:World} {st:St}
theorem AO (hs:Sim fm CR G w0 st w) {t s n len cap:Nat} {bc:List Nat} {arr:Array Value} {e:TypeId}
 (hold:∀ s',st.bc[t]? = some s'→s'<s) (hnew:bc[t]? = some s) (hoth:∀ u x,u≠t→(bc[u]? = some x↔st.bc[u]? = some x))
 (hn:0<n) (hlc:len≤cap) (hsz:arr.size=cap*n) :
 ∃ G',G.le G'∧Sim fm CR G' w0 { st with bc:=bc } (w.drew.alloc (.cells arr e))∧(∀ i,i<len*n→G'.ro w.heap.size i=some (arr.getD i undef))∧G'.bt t s=some (w.heap.size,len,cap,n):=by
 have h1:=hs.drew.alloc (.cells arr e);have hrow:(w.drew.alloc (.cells arr e)).heap[w.heap.size]? = some (.cells arr e (0,0)):=World.alloc_heap_new w.drew _;have h2:=h1.DY (t:=t) (s:=s) (r:=w.heap.size) (len:=len) (cap:=cap) (n:=n) (bc:=bc) (cs:=arr) (ty:=e) hold hnew hoth hn hlc hrow hsz (fun i _=>hs.Jd i) hs.eL (fun _=>hs.aG) (fun u x y _ hx hy=>hs.Ci u x y hx hy);have hro:∀ i,0≤i→i<len*n→(G.dP t s w.heap.size len cap n).ro w.heap.size i=none:=fun i _ _=>hs.Jd i
 have h3:=h2.dr 0 (len*n) hro hs.aG hrow hs.eL (fun u x y hu hy hr=>by
  by_cases e:u=t
  · subst e;have hu':bc[u]? = some x:=hu;rw[hnew] at hu';cases hu';have:y=(w.heap.size,len,cap,n):=by simpa[Gh.dP] using hy.symm
    subst this;exact aai _
  · have hy':G.bt u x=some y:=by
     simp only[Gh.dP] at hy
     rwa [if_neg (fun h=>e h.1)] at hy
    exact absurd hr (hs.Ci u x y ((hoth u x e).1 hu) hy'))
 refine⟨_,(Gh.mW hs hold _ _ _ _).trans (Gh.kW _ _ _ _ _ hro hs.aG),h3,fun i hi=>?_,by simp[Gh.dr,Gh.dP]⟩;have hlt:i<arr.size:=by rw[hsz];exact abm hi (aaC _ hlc)
 simp[Gh.dr,hi,hlt,Array.getD]
theorem uI (hs:Sim fm CR G w0 st w) {t s n r len cap m:Nat} {N:List Value} (ht:st.bc[t]? = some s) (htb:st.aQ≤t) (hh:G.bt t s=some (r,len,cap,n)) (hfit:len+m≤cap) (hN:N.length=m*n) (h1:∀ u∈N,u.oneCell'=true) :
 ∃ G' w',(storeCells ⟨r,len*n,none⟩ N).run P w=.ok () w'∧G.le G'∧Sim fm CR G' w0 { st with bc:=st.bc.set t (s+1) } w'∧(∀ i,i<m*n→G'.ro r (len*n+i)=some (N.getD i undef))∧G'.bt t (s+1)=some (r,len+m,cap,n):=by
 obtain⟨r',len',cap',n',cs,ty,a1,a2,a3,a4,a5,a6,a7,a8⟩:=hs.tok t s ht;rw[hh] at a1;cases a1;have hfl:=a8 htb;have hmul:len*n+m*n≤cs.size:=by rw[a5,← aaN];exact aaC _ hfit
 have hst:=dc (P:=P) (off:=len*n) N 0 cs w a4 (by omega) (fun i hi=>by simp) h1;rw[aa5,fG a4] at hst;have hssz:=eU (cur:=cs) (k:=len*n) (vs:=N) (by omega)
 have hget:∀ i,i<len*n→(aO cs (len*n) N)[i]? = cs[i]?:=by
  intro i hi;unfold aO;rw[abk,aas,aaj (by simp;omega),List.getElem?_take];simp[hi]
 have h2:=hs.x8 (cs':=aO cs (len*n) N) a4 hfl a7 hssz (fun i v hv=>by
  apply hget;rcases Nat.lt_or_ge i (len*n) with h | h
  · exact h
  · rw[a6 i h] at hv;cases hv)
 have hrow:(w.putObj r (.cells (aO cs (len*n) N) ty (0,0))).heap[r]? = some (.cells (aO cs (len*n) N) ty (0,0)):=by rw[eG w r r _ (get?_lt a4)];simp
 have hlt:t<st.bc.length:=(aae.1 ht).1;have hoth:∀ u x,u≠t→((st.bc.set t (s+1))[u]? = some x↔st.bc[u]? = some x):=fun u x hu=>by rw[aaA (fun e=>hu e.symm)]
 have hold:∀ s',st.bc[t]? = some s'→s'<s+1:=fun s' h=>by rw[ht] at h;cases h;omega
 have hdis:∀ u x y,u≠t→st.bc[u]? = some x→G.bt u x=some y→y.1≠r:=fun u x y hu hx hy e=>hu (hs.bw u t x s y _ hx ht hy hh e);have hrange:∀ i,(len+m)*n≤i→len*n≤i:=fun i hi=>by rw[aaN] at hi;omega
 have h3:=h2.DY (t:=t) (s:=s+1) (r:=r) (len:=len+m) (cap:=cap) (n:=n) (bc:=st.bc.set t (s+1)) (cs:=aO cs (len*n) N) (ty:=ty)
  hold (by simp[hlt]) hoth a2 hfit hrow (by rw[hssz,a5]) (fun i hi=>a6 i (hrange i hi)) a7 a8 hdis
 have hro:∀ i,len*n≤i→i<(len+m)*n→(G.dP t (s+1) r (len+m) cap n).ro r i=none:=fun i hi _=>a6 i hi
 have h4:=h3.dr (len*n) ((len+m)*n) hro hfl hrow a7 (fun u x y hu hy hr=>by
  by_cases e:u=t
  · subst e;have hu':(st.bc.set u (s+1))[u]? = some x:=hu;simp only[abh hlt,aab.injEq] at hu';subst hu';have:y=(r,len+m,cap,n):=by simpa[Gh.dP] using hy.symm
    subst this;exact aai _
  · have hy':G.bt u x=some y:=by
     simp only[Gh.dP] at hy
     rwa [if_neg (fun h=>e h.1)] at hy
    exact absurd hr (hdis u x y e ((hoth u x e).1 hu) hy'))
 refine⟨_,_,hst,(Gh.mW hs hold _ _ _ _).trans (Gh.kW _ _ _ _ _ hro hfl),h4,fun i hi=>?_,by simp[Gh.dr,Gh.dP]⟩;have e1:len*n+i<(len+m)*n:=by rw[aaN];omega
 have e2:(aO cs (len*n) N)[len*n+i]? = some (N.getD i undef):=by
  unfold aO;have hiN:i<N.length:=by omega
  rw[abk,aas,aat (by simp;omega)];have e3:len*n+i-(cs.toList.take (len*n)).length=i:=by simp;omega
  rw[e3,aaj hiN,aak,aaa hiN];rfl
 simp[Gh.dr,e1,e2]
end
theorem kb {G:Gh} {olds news:List DV} {O N Z:Array Value} (hO:O.size=olds.length) (hN:N.size=news.length) (rO:∀ i (h:i<olds.length),Rel fm G (olds[i]) (O.getD i undef)) (rN:∀ i (h:i<news.length),Rel fm G (news[i]) (N.getD i undef)) :
 ∀ i (h:i<(olds++news).length),Rel fm G ((olds++news)[i]) ((O++N++Z).getD i undef):=by
 intro i h;have hi:i<olds.length+news.length:=by simpa using h
 have e0:(O++N++Z).getD i undef=(O++N).getD i undef:=by
  rw[aag,aag,abi (by simp;omega)]
 rw[e0];by_cases e:i<olds.length
 · rw[aa0 e]
   have:(O++N).getD i undef=O.getD i undef:=by
    rw[aag,aag,abi (by omega)]
   rw[this];exact rO i e
 · rw[aaV (by omega)]
   have:(O++N).getD i undef=N.getD (i-olds.length) undef:=by
    rw[aag,aag,Array.getElem?_append_right (by omega),hO]
   rw[this];exact rN _ (by omega)
theorem jY (news:List DV) (i:Nat) (h:i<(news.map DV.aP).length):(news.map DV.aP)[i]=(news[i]'(by simpa using h)).aP:=by simp
end Go.D
end
section
namespace Go.D
open Go.RowKit
variable {P:Program} {fm:FM}
theorem o0 {G:Gh} {tag n r len cap:Nat} {tk:Tk} {ys:List DV} (f:Nat→Value) (hlen:ys.length=len) (hn:∀ y∈ys,y.leaves.length=n) (hp:(flat ys).all DV.pure=true) (hr:∀ i,i<len*n→G.ro r i=some (f i))
 (hc:∀ i (h:i<(flat ys).length),Rel fm G ((flat ys)[i]) (f i)) (hk:A4 G n tk r 0 len cap) (hl:len≤cap):Rel fm G (.list tag n tk true ys) (.slice (some ⟨r,0,none⟩) len cap):=by
 subst hlen;refine .list tag n tk ys r 0 cap f (fun i hi=>?_) hc hp hk hl hn;rw[aay];exact hr i (by rw[← dD ys n hn];exact hi)
theorem n0 {G:Gh} {news:List DV} {N:Array Value} (hN:N.size=news.length) (rN:∀ i (h:i<news.length),Rel fm G (news[i]) (N.getD i undef)) (hsc:news.all DV.bp=true):∀ u∈N.toList,u.oneCell'=true:=by
 intro u hu;obtain⟨j,hj,rfl⟩:=aa9 hu;have hj':j<news.length:=by rw[← hN];simpa using hj
 have h1:=rN j hj';rw[← aR,aak,aaa hj] at h1;exact ux h1 (aaf.1 hsc _ (aar hj'))
theorem tq {t u e:TypeId} {n bytes:Nat} {ag:Bool} {zs:List DV} {i:TypeInfo} {x y:X} {xo yo:Operand} {o:Oper} (ho:builtinCall .append [xo,yo] [t,u] o.op) (ht:P.underlying t=some (.slice e)) (hu:fJ P u=true)
 (hi:P.info? e=some i) (hn:i.size=n) (hby:i.bytes=bytes) (hz:bx P e=some zs) (hzl:zs.length=n) (hag:ag=true∨n=1) (hx:bu fm x xo) (hy:bu fm y yo):aA P fm (.append n ag bytes x y) o:=by
 intro CR G w0 st w fr a v st' hs hf hrun;simp only[an,bL] at hrun;have hxv:=hx.ev (a:=a) hf;have hyv:=hy.ev (a:=a) hf;split at hrun
 · cases hrun
 rename_i m news hnews;have hnr:=fW (P:=P) hs hyv hnews;generalize hx0:a.eval xo=x0 at hxv;generalize hy0:a.eval yo=y0 at hyv hnr;obtain⟨N,n1,n2,n3⟩:=hnr.cells m w (aai _) (Below.refl _ w);obtain⟨N',d1,d2,d3⟩:=hnr.cells m w.drew (aai _) ((Below.refl _ w).drew);have hnl:=hnr.length;obtain⟨i',z,hi',hzz,hcc⟩:=bR hz;rw[hi] at hi';cases hi';obtain⟨zl,zr⟩:=ca (fm:=fm) hcc;have hzsz:z.cells.size=n:=by rw[← hzl,← zl];simp
 have fin:∀ (r:Value) (w':World),(Builtin.append_ #[t,u] o.type #[x0,y0]).run P w=.ok r w'→(execOp a.eval o).run P w=.ok (.value r) w':=by
  intro r w' h;obtain⟨consts,he⟩:=df ho a.eval;rw[he];simp only[aaS,abp,hx0,hy0];unfold builtin;exact ai h
 have none0:∀ (p:Option Addr) (l c:Nat),m=0→x0=.slice p l c→l≤c→(Builtin.append_ #[t,u] o.type #[x0,y0]).run P w=.ok x0 w:=by
  intro p l c hm hp hlc;subst hm;have hN0:N = #[]:=by simpa using n2
  rw[hp];rw[← hn] at n1;have:=cX (P:=P) (w:=w) (w':=w) (ty:=o.type) (a:=p) (sLen:=l) (sCap:=c) (m:=0) (x:=y0) (news:=N) ht hi hu hnr.len (by omega) n1 (by subst hN0;cases p<;>rfl);simpa using this
 generalize X.ev fr x=xv at hxv hrun;split at hrun
 ·
  rename_i tag n' tk nn xs
  have hshape:∃ p cap,x0=.slice p xs.length cap∧xs.length≤cap:=by
   cases hxv with
   | ga=>exact⟨none,0,rfl,aai _⟩
   | list _ _ _ _ r off cap f hr hc hp hk hl hnn=>exact⟨_,cap,rfl,hl⟩
  obtain⟨p,cap,hxe,hlc⟩:=hshape;split at hrun
  · rename_i hm;simp only[aab.injEq,Prod.mk.injEq] at hrun;obtain⟨rfl,rfl⟩:=hrun;exact⟨G,w,x0,_,fin _ _ (none0 p _ _ hm hxe hlc),.inl rfl,Gh.le.refl G,hs,hxv⟩
  rename_i hm;split at hrun
  · cases hrun
  rename_i hcond;simp only[not_or,Bool.not_eq_true,Bool.not_eq_false'] at hcond;obtain⟨hn0,hnn',hb1,hb2,hpure⟩:=hcond;have hpure:(news.map DV.aP).all DV.pure=true:=by simpa using hpure
  have hn0:0<n:=by omega
  have hb1:(xs.length+m)*bytes≤140737488355328:=by simpa[aD] using hb1
  have hb2:xs.length+m≤140737488355328:=by simpa[aD] using hb2
  have hml:(news.map DV.aP).length=m*n:=by simpa using hnl
  have hold:zC P fm G w n xs.length (flat xs) x0∧(∀ y∈xs,y.leaves.length=n)∧(flat xs).all DV.pure=true:=by
   cases hxv with
   | ga=>exact⟨fW (P:=P) hs (.ga tag n' tk) (by simp[cd,flat]),fun y hy=>by simp at hy,rfl⟩
   | list _ _ _ _ r off cap f hr hc hp hk hl hnn=>
     have:n'=n:=by simpa using hnn'
     subst this;exact⟨fW (P:=P) hs (.list tag n' tk xs r off cap f hr hc hp hk hl hnn) (by simp[cd]),hnn,hp⟩
  obtain⟨hor,hxn,hxp⟩:=hold;obtain⟨O,o1,o2,o3⟩:=hor.cells xs.length w.drew (aai _) ((Below.refl _ w).drew);have hfx:=dD xs n hxn;have hfc:=kV n ag hag m (news.map DV.aP) hml hpure;have hlc':=jk n ag m (news.map DV.aP);generalize hys:xs++chunk n ag m (news.map DV.aP)=ys at hrun;have hyf:flat ys=flat xs++news.map DV.aP:=by rw[← hys,j9,hfc]
  have hyl:ys.length=xs.length+m:=by rw[← hys];simp[hlc']
  have hyn:∀ y∈ys,y.leaves.length=n:=by
   intro y hy;rw[← hys] at hy;rcases aaL.1 hy with h | h
   · exact hxn y h
   · exact jz n ag hag m _ hml hpure y h
  have hyp:(flat ys).all DV.pure=true:=by rw[hyf,List.all_append,hxp,hpure];rfl
  have grown:∀ (t0 s0:Nat) (bc:List Nat),(∀ s',st.bc[t0]? = some s'→s'<s0)→bc[t0]? = some s0→(∀ u x,u≠t0→(bc[u]? = some x↔st.bc[u]? = some x))→cap<xs.length+m →
   ∃ G' w' x nx,(execOp a.eval o).run P w=.ok nx w'∧yq nx x∧G.le G'∧Sim fm CR G' w0 { st with bc:=bc } w'∧Rel fm G' (.list st.cur n (.own t0 s0) true ys) x:=by
   intro t0 s0 bc h1 h2 h3 hg;have hge:=grownCap_ge w (xs.length+m) cap e;have hd1:=d1;rw[← hn] at hd1;have ho1:=o1;rw[← hn,hxe] at ho1;have hr:=di (P:=P) (w:=w) (u:=u) (ty:=o.type) (z:=z) (a:=p) (sLen:=xs.length) (sCap:=cap) (m:=m) (x:=y0) (olds:=O) (news:=N') ht hi hzz hu hnr.len hg (by rw[hby];omega) (by omega) ho1 hd1;rw[← hxe] at hr
   have hsz:(O++N'++Builtin.zeroCells z.cells (grownCap w (xs.length+m) cap e-(xs.length+m))).size=grownCap w (xs.length+m) cap e*n:=by
    simp only[Array.size_append,o2,d2,size_zeroCells,hzsz,← aaN]
    congr 1;omega
   obtain⟨G',g1,g2,g3,g4⟩:=AO hs (t:=t0) (s:=s0) (n:=n) (len:=xs.length+m) (cap:=grownCap w (xs.length+m) cap e) (bc:=bc) (arr:=O++N'++Builtin.zeroCells z.cells (grownCap w (xs.length+m) cap e-(xs.length+m))) (e:=e) h1 h2 h3 hn0 hge hsz;refine⟨G',_,_,_,fin _ _ hr,.inl rfl,g1,g2,?_⟩;refine o0 _ hyl hyn hyp g3 (fun i hi=>?_) ⟨rfl,g4⟩ hge
   have:=kb (fm:=fm) (G:=G') (olds:=flat xs) (news:=news.map DV.aP) (O:=O) (N:=N') (Z:=Builtin.zeroCells z.cells (grownCap w (xs.length+m) cap e-(xs.length+m))) (by rw[o2,hfx]) (by rw[d2,hml])
    (fun i hi=>(o3 i hi (by rw[← hfx];exact hi)).le g1) (fun i hi=>by
     rw[jY];have hi':i<news.length:=by simpa using hi
     exact((d3 i hi' (by omega)).le g1).aP) i (by rw[← hyf];exact hi)
   have e1:(flat ys)[i]=(flat xs++news.map DV.aP)[i]'(by rw[← hyf];exact hi):=by congr 1
   rw[e1];exact this
  split at hrun
  ·
   simp only[aab.injEq,Prod.mk.injEq] at hrun;obtain⟨rfl,rfl⟩:=hrun;cases hxv;simp only[Value.slice.injEq] at hxe;obtain⟨rfl,_,rfl⟩:=hxe
   exact grown st.bc.length 0 (st.bc++[0]) (fun s' h=>by simp at h) (by simp) (fun u x hu=>by
    constructor
    · intro h;rcases get?_append_cases h with h | h;exact h.2;exact absurd h.1 hu
    · intro h;rw[aaj (aae.1 h).1];exact h) (by simp;omega)
  ·
   simp only[aab.injEq,Prod.mk.injEq] at hrun;obtain⟨rfl,rfl⟩:=hrun
   have hcap:cap=xs.length:=by
    cases hxv with
    | list _ _ _ _ r off cap' f hr hc hp hk hl hnn=>
      simp only[Value.slice.injEq] at hxe;rw[← hxe.2.2];exact hk
   exact grown st.bc.length 0 (st.bc++[0]) (fun s' h=>by simp at h) (by simp) (fun u x hu=>by
    constructor
    · intro h;rcases get?_append_cases h with h | h;exact h.2;exact absurd h.1 hu
    · intro h;rw[aaj (aae.1 h).1];exact h) (by omega)
  ·
   rename_i t0 s0;split at hrun
   · rename_i htok;obtain⟨htb,ht0⟩:=htok;simp only[aab.injEq,Prod.mk.injEq] at hrun;obtain⟨rfl,rfl⟩:=hrun;have hlt:t0<st.bc.length:=(aae.1 ht0).1;by_cases hg:cap<xs.length+m
     · exact grown t0 (s0+1) (st.bc.set t0 (s0+1)) (fun s' h=>by rw[ht0] at h;cases h;omega) (by simp[hlt]) (fun u x hu=>by rw[aaA (fun e=>hu e.symm)]) hg
     · cases hxv with
       | list _ _ _ _ r off cap' f hr hc hp hk hl hnn=>
         simp only[Value.slice.injEq] at hxe;obtain⟨hpe,_,hce⟩:=hxe;subst hce;subst hpe;obtain⟨hoff,hhist⟩:=hk;subst hoff;have:n'=n:=by simpa using hnn'
         subst this;obtain⟨G',w',g1,g2,g3,g4,g5⟩:=uI (P:=P) hs ht0 htb hhist (m:=m) (N:=N.toList) (by omega) (by simpa using n2) (n0 (G:=G) (news:=news) (by rw[n2,hnl]) (fun i hi=>n3 i hi (by omega)) hnr.bp);have hn1:=n1;rw[← hn] at hn1
         have hr':=cX (P:=P) (w:=w) (w':=w') (ty:=o.type) (a:=some ⟨r,0,none⟩) (sLen:=xs.length) (sCap:=cap') (m:=m) (x:=y0) (news:=N) ht hi hu hnr.len (by omega) hn1 (by
          show (storeCells ((⟨r,0,none⟩:Addr).add (xs.length*i.size)) N.toList).run P w=.ok () w'
          rw[Addr.add_lit,aay,hn];exact g1)
         refine⟨G',w',_,_,fin _ _ hr',.inl rfl,g2,g3,?_⟩;refine o0 (fun j=>if j<xs.length*n' then f j else N.getD (j-xs.length*n') undef) hyl hyn hyp (fun j hj=>?_) (fun j hj=>?_) ⟨rfl,g5⟩ (by omega)
         · by_cases ej:j<xs.length*n'
           · rw[if_pos ej];have:=hr j (by rw[hfx];exact ej);rw[aay] at this;exact g2.toSub.ro _ _ _ this
           · rw[if_neg ej];have:=g4 (j-xs.length*n') (by rw[aaN] at hj;omega);have e2:xs.length*n'+(j-xs.length*n')=j:=by omega
             rw[e2,aR] at this;exact this
         · have hj':j<(flat xs++news.map DV.aP).length:=by rw[← hyf];exact hj
           have e1:(flat ys)[j]=(flat xs++news.map DV.aP)[j]'hj':=by congr 1
           rw[e1];by_cases ej:j<xs.length*n'
           · rw[if_pos ej,aa0 (by rw[hfx];exact ej)];exact(hc j _).le g2
           · rw[if_neg ej,aaV (by rw[hfx];omega),jY]
             have hj2:j-(flat xs).length<news.length:=by
              simp only[aah,aaM] at hj';omega
             have ek:j-xs.length*n'=j-(flat xs).length:=by rw[hfx]
             rw[ek];exact((n3 (j-(flat xs).length) hj2 (by omega)).le g2).aP
   · cases hrun
  · cases hrun
 ·
  rename_i n' ag' b off len capx
  cases hxv with
  | hsl _ _ _ _ _ _ r c hmu hcap=>
  have hlc:len≤c:=by
   cases capx with
   | none=>exact hcap.1
   | some k=>have:=hcap.2;rw[hcap.1];exact this
  split at hrun
  · rename_i hm;simp only[aab.injEq,Prod.mk.injEq] at hrun;obtain⟨rfl,rfl⟩:=hrun;exact⟨G,w,_,_,fin _ _ (none0 _ _ _ hm rfl hlc),.inl rfl,Gh.le.refl G,hs,.hsl _ _ _ _ _ _ _ _ hmu hcap⟩
  rename_i hm;split at hrun
  · rename_i hcond;obtain⟨rfl,hn0,hb1,hb2⟩:=hcond;have hb1:(len+m)*bytes≤140737488355328:=by simpa[aD] using hb1
    have hb2:len+m≤140737488355328:=by simpa[aD] using hb2
    split at hrun
    · rename_i cap0;split at hrun
      · rename_i hcond2;obtain⟨rfl,hbase⟩:=hcond2;split at hrun
        · rename_i vs hcell;split at hrun
          · rename_i hvl;simp only[aab.injEq,Prod.mk.injEq] at hrun;obtain⟨rfl,rfl⟩:=hrun
            have hbo:st.heap[b]? = some (.cells .grown vs):=by
             unfold St.cells at hcell;split at hcell
             · rename_i g' vs' e;simp only[aab.injEq,Prod.mk.injEq] at hcell;obtain⟨rfl,rfl⟩:=hcell;exact e
             · cases hcell
            obtain⟨r',ob,q1,q2,q3,q4⟩:=hs.obj b _ hbo rfl (hs.np hmu);rw[hmu] at q1;cases q1;obtain⟨cs,ty,fz,rfl,k1,k2,k3,k4,k5⟩:=q3
            have hro:∀ i,G.ro r i=none:=by
             intro i
             cases er:G.ro r i with
             | none=>rfl
             | some v=>exact absurd hmu (fun h=>hs.dj r i v b _ er hbo rfl h)
            have htk:∀ u x y,st.bc[u]? = some x→G.bt u x=some y→y.1≠r:=by
             intro u x y hu hy e;obtain⟨r',len',cap',n'',cs',ty',h1,h2,h3,h4,h5,h6,h7,h8⟩:=hs.tok u x hu;rw[hy] at h1;cases h1;simp only at e;subst e;exact h7 b _ hbo rfl hmu
            have hgone:=hs.Cd b (hs.np hmu)
            have hfree:∀ b' o,(st.heap.set b .gone)[b']? = some o→o.cb=false→G.mu b'≠some r:=by
             intro b' o hb' hg e;rcases getElem?_set_cases _ _ _ _ _ hb' with ⟨rfl,rfl,_⟩ | ⟨e1,e2⟩
             · cases hg
             · exact e1 (hs.bQ _ _ _ _ _ e2 hbo hg rfl e hmu)
            have hset:(st.heap.set b .gone).length=st.heap.length:=by simp
            have hscal:(vs++news).all DV.bp=true:=by rw[List.all_append,k5,hnr.bp];rfl
            have hcapo:=hcap.2;by_cases hg:c<len+m
            ·
             have hge:=grownCap_ge w (len+m) c e
             have hor:=fW (P:=P) (n:=n') (m:=len) (news:=(vs.drop 0).take (len*n')) hs (.hsl n' ag' b 0 len none r c hmu hcap) (by
              simp only[cd,if_true,St.cells,hbo]
              rw[if_pos (by omega)])
             obtain⟨O,o1,o2,o3⟩:=hor.cells len w.drew (aai _) ((Below.refl _ w).drew);have hvs:(vs.drop 0).take (len*n')=vs:=by rw[List.drop_zero,aa8 (by omega)]
             rw[hvs] at o3;have hd1:=d1;rw[← hn] at hd1 o1;have hr:=di (P:=P) (w:=w) (u:=u) (ty:=o.type) (z:=z) (a:=some ⟨r,0,none⟩) (sLen:=len) (sCap:=c) (m:=m) (x:=y0) (olds:=O) (news:=N') ht hi hzz hu hnr.len hg (by rw[hby];omega) (by omega) o1 hd1;generalize harr:O++N'++Builtin.zeroCells z.cells (grownCap w (len+m) c e-(len+m))=arr at hr
             have hsz:arr.size=grownCap w (len+m) c e*n':=by
              rw[← harr];simp only[Array.size_append,o2,d2,size_zeroCells,hzsz,← aaN]
              congr 1;omega
             have hpush:=hgone.drew.push (o:=.cells .grown (vs++news)) (ob:=.cells arr e) (grownCap w (len+m) c e*n') ⟨arr,e,(0,0),rfl,by
              rw[hsz,aah,← hvl,hnl,← aaN];exact aaC _ hge,by simp[Gh.push,hsz],fun i hi=>by
               have:=kb (fm:=fm) (G:=G) (olds:=vs) (news:=news) (O:=O) (N:=N') (Z:=Builtin.zeroCells z.cells (grownCap w (len+m) c e-(len+m))) (by rw[o2,hvl]) (by rw[d2,hnl])
                (fun i hi=>o3 i hi (by rw[hvl];exact hi)) (fun i hi=>d3 i hi (by omega)) i hi
               rw[harr] at this;refine this.le ?_;have:=hgone.b9
               exact Gh.bK this,fun i hi=>by simp,hscal⟩ rfl
             have hle:G.le (G.push (st.heap.set b .gone).length w.heap.size (grownCap w (len+m) c e*n')):=Gh.bK hgone.b9;refine⟨_,_,_,_,fin _ _ hr,.inl rfl,hle,hpush,?_⟩;rw[← hset];exact .hsl _ _ _ _ _ _ _ _ (by simp[Gh.push]) ⟨hge,by simp[Gh.push]⟩
            ·
             have hcn:c*n'≤cs.size:=by rw[k2];omega
             have hmul:len*n'+m*n'≤cs.size:=by
              rw[← aaN];exact abu (aaC _ (by omega)) hcn
             have hNl:N.toList.length=m*n':=by simpa using n2
             have hst:=dc (P:=P) (off:=len*n') N.toList 0 cs w q2 (by omega) k4 (n0 (G:=G) (news:=news) (by rw[n2,hnl]) (fun i hi=>n3 i hi (by omega)) hnr.bp);rw[aa5,fG q2] at hst;have hssz:=eU (cur:=cs) (k:=len*n') (vs:=N.toList) (by omega);have hput:=hgone.x8 (cs':=aO cs (len*n') N.toList) q2 (q4 hbase) hfree hssz (fun i v hv=>by rw[hro i] at hv;cases hv);have hrow:(w.putObj r (.cells (aO cs (len*n') N.toList) ty fz)).heap[r]? = some (.cells (aO cs (len*n') N.toList) ty fz):=by rw[eG w r r _ (get?_lt q2)];simp
             have hlow:∀ i,i<vs.length→(aO cs (len*n') N.toList).getD i undef=cs.getD i undef:=by
              intro i hi;unfold aO;rw[aag,aag,abk,aas,aaj (by simp;omega),List.getElem?_take,if_pos (by omega)];simp
             have hhigh:∀ i,i<news.length→(aO cs (len*n') N.toList).getD (vs.length+i) undef=N.getD i undef:=by
              intro i hi;unfold aO;have hiN:i<N.toList.length:=by omega
              have e3:vs.length+i-(cs.toList.take (len*n')).length=i:=by simp;omega
              rw[aag,abk,aas,aat (by simp;omega),e3,aaj hiN,← aR,aak]
             have hle:G.le (G.push (st.heap.set b .gone).length r cs.size):=Gh.bK hgone.b9
             have hadopt:=hput.IK (o:=.cells .grown (vs++news)) cs.size hrow (q4 hbase) hfree hro htk ⟨_,ty,fz,rfl,by
              rw[hssz,aah,← hvl,hnl];exact hmul,by simp[Gh.push,hssz],fun i hi=>by
               by_cases ei:i<vs.length
               · rw[aa0 ei,hlow i ei];exact(k3 i ei).le hle
               · have hi2:i-vs.length<news.length:=by simp only[aah] at hi;omega
                 rw[aaV (by omega)];have e4:vs.length+(i-vs.length)=i:=by omega
                 have:=hhigh (i-vs.length) hi2;rw[e4] at this;rw[this]
                 exact(n3 _ hi2 (by omega)).le hle,by rw[hssz];exact k4,hscal⟩ rfl
             have hn1:=n1;rw[← hn] at hn1
             have hr':=cX (P:=P) (w:=w) (w':=w.putObj r (.cells (aO cs (len*n') N.toList) ty fz)) (ty:=o.type) (a:=some ⟨r,0,none⟩) (sLen:=len) (sCap:=c) (m:=m) (x:=y0) (news:=N) ht hi hu hnr.len (by omega) hn1 (by
              show (storeCells ((⟨r,0,none⟩:Addr).add (len*i.size)) N.toList).run P w=_
              rw[Addr.add_lit,aay,hn];exact hst)
             refine⟨_,_,_,_,fin _ _ hr',.inl rfl,hle,hadopt,?_⟩;rw[← hset];exact .hsl _ _ _ _ _ _ _ _ (by simp[Gh.push]) ⟨by omega,by simp[Gh.push];omega⟩
          · cases hrun
        · cases hrun
      · cases hrun
    · rename_i k;obtain⟨hck,hlk⟩:=hcap;subst hck;split at hrun
      · rename_i g vs hcell
        have hbo:st.heap[b]? = some (.cells g vs):=by
         unfold St.cells at hcell;split at hcell
         · rename_i g' vs' e;simp only[aab.injEq,Prod.mk.injEq] at hcell;obtain⟨rfl,rfl⟩:=hcell;exact e
         · cases hcell
        split at hrun
        · rename_i hfit;split at hrun
          · rename_i hc3;obtain⟨hbase,hvl,hw⟩:=hc3;simp only[aab.injEq,Prod.mk.injEq] at hrun;obtain⟨rfl,rfl⟩:=hrun
            obtain⟨cur,ty,fz,k1,k2,k3,k4⟩:=oM (P:=P) hs hw hbo hbase (k:=off+len*n') (ns:=news) (xs:=N.toList) hvl (by simp[n2,hnl]) (fun i hi=>by rw[aR];exact n3 i hi (by omega)) hnr.bp
             (n0 (G:=G) (news:=news) (by rw[n2,hnl]) (fun i hi=>n3 i hi (by omega)) hnr.bp) hmu
            have hn1:=n1;rw[← hn] at hn1
            have hr':=cX (P:=P) (w:=w) (ty:=o.type) (a:=some ⟨r,off,none⟩) (sLen:=len) (sCap:=c) (m:=m) (x:=y0) (news:=N) ht hi hu hnr.len hfit hn1 (by
             show (storeCells ((⟨r,off,none⟩:Addr).add (len*i.size)) N.toList).run P w=_
             rw[Addr.add_lit,hn];exact k3)
            exact⟨G,_,_,_,fin _ _ hr',.inl rfl,Gh.le.refl G,k4,.hsl _ _ _ _ _ _ _ _ hmu ⟨rfl,hfit⟩⟩
          · cases hrun
        · rename_i hfit;split at hrun
          · rename_i hvl;simp only[aab.injEq,Prod.mk.injEq] at hrun;obtain⟨rfl,rfl⟩:=hrun;have hge:=grownCap_ge w (len+m) c e
            have hor:=fW (P:=P) (n:=n') (m:=len) (news:=(vs.drop off).take (len*n')) hs (.hsl n' ag' b off len (some c) r c hmu ⟨rfl,hlk⟩) (by
             simp only[cd,if_true,hcell]
             rw[if_pos hvl])
            obtain⟨O,o1,o2,o3⟩:=hor.cells len w.drew (aai _) ((Below.refl _ w).drew);have hd1:=d1;rw[← hn] at hd1 o1;have hr:=di (P:=P) (w:=w) (u:=u) (ty:=o.type) (z:=z) (a:=some ⟨r,off,none⟩) (sLen:=len) (sCap:=c) (m:=m) (x:=y0) (olds:=O) (news:=N') ht hi hzz hu hnr.len (by omega) (by rw[hby];omega) (by omega) o1 hd1;generalize harr:O++N'++Builtin.zeroCells z.cells (grownCap w (len+m) c e-(len+m))=arr at hr
            have hsz:arr.size=grownCap w (len+m) c e*n':=by
             rw[← harr];simp only[Array.size_append,o2,d2,size_zeroCells,hzsz,← aaN]
             congr 1;omega
            have hol:=hor.length
            have hpush:=hs.drew.push (o:=.cells .grown ((vs.drop off).take (len*n')++news)) (ob:=.cells arr e) (grownCap w (len+m) c e*n') ⟨arr,e,(0,0),rfl,by
             rw[hsz,aah,hol,hnl,← aaN];exact aaC _ hge,by simp[Gh.push,hsz],fun i hi=>by
              have:=kb (fm:=fm) (G:=G) (olds:=(vs.drop off).take (len*n')) (news:=news) (O:=O) (N:=N') (Z:=Builtin.zeroCells z.cells (grownCap w (len+m) c e-(len+m))) (by rw[o2,hol]) (by rw[d2,hnl])
               (fun i hi=>o3 i hi (by rw[← hol];exact hi)) (fun i hi=>d3 i hi (by omega)) i hi
              rw[harr] at this
              exact this.le (Gh.bK hs.b9),fun i hi=>by simp,by rw[List.all_append,hor.bp,hnr.bp];rfl⟩ rfl
            have hle:G.le (G.push st.heap.length w.heap.size (grownCap w (len+m) c e*n')):=Gh.bK hs.b9;refine⟨_,_,_,_,fin _ _ hr,.inl rfl,hle,hpush,?_⟩;exact .hsl _ _ _ _ _ _ _ _ (by simp[Gh.push]) ⟨hge,by simp[Gh.push]⟩
          · cases hrun
      · cases hrun
  · cases hrun
 · cases hrun
end Go.D
end
section
namespace Go.D
open Go.RowKit
variable {P:Program} {fm:FM}
end Go.D
end
section
namespace Go.D
open Go.RowKit
variable {P:Program} {fm:FM}
end Go.D
end
section
namespace Go.D
open Go.RowKit
variable {P:Program} {fm:FM}
theorem sM {e:TypeId} {zs:List DV} {o:Oper} (ho:o.op=.alloc e) (hz:bx P e=some zs):aA P fm (.gX e zs) o:=by
 obtain⟨i,z,hi,hzz,hc⟩:=bR hz;intro CR G w0 st w fr a v st' hs hf hrun;simp only[an,aab.injEq,Prod.mk.injEq] at hrun;obtain⟨rfl,rfl⟩:=hrun;obtain⟨hl,hr⟩:=ca (fm:=fm) hc;have hs':=hs.push (o:=.cells (.typed e) zs) (ob:=.cells z.cells e) 0 ⟨z.cells,e,(0,0),rfl,rfl,by simpa using hl,fun i hi=>by rw[← aR];exact hr _ i hi,fun i hi=>by simp,cm (db hc)⟩ rfl;refine⟨_,_,.pointer (some ⟨w.heap.size,0,none⟩),_,?_,.inl rfl,Gh.bK hs.b9,hs',.ptr _ _ _ (by simp[Gh.push])⟩;unfold execOp;simp only[ho];refine ai ?_;unfold Instr.alloc;simp only[Sem.run_bind,lS hi hzz,Result.andThen_ok];rfl
theorem uL {CR:Nat→RC→Code→Prop} {G:Gh} {w0 w:World} {st:St} (hs:Sim fm CR G w0 st w) {b r ty:Nat} {vs:List DV} (hb:st.heap[b]? = some (.cells (.typed ty) vs)) (hm:G.mu b=some r):w.shape? r=some (ty,vs.length):=by
 obtain⟨r',ob,h1,h2,h3,_⟩:=hs.obj b _ hb rfl (hs.np hm);rw[hm] at h1;cases h1;obtain⟨cs,t,fz,rfl,rfl,h4,_⟩:=h3;unfold World.shape?;rw[h2];simp[h4]
theorem rK {st:St} {ty n:Nat} {x v:DV} (h:uh st ty n x=some v):∃ b vs,x=.ptr b 0∧v=.ptr b 0∧st.heap[b]? = some (.cells (.typed ty) vs)∧vs.length=n:=by
 unfold uh at h;split at h
 · rename_i b;split at h
   · rename_i t vs hb;split at h
     · rename_i hc;obtain⟨rfl,hn⟩:=hc;injection h with h;exact⟨b,vs,rfl,h.symm,hb,hn⟩
     · cases h
   · cases h
 · cases h
theorem sG {s d t:TypeId} {j:TypeInfo} {ty n:Nat} {x:X} {xo:Operand} {o:Oper} (ho:o.op=.convert s d xo) (hs0:P.underlying s=some (.pointer t)) (hd:P.underlying d=some .unsafePointer) (ht:P.info? t=some j) (hj:j.size≠0) (hn:0<n)
 (hx:bu fm x xo):aA P fm (.conv ty n x) o:=by
 refine aE fun CR G w0 st w fr a v st' hs hf hrun=>?_;simp only[an,aad] at hrun;obtain⟨u,hu,hrun⟩:=hrun;cases hrun;obtain⟨b,vs,e1,rfl,hb,hl⟩:=rK hu;have hxv:=hx.ev (a:=a) hf;rw[e1] at hxv;generalize hx0:a.eval xo=x0 at hxv
 cases hxv with
 | ptr _ _ r hm=>
   refine⟨rfl,_,?_,.ptr _ _ _ hm⟩;unfold execOp;simp only[ho,hx0];exact ai (Lib.run_to_unsafe w ⟨r,0,none⟩ hs0 hd ht hj (uL hs hb hm) (by show 0<vs.length;omega))
theorem p9 {s d u:TypeId} {j:TypeInfo} {ty n:Nat} {x:X} {xo:Operand} {o:Oper} (ho:o.op=.convert s d xo) (hs0:P.underlying s=some .unsafePointer) (hd:P.underlying d=some (.pointer u)) (hu0:P.info? u=some j)
 (hlies:liesAt P P.depth ty (n/P.cellsOf ty) 0 u 1=true) (hx:bu fm x xo):aA P fm (.conv ty n x) o:=by
 refine aE fun CR G w0 st w fr a v st' hs hf hrun=>?_;simp only[an,aad] at hrun;obtain⟨u',hu,hrun⟩:=hrun;cases hrun;obtain⟨b,vs,e1,rfl,hb,hl⟩:=rK hu;have hxv:=hx.ev (a:=a) hf;rw[e1] at hxv;generalize hx0:a.eval xo=x0 at hxv
 cases hxv with
 | ptr _ _ r hm=>
   refine⟨rfl,_,?_,.ptr _ _ _ hm⟩;unfold execOp;simp only[ho,hx0];exact ai (Lib.run_from_unsafe w ⟨r,0,none⟩ hs0 hd hu0 (uL hs hb hm) (by rw[hl];exact hlies))
theorem tr {t:TypeId} {x:X} {xo:Operand} {o:Oper} (ho:builtinCall .unsafeSliceData [xo] [t] o.op) (hx:bu fm x xo):aA P fm (.gR x) o:=by
 refine aE fun CR G w0 st w fr a v st' hs hf hrun=>?_;simp only[an,aad] at hrun;obtain⟨u,hu,hrun⟩:=hrun;cases hrun;have hxv:=hx.ev (a:=a) hf;generalize hx0:a.eval xo=x0 at hxv
 have fin:∀ (r:Value),(Builtin.unsafeSliceData_ #[t] o.type #[x0]).run P w=.ok r w→(execOp a.eval o).run P w=.ok (.value r) w:=by
  intro r h;obtain⟨consts,he⟩:=df ho a.eval;rw[he];simp only[aaS,abp,hx0];unfold builtin;exact ai h
 generalize x.ev fr=xv at hu hxv;unfold lu at hu;split at hu
 · injection hu with hu;subst hu;cases hxv;exact⟨rfl,_,fin _ (Lib.run_unsafeSliceData_nil w _ _ _ _),.b5⟩
 · split at hu
   · rename_i hl;injection hu with hu;subst hu
     cases hxv with
     | hsl _ _ _ _ _ _ r c hm hcap=>
       rename_i cap
       have hc:c≠0:=by
        cases cap with
        | none=>have:=hcap.1;omega
        | some k=>have:=hcap.2;rw[hcap.1];omega
       exact⟨rfl,_,fin _ (Lib.run_unsafeSliceData_row w _ _ _ _ _ hc),.ptr _ _ _ hm⟩
   · cases hu
 · cases hu
theorem lz:∀ (vs:List DV) (bs:List UInt8),eQ vs=some bs→bs.length=vs.length∧∀ (j:Nat) (x:UInt8),bs[j]? = some x→vs[j]? = some (.int .u8 (x.toNat:Int))
 | [],bs,h=>by
   simp only[eQ,aab.injEq] at h;subst h;exact⟨rfl,fun j x h=>by simp at h⟩
 | v::vs,bs,h=>by
   cases v<;>try (simp[eQ] at h;done)
   rename_i k n;cases k<;>try (simp[eQ] at h;done)
   simp only[eQ] at h;split at h
   · rename_i hn;simp only[aad] at h;obtain⟨l,hl,rfl⟩:=h;obtain⟨h1,h2⟩:=lz vs l hl;refine⟨by simp[h1],fun j x hx=>?_⟩
     cases j with
     | zero=>
       simp only[aaw,aab.injEq] at hx ⊢;subst hx
       have:(aa2 n.toNat).toNat=n.toNat:=by
        rw[UInt8.toNat_ofNat'];omega
       rw[this]
       congr 1
       omega
     | succ j=>simpa using h2 j x (by simpa using hx)
   · cases h
theorem xw {w:World} {r:Nat} {cs:Array Value} {t:TypeId} {lo hi n:Nat} (h:w.heap[r]? = some (.cells cs t (lo,hi))) (hn:n≠0) :
 w.freeze ⟨r,0,none⟩ n=w.putObj r (.cells cs t (if lo==hi then (0,n) else (min lo 0,max hi n))):=by
 unfold World.freeze World.putObj;rw[if_neg hn]
 congr 1
 apply Array.ext_getElem?;intro k;rw[Array.getElem?_modify,Array.getElem?_setIfInBounds];by_cases e:r=k
 · subst e;have hlt:=get?_lt h;have hv:w.heap[r]=.cells cs t (lo,hi):=(aa6.1 h).2;simp[hlt,hv]
 · simp[e]
theorem B0 {α:Type} {l:List α} {b:Nat} {x:α} (h:l[b]? = some x):l.set b x=l:=by
 apply List.ext_getElem?;intro i;rw[List.getElem?_set];by_cases e:b=i
 · subst e;rw[if_pos rfl,if_pos (aae.1 h).1,h]
 · rw[if_neg e]
theorem wP {pt it e:TypeId} {x l:X} {xo lo:Operand} {o:Oper} (ho:builtinCall .unsafeString [xo,lo] [pt,it] o.op) (hp:P.underlying pt=some (.pointer e)) (hc1:P.cellsOf e=1) (hx:bu fm x xo) (hl:bu fm l lo):aA P fm (.pN e x l) o:=by
 intro CR G w0 st w fr a v st' hs hf hrun;simp only[an,aad] at hrun;obtain⟨u,hu,hrun⟩:=hrun;cases hrun;have hxv:=hx.ev (a:=a) hf;have hlv:=hl.ev (a:=a) hf;generalize hx0:a.eval xo=x0 at hxv;generalize hl0:a.eval lo=l0 at hlv
 have fin:∀ (r:Value) (w':World),(Builtin.unsafeString_ #[pt,it] o.type #[x0,l0]).run P w=.ok r w'→(execOp a.eval o).run P w=.ok (.value r) w':=by
  intro r w' h;obtain⟨consts,he⟩:=df ho a.eval;rw[he];simp only[aaS,abp,hx0,hl0];unfold builtin;exact ai h
 generalize x.ev fr=xv at hu hxv;generalize l.ev fr=lv at hu hlv;unfold wu at hu;split at hu
 · split at hu
   · rename_i h0;subst h0;injection hu with hu;subst hu;cases hxv;cases hlv;exact⟨G,w,_,_,fin _ _ (Lib.run_unsafeString_none w pt it _ none),.inl rfl,Gh.le.refl G,hs,.str _ _ rfl⟩
   · cases hu
 · rename_i b off n
   cases hxv with
   | ptr _ _ r hm=>
   cases hlv;split at hu
   · rename_i h0;subst h0;injection hu with hu;subst hu;exact⟨G,w,_,_,fin _ _ (Lib.run_unsafeString_none w pt it _ (some _)),.inl rfl,Gh.le.refl G,hs,.str _ _ rfl⟩
   · rename_i h0;split at hu
     · rename_i t vs hcell;split at hu
       · rename_i hcond;obtain⟨rfl,rfl,hbase,hn0,hnl,hroom⟩:=hcond;simp only[aad] at hu;obtain⟨bs,hbs,rfl⟩:=hu;have hbo:=iO hcell;obtain⟨r',ob,q1,q2,q3,q4⟩:=hs.obj b _ hbo rfl (hs.np hm);rw[hm] at q1;cases q1;obtain⟨cs,t,⟨flo,fhi⟩,rfl,rfl,k1,k2,k3,k4,k5⟩:=q3;obtain⟨g1,g2⟩:=lz _ _ hbs;have hlen:bs.length=n.toNat:=by rw[g1];simp;omega
         have hne:bs≠[]:=by
          intro e0;rw[e0] at hlen;simp at hlen;omega
         have hcellr:∀ j x,bs[j]? = some x→w.cell? ((⟨r,0,none⟩:Addr).add j)=some (.int .u8 x.toNat):=by
          intro j y hy;have h1:=g2 j y hy;have hj:j<bs.length:=(aae.1 hy).1;have hjv:j<vs.length:=by omega
          rw[List.getElem?_take,if_pos (by omega)] at h1;have h2:=k3 j hjv;rw[(aae.1 h1).2] at h2;have hjc:j<cs.size:=by omega
          rw[aag,abj hjc] at h2;rw[Addr.add_lit,aay];simp only[World.cell?,q2];rw[abj hjc];simp only[abr] at h2;generalize cs[j]=cj at h2;cases h2;simp
         have hrd:(aD:Int)=140737488355328:=rfl;rw[hrd] at hroom;have hrun:=Lib.run_unsafeString_row w pt it o.type t hp hc1 r cs.size (by unfold World.shape?;rw[q2]) bs hne (by omega) (by omega) hcellr;rw[hlen,show ((n.toNat:Nat):Int)=n by omega] at hrun;have hfz:=xw (n:=n.toNat) q2 (by omega);rw[hfz] at hrun
         have hput:=hs.put (o':=.cells (.frz t) vs) (ob':=.cells cs t (if flo==fhi then (0,n.toNat) else (min flo 0,max fhi n.toNat))) hbo rfl hm hbase
          ⟨cs,t,_,rfl,rfl,k1,k2,k3,by split<;>simp<;>omega,k5⟩ rfl (fun h=>by cases h)
         rw[B0 hbo] at hput;exact⟨G,_,_,_,fin _ _ hrun,.inl rfl,Gh.le.refl G,hput,.str _ _ rfl⟩
       · cases hu
     · cases hu
 · cases hu
theorem qI {t u e:TypeId} {bytes:Nat} {zs:List DV} {i:TypeInfo} {x y:X} {xo yo:Operand} {o:Oper} (ho:builtinCall .append [xo,yo] [t,u] o.op) (ht:P.underlying t=some (.slice e)) (hu:fJ P u=true)
 (hi:P.info? e=some i) (hn:i.size=1) (hby:i.bytes=bytes) (hz:bx P e=some zs) (hzl:zs.length=1) (hx:bu fm x xo) (hy:bu fm y yo):aA P fm (.dW e bytes x y) o:=by
 intro CR G w0 st w fr a v st' hs hf hrun;simp only[an,dR] at hrun;have hxv:=hx.ev (a:=a) hf;have hyv:=hy.ev (a:=a) hf;split at hrun
 · cases hrun
 rename_i m news hnews;have hnr:=fW (P:=P) hs hyv hnews;generalize hx0:a.eval xo=x0 at hxv;generalize hy0:a.eval yo=y0 at hyv hnr;obtain⟨N,n1,n2,n3⟩:=hnr.cells m w (aai _) (Below.refl _ w);obtain⟨N',d1,d2,d3⟩:=hnr.cells m w.drew (aai _) ((Below.refl _ w).drew);have hnl:=hnr.length;obtain⟨i',z,hi',hzz,hcc⟩:=bR hz;rw[hi] at hi';cases hi';obtain⟨zl,zr⟩:=ca (fm:=fm) hcc;have hzsz:z.cells.size=1:=by rw[← hzl,← zl];simp
 have fin:∀ (r:Value) (w':World),(Builtin.append_ #[t,u] o.type #[x0,y0]).run P w=.ok r w'→(execOp a.eval o).run P w=.ok (.value r) w':=by
  intro r w' h;obtain⟨consts,he⟩:=df ho a.eval;rw[he];simp only[aaS,abp,hx0,hy0];unfold builtin;exact ai h
 have none0:∀ (p:Option Addr) (l c:Nat),m=0→x0=.slice p l c→l≤c→(Builtin.append_ #[t,u] o.type #[x0,y0]).run P w=.ok x0 w:=by
  intro p l c hm hp hlc;subst hm;have hN0:N = #[]:=by simpa using n2
  rw[hp];rw[← hn] at n1;have:=cX (P:=P) (w:=w) (w':=w) (ty:=o.type) (a:=p) (sLen:=l) (sCap:=c) (m:=0) (x:=y0) (news:=N) ht hi hu hnr.len (by omega) n1 (by subst hN0;cases p<;>rfl);simpa using this
 generalize X.ev fr x=xv at hxv hrun;split at hrun
 ·
  rename_i tag n' tk;cases hxv;split at hrun
  · rename_i hm;simp only[aab.injEq,Prod.mk.injEq] at hrun;obtain⟨rfl,rfl⟩:=hrun;exact⟨G,w,_,_,fin _ _ (none0 none 0 0 hm rfl (aai _)),.inl rfl,Gh.le.refl G,hs,.ga _ _ _⟩
  rename_i hm0;split at hrun
  · rename_i hcond;obtain⟨hb1,hb2⟩:=hcond;simp only[aab.injEq,Prod.mk.injEq] at hrun;obtain⟨rfl,rfl⟩:=hrun;have hb1:m*bytes≤140737488355328:=by simpa[aD] using hb1
    have hb2:m≤140737488355328:=by simpa[aD] using hb2
    have hd1:=d1;rw[← hn] at hd1;have hge:=grownCap_ge w (0+m) 0 e;have hr:=di (P:=P) (w:=w) (u:=u) (ty:=o.type) (z:=z) (a:=none) (sLen:=0) (sCap:=0) (m:=m) (x:=y0) (olds:=#[]) (news:=N') ht hi hzz hu hnr.len (by omega) (by rw[hby,aay];omega) (by omega) rfl hd1;generalize harr:(#[]:Array Value)++N'++Builtin.zeroCells z.cells (grownCap w (0+m) 0 e-(0+m))=arr at hr
    have hsz:arr.size=grownCap w (0+m) 0 e*1:=by
     rw[← harr];simp only[Array.size_append,d2,size_zeroCells,hzsz,Array.size_empty];omega
    have hpush:=hs.drew.push (o:=.cells (.frz e) news) (ob:=.cells arr e) (grownCap w (0+m) 0 e*1) ⟨arr,e,(0,0),rfl,rfl,by
     rw[hsz,hnl];exact aaC _ (by omega),by simp[Gh.push,hsz],fun i hi=>by
      have:=kb (fm:=fm) (G:=G) (olds:=[]) (news:=news) (O:=#[]) (N:=N') (Z:=Builtin.zeroCells z.cells (grownCap w (0+m) 0 e-(0+m))) rfl (by rw[d2,hnl])
       (fun i hi=>by simp at hi) (fun i hi=>d3 i hi (by omega)) i (by simpa using hi)
      rw[harr] at this
      exact this.le (Gh.bK hs.b9),Nat.zero_le _,hnr.bp⟩ rfl
    have hle:G.le (G.push st.heap.length w.heap.size (grownCap w (0+m) 0 e*1)):=Gh.bK hs.b9;refine⟨_,_,.slice (some ⟨w.heap.size,0,none⟩) (0+m) (grownCap w (0+m) 0 e),_,fin _ _ hr,.inl rfl,hle,hpush,?_⟩;rw[show 0+m=m by omega] at hge ⊢;exact .hsl _ _ _ _ _ _ _ _ (by simp[Gh.push]) ⟨hge,by simp[Gh.push]⟩
  · cases hrun
 ·
  rename_i n' ag' b off len
  cases hxv with
  | hsl _ _ _ _ _ _ r c hmu hcap=>
  have hlc:len≤c:=hcap.1;split at hrun
  · rename_i hm;simp only[aab.injEq,Prod.mk.injEq] at hrun;obtain⟨rfl,rfl⟩:=hrun;exact⟨G,w,_,_,fin _ _ (none0 _ _ _ hm rfl hlc),.inl rfl,Gh.le.refl G,hs,.hsl _ _ _ _ _ _ _ _ hmu hcap⟩
  rename_i hm;split at hrun
  · rename_i hcond;obtain⟨rfl,rfl,hbase,hb1,hb2⟩:=hcond;have hb1:(len+m)*bytes≤140737488355328:=by simpa[aD] using hb1
    have hb2:len+m≤140737488355328:=by simpa[aD] using hb2
    split at hrun
    · rename_i ty0 vs hcell;split at hrun
      · rename_i hcond2;obtain⟨rfl,hvl⟩:=hcond2;simp only[aab.injEq,Prod.mk.injEq] at hrun;obtain⟨rfl,rfl⟩:=hrun;have hbo:=iO hcell;obtain⟨r',ob,q1,q2,q3,q4⟩:=hs.obj b _ hbo rfl (hs.np hmu);rw[hmu] at q1;cases q1;obtain⟨cs,ty,fz,rfl,rfl,k1,k2,k3,k4,k5⟩:=q3
        have hro:∀ i,G.ro r i=none:=by
         intro i
         cases er:G.ro r i with
         | none=>rfl
         | some v=>exact absurd hmu (fun h=>hs.dj r i v b _ er hbo rfl h)
        have htk:∀ u x y,st.bc[u]? = some x→G.bt u x=some y→y.1≠r:=by
         intro u x y hu hy e;obtain⟨r',len',cap',n'',cs',ty',h1,h2,h3,h4,h5,h6,h7,h8⟩:=hs.tok u x hu;rw[hy] at h1;cases h1;simp only at e;subst e;exact h7 b _ hbo rfl hmu
        have hgone:=hs.Cd b (hs.np hmu)
        have hfree:∀ b' o,(st.heap.set b .gone)[b']? = some o→o.cb=false→G.mu b'≠some r:=by
         intro b' o hb' hg e;rcases getElem?_set_cases _ _ _ _ _ hb' with ⟨rfl,rfl,_⟩ | ⟨e1,e2⟩
         · cases hg
         · exact e1 (hs.bQ _ _ _ _ _ e2 hbo hg rfl e hmu)
        have hset:(st.heap.set b .gone).length=st.heap.length:=by simp
        have hscal:(vs++news).all DV.bp=true:=by rw[List.all_append,k5,hnr.bp];rfl
        have hcapo:=hcap.2;by_cases hg:c<len+m
        ·
         have hge:=grownCap_ge w (len+m) c ty
         have hor:=fW (P:=P) (n:=1) (m:=len) (news:=(vs.drop 0).take (len*1)) hs (.hsl 1 ag' b 0 len none r c hmu hcap) (by
          simp only[cd,if_true,St.cells,hbo]
          rw[if_pos (by omega)])
         obtain⟨O,o1,o2,o3⟩:=hor.cells len w.drew (aai _) ((Below.refl _ w).drew);have hvs:(vs.drop 0).take (len*1)=vs:=by rw[List.drop_zero,aa8 (by omega)]
         rw[hvs] at o3;have hd1:=d1;rw[← hn] at hd1 o1;have hr:=di (P:=P) (w:=w) (u:=u) (ty:=o.type) (z:=z) (a:=some ⟨r,0,none⟩) (sLen:=len) (sCap:=c) (m:=m) (x:=y0) (olds:=O) (news:=N') ht hi hzz hu hnr.len hg (by rw[hby];omega) (by omega) o1 hd1;generalize harr:O++N'++Builtin.zeroCells z.cells (grownCap w (len+m) c ty-(len+m))=arr at hr
         have hsz:arr.size=grownCap w (len+m) c ty*1:=by
          rw[← harr];simp only[Array.size_append,o2,d2,size_zeroCells,hzsz];omega
         have hpush:=hgone.drew.push (o:=.cells (.frz ty) (vs++news)) (ob:=.cells arr ty) (grownCap w (len+m) c ty*1) ⟨arr,ty,(0,0),rfl,rfl,by
          rw[hsz,aah,← hvl,hnl];omega,by simp[Gh.push,hsz],fun i hi=>by
           have:=kb (fm:=fm) (G:=G) (olds:=vs) (news:=news) (O:=O) (N:=N') (Z:=Builtin.zeroCells z.cells (grownCap w (len+m) c ty-(len+m))) (by rw[o2,hvl];omega) (by rw[d2,hnl])
            (fun i hi=>o3 i hi (by omega)) (fun i hi=>d3 i hi (by omega)) i hi
           rw[harr] at this;refine this.le ?_;have:=hgone.b9
           exact Gh.bK this,Nat.zero_le _,hscal⟩ rfl
         have hle:G.le (G.push (st.heap.set b .gone).length w.heap.size (grownCap w (len+m) c ty*1)):=Gh.bK hgone.b9;refine⟨_,_,_,_,fin _ _ hr,.inl rfl,hle,hpush,?_⟩;rw[← hset];exact .hsl _ _ _ _ _ _ _ _ (by simp[Gh.push]) ⟨hge,by simp[Gh.push]⟩
        ·
         have hcn:c≤cs.size:=by rw[k2];omega
         have hmul:len+m≤cs.size:=by omega
         have hNl:N.toList.length=m:=by simpa using n2
         have hst:=run_storeCells_atF P r len ty fz N.toList 0 cs w q2 (by omega) (by omega) (n0 (G:=G) (news:=news) (by rw[n2,hnl]) (fun i hi=>n3 i hi (by omega)) hnr.bp);rw[aa5,fG q2] at hst;have hsp:(cs.toList.take len++N.toList++cs.toList.drop (len+N.toList.length)).toArray=aO cs len N.toList:=rfl;rw[hsp] at hst;have hssz:=eU (cur:=cs) (k:=len) (vs:=N.toList) (by omega);have hput:=hgone.x8 (cs':=aO cs len N.toList) q2 (q4 hbase) hfree hssz (fun i v hv=>by rw[hro i] at hv;cases hv);have hrow:(w.putObj r (.cells (aO cs len N.toList) ty fz)).heap[r]? = some (.cells (aO cs len N.toList) ty fz):=by rw[eG w r r _ (get?_lt q2)];simp
         have hlow:∀ i,i<vs.length→(aO cs len N.toList).getD i undef=cs.getD i undef:=by
          intro i hi;unfold aO;rw[aag,aag,abk,aas,aaj (by simp;omega),List.getElem?_take,if_pos (by omega)];simp
         have hhigh:∀ i,i<news.length→(aO cs len N.toList).getD (vs.length+i) undef=N.getD i undef:=by
          intro i hi;unfold aO;have hiN:i<N.toList.length:=by omega
          have e3:vs.length+i-(cs.toList.take len).length=i:=by simp;omega
          rw[aag,abk,aas,aat (by simp;omega),e3,aaj hiN,← aR,aak]
         have hle:G.le (G.push (st.heap.set b .gone).length r cs.size):=Gh.bK hgone.b9
         have hadopt:=hput.IK (o:=.cells (.frz ty) (vs++news)) cs.size hrow (q4 hbase) hfree hro htk ⟨_,ty,fz,rfl,rfl,by
          rw[hssz,aah,← hvl,hnl];omega,by simp[Gh.push,hssz],fun i hi=>by
           by_cases ei:i<vs.length
           · rw[aa0 ei,hlow i ei];exact(k3 i ei).le hle
           · have hi2:i-vs.length<news.length:=by simp only[aah] at hi;omega
             rw[aaV (by omega)];have e4:vs.length+(i-vs.length)=i:=by omega
             have:=hhigh (i-vs.length) hi2;rw[e4] at this;rw[this]
             exact(n3 _ hi2 (by omega)).le hle,by simp;omega,hscal⟩ rfl
         have hn1:=n1;rw[← hn] at hn1
         have hr':=cX (P:=P) (w:=w) (w':=w.putObj r (.cells (aO cs len N.toList) ty fz)) (ty:=o.type) (a:=some ⟨r,0,none⟩) (sLen:=len) (sCap:=c) (m:=m) (x:=y0) (news:=N) ht hi hu hnr.len (by omega) hn1 (by
          show (storeCells ((⟨r,0,none⟩:Addr).add (len*i.size)) N.toList).run P w=_
          rw[Addr.add_lit,aay,hn,Nat.mul_one];exact hst)
         refine⟨_,_,_,_,fin _ _ hr',.inl rfl,hle,hadopt,?_⟩;rw[← hset];exact .hsl _ _ _ _ _ _ _ _ (by simp[Gh.push]) ⟨by omega,by simp[Gh.push];omega⟩
      · cases hrun
    · cases hrun
  · cases hrun
 · cases hrun
theorem rT {t arr e:TypeId} {n len:Nat} {ag:Bool} {i:TypeInfo} {x:X} {xo:Operand} {o:Oper} (ho:o.op=.slice t xo none none none) (ht:P.underlying t=some (.pointer arr)) (ha:P.underlying arr=some (.array len e)) (hi:P.info? e=some i)
 (hx:bu fm x xo):aA P fm (.gM n ag len x) o:=by
 refine aE fun CR G w0 st w fr a v st' hs hf hrun=>?_;simp only[an] at hrun;have hxv:=hx.ev (a:=a) hf;generalize hx0:a.eval xo=x0 at hxv;split at hrun
 · rename_i b off e0;rw[e0] at hxv;simp only[aab.injEq,Prod.mk.injEq] at hrun;obtain⟨rfl,rfl⟩:=hrun
   cases hxv with
   | ptr _ _ r hm=>
     refine⟨rfl,.slice (some ⟨r,off,none⟩) len len,?_,.hsl _ _ _ _ _ _ _ _ hm ⟨rfl,aai _⟩⟩;unfold execOp;simp only[ho,hx0,abw];refine ai ?_;unfold Instr.sliceAt Instr.slice;simp[run_underlying ht,run_underlying ha,asAddr,Instr.sliceBounds,sizeOf,typeInfo,hi,Addr.add]
 · cases hrun
theorem qz {t e:TypeId} {n len:Nat} {ag:Bool} {i:TypeInfo} {x:X} {xo:Operand} {o:Oper} (ho:o.op=.slice t xo none none none) (ht:P.underlying t=some (.array len e)) (hi:P.info? e=some i)
 (hx:bu fm x xo):aA P fm (.gM n ag len x) o:=by
 refine aE fun CR G w0 st w fr a v st' hs hf hrun=>?_;simp only[an] at hrun;have hxv:=hx.ev (a:=a) hf;generalize hx0:a.eval xo=x0 at hxv;split at hrun
 · rename_i b off e0;rw[e0] at hxv;simp only[aab.injEq,Prod.mk.injEq] at hrun;obtain⟨rfl,rfl⟩:=hrun
   cases hxv with
   | ptr _ _ r hm=>
     refine⟨rfl,.slice (some ⟨r,off,none⟩) len len,?_,.hsl _ _ _ _ _ _ _ _ hm ⟨rfl,aai _⟩⟩;unfold execOp;simp only[ho,hx0,abw];refine ai ?_;unfold Instr.sliceAt Instr.slice;simp[run_underlying ht,Instr.sureAddr,Instr.sliceBounds,sizeOf,typeInfo,hi,Addr.add]
 · cases hrun
theorem qa {n:Nat} {ag:Bool} {b off len:Nat} {lov hiv mxv:Option DV} {u:DV} {G:Gh} {lo0 hh1 mx0:Option Value} {w:World} {r:Nat} (hm:G.mu b=some r) (hlov:kN fm G lov lo0) (hhiv:kN fm G hiv hh1) (hmxv:kN fm G mxv mx0) (hu:bS false n (.hsl n ag b off len (some len)) lov hiv mxv=some u) :
 ∃ l h m,(Instr.sliceBounds false len len lo0 hh1 mx0).run P w=.ok (l,h,m) w∧Rel fm G u (.slice (if m=l then (some (⟨r,off,none⟩:Addr)) else (some (⟨r,off,none⟩:Addr)).map (·.add (l*n))) (h-l) (m-l)):=by
 simp only[bS,if_true] at hu;split at hu
 · cases hu
 · rename_i m hm1;split at hu
   · cases hu
   · rename_i h hh;split at hu
     · cases hu
     · rename_i l hl;injection hu with hu;subst hu
       have hb:=eA (P:=P) (G:=G) (isS:=false) (len:=len) (c0:=len) (cap:=len) (lo:=lov) (hi:=hiv) (mx:=mxv) (lo':=lo0) (hi':=hh1) (mx':=mx0) (l:=l) (h:=h) (m:=m) (w:=w) hlov hhiv hmxv (aai _)
        (fun v e=>by subst e;exact hm1) (fun e=>by subst e;simp at hm1;exact hm1.symm)
        (fun v e=>by
         subst e
         cases mxv with
         | none=>simp at hh hm1;exact⟨len,hh,by omega⟩
         | some v'=>simp at hh;exact⟨m,hh,aai _⟩)
        (fun e=>by subst e;cases mxv with | none=>simp at hh;exact⟨rfl,hh.symm⟩ | some v=>simp at hh) (fun v e=>by subst e;exact hl) (fun e=>by subst e;simp at hl;exact hl.symm)
       refine⟨l,h,m,hb,?_⟩
       have eaddr:(if m=l then (some (⟨r,off,none⟩:Addr)) else (some (⟨r,off,none⟩:Addr)).map (·.add (l*n)))=some ⟨r,if m=l then off else off+l*n,none⟩:=by
        split<;>simp[Addr.add_lit]
       rw[eaddr];refine .hsl _ _ _ _ _ _ r _ hm ⟨rfl,?_⟩
       have hhm:h≤m:=by
        cases hiv with
        | none=>cases mxv with
          | none=>simp at hh hm1;omega
          | some v=>simp at hh
        | some v=>
          cases mxv with
          | none=>simp at hh hm1;have:=(c8 hh).1;omega
          | some v'=>simp at hh;exact(c8 hh).1
       omega
theorem tT {t arr e:TypeId} {n len:Nat} {ag:Bool} {i:TypeInfo} {x:X} {lo hi mx:Option X} {xo:Operand} {lo' hi' mx':Option Operand} {o:Oper} (ho:o.op=.slice t xo lo' hi' mx') (ht:P.underlying t=some (.pointer arr)) (ha:P.underlying arr=some (.array len e)) (hi0:P.info? e=some i) (hn:i.size=n)
 (hx:bu fm x xo) (hlo:dd fm lo lo') (hhi:dd fm hi hi') (hmx:dd fm mx mx'):aA P fm (.sliceB n ag len x lo hi mx) o:=by
 refine aE fun CR G w0 st w fr a v st' hs hf hrun=>?_;simp only[an] at hrun;have hxv:=hx.ev (a:=a) hf;have hlov:=hlo.ev (a:=a) hf;have hhiv:=hhi.ev (a:=a) hf;have hmxv:=hmx.ev (a:=a) hf;generalize hx0:a.eval xo=x0 at hxv;generalize lo.map (X.ev fr)=lov at hrun hlov;generalize hi.map (X.ev fr)=hiv at hrun hhiv;generalize mx.map (X.ev fr)=mxv at hrun hmxv;generalize hl0:lo'.map a.eval=lo0 at hlov;generalize hh0:hi'.map a.eval=hh1 at hhiv;generalize hm0:mx'.map a.eval=mx0 at hmxv;have hsz:(sizeOf e).run P w=.ok n w:=by unfold sizeOf typeInfo;simp[hi0,hn]
 split at hrun
 · rename_i b off e0;rw[e0] at hxv;simp only[aad] at hrun;obtain⟨u,hu,hrun⟩:=hrun;cases hrun
   cases hxv with
   | ptr _ _ r hm=>
     obtain⟨l,h,m,hb,hrel⟩:=qa (P:=P) (w:=w) hm hlov hhiv hmxv hu;refine⟨rfl,_,?_,hrel⟩;unfold execOp;simp only[ho,hx0,hl0,hh0,hm0];refine ai ?_;unfold Instr.sliceAt Instr.slice;by_cases hml:m=l<;>simp[run_underlying ht,run_underlying ha,asAddr,hb,hsz,hml]
 · cases hrun
theorem qy {t e:TypeId} {n len:Nat} {ag:Bool} {i:TypeInfo} {x:X} {lo hi mx:Option X} {xo:Operand} {lo' hi' mx':Option Operand} {o:Oper} (ho:o.op=.slice t xo lo' hi' mx') (ht:P.underlying t=some (.array len e)) (hi0:P.info? e=some i) (hn:i.size=n)
 (hx:bu fm x xo) (hlo:dd fm lo lo') (hhi:dd fm hi hi') (hmx:dd fm mx mx'):aA P fm (.sliceB n ag len x lo hi mx) o:=by
 refine aE fun CR G w0 st w fr a v st' hs hf hrun=>?_;simp only[an] at hrun;have hxv:=hx.ev (a:=a) hf;have hlov:=hlo.ev (a:=a) hf;have hhiv:=hhi.ev (a:=a) hf;have hmxv:=hmx.ev (a:=a) hf;generalize hx0:a.eval xo=x0 at hxv;generalize lo.map (X.ev fr)=lov at hrun hlov;generalize hi.map (X.ev fr)=hiv at hrun hhiv;generalize mx.map (X.ev fr)=mxv at hrun hmxv;generalize hl0:lo'.map a.eval=lo0 at hlov;generalize hh0:hi'.map a.eval=hh1 at hhiv;generalize hm0:mx'.map a.eval=mx0 at hmxv;have hsz:(sizeOf e).run P w=.ok n w:=by unfold sizeOf typeInfo;simp[hi0,hn]
 split at hrun
 · rename_i b off e0;rw[e0] at hxv;simp only[aad] at hrun;obtain⟨u,hu,hrun⟩:=hrun;cases hrun
   cases hxv with
   | ptr _ _ r hm=>
     obtain⟨l,h,m,hb,hrel⟩:=qa (P:=P) (w:=w) hm hlov hhiv hmxv hu;refine⟨rfl,_,?_,hrel⟩;unfold execOp;simp only[ho,hx0,hl0,hh0,hm0];refine ai ?_;unfold Instr.sliceAt Instr.slice;by_cases hml:m=l<;>simp[run_underlying ht,Instr.sureAddr,hb,hsz,hml]
 · cases hrun
end Go.D
end
section
namespace Go.D
open Go.RowKit
variable {P:Program} {fm:FM}
def CM (fm:FM) (g:Nat):List DV→Nat→Bool
 | [],_=>true
 | d::ds,i=>(match fm.env g i with | some v=>(match ng v with | some u=>DV.beq u d | none=>false) | none=>false)&&CM fm g ds (i+1)
theorem y4 {g:Nat}:∀ {ds:List DV} {k:Nat},CM fm g ds k=true→∀ i (h:i<ds.length),∃ v,fm.env g (k+i)=some v∧ng v=some ds[i]
 | [],_,_,i,h=>by simp at h
 | d::ds,k,hb,i,h=>by
   simp only[CM,aac] at hb;obtain⟨h1,h2⟩:=hb
   cases i with
   | zero=>
     split at h1
     · rename_i v hv;split at h1
       · rename_i u hu;have:=DV.beq_eq _ _ h1;subst this;exact⟨v,hv,hu⟩
       · cases h1
     · cases h1
   | succ i=>
     obtain⟨v,g1,g2⟩:=y4 h2 i (by simpa using h);exact⟨v,by rwa [show k+(i+1)=k+1+i by omega],by simpa using g2⟩
theorem GB {g:Nat} {ds:List DV} (h:CM fm g ds 0=true) (G:Gh):Rel fm G (.bW ds) (.pointer (some ⟨g,0,none⟩)):=by
 have key:=y4 h;refine .bW ds g 0 (fun i=>(fm.env g i).getD undef) (fun i hi=>?_) (fun i hi=>?_) ?_
 · obtain⟨v,h1,h2⟩:=key i hi;rw[aay] at h1 ⊢;exact .inr (by rw[h1];rfl)
 · obtain⟨v,h1,h2⟩:=key i hi;rw[aay] at h1;simp only[h1,abr];exact mV h2 G
 · rw[aaf];intro x hx;obtain⟨i,hi,rfl⟩:=aa9 hx;obtain⟨v,h1,h2⟩:=key i hi;exact oh h2
def xB (fm:FM):X→Operand→Bool
 | .t n,.tmp m=>n==m
 | .c v,.const x=>(match JS x with | some u=>DV.beq u v | none=>false)
 | .f g,.func f=>(match fm g with | some f'=>f'==f | none=>false)
 | .c (.bW cs),.global g=>CM fm g cs 0
 | _,_=>false
theorem bb {x:X} {o:Operand} (h:xB fm x o=true):bu fm x o:=by
 unfold xB at h;split at h
 · exact eq_of_beq h
 · split at h
   · rename_i u hu;have:=DV.beq_eq _ _ h;subst this;exact fun G=>Cf hu G
   · cases h
 · split at h
   · rename_i f' hf;have:=eq_of_beq h;subst this;exact hf
   · cases h
 · exact fun G=>GB h G
 · cases h
def xsB (fm:FM):List X→List Operand→Bool
 | [],[]=>true
 | x::xs,o::os=>xB fm x o&&xsB fm xs os
 | _,_=>false
theorem kj:∀ {xs:List X} {os:List Operand},xsB fm xs os=true→kJ fm xs os
 | [],[],_=>⟨rfl,fun i x o h=>by simp at h⟩
 | x::xs,o::os,h=>by
   simp only[xsB,aac] at h;obtain⟨h1,h2⟩:=kj h.2;refine⟨by simp[h1],fun i y z hy hz=>?_⟩
   cases i with
   | zero=>simp only[aaw,aab.injEq] at hy hz;subst hy;subst hz;exact bb h.1
   | succ i=>exact h2 i y z (by simpa using hy) (by simpa using hz)
 | [],_::_,h=>by simp[xsB] at h
 | _::_,[],h=>by simp[xsB] at h
def xoB (fm:FM):Option X→Option Operand→Bool
 | none,none=>true
 | some x,some o=>xB fm x o
 | _,_=>false
theorem gS {x:Option X} {o:Option Operand} (h:xoB fm x o=true):dd fm x o:=by
 unfold xoB at h;split at h
 · trivial
 · exact bb h
 · cases h
def Jq:TypeDesc→Bool
 | .struct _ | .array _ _=>true
 | _=>false
def jc (P:Program) (t:TypeId) (n:Nat) (ag:Bool):Bool:=
 (match P.underlying t with | some d=>Jq d==ag | none=>false)&&(match P.info? t with | some i=>i.size==n | none=>false)&&(ag||n==1)
theorem ig {t:TypeId} {n:Nat} {ag:Bool} (h:jc P t n ag=true):ik P t n ag:=by
 unfold jc at h;simp only[aac,Bool.or_eq_true] at h;obtain⟨⟨h1,h2⟩,h3⟩:=h;refine⟨?_,?_,?_⟩
 · split at h1
   · rename_i d hd;refine⟨d,hd,?_⟩;rw[← eq_of_beq h1];cases d<;>rfl
   · cases h1
 · split at h2
   · rename_i i hi;exact⟨i,hi,eq_of_beq h2⟩
   · cases h2
 · intro hag;rcases h3 with h3 | h3
   · rw[hag] at h3;cases h3
   · exact eq_of_beq h3
def kh (P:Program) (t:TypeId) (zs:List DV):Bool:=match bx P t with | some u=>DV.ly u zs | none=>false
theorem eF {t:TypeId} {zs:List DV} (h:kh P t zs=true):bx P t=some zs:=by
 unfold kh at h;split at h
 · rename_i u hu;rw[hu,DV.jJ _ _ h]
 · cases h
def mK (P:Program) (fm:FM) (t:TypeId):List (Nat×Nat×X)→List (Nat×Operand)→Bool
 | [],[]=>true
 | (off,n,x)::xs,(i,o)::os=>(match placeOf P t i with | some (a,b)=>a==off&&b==n | none=>false)&&xB fm x o&&mK P fm t xs os
 | _,_=>false
theorem rv {t:TypeId}:∀ {xs:List (Nat×Nat×X)} {os:List (Nat×Operand)},mK P fm t xs os=true→uv fm (placeOf P t) xs os
 | [],[],_=>⟨rfl,fun k off n x i o h=>by simp at h⟩
 | (off,n,x)::xs,(i,o)::os,h=>by
   simp only[mK,aac] at h;obtain⟨⟨h0,h1⟩,h2⟩:=h;obtain⟨g1,g2⟩:=rv h2;refine⟨by simp[g1],fun k off' n' y i' o' hy hz=>?_⟩
   cases k with
   | zero=>
     simp only[aaw,aab.injEq,Prod.mk.injEq] at hy hz;obtain⟨rfl,rfl,rfl⟩:=hy;obtain⟨rfl,rfl⟩:=hz;refine⟨?_,bb h1⟩;split at h0
     · rename_i a b hab;simp only[aac] at h0;rw[hab,eq_of_beq h0.1,eq_of_beq h0.2]
     · cases h0
   | succ k=>exact g2 k off' n' y i' o' (by simpa using hy) (by simpa using hz)
 | [],_::_,h=>by simp[mK] at h
 | _::_,[],h=>by simp[mK] at h
def pY (fm:FM):List (Nat×X)→List (Nat×Operand)→Bool
 | [],[]=>true
 | (j,x)::xs,(i,o)::os=>j==i&&xB fm x o&&pY fm xs os
 | _,_=>false
theorem pQ:∀ {xs:List (Nat×X)} {os:List (Nat×Operand)},pY fm xs os=true→os.length=xs.length∧∀ (k j j':Nat) (x:X) (o:Operand),xs[k]? = some (j,x)→os[k]? = some (j',o)→j=j'∧bu fm x o
 | [],[],_=>⟨rfl,fun k off n x i h=>by simp at h⟩
 | (j,x)::xs,(i,o)::os,h=>by
   simp only[pY,aac] at h;obtain⟨⟨h0,h1⟩,h2⟩:=h;obtain⟨g1,g2⟩:=pQ h2;refine⟨by simp[g1],fun k j1 j2 y o' hy hz=>?_⟩
   cases k with
   | zero=>
     simp only[aaw,aab.injEq,Prod.mk.injEq] at hy hz;obtain⟨rfl,rfl⟩:=hy;obtain⟨rfl,rfl⟩:=hz;exact⟨eq_of_beq h0,bb h1⟩
   | succ k=>exact g2 k j1 j2 y o' (by simpa using hy) (by simpa using hz)
 | [],_::_,h=>by simp[pY] at h
 | _::_,[],h=>by simp[pY] at h
def opB (P:Program) (fm:FM) (r:ROp) (o:Op):Bool:=
 match r with
 | .mv x=>(match o with | .move xo=>xB fm x xo | .assign xo=>xB fm x xo | _=>false)
 | .pick c a b=>(match o with | .pick co ao bo=>xB fm c co&&xB fm a ao&&xB fm b bo | _=>false)
 | .alloc zs=>(match o with | .alloc e=>kh P e zs | _=>false)
 | .box _ x=>(match o with | .box _ xo=>xB fm x xo | _=>false)
 | .build zs parts=>(match o with | .build t ps=>kh P t zs&&mq P t&&mK P fm t parts ps.toList | _=>false)
 | .lit n ag zs len parts=>(match o with
   | .buildSlice t l ps=>l==len&&(match P.underlying t with
     | some (.slice e)=>(match P.info? e with | some i=>i.size==n | none=>false)&&kh P e zs&&zs.length==n&&(ag||n==1)&&Nat.ble (len*n) 16777216&&pY fm parts ps.toList
     | _=>false)
   | _=>false)
 | .nE n _ zs len parts=>(match o with
   | .buildSlice t l ps=>l==len&&(match P.underlying t with
     | some (.slice e)=>(match P.info? e with | some i=>i.size==n | none=>false)&&kh P e zs&&zs.length==n&&Nat.ble (len*n) 16777216&&pY fm parts ps.toList
     | _=>false)
   | _=>false)
 | .load n ag x=>(match o with | .load t xo=>jc P t n ag&&xB fm x xo | _=>false)
 | .store n x v=>(match o with | .store t xo vo=>(match P.info? t with | some i=>i.size==n | none=>false)&&xB fm x xo&&xB fm v vo | _=>false)
 | .aX x=>(match o with | .nilCheck xo=>xB fm x xo | _=>false)
 | .bin op x y=>(match o with | .binOp op' _ xo yo _=>decide (op=op')&&xB fm x xo&&xB fm y yo | _=>false)
 | .eq k neg x y=>(match o with | .binOp op' t xo yo _=>decide (op'=if neg then .neq else .eql)&&xp P t k&&xB fm x xo&&xB fm y yo | _=>false)
 | .un op x=>(match o with | .unOp op' _ xo=>decide (op=op')&&xB fm x xo | _=>false)
 | .i2i k x=>(match o with | .convert s d xo=>(P.underlying s).isSome&&(match P.underlying d with | some (.int k')=>decide (k=k') | _=>false)&&xB fm x xo | _=>false)
 | .i2s .. => false
 | .same .. => false
 | .s2b x | .s2h x=>(match o with
   | .convert s d xo=>(match P.underlying s with | some .string=>true | _=>false)&&(match P.underlying d with | some (.slice e)=>(match P.underlying e with | some (.int k)=>decide (k=.u8) | _=>false) | _=>false)&&xB fm x xo
   | _=>false)
 | .b2s x=>(match o with
   | .convert s d xo=>(match P.underlying d with | some .string=>true | _=>false)&&(match P.underlying s with | some (.slice e)=>(match P.underlying e with | some (.int k)=>decide (k=.u8) | _=>false) | _=>false)&&xB fm x xo
   | _=>false)
 | .gD g fs cs=>(match o with | .makeFunc (.func f) fo co=>(match fm g with | some f'=>f'==f | none=>false)&&xsB fm fs fo.toList&&xsB fm cs co.toList | _=>false)
 | .jL=>(match o with | .makeMap _ none=>true | _=>false)
 | .cE n _ bytes zs l c=>(match o with
   | .makeSlice t lo co=>(match P.underlying t with
     | some (.slice e)=>(match P.info? e with | some i=>i.size==n&&i.bytes==bytes | none=>false)&&kh P e zs&&zs.length==n&&xB fm l lo&&xB fm c co
     | _=>false)
   | _=>false)
 | .lk .. => false
 | .slice true _ x lo hi mx=>(match o with | .slice t xo lo' hi' none=>(match P.underlying t with | some .string=>true | _=>false)&&mx.isNone&&xB fm x xo&&xoB fm lo lo'&&xoB fm hi hi' | _=>false)
 | .slice false n x lo hi mx=>(match o with
   | .slice t xo lo' hi' mx'=>(match P.underlying t with | some (.slice e)=>(match P.info? e with | some i=>i.size==n | none=>false) | _=>false)&&xB fm x xo&&xoB fm lo lo'&&xoB fm hi hi'&&xoB fm mx mx'
   | _=>false)
 | .gU off x=>(match o with
   | .fieldAddr s xo k=>(match P.underlying s with | some (.struct fs)=>(match fs[k]? with | some f=>(match P.info? f.type with | some i => !(i.size==0) | none=>false)&&f.offset==off | none=>false) | _=>false)&&xB fm x xo
   | _=>false)
 | .field n ag off x=>(match o with
   | .field s xo k=>(match P.underlying s with | some (.struct fs)=>(match fs[k]? with | some f=>jc P f.type n ag&&f.offset==off | none=>false) | _=>false)&&xB fm x xo
   | _=>false)
 | .aY n x j=>(match o with
   | .indexAddr t xo jo=>(match P.underlying t with | some (.slice e)=>(match P.info? e with | some i=>i.size==n | none=>false) | _=>false)&&xB fm x xo&&xB fm j jo
   | _=>false)
 | .cA n len x j=>(match o with
   | .indexAddr t xo jo=>(match P.underlying t with | some (.array l e)=>l==len&&(match P.info? e with | some i=>i.size==n | none=>false) | _=>false)&&xB fm x xo&&xB fm j jo
   | _=>false)
 | .index x j=>(match o with | .index t xo jo=>(match P.underlying t with | some .string=>true | _=>false)&&xB fm x xo&&xB fm j jo | _=>false)
 | .jE n ag len x j=>(match o with
   | .index t xo jo=>(match P.underlying t with | some (.array l e)=>l==len&&jc P e n ag | _=>false)&&xB fm x xo&&xB fm j jo
   | _=>false)
 | .lookup .. => false
 | .iI .. => false
 | .extract x i=>(match o with | .extract xo j=>i==j&&xB fm x xo | _=>false)
 | .iface .. => false
 | .len k x=>(match o with | .call c=>(match c.callee,c.args.toList,c.argTypes.toList with | .builtin .len,[xo],[t]=>tz P t k&&xB fm x xo | _,_,_=>false) | _=>false)
 | .xh .. => false
 | .cap .. => false
 | .append n ag bytes x y=>(match o with
   | .call c=>(match c.callee,c.args.toList,c.argTypes.toList with
     | .builtin .append,[xo,yo],[t,u]=>(match P.underlying t with
       | some (.slice e)=>(match P.info? e with | some i=>i.size==n&&i.bytes==bytes | none=>false)&&(match bx P e with | some zs=>zs.length==n | none=>false)&&(ag||n==1)&&fJ P u&&xB fm x xo&&xB fm y yo
       | _=>false)
     | _,_,_=>false)
   | _=>false)
 | .gl .. => false
 | .clear .. => false
 | .copy .. => false
 | .max args=>(match o with | .call c=>(match c.callee with | .builtin .max=>xsB fm args c.args.toList | _=>false) | _=>false)
 | .min args=>(match o with | .call c=>(match c.callee with | .builtin .min=>xsB fm args c.args.toList | _=>false) | _=>false)
 | .call .. | .bz .. | .dp .. => false
 | .gX ty zs=>(match o with | .alloc e=>e==ty&&kh P e zs | _=>false)
 | .conv ty n x=>(match o with
   | .convert s d xo=>(match P.underlying s,P.underlying d with
     | some (.pointer t),some .unsafePointer=>(match P.info? t with | some j => !(j.size==0) | none=>false)&&Nat.blt 0 n
     | some .unsafePointer,some (.pointer u)=>(P.info? u).isSome&&liesAt P P.depth ty (n/P.cellsOf ty) 0 u 1
     | _,_=>false)&&xB fm x xo
   | _=>false)
 | .dW ty bytes x y=>(match o with
   | .call c=>(match c.callee,c.args.toList,c.argTypes.toList with
     | .builtin .append,[xo,yo],[t,u]=>(match P.underlying t with
       | some (.slice e)=>e==ty&&(match P.info? e with | some i=>i.size==1&&i.bytes==bytes | none=>false)&&(match bx P e with | some zs=>zs.length==1 | none=>false)&&fJ P u&&xB fm x xo&&xB fm y yo
       | _=>false)
     | _,_,_=>false)
   | _=>false)
 | .gR x=>(match o with
   | .call c=>(match c.callee,c.args.toList,c.argTypes.toList with
     | .builtin .unsafeSliceData,[xo],[_]=>xB fm x xo
     | _,_,_=>false)
   | _=>false)
 | .pN ty x l=>(match o with
   | .call c=>(match c.callee,c.args.toList,c.argTypes.toList with
     | .builtin .unsafeString,[xo,lo],[pt,_]=>(match P.underlying pt with | some (.pointer e)=>e==ty&&P.cellsOf e==1 | _=>false)&&xB fm x xo&&xB fm l lo
     | _,_,_=>false)
   | _=>false)
 | .sliceB n _ len x lo hi mx=>(match o with
   | .slice t xo lo' hi' mx'=>(match P.underlying t with
     | some (.pointer arr)=>(match P.underlying arr with | some (.array l e)=>l==len&&(match P.info? e with | some i=>i.size==n | none=>false) | _=>false)
     | some (.array l e)=>l==len&&(match P.info? e with | some i=>i.size==n | none=>false)
     | _=>false)&&xB fm x xo&&xoB fm lo lo'&&xoB fm hi hi'&&xoB fm mx mx'
   | _=>false)
 | .gM _ _ len x=>(match o with
   | .slice t xo none none none=>(match P.underlying t with
     | some (.pointer arr)=>(match P.underlying arr with | some (.array l e)=>l==len&&(P.info? e).isSome | _=>false)
     | some (.array l e)=>l==len&&(P.info? e).isSome
     | _=>false)&&xB fm x xo
   | _=>false)
 | .got .. => false
 | .fail=>(match o with | .defer _=>false | _=>true)
end Go.D
end
section
namespace Go.D
open Go.RowKit
variable {P:Program} {fm:FM}
theorem jx {b:Builtin} {c:Call} {as_:List Operand} {ts:List TypeId} {op:Op} (ho:op=.call c) (h1:c.callee=.builtin b) (h2:c.args.toList=as_) (h3:c.argTypes.toList=ts):builtinCall b as_ ts op:=⟨c,ho,h1,h2,h3⟩
theorem v8 {e:TypeId} {n:Nat} (h:(match P.info? e with | some i=>i.size==n | none=>false)=true):∃ i,P.info? e=some i∧i.size=n:=by
 split at h
 · rename_i i hi;exact⟨i,hi,eq_of_beq h⟩
 · cases h
theorem tQ {e:TypeId} {n b:Nat} (h:(match P.info? e with | some i=>i.size==n&&i.bytes==b | none=>false)=true):∃ i,P.info? e=some i∧i.size=n∧i.bytes=b:=by
 split at h
 · rename_i i hi;simp only[aac] at h;exact⟨i,hi,eq_of_beq h.1,eq_of_beq h.2⟩
 · cases h
theorem Mt {α:Type} {o:Option α} (h:o.isSome=true):∃ x,o=some x:=aa1.1 h
theorem D2 {t:TypeId} (h:(match P.underlying t with | some .string=>true | _=>false)=true):P.underlying t=some .string:=by
 split at h
 · assumption
 · cases h
theorem xW {t:TypeId} (h:(match P.underlying t with | some (.slice e)=>(match P.underlying e with | some (.int k)=>decide (k=.u8) | _=>false) | _=>false)=true):∃ e,P.underlying t=some (.slice e)∧P.underlying e=some (.int .u8):=by
 split at h
 · rename_i e he;split at h
   · rename_i k hk;have:=of_decide_eq_true h;subst this;exact⟨e,he,hk⟩
   · cases h
 · cases h
theorem slB {t:TypeId} {n:Nat} (h:(match P.underlying t with | some (.slice e)=>(match P.info? e with | some i=>i.size==n | none=>false) | _=>false)=true):∃ e i,P.underlying t=some (.slice e)∧P.info? e=some i∧i.size=n:=by
 split at h
 · rename_i e he;obtain⟨i,h1,h2⟩:=v8 h;exact⟨e,i,he,h1,h2⟩
 · cases h
theorem orB {ag:Bool} {n:Nat} (h:(ag||n==1)=true):ag=true∨n=1:=by
 simp only[Bool.or_eq_true] at h;rcases h with h | h
 · exact .inl h
 · exact .inr (eq_of_beq h)
theorem Jr {r:ROp} {o:Oper} (h:opB P fm r o.op=true):aA P fm r o:=by
 cases r with
 | mv x=>
   simp only[opB] at h;split at h
   · exact vz (.inl (by assumption)) (bb h)
   · exact vz (.inr (by assumption)) (bb h)
   · cases h
 | pick c a b=>
   simp only[opB] at h;split at h
   · simp only[aac] at h;exact w8 (by assumption) (bb h.1.1) (bb h.1.2) (bb h.2)
   · cases h
 | alloc zs=>
   simp only[opB] at h;split at h
   · exact uJ (by assumption) (eF h)
   · cases h
 | box n x=>
   simp only[opB] at h;split at h
   · exact Az (by assumption) (bb h)
   · cases h
 | build zs parts=>
   simp only[opB] at h;split at h
   · simp only[aac] at h;exact vV (by assumption) (eF h.1.1) h.1.2 (rv h.2)
   · cases h
 | lit n ag zs len parts=>
   simp only[opB] at h;split at h
   · rename_i ho;simp only[aac] at h;have hl:=eq_of_beq h.1;subst hl;have h:=h.2;split at h
     · rename_i e he;simp only[aac] at h;obtain⟨⟨⟨⟨⟨h1,h2⟩,h3⟩,h4⟩,h5⟩,h6⟩:=h;obtain⟨i,hi,hn⟩:=v8 h1;exact Bs ho he hi hn (eF h2) (eq_of_beq h3) (orB h4) (aaG h5) (pQ h6)
     · cases h
   · cases h
 | nE n ag zs len parts=>
   simp only[opB] at h;split at h
   · rename_i ho;simp only[aac] at h;have hl:=eq_of_beq h.1;subst hl;have h:=h.2;split at h
     · rename_i e he;simp only[aac] at h;obtain⟨⟨⟨⟨h1,h2⟩,h3⟩,h5⟩,h6⟩:=h;obtain⟨i,hi,hn⟩:=v8 h1;exact xS ho he hi hn (eF h2) (eq_of_beq h3) (aaG h5) (pQ h6)
     · cases h
   · cases h
 | load n ag x=>
   simp only[opB] at h;split at h
   · simp only[aac] at h;exact xC (by assumption) (ig h.1) (bb h.2)
   · cases h
 | store n x v=>
   simp only[opB] at h;split at h
   · simp only[aac] at h;obtain⟨i,hi,hn⟩:=v8 h.1.1;exact uW (by assumption) hi hn (bb h.1.2) (bb h.2)
   · cases h
 | aX x=>
   simp only[opB] at h;split at h
   · exact sH (by assumption) (bb h)
   · cases h
 | bin op x y=>
   simp only[opB] at h;split at h
   · rename_i ho;simp only[aac] at h;have:=of_decide_eq_true h.1.1;subst this;exact AM ho (bb h.1.2) (bb h.2)
   · cases h
 | eq k neg x y=>
   simp only[opB] at h;split at h
   · rename_i ho;simp only[aac] at h;have:=of_decide_eq_true h.1.1.1;subst this;exact DL ho h.1.1.2 (bb h.1.2) (bb h.2)
   · cases h
 | un op x=>
   simp only[opB] at h;split at h
   · rename_i ho;simp only[aac] at h;have:=of_decide_eq_true h.1;subst this;exact D3 ho (bb h.2)
   · cases h
 | i2i k x=>
   simp only[opB] at h;split at h
   · rename_i ho;simp only[aac] at h;obtain⟨⟨h1,h2⟩,h3⟩:=h;obtain⟨e,he⟩:=Mt h1;split at h2
     · rename_i k' hk;have:=of_decide_eq_true h2;subst this;exact Bx ho he hk (bb h3)
     · cases h2
   · cases h
 | i2s x=>simp[opB] at h
 | same x=>simp[opB] at h
 | s2b x=>
   simp only[opB] at h;split at h
   · rename_i ho;simp only[aac] at h;obtain⟨⟨h1,h2⟩,h3⟩:=h;obtain⟨e,he,hu⟩:=xW h2;exact AX ho (D2 h1) he hu (bb h3)
   · cases h
 | s2h x=>
   simp only[opB] at h;split at h
   · rename_i ho;simp only[aac] at h;obtain⟨⟨h1,h2⟩,h3⟩:=h;obtain⟨e,he,hu⟩:=xW h2;exact AH ho (D2 h1) he hu (bb h3)
   · cases h
 | b2s x=>
   simp only[opB] at h;split at h
   · rename_i ho;simp only[aac] at h;obtain⟨⟨h1,h2⟩,h3⟩:=h;obtain⟨e,he,hu⟩:=xW h2;exact A8 ho he hu (D2 h1) (bb h3)
   · cases h
 | gD g fs cs=>
   simp only[opB] at h;split at h
   · rename_i ho;simp only[aac] at h;obtain⟨⟨h1,h2⟩,h3⟩:=h;split at h1
     · rename_i f' hf;have:=eq_of_beq h1;subst this;exact wV ho hf (kj h2) (kj h3)
     · cases h1
   · cases h
 | jL=>
   simp only[opB] at h;split at h
   · exact v7 (by assumption)
   · cases h
 | cE n ag bytes zs l c=>
   simp only[opB] at h;split at h
   · rename_i ho;split at h
     · rename_i e he;simp only[aac] at h;obtain⟨⟨⟨⟨h1,h2⟩,h3⟩,h4⟩,h5⟩:=h
       obtain⟨i,hi,hn,hb⟩:=tQ (P:=P) (e:=e) (n:=n) (b:=bytes) (by
        split
        · rename_i i hi;rw[hi] at h1;simpa using h1
        · rename_i hi;rw[hi] at h1;cases h1)
       exact qt ho he hi hn hb (eF h2) (eq_of_beq h3) (bb h4) (bb h5)
     · cases h
   · cases h
 | lk n bytes l c=>simp[opB] at h
 | slice str n x lo hi mx=>
   cases str with
   | true=>
     simp only[opB] at h;split at h
     · rename_i ho;simp only[aac] at h;obtain⟨⟨⟨⟨h1,h2⟩,h3⟩,h4⟩,h5⟩:=h;have:mx=none:=Option.isNone_iff_eq_none.1 h2;subst this;exact nQ ho (D2 h1) (bb h3) (gS h4) (gS h5)
     · cases h
   | false=>
     simp only[opB] at h;split at h
     · rename_i ho;simp only[aac] at h;obtain⟨⟨⟨⟨h1,h2⟩,h3⟩,h4⟩,h5⟩:=h;obtain⟨e,i,he,hi,hn⟩:=slB h1;exact uK ho he hi hn (bb h2) (gS h3) (gS h4) (gS h5)
     · cases h
 | gU off x=>
   simp only[opB] at h;split at h
   · rename_i ho;simp only[aac] at h;obtain⟨h1,h2⟩:=h;split at h1
     · rename_i fs hfs;split at h1
       · rename_i f hf;simp only[aac] at h1;obtain⟨h3,h4⟩:=h1;split at h3
         · rename_i i hi;exact uP ho hfs hf hi (by intro e;rw[e] at h3;simp at h3) (eq_of_beq h4) (bb h2)
         · cases h3
       · cases h1
     · cases h1
   · cases h
 | field n ag off x=>
   simp only[opB] at h;split at h
   · rename_i ho;simp only[aac] at h;obtain⟨h1,h2⟩:=h;split at h1
     · rename_i fs hfs;split at h1
       · rename_i f hf;simp only[aac] at h1;exact wa ho hfs hf (ig h1.1) (eq_of_beq h1.2) (bb h2)
       · cases h1
     · cases h1
   · cases h
 | aY n x j=>
   simp only[opB] at h;split at h
   · rename_i ho;simp only[aac] at h;obtain⟨⟨h1,h2⟩,h3⟩:=h;obtain⟨e,i,he,hi,hn⟩:=slB h1;exact uy ho he hi hn (bb h2) (bb h3)
   · cases h
 | cA n len x j=>
   simp only[opB] at h;split at h
   · rename_i ho;simp only[aac] at h;obtain⟨⟨h1,h2⟩,h3⟩:=h;split at h1
     · rename_i l e he;simp only[aac] at h1
       obtain⟨i,hi,hn⟩:=v8 (P:=P) (e:=e) (n:=n) (by
        have h1:=h1.2;split
        · rename_i i hi;rw[hi] at h1;simpa using h1
        · rename_i hi;rw[hi] at h1;cases h1)
       have:=eq_of_beq h1.1;subst this;exact sO ho he hi hn (bb h2) (bb h3)
     · cases h1
   · cases h
 | index x j=>
   simp only[opB] at h;split at h
   · rename_i ho;simp only[aac] at h;exact vN ho (D2 h.1.1) (bb h.1.2) (bb h.2)
   · cases h
 | jE n ag len x j=>
   simp only[opB] at h;split at h
   · rename_i ho;simp only[aac] at h;obtain⟨⟨h1,h2⟩,h3⟩:=h;split at h1
     · rename_i l e he;simp only[aac] at h1;have:=eq_of_beq h1.1;subst this;exact te ho he (ig h1.2) (bb h2) (bb h3)
     · cases h1
   · cases h
 | lookup ks zero x j ok=>simp[opB] at h
 | iI ks m k v=>simp[opB] at h
 | extract x i=>
   simp only[opB] at h;split at h
   · rename_i ho;simp only[aac] at h;have:=eq_of_beq h.1;subst this;exact qk ho (bb h.2)
   · cases h
 | iface t x=>simp[opB] at h
 | len k x=>
   simp only[opB] at h;split at h
   · rename_i c ho;split at h
     · rename_i h1 h2 h3;simp only[aac] at h;exact Ba (jx ho h1 h2 h3) h.1 (bb h.2)
     · cases h
   · cases h
 | xh n=>simp[opB] at h
 | cap x=>simp[opB] at h
 | append n ag bytes x y=>
   simp only[opB] at h;split at h
   · rename_i c ho;split at h
     · rename_i h1 h2 h3;split at h
       · rename_i e he;simp only[aac] at h;obtain⟨⟨⟨⟨⟨g1,g2⟩,g3⟩,g4⟩,g5⟩,g6⟩:=h
         obtain⟨i,hi,hn,hb⟩:=tQ (P:=P) (e:=e) (n:=n) (b:=bytes) (by
          split
          · rename_i i hi;rw[hi] at g1;simpa using g1
          · rename_i hi;rw[hi] at g1;cases g1)
         split at g2
         · rename_i zs hz;exact tq (jx ho h1 h2 h3) he g4 hi hn hb hz (eq_of_beq g2) (orB g3) (bb g5) (bb g6)
         · cases g2
       · cases h
     · cases h
   · cases h
 | gl n ag bytes x y=>simp[opB] at h
 | clear n zs x=>simp[opB] at h
 | copy n x y=>simp[opB] at h
 | max args=>
   simp only[opB] at h;split at h
   · rename_i c ho;split at h
     · rename_i h1;exact BF (jx ho h1 rfl rfl) (kj h)
     · cases h
   · cases h
 | min args=>
   simp only[opB] at h;split at h
   · rename_i c ho;split at h
     · rename_i h1;exact BP (jx ho h1 rfl rfl) (kj h)
     · cases h
   · cases h
 | call g args=>simp[opB] at h
 | bz f args=>simp[opB] at h
 | dp f args=>simp[opB] at h
 | gX ty zs=>
   simp only[opB] at h;split at h
   · rename_i e ho;simp only[aac] at h;have:=eq_of_beq h.1;subst this;exact sM ho (eF h.2)
   · cases h
 | conv ty n x=>
   simp only[opB] at h;split at h
   · rename_i s d xo ho;simp only[aac] at h;obtain⟨h1,h2⟩:=h;split at h1
     · rename_i t hs hd;simp only[aac] at h1;obtain⟨h3,h4⟩:=h1;split at h3
       · rename_i j hj;exact sG ho hs hd hj (by simpa using h3) (aaG h4) (bb h2)
       · cases h3
     · rename_i u hs hd;simp only[aac] at h1;obtain⟨j,hj⟩:=aa1.1 h1.1;exact p9 ho hs hd hj h1.2 (bb h2)
     · cases h1
   · cases h
 | dW ty bytes x y=>
   simp only[opB] at h;split at h
   · rename_i c ho;split at h
     · rename_i h1 h2 h3;split at h
       · rename_i e he;simp only[aac] at h;obtain⟨⟨⟨⟨⟨g0,g1⟩,g2⟩,g4⟩,g5⟩,g6⟩:=h;have:=eq_of_beq g0;subst this
         obtain⟨i,hi,hn,hb⟩:=tQ (P:=P) (e:=e) (n:=1) (b:=bytes) (by
          split
          · rename_i i hi;rw[hi] at g1;simpa using g1
          · rename_i hi;rw[hi] at g1;cases g1)
         split at g2
         · rename_i zs hz;exact qI (jx ho h1 h2 h3) he g4 hi hn hb hz (eq_of_beq g2) (bb g5) (bb g6)
         · cases g2
       · cases h
     · cases h
   · cases h
 | gR x=>
   simp only[opB] at h;split at h
   · rename_i c ho;split at h
     · rename_i h1 h2 h3;exact tr (jx ho h1 h2 h3) (bb h)
     · cases h
   · cases h
 | pN ty x l=>
   simp only[opB] at h;split at h
   · rename_i c ho;split at h
     · rename_i h1 h2 h3;simp only[aac] at h;obtain⟨⟨g1,g2⟩,g3⟩:=h;split at g1
       · rename_i e he;simp only[aac] at g1;have:=eq_of_beq g1.1;subst this;exact wP (jx ho h1 h2 h3) he (eq_of_beq g1.2) (bb g2) (bb g3)
       · cases g1
     · cases h
   · cases h
 | sliceB n ag len x lo hi mx=>
   simp only[opB] at h;split at h
   · rename_i t xo lo' hi' mx' ho;simp only[aac] at h;obtain⟨⟨⟨⟨h1,h2⟩,h3⟩,h4⟩,h5⟩:=h;split at h1
     · rename_i arr ht;split at h1
       · rename_i l e ha;simp only[aac] at h1;have:=eq_of_beq h1.1;subst this;have h6:=h1.2;split at h6
         · rename_i i hi;exact tT ho ht ha hi (eq_of_beq h6) (bb h2) (gS h3) (gS h4) (gS h5)
         · cases h6
       · cases h1
     · rename_i l e ht;simp only[aac] at h1;have:=eq_of_beq h1.1;subst this;have h6:=h1.2;split at h6
       · rename_i i hi;exact qy ho ht hi (eq_of_beq h6) (bb h2) (gS h3) (gS h4) (gS h5)
       · cases h6
     · cases h1
   · cases h
 | gM n ag len x=>
   simp only[opB] at h;split at h
   · rename_i t xo ho;simp only[aac] at h;obtain⟨h1,h2⟩:=h;split at h1
     · rename_i arr ht;split at h1
       · rename_i l e ha;simp only[aac] at h1;have:=eq_of_beq h1.1;subst this;obtain⟨i,hi⟩:=aa1.1 h1.2;exact rT ho ht ha hi (bb h2)
       · cases h1
     · rename_i l e ht;simp only[aac] at h1;have:=eq_of_beq h1.1;subst this;obtain⟨i,hi⟩:=aa1.1 h1.2;exact qz ho ht hi (bb h2)
     · cases h1
   · cases h
 | got v xs=>simp only[opB] at h;cases h
 | fail=>
   intro CR G w0 st w fr a v st' hs hf hrun;simp[an] at hrun
def pX:ROp→Bool
 | .alloc _ | .jL | .cE .. => true
 | _=>false
theorem CP {r:ROp} {o:Oper} (h:opB P fm r o.op=true) (hf:pX r=true):jH P fm r o:=by
 cases r<;>simp only[pX,aaq] at hf
 case alloc zs=>
  simp only[opB] at h;split at h
  · exact ql (by assumption) (eF h)
  · cases h
 case jL=>
  simp only[opB] at h;split at h
  · exact qf (by assumption)
  · cases h
 case cE n ag bytes zs l c=>
  simp only[opB] at h;split at h
  · rename_i ho;split at h
    · rename_i e he;simp only[aac] at h;obtain⟨⟨⟨⟨h1,h2⟩,h3⟩,h4⟩,h5⟩:=h
      obtain⟨i,hi,hn,hb⟩:=tQ (P:=P) (e:=e) (n:=n) (b:=bytes) (by
       split
       · rename_i i hi;rw[hi] at h1;simpa using h1
       · rename_i hi;rw[hi] at h1;cases h1)
      exact nN ho he hi hn hb (eF h2) (eq_of_beq h3) (bb h4) (bb h5)
    · cases h
  · cases h
end Go.D
end
section
namespace Go.D
open Go.RowKit
variable {P:Program} {fm:FM} {T:Tab}
def xy (ops:Array Oper):Option (Nat×Bool)→Option (Nat×Bool)→Bool
 | none,none=>true
 | some (t,want),some (j,want')=>want==want'&&(match ops[j]? with | some o=>(match o.dst with | some u=>u==t | none=>false) | none=>false)
 | _,_=>false
theorem Bi {ops:Array Oper} {g g':Option (Nat×Bool)} (h:xy ops g g'=true):jT ops g g':=by
 unfold xy at h;split at h
 · trivial
 · rename_i t want j want';simp only[aac] at h;obtain⟨h1,h2⟩:=h;refine⟨eq_of_beq h1,?_⟩;split at h2
   · rename_i o ho;split at h2
     · rename_i u hu;rw[ho];simp[hu,eq_of_beq h2]
     · cases h2
   · cases h2
 · cases h
def JE (N:Nat):Option Nat→Option Nat→Bool
 | none,none=>true
 | some a,some b=>a==b&&Nat.blt b N
 | _,_=>false
theorem Gw {N:Nat} {a b:Option Nat} (h:JE N a b=true):a=b∧∀ t,b=some t→t<N:=by
 unfold JE at h;split at h
 · exact⟨rfl,fun t h=>by cases h⟩
 · rename_i a b;simp only[aac] at h;have h2:=h.2;refine⟨by rw[eq_of_beq h.1],fun t ht=>?_⟩;cases ht;exact aaG h2
 · cases h
def vv (fm:FM):ROp→Op→Bool
 | .call g args,.call c=>(match c.callee with | .value (.func f)=>(match fm g with | some f'=>f'==f | none=>false)&&xsB fm args c.args.toList | _=>false)
 | .bz f args,.call c=>(match c.callee with | .value fo=>xB fm f fo&&xsB fm args c.args.toList | _=>false)
 | .dp f args,.call c=>(match c.callee with | .value fo=>xB fm f fo&&xsB fm args c.args.toList | _=>false)
 | _,_=>false
def u1 (P:Program) (fm:FM) (N:Nat) (ops:Array Oper) (r:ak) (o:Oper):Bool:=
 JE N r.dst o.dst&&xy ops r.guard o.guard&&(if mA r.op then vv fm r.op o.op else opB P fm r.op o.op)
theorem Ez {N:Nat} {ops:Array Oper} {r:ak} {o:Oper} (h:u1 P fm N ops r o=true):l5 P fm N ops r o:=by
 unfold u1 at h;simp only[aac] at h;obtain⟨⟨h1,h2⟩,h3⟩:=h;obtain⟨g1,g2⟩:=Gw h1;have g3:=Bi h2
 have nd:∀ c,o.op≠.defer c:=by
  intro c e;split at h3
  · unfold vv at h3;rw[e] at h3;split at h3<;>first | (cases h3;done) | (rename_i heq;cases heq)
  · unfold opB at h3;rw[e] at h3;split at h3<;>first | (cases h3;done) | (simp at h3;done)
 refine⟨g1,g2,g3,nd,?_⟩
 cases hr:r.op with
 | call g args=>
   rw[hr] at h3;simp only[mA,if_true] at h3;unfold vv at h3;split at h3
   · rename_i c heq ho;cases heq;split at h3
     · rename_i f hc;simp only[aac] at h3;obtain⟨h4,h5⟩:=h3;split at h4
       · rename_i f' hf;have:=eq_of_beq h4;subst this;exact⟨c,f',ho,hc,hf,kj h5⟩
       · cases h4
     · cases h3
   all_goals first | (rename_i heq _;cases heq;done) | cases h3
 | bz f args=>
   rw[hr] at h3;simp only[mA,if_true] at h3;unfold vv at h3;split at h3
   · rename_i heq _;cases heq
   · rename_i c heq ho;cases heq;split at h3
     · rename_i fo hc;simp only[aac] at h3;exact⟨c,fo,ho,hc,bb h3.1,kj h3.2⟩
     · cases h3
   · rename_i heq _;cases heq
   · cases h3
 | dp f args=>
   rw[hr] at h3;simp only[mA,if_true] at h3;unfold vv at h3;split at h3
   · rename_i heq _;cases heq
   · rename_i heq _;cases heq
   · rename_i c heq ho;cases heq;split at h3
     · rename_i fo hc;simp only[aac] at h3;exact⟨c,fo,ho,hc,bb h3.1,kj h3.2⟩
     · cases h3
   · cases h3
 | _=>
   rw[hr] at h3;simp only[mA,if_false,aaq] at h3;exact Jr h3
def kC (P:Program) (fm:FM) (N:Nat) (ops:Array Oper):List ak→List Oper→Bool
 | [],[]=>true
 | r::rs,o::os=>u1 P fm N ops r o&&kC P fm N ops rs os
 | _,_=>false
theorem vF {N:Nat} {ops:Array Oper}:∀ {rs:List ak} {os:List Oper},kC P fm N ops rs os=true→rs.length=os.length∧∀ (i:Nat) (r:ak),rs[i]? = some r→∃ o,os[i]? = some o∧l5 P fm N ops r o
 | [],[],_=>⟨rfl,fun i r h=>by simp at h⟩
 | r::rs,o::os,h=>by
   simp only[kC,aac] at h;obtain⟨h1,h2⟩:=vF h.2;refine⟨by simp[h1],fun i r' hr=>?_⟩
   cases i with
   | zero=>simp only[aaw,aab.injEq] at hr;subst hr;exact⟨o,rfl,Ez h.1⟩
   | succ i=>simpa using h2 i r' (by simpa using hr)
 | [],_::_,h=>by simp[kC] at h
 | _::_,[],h=>by simp[kC] at h
def Lg (P:Program) (fm:FM) (N:Nat) (rs:List ak) (ops:Array Oper):Bool:=kC P fm N ops rs ops.toList
theorem zz {N:Nat} {rs:List ak} {ops:Array Oper} (h:Lg P fm N rs ops=true):sX P fm N rs ops:=by
 obtain⟨h1,h2⟩:=vF h;exact⟨by simpa using h1,fun i r hr=>by simpa using h2 i r hr⟩
theorem w9 {N:Nat} {ops:Array Oper} {r:ak} {o:Oper} (h:u1 P fm N ops r o=true) (hf:pX r.op=true):jH P fm r.op o:=by
 unfold u1 at h;simp only[aac] at h;obtain⟨⟨h1,h2⟩,h3⟩:=h;have hc:mA r.op=false:=by cases hr:r.op<;>rw[hr] at hf<;>first | rfl | cases hf
 rw[hc] at h3;simp only[if_false,aaq] at h3;exact CP h3 hf
theorem oa {N:Nat} {ops:Array Oper}:∀ {rs:List ak} {os:List Oper},kC P fm N ops rs os=true→∀ (i:Nat) (r:ak) (o:Oper),rs[i]? = some r→os[i]? = some o→pX r.op=true→jH P fm r.op o
 | [],[],_=>fun i r o h=>by simp at h
 | r::rs,o::os,h=>by
   simp only[kC,aac] at h;intro i r' o' hr ho hf
   cases i with
   | zero=>
     simp only[aaw,aab.injEq] at hr ho;subst hr;subst ho;exact w9 h.1 hf
   | succ i=>exact oa h.2 i r' o' (by simpa using hr) (by simpa using ho) hf
 | [],_::_,h=>by simp[kC] at h
 | _::_,[],h=>by simp[kC] at h
end Go.D
end
section
namespace Go.D
open Go.RowKit
variable {P:Program} {fm:FM} {T:Tab}
def Gc (A:List (List Nat)) (o:Oper):List (List Nat):=
 A++[(o.after.toList.foldl (fun (s:List Nat) e=>if Region.binds .any e then s++(e.on::A.getD e.on []).filter (fun i => !s.contains i) else s) [])]
def GP (ops:List Oper):List (List Nat):=ops.foldl Gc []
def gY {α:Type} (p:Nat→α→Bool):List α→Nat→Bool
 | [],_=>true
 | x::xs,i=>p i x&&gY p xs (i+1)
theorem uX {α:Type} {p:Nat→α→Bool}:∀ {l:List α} {k:Nat},gY p l k=true→∀ i x,l[i]? = some x→p (k+i) x=true
 | [],_,_,i,x,h=>by simp at h
 | y::ys,k,h,i,x,hx=>by
   simp only[gY,aac] at h
   cases i with
   | zero=>simp only[aaw,aab.injEq] at hx;subst hx;exact h.1
   | succ i=>
     have:=uX h.2 i x (by simpa using hx)
     rwa [show k+1+i=k+(i+1) by omega] at this
theorem iU {α:Type} {p:Nat→α→Bool} {l:List α} (h:gY p l 0=true) (i:Nat) (x:α) (hx:l[i]? = some x):p i x=true:=by
 have:=uX h i x hx
 rwa [aay] at this
def EP (r:ak) (t:Nat):Bool:=match r.dst with | some u=>u==t | none=>false
theorem Fq {r:ak} {t:Nat} (h:r.dst=some t):EP r t=true:=by unfold EP;rw[h];simp
def zi (A:List (List Nat)) (j:Nat) (o:Oper):Bool:=
 (A.getD j []).all (fun i=>Nat.blt i j&&o.after.toList.any (fun e=>Region.binds .any e&&(e.on==i||(Nat.blt e.on j&&(A.getD e.on []).contains i)))) &&
 o.after.toList.all (fun e => !Region.binds .any e||Nat.blt e.on j)
def uV (pf:Nat→Bool) (A:List (List Nat)) (i:Nat) (r:ak) (j:Nat) (r':ak):Bool:=
 (!(Nat.blt i j) || !(aH pf r.op) || !(aH pf r'.op)||(A.getD j []).contains i) &&
 (match r.dst with
  | none=>true
  | some t=>(i==j || !EP r' t)&&(!(r'.reads.contains t)||(!(i==j)&&(!(Nat.blt i j)||(A.getD j []).contains i)&&(!(Nat.blt j i)||(A.getD i []).contains j))))
def qW (rs:List ak) (chk:List (Nat×List Nat)):Bool:=
 chk.all fun (j,_)=>match rs[j]? with
  | none=>true
  | some r=>gY (fun i r'=>match r'.dst with | none=>true | some t => !(r.reads.contains t)||Nat.blt i j) rs 0
def CN (pf:Nat→Bool) (A:List (List Nat)) (rs:List ak) (chk:List (Nat×List Nat)) (j:Nat) (r:ak):Bool:=
 aH pf r.op||cu r.op||(aal (aq pf rs rs.length+1)).all fun v=>
  !(gY (fun i r' => !(aH pf r'.op) || !((A.getD j []).contains i)||Nat.blt (aq pf rs i) v) rs 0) ||
  !(gY (fun i r' => !(aH pf r'.op) || !((A.getD i []).contains j)||Nat.ble v (aq pf rs i)) rs 0) ||
  v==aq pf rs j||(r.dst.isSome&&chk.any fun (j',vs)=>j'==j&&vs.contains v)
def Ch (pf:Nat→Bool) (rs:List ak) (chk:List (Nat×List Nat)) (ops:Array Oper) (A:List (List Nat)):Bool:=
 gY (zi A) ops.toList 0&&qW rs chk&&gY (fun i r=>gY (fun j r'=>uV pf A i r j r') rs 0) rs 0&&gY (CN pf A rs chk) rs 0
def Fz (rs:List ak) (j:Nat):Bool:=match rs[j]? with | some r=>pX r.op | none=>true
def Ey (P:Program) (fm:FM) (pf:Nat→Bool) (N:Nat) (rs:List ak) (hs:List Nat) (chk:List (Nat×List Nat)) (ops:Array Oper) (A:List (List Nat)):Bool:=
 Lg P fm N rs ops&&Ch pf (lH hs 0 rs) chk ops A&&hs.all (Fz rs)
theorem qc {a b:Nat} (h:Nat.blt a b=true):a<b:=aaG h
theorem sU {a b:Nat} (h:a<b):Nat.blt a b=true:=Nat.ble_eq_true_of_le h
theorem contains_of {l:List Nat} {i:Nat} (h:l.contains i=true):i∈l:=List.contains_iff_mem.1 h
theorem nj {l:List Nat} {i:Nat} (h:i∈l):l.contains i=true:=List.contains_iff_mem.2 h
theorem vE {a b:Bool} (h:(!a||b)=true) (ha:a=true):b=true:=by subst ha;simpa using h
theorem o6 {α:Type} {p:Nat→α→Bool}:∀ {l:List α} {k:Nat},(∀ i x,l[i]? = some x→p (k+i) x=true)→gY p l k=true
 | [],_,_=>rfl
 | y::ys,k,h=>by
   simp only[gY,aac];refine⟨h 0 y rfl,o6 fun i x hx=>?_⟩;have:=h (i+1) x (by simpa using hx)
   rwa [show k+1+i=k+(i+1) by omega]
theorem E2 {rs:List ak} {chk:List (Nat×List Nat)} {ops:Array Oper} {A:List (List Nat)} (h:Ch (al T) rs chk ops A=true):nD T rs chk ops (fun j=>A.getD j []):=by
 unfold Ch at h;simp only[aac] at h;obtain⟨⟨⟨h2,h3⟩,h4⟩,h5⟩:=h;have hj:∀ (j:Nat) (o:Oper),ops[j]? = some o→zi A j o=true:=fun j o ho=>iU h2 j o (by simpa using ho);have hp:∀ (i j:Nat) (r r':ak),rs[i]? = some r→rs[j]? = some r'→uV (al T) A i r j r'=true:=fun i j r r' hr hr'=>iU (iU h4 i r hr) j r' hr';refine { AR:=?_,rr:=?_,iY:=?_,tO:=?_,gj:=?_,ku:=?_,cover:=?_ }
 · intro j o ho i hi;have:=hj j o ho;unfold zi at this;simp only[aac] at this;have:=aaf.1 this.1 i hi;simp only[aac] at this;refine⟨qc this.1,?_⟩;obtain⟨e,he,hb⟩:=List.any_eq_true.1 this.2;simp only[aac,Bool.or_eq_true] at hb;refine⟨e,he,hb.1,?_⟩;rcases hb.2 with h | h
   · exact .inl (eq_of_beq h)
   · exact .inr ⟨qc h.1,contains_of h.2⟩
 · intro j o ho e he hb;have:=hj j o ho;unfold zi at this;simp only[aac] at this;exact qc (vE (aaf.1 this.2 e he) hb)
 · intro j vs r hc hr i t r' hr' hd ht;unfold qW at h3;have:=aaf.1 h3 _ hc;simp only[hr] at this;have:=iU this i r' hr';simp only[hd] at this;exact qc (vE this (nj ht))
 · intro i j r r' hij hr hr' hl hl';have:=hp i j r r' hr hr';unfold uV at this;simp only[aac] at this;have:=this.1;rw[sU hij,hl,hl'] at this;exact contains_of (by simpa using this)
 · intro i j t r r' hij hr hr' hd hd';have:=hp i j r r' hr hr';unfold uV at this;simp only[aac,hd] at this;have:=this.2.1;rw[Fq hd'] at this;simp at this;exact hij this
 · intro i j t r r' hr hr' hd ht;have:=hp i j r r' hr hr';unfold uV at this;simp only[aac,hd] at this;have:=vE this.2.2 (nj ht);simp only[aac] at this;refine⟨by rintro rfl;have:=this.1.1;simp at this,fun h=>contains_of (vE this.1.2 (sU h)),fun h=>contains_of (vE this.2 (sU h))⟩
 · intro j v r hr hl hsl hlow hup hv;have:=iU h5 j r hr;unfold CN at this;rw[hl,hsl] at this;simp only[Bool.false_or] at this;have:=aaf.1 this v (abz.2 (by omega))
   have e1:gY (fun i r' => !(aH (al T) r'.op) || !((A.getD j []).contains i)||Nat.blt (aq (al T) rs i) v) rs 0=true:=by
    refine o6 fun i x hx=>?_;rw[aay]
    cases hlx:aH (al T) x.op with
    | false=>rfl
    | true=>
      cases hcx:(A.getD j []).contains i with
      | false=>rfl
      | true=>simpa using sU (hlow i x hx hlx (contains_of hcx))
   have e2:gY (fun i r' => !(aH (al T) r'.op) || !((A.getD i []).contains j)||Nat.ble v (aq (al T) rs i)) rs 0=true:=by
    refine o6 fun i x hx=>?_;rw[aay]
    cases hlx:aH (al T) x.op with
    | false=>rfl
    | true=>
      cases hcx:(A.getD i []).contains j with
      | false=>rfl
      | true=>simpa using Nat.ble_eq_true_of_le (hup i x hx hlx (contains_of hcx))
   rw[e1,e2] at this;simp only[Bool.not_true,Bool.false_or,Bool.or_eq_true,aac] at this;rcases this with h | h
   · exact .inl (eq_of_beq h)
   · obtain⟨q,hq,hqq⟩:=List.any_eq_true.1 h.2;obtain⟨j',vs⟩:=q;simp only[aac] at hqq;have:=eq_of_beq hqq.1;subst this;exact .inr ⟨vs,hq,contains_of hqq.2,h.1⟩
theorem BX {N:Nat} {rs:List ak} {hs:List Nat} {chk:List (Nat×List Nat)} {ops:Array Oper} {A:List (List Nat)} (h:Ey P fm (al T) N rs hs chk ops A=true):Jn P fm T N rs hs chk ops (fun j=>A.getD j []):=by
 unfold Ey at h;simp only[aac] at h;obtain⟨⟨h1,h2⟩,h3⟩:=h;refine⟨zz h1,fun j r o hj hr ho=>?_,E2 h2⟩;have:=aaf.1 h3 j hj;unfold Fz at this;rw[hr] at this;exact oa h1 j r o hr (by simpa using ho) this
def eK (P:Program) (fm:FM) (pf:Nat→Bool) (N:Nat):RC→Code→Bool
 | .skip,c=>(match c with | .skip=>true | .label _=>true | _=>false)
 | .region ops _,c=>(match c with | .region _ oops false=>Lg P fm N ops oops | _=>false)
 | .av ops hs chk _,c=>(match c with | .region _ oops true=>Ey P fm pf N ops hs chk oops (GP oops.toList) | _=>false)
 | .seq a b,c=>(match c with | .seq x y=>eK P fm pf N a x&&eK P fm pf N b y | _=>false)
 | .cond x a b,c=>(match c with | .cond o y z=>xB fm x o&&eK P fm pf N a y&&eK P fm pf N b z | _=>false)
 | .block id a,c=>(match c with | .block i x=>i==id&&eK P fm pf N a x | _=>false)
 | .loop _ a,c=>(match c with | .loop x=>eK P fm pf N a x | _=>false)
 | .exit id,c=>(match c with | .exit i=>i==id | _=>false)
 | .ret,c=>(match c with | .ret=>true | _=>false)
 | .stuck,_=>true
 | .gK f ps as_ bo _,c=>(match c with | .rangeFunc o qs x y=>xB fm f o&&decide (qs.toList=ps)&&ps.all (fun p=>Nat.blt p N)&&eK P fm pf N as_ x&&eK P fm pf N bo y | _=>false)
theorem eX {N:Nat}:∀ (rc:RC) (c:Code),eK P fm (al T) N rc c=true→hZ P fm T N rc c
 | .skip,c,h=>by
   unfold eK at h;split at h
   · exact .inl rfl
   · exact .inr ⟨_,rfl⟩
   · cases h
 | .region ops l,c,h=>by
   unfold eK at h;split at h
   · exact⟨_,_,rfl,zz h⟩
   · cases h
 | .av ops hs chk l,c,h=>by
   unfold eK at h;split at h
   · exact⟨_,_,_,rfl,BX h⟩
   · cases h
 | .seq a b,c,h=>by
   unfold eK at h;split at h
   · simp only[aac] at h;exact⟨_,_,rfl,eX a _ h.1,eX b _ h.2⟩
   · cases h
 | .cond x a b,c,h=>by
   unfold eK at h;split at h
   · simp only[aac] at h;exact⟨_,_,_,rfl,bb h.1.1,eX a _ h.1.2,eX b _ h.2⟩
   · cases h
 | .block id a,c,h=>by
   unfold eK at h;split at h
   · simp only[aac] at h;have:=eq_of_beq h.1;subst this;exact⟨_,rfl,eX a _ h.2⟩
   · cases h
 | .loop l a,c,h=>by
   unfold eK at h;split at h
   · exact⟨_,rfl,eX a _ h⟩
   · cases h
 | .exit id,c,h=>by
   unfold eK at h;split at h
   · have:=eq_of_beq h;subst this;rfl
   · cases h
 | .stuck,_,_=>trivial
 | .ret,c,h=>by
   unfold eK at h;split at h
   · rfl
   · cases h
 | .gK f ps as_ bo l,c,h=>by
   unfold eK at h;split at h
   · simp only[aac] at h;obtain⟨⟨⟨⟨h1,h2⟩,h3⟩,h4⟩,h5⟩:=h;exact⟨_,_,_,_,rfl,bb h1,of_decide_eq_true h2,fun p hp=>qc (aaf.1 h3 p hp),eX as_ _ h4,eX bo _ h5⟩
   · cases h
def JY (P:Program):fa→ResultVar→Bool
 | .t n,.tmp m=>n==m
 | .cell a n ag,.cell b ty=>a==b&&jc P ty n ag
 | _,_=>false
theorem Ht {a:fa} {b:ResultVar} (h:JY P a b=true):lh P a b:=by
 unfold JY at h;split at h
 · exact eq_of_beq h
 · simp only[aac] at h;exact⟨eq_of_beq h.1,ig h.2⟩
 · cases h
def rA (P:Program):List fa→List ResultVar→Bool
 | [],[]=>true
 | a::as_,b::bs=>JY P a b&&rA P as_ bs
 | _,_=>false
theorem vY:∀ {as_:List fa} {bs:List ResultVar},rA P as_ bs=true→bs.length=as_.length∧∀ (i:Nat) (a:fa) (b:ResultVar),as_[i]? = some a→bs[i]? = some b→lh P a b
 | [],[],_=>⟨rfl,fun i a b h=>by simp at h⟩
 | a::as_,b::bs,h=>by
   simp only[rA,aac] at h;obtain⟨h1,h2⟩:=vY h.2;refine⟨by simp[h1],fun i x y hx hy=>?_⟩
   cases i with
   | zero=>simp only[aaw,aab.injEq] at hx hy;subst hx;subst hy;exact Ht h.1
   | succ i=>exact h2 i x y (by simpa using hx) (by simpa using hy)
 | [],_::_,h=>by simp[rA] at h
 | _::_,[],h=>by simp[rA] at h
def Cp (P:Program) (fm:FM) (pf:Nat→Bool) (F:aj) (fn:Func):Bool:=
 !(fn.name == "runtime.NumGoroutine")&&(match fn.body with | some c=>eK P fm pf fn.ntmps F.body c | none=>false)&&rA P F.results fn.results.toList
theorem Cj {F:aj} {f:FuncId} {fn:Func} (hf:P.funcs[f]? = some fn) (h:Cp P fm (al T) F fn=true):eo P fm T (.code F) f:=by
 unfold Cp at h;simp only[aac] at h;obtain⟨⟨h1,h2⟩,h3⟩:=h;split at h2
 · rename_i c hc;obtain⟨g1,g2⟩:=vY h3;refine⟨fn,c,fun args w=>?_,hf,hc,eX _ _ h2,g1,g2⟩
   have hname:fn.name ≠ "runtime.NumGoroutine":=by simpa using h1
   simp[callFunc,hf,hname,hc]
 · cases h2
theorem CI {f:FuncId} {F:aj} (h:eo P fm T (.code F) f):∀ (args:Array Value) (w:World),(callFunc f args).run P w=.ok (.enter f args) w:=by
 obtain⟨fn,c,h1,_⟩:=h;exact h1
end Go.D
end
section
namespace Go.D
open Go.RowKit
variable {P:Program} {fm:FM}
inductive TT where
 | nil
 | leaf (g:Nat) (d:Def)
 | node (k:Nat) (l r:TT)
def TT.get:TT→Nat→Option Def
 | .nil,_=>none
 | .leaf g d,h=>bif aaD h g then some d else none
 | .node k l r,h=>bif Nat.blt h k then l.get h else r.get h
def TT.ok (P:Program) (fm:FM) (T:Tab):TT→Prop
 | .nil=>True
 | .leaf g d=>∀ f,fm g=some f→eo P fm T d f
 | .node _ l r=>l.ok P fm T∧r.ok P fm T
theorem TT.yv {T:Tab}:∀ (t:TT),t.ok P fm T→∀ g d f,t.get g=some d→fm g=some f→eo P fm T d f
 | .nil,_,g,d,f,h,_=>by simp[TT.get] at h
 | .leaf g0 d0,h0,g,d,f,h,hf=>by
   simp only[TT.get] at h
   cases hb:aaD g g0 with
   | false=>rw[hb] at h;simp at h
   | true=>
     rw[hb] at h;simp only[cond_true,aab.injEq] at h;subst h;have:=aaJ hb;subst this;exact h0 f hf
 | .node k l r,h0,g,d,f,h,hf=>by
   simp only[TT.get] at h
   cases hb:Nat.blt g k with
   | true=>rw[hb] at h;exact l.yv h0.1 g d f h hf
   | false=>rw[hb] at h;exact r.yv h0.2 g d f h hf
theorem tZ {t:TT} (h:t.ok P fm t.get):dn P fm t.get:=fun g d f hg hf=>t.yv h g d f hg hf
def FD:List (Nat×FuncId)→Nat→Option FuncId
 | [],_=>none
 | (g,f)::r,h=>bif aaD h g then some f else FD r h
def BW:List (Nat×IntKind×List Nat)→Nat→Nat→Option Value
 | [],_,_=>none
 | (g,k,l)::r,b,i=>bif aaD b g then (l[i]?).map (fun n=>.int k (abs n)) else BW r b i
def kZ (l:List (Nat×FuncId)) (env:List (Nat×IntKind×List Nat)):FM:=⟨FD l,BW env⟩
def nf (fm:FM) (w:World):Prop:=∀ r i v,fm.env r i=some v→r<w.heap.size∧∃ cs t fz,w.heap[r]? = some (.cells cs t fz)∧cs[i]? = some v
def st0:St:={ heap:=[],bc:=[],cur:=0,base:=0,aQ:=0 }
def gh0 (w:World):Gh:={ ro:=fun _ _=>none,mu:=fun _=>none,bt:=fun _ _=>none,gsz:=fun _=>0,dfr:=fun _=>False,lps:=fun _=>False,bj:=fun _=>none,floor:=w.heap.size,base:=0,aQ:=0 }
end Go.D
end
section
namespace Go.D
open Go.RowKit
variable {P:Program} {fm:FM} {T:Tab}
theorem qU {G:Gh} {a b:DV} {args:Array Value} (h:cN fm G [a,b] args):∃ x y,args = #[x,y]∧Rel fm G a x∧Rel fm G b y:=by
 obtain⟨h1,h2⟩:=h
 match args,h1 with
 | ⟨[x,y]⟩,_=>exact⟨x,y,rfl,h2 0 (by simp),h2 1 (by simp)⟩
theorem jU {p:List DV→St→Option (DV×St)} {f:FuncId} {fn:Func} {e:Array Value→Sem Value} (hf:P.funcs[f]? = some fn) (hname:(fn.name == "runtime.NumGoroutine")=false) (hb:fn.body.isNone=true) (hn:Extern.findNext fn=none)
 (he:Extern.find fn=some e) (h:∀ (G:Gh) (w:World) (st:St) (args:List DV) (args':Array Value) (v:DV) (st':St),cN fm G args args'→p args st=some (v,st')→st'=st∧∃ x,(e args').run P w=.ok x w∧Rel fm G v x):fE P fm T p f:=by
 intro G w0 st w args args' v st' hs ha hp;obtain⟨rfl,x,h1,h2⟩:=h G w st args args' v st' ha hp;refine .inr ⟨x,w,?_,G,Gh.le.refl G,hs,h2⟩;rw[run_callFunc_extern hf hname hb hn he,h1];rfl
def fy:List DV→St→Option (DV×St)
 | [.str s,.int .u8 c],st=>some (.int .i64 (Lib.indexByte s c.toNat.toUInt8),st)
 | _,_=>none
theorem oN {f:FuncId} {fn:Func} (hf:P.funcs[f]? = some fn) (hname:(fn.name == "runtime.NumGoroutine")=false) (hb:fn.body.isNone=true) (hn:Extern.findNext fn=none)
 (he:Extern.find fn=some Extern.BytealgIndexByte.indexByte):fE P fm T fy f:=by
 refine jU hf hname hb hn he fun G w st args args' v st' ha hp=>?_;unfold fy at hp;split at hp
 · simp only[aab.injEq,Prod.mk.injEq] at hp;obtain⟨rfl,rfl⟩:=hp;obtain⟨x,y,rfl,hx,hy⟩:=qU ha;cases hy
   cases hx with
   | str _ b hb=>subst hb;exact⟨rfl,_,Lib.run_indexByteString b _ w,.int _ _⟩
 · cases hp
def fi:List DV→St→Option (DV×St)
 | [.str s,.int .u8 c],st=>some (.int .i64 (Lib.countByte s c.toNat.toUInt8:Nat),st)
 | _,_=>none
theorem pI {f:FuncId} {fn:Func} (hf:P.funcs[f]? = some fn) (hname:(fn.name == "runtime.NumGoroutine")=false) (hb:fn.body.isNone=true) (hn:Extern.findNext fn=none)
 (he:Extern.find fn=some Extern.BytealgCount.count):fE P fm T fi f:=by
 refine jU hf hname hb hn he fun G w st args args' v st' ha hp=>?_;unfold fi at hp;split at hp
 · simp only[aab.injEq,Prod.mk.injEq] at hp;obtain⟨rfl,rfl⟩:=hp;obtain⟨x,y,rfl,hx,hy⟩:=qU ha;cases hy
   cases hx with
   | str _ b hb=>subst hb;exact⟨rfl,_,Lib.run_countString b _ w,.int _ _⟩
 · cases hp
def jd:List DV→St→Option (DV×St)
 | [v],st=>some (v,st)
 | _,_=>none
theorem qu {f:FuncId} {fn:Func} (hf:P.funcs[f]? = some fn) (hname:(fn.name == "runtime.NumGoroutine")=false) (hb:fn.body.isNone=true) (hn:Extern.findNext fn=none)
 (he:Extern.find fn=some Extern.AbiNoEscape.same):fE P fm T jd f:=by
 refine jU hf hname hb hn he fun G w st args args' v st' ha hp=>?_;unfold jd at hp;split at hp
 · rename_i v0;simp only[aab.injEq,Prod.mk.injEq] at hp;obtain⟨rfl,rfl⟩:=hp;obtain⟨h1,h2⟩:=ha;have h3:=h2 0 (by simp)
   match args',h1 with
   | ⟨[x]⟩,_=>exact⟨rfl,x,Lib.run_noEscape w x,h3⟩
 · cases hp
def kg:List Nat:=[0,0,0,0,0,0,0,0,0,1,1,1,1,1,0,0,0,0,0,0,0,0,0,0,0,0,0,0,0,0,0,0,1,0,0,0,0,0,0,0,0,0,0,0,0,0,0,0,0,0,0,0,0,0,0,0,0,0,0,0,0,0,0,0,0,0,0,0,0,0,0,0,0,0,0,0,0,0,0,0,0,0,0,0,0,0,0,0,0,0,0,0,0,0,0,0,0,0,0,0,0,0,0,0,0,0,0,0,0,0,0,0,0,0,0,0,0,0,0,0,0,0,0,0,0,0,0,0,0,0,0,0,0,0,0,0,0,0,0,0,0,0,0,0,0,0,0,0,0,0,0,0,0,0,0,0,0,0,0,0,0,0,0,0,0,0,0,0,0,0,0,0,0,0,0,0,0,0,0,0,0,0,0,0,0,0,0,0,0,0,0,0,0,0,0,0,0,0,0,0,0,0,0,0,0,0,0,0,0,0,0,0,0,0,0,0,0,0,0,0,0,0,0,0,0,0,0,0,0,0,0,0,0,0,0,0,0,0,0,0,0,0,0,0,0,0,0,0,0,0,0,0,0,0,0,0]
def pe:List Nat:=[1,10,100,1000,10000,100000,1000000,10000000,100000000,1000000000,10000000000,100000000000,1000000000000,10000000000000,100000000000000,1000000000000000,10000000000000000,100000000000000000,1000000000000000000,10000000000000000000]
def KD:DV:=.bW (pe.map fun n=>.int .u64 (abs n))
theorem xZ {l:List (Nat×FuncId)} (w:World):nf (kZ l []) w:=fun r i v h=>by cases h
theorem oV {l:List (Nat×FuncId)} {g:Nat} {k:IntKind} {t:List Nat} {env:List (Nat×IntKind×List Nat)} {w:World} (h:∀ i (h:i<t.length),w.cell? ⟨g,i,none⟩=some (.int k (abs t[i]))) (hr:nf (kZ l env) w):nf (kZ l ((g,k,t)::env)) w:=by
 intro r i v hv;simp only[kZ,BW] at hv
 cases hb:aaD r g with
 | false=>rw[hb] at hv;exact hr r i v hv
 | true=>
   rw[hb] at hv;simp only[cond_true,aad] at hv;obtain⟨n,hn,rfl⟩:=hv;have:=aaJ hb;subst this;obtain⟨hi,rfl⟩:=aae.1 hn;have hc:=h i hi;simp only[World.cell?] at hc;split at hc
   · rename_i cs t' fz hcs;exact⟨get?_lt hcs,cs,t',fz,hcs,by simpa using hc⟩
   all_goals first | (cases hc;done) | skip
end Go.D
end
section
namespace Go.D.Tab
@[simp] def σ (d:Nat) (x:ROp):ak:=⟨some d,x,none⟩
@[simp] def τ (d:Nat) (x:ROp) (a:Nat) (b:Bool):ak:=⟨some d,x,some (a,b)⟩
@[simp] def κ (n:Nat):D.X:=.c (.int .i64 (.ofNat n))
@[simp] def μ (d a:Nat):ak:=⟨some d,.mv (.t a),none⟩
@[simp] def η (d a:Nat):ak:=⟨some d,.mv (.c (.int .i64 (.ofNat a))),none⟩
@[simp] def φ (d k a:Nat):ak:=⟨some d,.gU k (.t a),none⟩
@[simp] def ρ (d a:Nat):ak:=⟨some d,.load 1 false (.t a),none⟩
@[simp] def Λ (d n a:Nat):ak:=⟨some d,.load n true (.t a),none⟩
@[simp] def β (d:Nat) (o:BinOp) (a b:Nat):ak:=⟨some d,.bin o (.t a) (.t b),none⟩
@[simp] def γ (d:Nat) (o:BinOp) (a b:Nat):ak:=⟨some d,.bin o (.t a) (.c (.int .i64 (.ofNat b))),none⟩
@[simp] def ε (d a i:Nat):ak:=⟨some d,.extract (.t a) i,none⟩
@[simp] def ν (d:Nat) (k:wU) (a:Nat):ak:=⟨some d,.len k (.t a),none⟩
@[simp] def ξ (d a b:Nat):ak:=⟨some d,.pick (.t a) (.t b) (.c (.bool false)),none⟩
@[simp] def ζ (d a b:Nat):ak:=⟨some d,.pick (.t a) (.c (.bool true)) (.t b),none⟩
@[simp] def ι (d n a b:Nat):ak:=⟨some d,.aY n (.t a) (.t b),none⟩
@[simp] def ω (n a b:Nat):ak:=⟨none,.store n (.t a) (.t b),none⟩
@[simp] def Μ (d a g:Nat) (b:Bool):ak:=⟨some d,.mv (.t a),some (g,b)⟩
@[simp] def Φ (d k a g:Nat) (b:Bool):ak:=⟨some d,.gU k (.t a),some (g,b)⟩
@[simp] def Ρ (d a g:Nat) (b:Bool):ak:=⟨some d,.load 1 false (.t a),some (g,b)⟩
@[simp] def δ:DV:=.int .i64 (.ofNat 0)
@[simp] def θ:DV:=.list 0 0 .no false []
abbrev Ω:=List ak
@[simp] def Γ (a:Ω) (b:List Nat):RC:=.region a b
@[simp] def Ψ (a b:RC):RC:=.seq a b
@[simp] def Ξ (n:Nat) (a b:RC):RC:=.cond (.t n) a b
def qP:RC:=.block 2 (.seq (.region [μ 74 17,μ 75 74,Φ 76 2 13 75 false,Ρ 77 76 75 false,τ 78 (.bin .eql (.t 77) (κ 3)) 75 false,ζ 79 75 78,μ 73 79] [1,7,8,9,10,11,13,14,15,16,17,34,35,36,73]) (.cond (.t 73) (.av [μ 80 16,φ 81 3 15,ρ 82 81,σ 83 (.call 30 [.t 80,.t 82]),φ 84 1 14,ρ 85 84,β 86 .add 83 85,φ 87 4 15,ω 1 87 86] [] [] [1,7,8,9,10,11,14,15,16,17,34,35,36]) (.seq (.region [φ 89 2 13,ρ 90 89,γ 91 .eql 90 7,μ 88 91] [1,7,8,9,10,11,14,15,16,17,34,35,36,88]) (.cond (.t 88) (.seq (.av [μ 92 8,σ 93 (.aY 1 (.t 92) (κ 0)),ρ 94 93,φ 95 3 15,ρ 96 95,σ 97 (.call 31 [.t 94,.t 96]),φ 98 4 15,ω 1 98 97] [] [] [1,7,8,9,10,11,14,15,16,17,34,35,36]) (.region [μ 99 8,σ 100 (.slice false 1 (.t 99) (some (κ 1)) none none),μ 8 100] [1,7,8,9,10,11,14,15,16,17,34,35,36])) .skip))))
def dU:RC:=(.seq (.region [β 37 .lss 36 35] [1,7,8,9,10,11,34,35,36,37]) (.seq (.cond (.t 37) .skip (.exit 0)) (.seq (.block 1 (.seq (.region [ι 38 3 34 36,Λ 39 3 38,σ 13 (.alloc [δ,δ,δ]),ω 3 13 39] [1,7,8,9,10,11,13,34,35,36]) (.seq (.region [μ 40 7,φ 41 0 13,ρ 42 41,σ 43 (.bz (.t 40) [.t 42]),σ 14 (.alloc [δ,δ,δ]),ω 3 14 43] [1,7,8,9,10,11,13,14,34,35,36]) (.seq (.region [φ 44 0 13,ρ 45 44,φ 46 1 13,ρ 47 46,φ 48 2 13,ρ 49 48,φ 50 0 14,ρ 51 50,σ 52 (.build [δ,δ,δ,δ,δ,δ] [(0,1,(.t 45)),(1,1,(.t 47)),(2,1,(.t 49)),(3,1,(.t 51))]),σ 15 (.alloc [δ,δ,δ,δ,δ,δ]),ω 6 15 52] [1,7,8,9,10,11,13,14,15,34,35,36]) (.seq (.seq (.region [φ 53 3 15,ρ 54 53,γ 55 .eql 54 0] [1,7,8,9,10,11,13,14,15,34,35,36,55]) (.cond (.t 55) (.region [φ 56 2 1,φ 57 0 56,ρ 58 57,φ 59 3 15,ω 1 59 58] [1,7,8,9,10,11,13,14,15,34,35,36]) .skip)) (.seq (.region [φ 60 0 1,ρ 61 60,φ 62 0 13,ρ 63 62,σ 64 (.index (.t 61) (.t 63)),μ 16 64] [1,7,8,9,10,11,13,14,15,16,34,35,36]) (.seq (.region [φ 65 2 13,ρ 66 65,γ 67 .eql 66 1,μ 68 67,Φ 69 2 13 68 false,Ρ 70 69 68 false,τ 71 (.bin .eql (.t 70) (κ 2)) 68 false,ζ 72 68 71,μ 17 72] [1,7,8,9,10,11,13,14,15,16,17,34,35,36]) (.seq qP (.seq (.seq (.av [μ 101 17,μ 102 101,Φ 103 2 14 102 true,Ρ 104 103 102 true,τ 105 (.bin .eql (.t 104) (κ 1)) 102 true,ξ 106 102 105,μ 107 106,Μ 108 10 107 true,ξ 109 107 108,μ 110 109,Μ 111 9 110 true,Μ 112 9 110 true,τ 113 (.len .slice (.t 112)) 110 true,τ 114 (.bin .sub (.t 113) (κ 1)) 110 true,τ 115 (.aY 6 (.t 111) (.t 114)) 110 true,Φ 116 3 115 110 true,Ρ 117 116 110 true,Φ 118 3 15 110 true,Ρ 119 118 110 true,τ 120 (.bin .eql (.t 117) (.t 119)) 110 true,ξ 121 110 120] [] [] [1,7,8,9,11,14,15,16,17,34,35,36,121]) (.cond (.t 121) (.region [μ 122 11,μ 123 16,φ 124 3 15,ρ 125 124,σ 126 (.call 32 [.t 122,.t 123,.t 125]),φ 127 5 15,ω 1 127 126] [1,7,8,9,14,15,16,17,34,35,36]) .skip)) (.seq (.region [μ 128 17,μ 129 128,Φ 130 2 14 129 true,Ρ 131 130 129 true,τ 132 (.bin .eql (.t 131) (κ 1)) 129 true,ξ 133 129 132,μ 134 16,μ 10 133,μ 11 134] [1,7,8,9,10,11,15,34,35,36]) (.region [μ 135 9,Λ 136 6 15,σ 137 (.lit 6 true [δ,δ,δ,δ,δ,δ] 1 [(0,(.t 136))]),σ 138 (.append 6 true 48 (.t 135) (.t 137)),μ 9 138] [1,7,8,9,10,11,34,35,36]))))))))))) (.region [γ 139 .add 36 1,μ 36 139] [1,7,8,9,10,11,34,35,36]))))
def wh:RC:=.loop [1,7,8,9,10,11,34,35,36] dU
def f10:aj:=⟨[.t 2,.t 3],(.seq (.region [σ 1 (.box 21 (.t 0)),σ 2 (.mv (.c θ)),η 3 0] [1]) (.seq (.seq (.region [Λ 18 21 1,σ 19 (.call 13 [.t 18]),μ 4 19] [1,4]) (.seq (.region [μ 20 4,γ 21 .neq 20 0] [1,4,21]) (.cond (.t 21) (.seq (.region [μ 22 4,σ 2 (.mv (.c θ)),μ 3 22] [2,3]) .ret) .skip))) (.seq (.region [φ 24 0 1,ρ 25 24,σ 26 (.call 27 [.t 25]),μ 23 26,ε 27 23 0,ε 28 23 1,μ 5 27,μ 6 28] [1,5]) (.seq (.region [φ 29 1 1,ρ 30 29,σ 31 (.call 29 [.t 30]),μ 7 31] [1,5,7]) (.seq (.region [φ 32 20 1,ρ 33 32,μ 8 33] [1,5,7,8]) (.seq (.region [σ 9 (.mv (.c θ))] [1,5,7,8,9]) (.seq (.region [σ 10 (.mv (.c (.bool false))),σ 11 (.mv (.c (.int .u8 (.ofNat 0))))] [1,5,7,8,9,10,11]) (.seq (.seq (.region [μ 34 5,ν 35 .slice 34,η 36 0] [1,7,8,9,10,11,34,35,36]) (.block 0 wh)) (.seq (.region [μ 140 9,μ 2 140,η 3 0] [2,3]) .ret))))))))),true⟩
def ij:RC:=(.seq (.seq (.region [μ 24 9,μ 25 5,ν 26 .slice 25,β 27 .lss 24 26] [1,5,7,8,9,27]) (.cond (.t 27) .skip (.exit 0))) (.seq (.block 1 (.seq (.region [μ 30 5,μ 31 9,ι 32 3 30 31,Λ 33 3 32,σ 10 (.alloc [δ,δ,δ]),ω 3 10 33] [1,5,7,8,9,10]) (.seq (.av [φ 34 0 10,ρ 35 34,φ 36 1 10,ρ 37 36,φ 38 2 10,ρ 39 38,Λ 40 21 1,φ 41 0 10,ρ 42 41,σ 43 (.call 34 [.t 40,.t 42]),σ 44 (.build [δ,δ,δ,δ,δ,δ] [(0,1,(.t 35)),(1,1,(.t 37)),(2,1,(.t 39)),(3,1,(.t 43))]),σ 11 (.alloc [δ,δ,δ,δ,δ,δ]),ω 6 11 44] [] [(1,[1]),(3,[1]),(5,[1]),(6,[1]),(8,[1]),(9,[1])] [1,5,7,8,9,10,11]) (.seq (.region [Λ 45 21 1,φ 46 0 10,ρ 47 46,σ 48 (.call 35 [.t 45,.t 47]),σ 12 (.alloc [δ,δ,δ]),ω 3 12 48] [1,5,7,8,9,10,11,12]) (.seq (.seq (.region [φ 49 2 10,ρ 50 49,σ 51 (.call 36 [.t 50]),μ 52 51,Φ 53 2 10 52 false,Ρ 54 53 52 false,τ 55 (.bin .eql (.t 54) (κ 3)) 52 false,ζ 56 52 55] [1,5,7,8,9,10,11,12,56]) (.cond (.t 56) (.av [φ 57 0 1,ρ 58 57,φ 59 0 10,ρ 60 59,σ 61 (.index (.t 58) (.t 60)),φ 62 3 11,ρ 63 62,σ 64 (.call 37 [.t 61,.t 63]),φ 65 1 12,ρ 66 65,β 67 .add 64 66,φ 68 4 11,ω 1 68 67] [] [] [1,5,7,8,9,10,11,12]) .skip)) (.seq (.seq (.region [φ 69 2 10,ρ 70 69,γ 71 .eql 70 7] [1,5,7,8,9,10,11,12,71]) (.cond (.t 71) (.seq (.av [φ 72 20 1,ρ 73 72,μ 74 8,ι 75 1 73 74,ρ 76 75,φ 77 3 11,ρ 78 77,σ 79 (.call 38 [.t 76,.t 78]),φ 80 4 11,ω 1 80 79] [] [] [1,5,7,8,9,10,11,12]) (.region [μ 81 8,γ 82 .add 81 1,μ 8 82] [1,5,7,8,9,10,11,12])) .skip)) (.seq (.seq (.av [μ 83 9,γ 84 .gtr 83 0,μ 85 84,Φ 86 2 10 85 true,Ρ 87 86 85 true,τ 88 (.call 36 [.t 87]) 85 true,ξ 89 85 88,μ 90 89,Μ 91 5 90 true,Μ 92 9 90 true,τ 93 (.bin .sub (.t 92) (κ 1)) 90 true,τ 94 (.aY 3 (.t 91) (.t 93)) 90 true,Φ 95 2 94 90 true,Ρ 96 95 90 true,τ 97 (.call 36 [.t 96]) 90 true,ξ 98 90 97,μ 99 98,Φ 100 2 12 99 true,Ρ 101 100 99 true,τ 102 (.bin .eql (.t 101) (κ 1)) 99 true,ξ 103 99 102,μ 104 103,τ 105 (.load 21 true (.t 1)) 104 true,Μ 106 5 104 true,Μ 107 9 104 true,τ 108 (.bin .sub (.t 107) (κ 1)) 104 true,τ 109 (.aY 3 (.t 106) (.t 108)) 104 true,Φ 110 0 109 104 true,Ρ 111 110 104 true,τ 112 (.call 35 [.t 105,.t 111]) 104 true,τ 113 (.field 1 false 2 (.t 112)) 104 true,τ 114 (.bin .eql (.t 113) (κ 1)) 104 true,ξ 115 104 114,μ 116 115,Μ 117 7 116 true,Μ 118 9 116 true,τ 119 (.bin .sub (.t 118) (κ 1)) 116 true,τ 120 (.aY 6 (.t 117) (.t 119)) 116 true,Φ 121 3 120 116 true,Ρ 122 121 116 true,Φ 123 3 11 116 true,Ρ 124 123 116 true,τ 125 (.bin .eql (.t 122) (.t 124)) 116 true,ξ 126 116 125] [] [] [1,5,7,8,9,10,11,126]) (.cond (.t 126) (.av [φ 127 0 1,ρ 128 127,μ 129 5,μ 130 9,γ 131 .sub 130 1,ι 132 3 129 131,φ 133 0 132,ρ 134 133,σ 135 (.index (.t 128) (.t 134)),φ 136 0 1,ρ 137 136,φ 138 0 10,ρ 139 138,σ 140 (.index (.t 137) (.t 139)),φ 141 3 11,ρ 142 141,σ 143 (.call 39 [.t 135,.t 140,.t 142]),φ 144 5 11,ω 1 144 143] [] [] [1,5,7,8,9,11]) .skip)) (.region [μ 145 7,Λ 146 6 11,σ 147 (.lit 6 true [δ,δ,δ,δ,δ,δ] 1 [(0,(.t 146))]),σ 148 (.append 6 true 48 (.t 145) (.t 147)),μ 7 148] [1,5,7,8,9])))))))) (.region [μ 28 9,γ 29 .add 28 1,μ 9 29] [1,5,7,8,9])))
def zR:RC:=.loop [1,5,7,8,9] ij
def f11:aj:=⟨[.t 2,.t 3],(.seq (.region [σ 1 (.box 21 (.t 0)),σ 2 (.mv (.c θ)),η 3 0] [1]) (.seq (.region [Λ 13 21 1,σ 14 (.call 14 [.t 13]),μ 4 14] [1,4]) (.seq (.seq (.region [μ 15 4,γ 16 .neq 15 0] [1,4,16]) (.cond (.t 16) (.seq (.region [μ 17 4,σ 2 (.mv (.c θ)),μ 3 17] [2,3]) .ret) .skip)) (.seq (.region [φ 19 0 1,ρ 20 19,σ 21 (.call 33 [.t 20]),μ 18 21,ε 22 18 0,ε 23 18 1,μ 5 22,μ 6 23] [1,5]) (.seq (.region [σ 7 (.mv (.c θ))] [1,5,7]) (.seq (.region [η 8 0] [1,5,7,8]) (.seq (.seq (.region [η 9 0] [1,5,7,8,9]) (.block 0 zR)) (.seq (.region [μ 149 7,μ 2 149,η 3 0] [2,3]) .ret)))))))),true⟩
def vC:RC:=(.seq (.region [β 52 .lss 51 50] [49,50,51,52]) (.seq (.cond (.t 52) .skip (.exit 0)) (.seq (.block 1 (.seq (.region [ι 53 1 49 51,ρ 54 53,μ 6 54] [6,49,50,51]) (.seq (.region [μ 55 6,σ 56 (.bin .eql (.t 55) (.c (.str []))),μ 57 56,Μ 58 6 57 false,τ 59 (.call 43 [.t 58,(κ 8)]) 57 false,τ 60 (.un .not (.t 59)) 57 false,ζ 61 57 60] [49,50,51,61]) (.cond (.t 61) (.seq (.region [η 2 2] [2]) .ret) .skip)))) (.region [γ 62 .add 51 1,μ 51 62] [49,50,51]))))
def Aj:RC:=.loop [49,50,51] vC
def f13:aj:=⟨[.t 2],(.seq (.region [σ 1 (.box 21 (.t 0)),η 2 0] [1]) (.seq (.seq (.region [φ 8 0 1,ρ 9 8,σ 10 (.call 27 [.t 9]),μ 7 10,ε 11 7 0,ε 12 7 1,μ 3 11,μ 4 12] [1,4]) (.seq (.region [μ 13 4,γ 14 .neq 13 0] [1,4,14]) (.cond (.t 14) (.seq (.region [μ 15 4,μ 2 15] [2]) .ret) .skip))) (.seq (.seq (.region [φ 16 0 1,ρ 17 16,σ 18 (.call 40 [.t 17,(.c (.int .u8 (.ofNat 3)))]),γ 19 .geq 18 0] [1,19]) (.cond (.t 19) (.seq (.region [η 2 4] [2]) .ret) .skip)) (.seq (.seq (.av [φ 20 1 1,ρ 21 20,φ 22 0 1,ρ 23 22,ν 24 .str 23,σ 25 (.call 41 [.t 21,.t 24]),σ 26 (.un .not (.t 25)),μ 27 26,Φ 28 2 1 27 false,τ 29 (.load 17 true (.t 28)) 27 false,τ 30 (.call 42 [.t 29]) 27 false,τ 31 (.un .not (.t 30)) 27 false,ζ 32 27 31,μ 33 32,Φ 34 19 1 33 false,Ρ 35 34 33 false,τ 36 (.call 43 [.t 35,(κ 16)]) 33 false,τ 37 (.un .not (.t 36)) 33 false,ζ 38 33 37,μ 39 38,Φ 40 20 1 39 false,Ρ 41 40 39 false,τ 42 (.len .slice (.t 41)) 39 false,Φ 43 0 1 39 false,Ρ 44 43 39 false,τ 45 (.call 44 [.t 44,(.c (.str [2]))]) 39 false,τ 46 (.bin .neq (.t 42) (.t 45)) 39 false,ζ 47 39 46] [] [] [1,47]) (.cond (.t 47) (.seq (.region [η 2 2] [2]) .ret) .skip)) (.seq (.seq (.region [φ 48 20 1,ρ 49 48,ν 50 .slice 49,η 51 0] [49,50,51]) (.block 0 Aj)) (.seq (.region [η 2 0] [2]) .ret)))))),true⟩
def vW:RC:=(.seq (.seq (.region [μ 16 5,φ 17 0 1,ρ 18 17,ν 19 .str 18,β 20 .lss 16 19] [1,4,5,20]) (.cond (.t 20) .skip (.exit 0))) (.seq (.block 1 (.seq (.seq (.region [φ 23 0 1,ρ 24 23,μ 25 5,σ 26 (.index (.t 24) (.t 25)),σ 27 (.bin .eql (.t 26) (.c (.int .u8 (.ofNat 3))))] [1,4,5,27]) (.cond (.t 27) (.seq (.region [η 2 4] [2]) .ret) .skip)) (.seq (.region [φ 28 0 1,ρ 29 28,μ 30 5,σ 31 (.index (.t 29) (.t 30)),σ 32 (.bin .eql (.t 31) (.c (.int .u8 (.ofNat 2))))] [1,4,5,32]) (.cond (.t 32) (.region [μ 33 4,γ 34 .add 33 1,μ 4 34] [1,4,5]) .skip)))) (.region [μ 21 5,γ 22 .add 21 1,μ 5 22] [1,4,5])))
def zh:RC:=.loop [1,4,5] vW
def rL:RC:=(.seq (.seq (.region [μ 38 7,φ 39 1 1,ρ 40 39,ν 41 .slice 40,β 42 .lss 38 41] [1,4,6,7,42]) (.cond (.t 42) .skip (.exit 2))) (.seq (.block 3 (.seq (.region [φ 45 1 1,ρ 46 45,μ 47 7,ι 48 4 46 47,Λ 49 4 48,σ 8 (.alloc [δ,δ,δ,δ]),ω 4 8 49] [1,4,6,7,8]) (.seq (.seq (.region [φ 50 0 8,ρ 51 50,γ 52 .lss 51 1,μ 53 52,Φ 54 0 8 53 false,Ρ 55 54 53 false,Μ 56 6 53 false,τ 57 (.bin .gtr (.t 55) (.t 56)) 53 false,ζ 58 53 57,μ 59 58,Φ 60 1 8 59 false,τ 61 (.load 3 true (.t 60)) 59 false,τ 62 (.call 46 [.t 61]) 59 false,τ 63 (.un .not (.t 62)) 59 false,ζ 64 59 63] [1,4,6,7,8,64]) (.cond (.t 64) (.seq (.region [η 2 2] [2]) .ret) .skip)) (.region [μ 65 6,φ 66 0 8,ρ 67 66,β 68 .sub 65 67,μ 6 68] [1,4,6,7])))) (.region [μ 43 7,γ 44 .add 43 1,μ 7 44] [1,4,6,7])))
def pj:RC:=.loop [1,4,6,7] rL
def uN:RC:=(.seq (.seq (.region [μ 90 9,φ 91 20 1,ρ 92 91,ν 93 .slice 92,β 94 .lss 90 93] [1,9,94]) (.cond (.t 94) .skip (.exit 4))) (.seq (.block 5 (.seq (.region [φ 97 20 1,ρ 98 97,μ 99 9,ι 100 1 98 99,ρ 101 100,σ 102 (.bin .eql (.t 101) (.c (.str []))),μ 103 102,Φ 104 20 1 103 false,Ρ 105 104 103 false,Μ 106 9 103 false,τ 107 (.aY 1 (.t 105) (.t 106)) 103 false,Ρ 108 107 103 false,τ 109 (.call 48 [.t 108,(κ 8)]) 103 false,τ 110 (.un .not (.t 109)) 103 false,ζ 111 103 110] [1,9,111]) (.cond (.t 111) (.seq (.region [η 2 2] [2]) .ret) .skip))) (.region [μ 95 9,γ 96 .add 95 1,μ 9 96] [1,9])))
def Ae:RC:=.loop [1,9] uN
def f14:aj:=⟨[.t 2],(.seq (.region [σ 1 (.box 21 (.t 0)),η 2 0] [1]) (.seq (.region [φ 10 0 1,ρ 11 10,σ 12 (.call 45 [.t 11]),μ 3 12] [1,3]) (.seq (.seq (.region [μ 13 3,γ 14 .neq 13 0] [1,3,14]) (.cond (.t 14) (.seq (.region [μ 15 3,μ 2 15] [2]) .ret) .skip)) (.seq (.region [η 4 0] [1,4]) (.seq (.seq (.region [η 5 0] [1,4,5]) (.block 0 zh)) (.seq (.region [φ 35 0 1,ρ 36 35,ν 37 .str 36,μ 6 37] [1,4,6]) (.seq (.seq (.region [η 7 0] [1,4,6,7]) (.block 2 pj)) (.seq (.seq (.region [μ 69 6,γ 70 .gtr 69 0,μ 71 70,Φ 72 2 1 71 false,τ 73 (.load 17 true (.t 72)) 71 false,τ 74 (.call 47 [.t 73]) 71 false,τ 75 (.un .not (.t 74)) 71 false,ζ 76 71 75,μ 77 76,Φ 78 19 1 77 false,Ρ 79 78 77 false,τ 80 (.call 48 [.t 79,(κ 16)]) 77 false,τ 81 (.un .not (.t 80)) 77 false,ζ 82 77 81,μ 83 82,Φ 84 20 1 83 false,Ρ 85 84 83 false,τ 86 (.len .slice (.t 85)) 83 false,Μ 87 4 83 false,τ 88 (.bin .neq (.t 86) (.t 87)) 83 false,ζ 89 83 88] [1,89]) (.cond (.t 89) (.seq (.region [η 2 2] [2]) .ret) .skip)) (.seq (.seq (.region [η 9 0] [1,9]) (.block 4 Ae)) (.seq (.region [η 2 0] [2]) .ret)))))))))),true⟩
def f17:aj:=⟨[.t 4,.t 5],(.seq (.region [η 4 0,η 5 0] [0,1]) (.seq (.seq (.region [μ 6 1,σ 7 (.call 51 [.t 6]),σ 8 (.un .not (.t 7))] [0,1,8]) (.cond (.t 8) (.seq (.region [η 4 0,η 5 5] [4,5]) .ret) .skip)) (.seq (.seq (.region [μ 9 0,ν 10 .str 9,γ 11 .gtr 10 4096] [0,1,11]) (.cond (.t 11) (.seq (.region [η 4 0,η 5 3] [4,5]) .ret) .skip)) (.seq (.region [μ 12 0,μ 13 1,σ 14 (.call 31 [.t 12,.t 13]),μ 4 14,η 5 0] [4,5]) .ret)))),true⟩
def f21:aj:=⟨[.t 2],(.seq (.region [η 2 0] [0]) (.seq (.block 0 (.seq (.region [μ 4 0,σ 5 (.call 40 [(.c (.str [105,106,108,39,46,44,58,59,33,124])),.t 4]),γ 6 .geq 5 0,μ 3 6] [0,3]) (.cond (.t 3) (.seq (.region [η 2 2] [2]) .ret) (.seq (.region [μ 8 0,σ 9 (.call 40 [(.c (.str [102,116,114,40,41,91,93,123,125,45,34,94,95,126,96,73,32])),.t 8]),γ 10 .geq 9 0,μ 7 10] [0,7]) (.cond (.t 7) (.seq (.region [η 2 3] [2]) .ret) (.seq (.region [μ 12 0,σ 13 (.bin .eql (.t 12) (.c (.int .u8 (.ofNat 109)))),μ 14 13,Μ 15 0 14 false,τ 16 (.bin .eql (.t 15) (.c (.int .u8 (.ofNat 119)))) 14 false,ζ 17 14 16,μ 11 17] [0,11]) (.cond (.t 11) (.seq (.region [η 2 7] [2]) .ret) (.seq (.region [μ 19 0,σ 20 (.bin .eql (.t 19) (.c (.int .u8 (.ofNat 77)))),μ 21 20,Μ 22 0 21 false,τ 23 (.bin .eql (.t 22) (.c (.int .u8 (.ofNat 87)))) 21 false,ζ 24 21 23,μ 18 24] [0,18]) (.cond (.t 18) (.seq (.region [η 2 8] [2]) .ret) (.seq (.region [μ 26 0,σ 27 (.bin .geq (.t 26) (.c (.int .u8 (.ofNat 65)))),μ 28 27,Μ 29 0 28 true,τ 30 (.bin .leq (.t 29) (.c (.int .u8 (.ofNat 90)))) 28 true,ξ 31 28 30,μ 25 31] [0,25]) (.cond (.t 25) (.seq (.region [η 2 6] [2]) .ret) (.seq (.region [μ 33 0,σ 34 (.bin .geq (.t 33) (.c (.int .u8 (.ofNat 97)))),μ 35 34,Μ 36 0 35 true,τ 37 (.bin .leq (.t 36) (.c (.int .u8 (.ofNat 122)))) 35 true,ξ 38 35 37,μ 39 38,Μ 40 0 39 false,τ 41 (.bin .geq (.t 40) (.c (.int .u8 (.ofNat 48)))) 39 false,Μ 42 41 39 false,Μ 43 0 42 true,τ 44 (.bin .leq (.t 43) (.c (.int .u8 (.ofNat 57)))) 42 true,τ 45 (.pick (.t 42) (.t 44) (.c (.bool false))) 39 false,ζ 46 39 45,μ 32 46] [0,32]) (.cond (.t 32) (.seq (.region [η 2 5] [2]) .ret) (.seq (.region [μ 48 0,σ 49 (.bin .gtr (.t 48) (.c (.int .u8 (.ofNat 32)))),μ 50 49,Μ 51 0 50 true,τ 52 (.bin .leq (.t 51) (.c (.int .u8 (.ofNat 126)))) 50 true,ξ 53 50 52,μ 47 53] [47]) (.cond (.t 47) (.seq (.region [η 2 6] [2]) .ret) .skip))))))))))))))) (.seq (.region [η 2 0] [2]) .ret))),true⟩
def f22:aj:=⟨[.t 2],(.seq (.region [η 2 0] [0]) (.seq (.block 0 (.seq (.region [μ 4 0,σ 5 (.call 52 [.t 4,(.c (.str [105,106,108,39,46,44,58,59,33,124]))]),μ 3 5] [0,3]) (.cond (.t 3) (.seq (.region [η 2 2] [2]) .ret) (.seq (.region [μ 7 0,σ 8 (.call 52 [.t 7,(.c (.str [102,116,114,40,41,91,93,123,125,45,34,94,95,126,32,73]))]),μ 9 8,Μ 10 0 9 false,τ 11 (.bin .eql (.t 10) (.c (.int .u8 (.ofNat 96)))) 9 false,ζ 12 9 11,μ 6 12] [0,6]) (.cond (.t 6) (.seq (.region [η 2 3] [2]) .ret) (.seq (.region [μ 14 0,σ 15 (.bin .eql (.t 14) (.c (.int .u8 (.ofNat 109)))),μ 16 15,Μ 17 0 16 false,τ 18 (.bin .eql (.t 17) (.c (.int .u8 (.ofNat 119)))) 16 false,ζ 19 16 18,μ 13 19] [0,13]) (.cond (.t 13) (.seq (.region [η 2 7] [2]) .ret) (.seq (.region [μ 21 0,σ 22 (.bin .eql (.t 21) (.c (.int .u8 (.ofNat 77)))),μ 23 22,Μ 24 0 23 false,τ 25 (.bin .eql (.t 24) (.c (.int .u8 (.ofNat 87)))) 23 false,ζ 26 23 25,μ 20 26] [0,20]) (.cond (.t 20) (.seq (.region [η 2 8] [2]) .ret) (.seq (.region [μ 28 0,σ 29 (.bin .geq (.t 28) (.c (.int .u8 (.ofNat 65)))),μ 30 29,Μ 31 0 30 true,τ 32 (.bin .leq (.t 31) (.c (.int .u8 (.ofNat 90)))) 30 true,ξ 33 30 32,μ 27 33] [0,27]) (.cond (.t 27) (.seq (.region [η 2 6] [2]) .ret) (.seq (.region [μ 35 0,σ 36 (.bin .geq (.t 35) (.c (.int .u8 (.ofNat 97)))),μ 37 36,Μ 38 0 37 true,τ 39 (.bin .leq (.t 38) (.c (.int .u8 (.ofNat 122)))) 37 true,ξ 40 37 39,μ 41 40,Μ 42 0 41 false,τ 43 (.bin .geq (.t 42) (.c (.int .u8 (.ofNat 48)))) 41 false,Μ 44 43 41 false,Μ 45 0 44 true,τ 46 (.bin .leq (.t 45) (.c (.int .u8 (.ofNat 57)))) 44 true,τ 47 (.pick (.t 44) (.t 46) (.c (.bool false))) 41 false,ζ 48 41 47,μ 34 48] [0,34]) (.cond (.t 34) (.seq (.region [η 2 5] [2]) .ret) (.seq (.region [μ 50 0,σ 51 (.bin .gtr (.t 50) (.c (.int .u8 (.ofNat 32)))),μ 52 51,Μ 53 0 52 true,τ 54 (.bin .lss (.t 53) (.c (.int .u8 (.ofNat 127)))) 52 true,ξ 55 52 54,μ 49 55] [49]) (.cond (.t 49) (.seq (.region [η 2 6] [2]) .ret) .skip))))))))))))))) (.seq (.region [η 2 0] [2]) .ret))),true⟩
def oH:RC:=(.seq (.region [β 19 .lss 18 17] [0,1,2,16,17,18,19]) (.seq (.cond (.t 19) .skip (.exit 0)) (.seq (.block 1 (.seq (.region [ι 20 6 16 18,Λ 21 6 20,σ 9 (.alloc [δ,δ,δ,δ,δ,δ]),ω 6 9 21] [0,1,2,9,16,17,18]) (.seq (.region [φ 22 4 9,ρ 23 22,γ 24 .lss 23 0,μ 25 24,Φ 26 4 9 25 false,Ρ 27 26 25 false,τ 28 (.bin .gtr (.t 27) (κ 4095)) 25 false,ζ 29 25 28,μ 30 29,Φ 31 5 9 30 false,Ρ 32 31 30 false,τ 33 (.bin .lss (.t 32) (.c (.int .i64 (.negSucc 63)))) 30 false,ζ 34 30 33,μ 35 34,Φ 36 5 9 35 false,Ρ 37 36 35 false,τ 38 (.bin .gtr (.t 37) (κ 0)) 35 false,ζ 39 35 38] [0,1,2,16,17,18,39]) (.cond (.t 39) (.seq (.region [η 6 0,η 7 2] [6,7]) .ret) .skip)))) (.region [γ 40 .add 18 1,μ 18 40] [0,1,2,16,17,18]))))
def vT:RC:=.loop [0,1,2,16,17,18] oH
def zB:RC:=(.seq (.region [β 60 .lss 59 58] [10,57,58,59,60]) (.seq (.cond (.t 60) .skip (.exit 2)) (.seq (.block 3 (.seq (.region [μ 61 59,ι 62 6 57 59,Λ 63 6 62,σ 12 (.alloc [δ,δ,δ,δ,δ,δ]),μ 11 61,ω 6 12 63] [10,11,12,57,58,59]) (.seq (.region [μ 64 10,φ 65 4 12,ρ 66 65,β 67 .add 64 66,μ 10 67] [10,11,12,57,58,59]) (.seq (.region [μ 68 11,γ 69 .gtr 68 0] [10,12,57,58,59,69]) (.cond (.t 69) (.region [μ 70 10,φ 71 5 12,ρ 72 71,β 73 .add 70 72,μ 10 73] [10,57,58,59]) .skip))))) (.region [γ 74 .add 59 1,μ 59 74] [10,57,58,59]))))
def Ar:RC:=.loop [10,57,58,59] zB
def f23:aj:=⟨[.t 6,.t 7],(.seq (.region [η 6 0,η 7 0] [0,1,2]) (.seq (.seq (.region [μ 13 0,ν 14 .slice 13,γ 15 .gtr 14 4096] [0,1,2,15]) (.cond (.t 15) (.seq (.region [η 6 0,η 7 3] [6,7]) .ret) .skip)) (.seq (.seq (.region [μ 16 0,ν 17 .slice 16,η 18 0] [0,1,2,16,17,18]) (.block 0 vT)) (.seq (.seq (.region [μ 41 1,γ 42 .lss 41 0,μ 43 42,Μ 44 2 43 false,Μ 45 1 43 false,τ 46 (.bin .lss (.t 44) (.t 45)) 43 false,ζ 47 43 46,μ 48 47,Μ 49 2 48 false,Μ 50 0 48 false,τ 51 (.len .slice (.t 50)) 48 false,τ 52 (.bin .gtr (.t 49) (.t 51)) 48 false,ζ 53 48 52] [0,1,2,53]) (.cond (.t 53) (.seq (.region [η 6 0,η 7 5] [6,7]) .ret) .skip)) (.seq (.region [η 10 0] [0,1,2,10]) (.seq (.seq (.region [μ 54 0,μ 55 1,μ 56 2,σ 57 (.slice false 6 (.t 54) (some (.t 55)) (some (.t 56)) none),ν 58 .slice 57,η 59 0] [10,57,58,59]) (.block 2 Ar)) (.seq (.region [μ 75 10,μ 6 75,η 7 0] [6,7]) .ret))))))),true⟩
@[simp] def D8:Ω:=[σ 6 (.alloc [δ,δ,δ]),ω 3 6 14]
@[simp] def E0:Ω:=[ρ 15 5,Λ 16 3 6,σ 17 (.lit 3 true [δ,δ,δ] 1 [(0,(.t 16))]),σ 18 (.append 3 true 24 (.t 15) (.t 17)),ω 1 5 18]
def f27:aj:=⟨[.t 2,.t 3],(.seq (.region [σ 2 (.mv (.c θ)),η 3 0] [0]) (.seq (.seq (.region [μ 7 0,σ 8 (.call 54 [.t 7]),μ 4 8] [0,4]) (.seq (.region [μ 9 4,γ 10 .neq 9 0] [0,4,10]) (.cond (.t 10) (.seq (.region [μ 11 4,σ 2 (.mv (.c θ)),μ 3 11] [2,3]) .ret) .skip))) (.seq (.region [σ 5 (.alloc [θ])] [0,5]) (.seq (.seq (.region [μ 12 0,σ 13 (.call 55 [.t 12])] [5,13]) (.block 0 (.gK (.t 13) [14] (.region D8 [5,6]) (.block 1 (.region E0 [])) [5,13]))) (.seq (.region [ρ 19 5,μ 2 19,η 3 0] [2,3]) .ret))))),true⟩
def f29:aj:=⟨[.t 2],(.seq (.region [σ 1 (.box 1 (.t 0)),σ 2 (.mv (.c .bO))] [1]) (.seq (.region [σ 3 (.alloc [δ]),⟨none,.store 1 (.t 3) (κ 0),none⟩] [1,3]) (.seq (.seq (.region [ρ 4 1,ν 5 .slice 4,γ 6 .gtr 5 0] [1,3,6]) (.cond (.t 6) (.region [ρ 7 1,σ 8 (.aY 4 (.t 7) (κ 0)),φ 9 0 8,ρ 10 9,ω 1 3 10] [1,3]) .skip)) (.seq (.region [σ 11 (.gD 56 [] [.t 1,.t 3]),μ 2 11] [2]) .ret)))),false⟩
def f30:aj:=⟨[.t 4],(.seq (.region [η 4 0] [0,1]) (.seq (.region [μ 5 0,σ 6 (.call 21 [.t 5]),μ 7 1,β 8 .mul 6 7,γ 9 .quo 8 8,μ 4 9] [4]) .ret)),true⟩
def EW:RC:=(.seq (.region [β 12 .lss 11 10] [1,5,9,10,11,12]) (.seq (.cond (.t 12) .skip (.exit 0)) (.seq (.block 1 (.seq (.region [ι 13 1 9 11,ρ 14 13,μ 7 14] [1,5,7,9,10,11]) (.region [μ 15 5,μ 16 7,μ 17 1,σ 18 (.call 30 [.t 16,.t 17]),β 19 .add 15 18,μ 5 19] [1,5,9,10,11]))) (.region [γ 20 .add 11 1,μ 11 20] [1,5,9,10,11]))))
def yz:RC:=.loop [1,5,9,10,11] EW
def f31:aj:=⟨[.t 4],(.seq (.region [η 4 0] [0,1]) (.seq (.region [η 5 0] [0,1,5]) (.seq (.seq (.region [μ 8 0,σ 9 (.s2b (.t 8)),ν 10 .slice 9,η 11 0] [1,5,9,10,11]) (.block 0 yz)) (.seq (.region [μ 21 5,μ 4 21] [4]) .ret)))),true⟩
def f32:aj:=⟨[.t 6],(.seq (.region [η 6 0] [0,1,2]) (.seq (.region [η 7 0] [0,1,2,7]) (.seq (.seq (.region [μ 8 0,μ 9 1,σ 10 (.call 57 [(.c (.str [65,84,32,65,86,32,65,87,32,65,89,32,84,65,32,86,65,32,87,65,32,89,65,32,76,84,32,76,86,32,76,89,32,80,65,32,84,111,32,84,97,32,84,101,32,86,111,32,86,97,32,89,111,32,89,97,32])),.t 8,.t 9])] [0,1,2,7,10]) (.cond (.t 10) (.region [η 7 2] [0,1,2,7]) .skip)) (.seq (.seq (.region [μ 11 0,μ 12 1,σ 13 (.call 57 [(.c (.str [114,46,32,114,44,32,102,46,32,102,44,32,118,46,32,121,46,32,65,118,32,65,121,32,111,118,32,118,111,32])),.t 11,.t 12])] [2,7,13]) (.cond (.t 13) (.region [η 7 1] [2,7]) .skip)) (.seq (.region [μ 14 7,μ 15 2,β 16 .mul 14 15,γ 17 .quo 16 16,σ 18 (.un .neg (.t 17)),μ 6 18] [6]) .ret))))),true⟩
def nu:RC:=(.seq (.seq (.region [φ 25 2 7,ρ 26 25,γ 27 .eql 26 1,μ 28 27,Φ 29 1 7 28 true,Ρ 30 29 28 true,Μ 31 0 28 true,τ 32 (.len .str (.t 31)) 28 true,τ 33 (.bin .lss (.t 30) (.t 32)) 28 true,ξ 34 28 33,μ 35 34,Φ 36 1 7 35 true,Ρ 37 36 35 true,Μ 38 6 35 true,τ 39 (.bin .add (.t 38) (κ 3)) 35 true,τ 40 (.bin .lss (.t 37) (.t 39)) 35 true,ξ 41 35 40,μ 42 41,Μ 43 0 42 true,Φ 44 1 7 42 true,Ρ 45 44 42 true,τ 46 (.index (.t 43) (.t 45)) 42 true,τ 47 (.call 59 [.t 46]) 42 true,ξ 48 42 47] [0,5,6,7,48]) (.cond (.t 48) .skip (.exit 2))) (.block 3 (.region [φ 49 1 7,ρ 50 49,γ 51 .add 50 1,φ 52 1 7,ω 1 52 51] [0,5,6,7])))
def zV:RC:=.loop [0,5,6,7] nu
def zb:RC:=(.seq (.seq (.region [μ 13 6,μ 14 0,ν 15 .str 14,β 16 .lss 13 15] [0,5,6,16]) (.cond (.t 16) .skip (.exit 0))) (.block 1 (.seq (.region [μ 17 6,μ 18 6,γ 19 .add 18 1,μ 20 0,μ 21 6,σ 22 (.index (.t 20) (.t 21)),σ 23 (.call 58 [.t 22]),σ 24 (.build [δ,δ,δ] [(0,1,(.t 17)),(1,1,(.t 19)),(2,1,(.t 23))]),σ 7 (.alloc [δ,δ,δ]),ω 3 7 24] [0,5,6,7]) (.seq (.block 2 zV) (.seq (.region [μ 53 5,Λ 54 3 7,σ 55 (.lit 3 true [δ,δ,δ] 1 [(0,(.t 54))]),σ 56 (.append 3 true 24 (.t 53) (.t 55)),μ 5 56] [0,5,7]) (.region [φ 57 1 7,ρ 58 57,μ 6 58] [0,5,6]))))))
def vL:RC:=.loop [0,5,6] zb
def f33:aj:=⟨[.t 2,.t 3],(.seq (.region [σ 2 (.mv (.c θ)),η 3 0] [0]) (.seq (.region [μ 8 0,σ 9 (.call 45 [.t 8]),μ 4 9] [0,4]) (.seq (.seq (.region [μ 10 4,γ 11 .neq 10 0] [0,4,11]) (.cond (.t 11) (.seq (.region [μ 12 4,σ 2 (.mv (.c θ)),μ 3 12] [2,3]) .ret) .skip)) (.seq (.region [σ 5 (.mv (.c θ))] [0,5]) (.seq (.region [η 6 0] [0,5,6]) (.seq (.block 0 vL) (.seq (.region [μ 59 5,μ 2 59,η 3 0] [2,3]) .ret))))))),true⟩
def f34:aj:=⟨[.t 4],(.seq (.region [σ 2 (.box 21 (.t 0)),η 4 0] [1,2]) (.seq (.region [Λ 6 21 2,μ 7 1,σ 8 (.call 35 [.t 6,.t 7]),σ 9 (.field 1 false 0 (.t 8)),μ 5 9] [2,5]) (.seq (.seq (.region [μ 10 5,γ 11 .eql 10 0] [2,5,11]) (.cond (.t 11) (.seq (.region [φ 12 2 2,φ 13 0 12,ρ 14 13,μ 4 14] [4]) .ret) .skip)) (.seq (.region [μ 15 5,μ 4 15] [4]) .ret)))),true⟩
def zj:RC:=(.seq (.seq (.region [μ 7 6,φ 8 1 2,ρ 9 8,ν 10 .slice 9,β 11 .lss 7 10] [1,2,4,5,6,11]) (.cond (.t 11) .skip (.exit 0))) (.seq (.block 1 (.seq (.region [μ 14 5,φ 15 1 2,ρ 16 15,μ 17 6,ι 18 4 16 17,φ 19 0 18,ρ 20 19,β 21 .add 14 20,μ 5 21] [1,2,4,5,6]) (.seq (.region [μ 22 1,μ 23 5,β 24 .lss 22 23] [1,2,4,5,6,24]) (.cond (.t 24) (.seq (.region [φ 25 1 2,ρ 26 25,μ 27 6,ι 28 4 26 27,φ 29 1 28,Λ 30 3 29,ω 3 4 30] [4]) .ret) .skip)))) (.region [μ 12 6,γ 13 .add 12 1,μ 6 13] [1,2,4,5,6])))
def z8:RC:=.loop [1,2,4,5,6] zj
def f35:aj:=⟨[.cell 4 3 true],(.seq (.region [σ 2 (.box 21 (.t 0)),σ 4 (.alloc [δ,δ,δ])] [1,2,4]) (.seq (.region [η 5 0] [1,2,4,5]) (.seq (.seq (.region [η 6 0] [1,2,4,5,6]) (.block 0 z8)) (.seq (.region [σ 31 (.build [δ,δ,δ] []),ω 3 4 31] [4]) .ret)))),true⟩
def f36:aj:=⟨[.t 2],(.seq (.region [σ 2 (.mv (.c (.bool false)))] [0]) (.seq (.region [μ 3 0,γ 4 .eql 3 1,μ 5 4,Μ 6 0 5 false,τ 7 (.bin .eql (.t 6) (κ 2)) 5 false,ζ 8 5 7,μ 2 8] [2]) .ret)),true⟩
def f37:aj:=⟨[.t 4],(.seq (.region [η 4 0] [0,1]) (.seq (.region [μ 5 0,σ 6 (.call 22 [.t 5]),μ 7 1,β 8 .mul 6 7,γ 9 .quo 8 8,μ 4 9] [4]) .ret)),true⟩
def Fa:RC:=(.seq (.seq (.region [μ 7 6,μ 8 0,ν 9 .str 8,β 10 .lss 7 9] [0,1,5,6,10]) (.cond (.t 10) .skip (.exit 0))) (.seq (.block 1 (.region [μ 13 5,μ 14 0,μ 15 6,σ 16 (.index (.t 14) (.t 15)),μ 17 1,σ 18 (.call 37 [.t 16,.t 17]),β 19 .add 13 18,μ 5 19] [0,1,5,6])) (.region [μ 11 6,γ 12 .add 11 1,μ 6 12] [0,1,5,6])))
def zc:RC:=.loop [0,1,5,6] Fa
def f38:aj:=⟨[.t 4],(.seq (.region [η 4 0] [0,1]) (.seq (.region [η 5 0] [0,1,5]) (.seq (.seq (.region [η 6 0] [0,1,5,6]) (.block 0 zc)) (.seq (.region [μ 20 5,μ 4 20] [4]) .ret)))),true⟩
def f39:aj:=⟨[.t 6],(.seq (.region [η 6 0] [0,1,2]) (.seq (.region [μ 8 0,μ 9 1,σ 10 (.lit 1 false [(.int .u8 (.ofNat 0))] 2 [(0,(.t 8)),(1,(.t 9))]),σ 11 (.b2s (.t 10)),μ 7 11] [2,7]) (.seq (.seq (.region [σ 12 (.lit 1 false [(.str [])] 19 [(0,(.c (.str [65,84]))),(1,(.c (.str [65,86]))),(2,(.c (.str [65,87]))),(3,(.c (.str [65,89]))),(4,(.c (.str [84,65]))),(5,(.c (.str [86,65]))),(6,(.c (.str [87,65]))),(7,(.c (.str [89,65]))),(8,(.c (.str [76,84]))),(9,(.c (.str [76,86]))),(10,(.c (.str [76,89]))),(11,(.c (.str [80,65]))),(12,(.c (.str [84,111]))),(13,(.c (.str [84,97]))),(14,(.c (.str [84,101]))),(15,(.c (.str [86,111]))),(16,(.c (.str [86,97]))),(17,(.c (.str [89,111]))),(18,(.c (.str [89,97])))]),μ 13 7,σ 14 (.call 60 [.t 12,.t 13])] [2,7,14]) (.cond (.t 14) (.seq (.region [μ 15 2,σ 16 (.bin .mul (κ 2) (.t 15)),γ 17 .quo 16 16,σ 18 (.un .neg (.t 17)),μ 6 18] [6]) .ret) .skip)) (.seq (.seq (.region [σ 19 (.lit 1 false [(.str [])] 10 [(0,(.c (.str [114,46]))),(1,(.c (.str [114,44]))),(2,(.c (.str [102,46]))),(3,(.c (.str [102,44]))),(4,(.c (.str [118,46]))),(5,(.c (.str [121,46]))),(6,(.c (.str [65,118]))),(7,(.c (.str [65,121]))),(8,(.c (.str [111,118]))),(9,(.c (.str [118,111])))]),μ 20 7,σ 21 (.call 60 [.t 19,.t 20])] [2,21]) (.cond (.t 21) (.seq (.region [μ 22 2,γ 23 .quo 22 16,σ 24 (.un .neg (.t 23)),μ 6 24] [6]) .ret) .skip)) (.seq (.region [η 6 0] [6]) .ret))))),true⟩
def f40:aj:=⟨[.t 4],(.seq (.region [η 4 0] [0,1]) (.seq (.region [μ 5 0,μ 6 1,σ 7 (.call 61 [.t 5,.t 6]),μ 4 7] [4]) .ret)),true⟩
def ry:RC:=(.seq (.region [β 10 .lss 9 8] [1,7,8,9,10]) (.seq (.cond (.t 10) .skip (.exit 0)) (.seq (.block 1 (.seq (.region [ι 11 4 7 9,Λ 12 4 11,σ 6 (.alloc [δ,δ,δ,δ]),ω 4 6 12] [1,6,7,8,9]) (.seq (.seq (.region [φ 13 0 6,ρ 14 13,γ 15 .lss 14 1,μ 16 15,Φ 17 0 6 16 false,Ρ 18 17 16 false,Μ 19 1 16 false,τ 20 (.bin .gtr (.t 18) (.t 19)) 16 false,ζ 21 16 20,μ 22 21,Φ 23 1 6 22 false,τ 24 (.load 3 true (.t 23)) 22 false,τ 25 (.call 62 [.t 24]) 22 false,τ 26 (.un .not (.t 25)) 22 false,ζ 27 22 26] [1,6,7,8,9,27]) (.cond (.t 27) (.seq (.region [σ 4 (.mv (.c (.bool false)))] [4]) .ret) .skip)) (.region [μ 28 1,φ 29 0 6,ρ 30 29,β 31 .sub 28 30,μ 1 31] [1,7,8,9])))) (.region [γ 32 .add 9 1,μ 9 32] [1,7,8,9]))))
def p7:RC:=.loop [1,7,8,9] ry
def f41:aj:=⟨[.t 4],(.seq (.region [σ 4 (.mv (.c (.bool false)))] [0,1]) (.seq (.seq (.region [μ 7 0,ν 8 .slice 7,η 9 0] [1,7,8,9]) (.block 0 p7)) (.seq (.region [μ 33 1,γ 34 .eql 33 0,μ 4 34] [4]) .ret))),true⟩
def uu:RC:=(.seq (.region [γ 58 .lss 57 17] [56,57,58]) (.seq (.cond (.t 58) .skip (.exit 0)) (.seq (.block 1 (.seq (.region [σ 59 (.jE 3 true 17 (.t 56) (.t 57)),σ 4 (.alloc [δ,δ,δ]),ω 3 4 59] [4,56,57]) (.seq (.region [φ 60 0 4,ρ 61 60,φ 62 1 4,ρ 63 62,β 64 .lss 61 63,μ 65 64,Φ 66 0 4 65 false,Ρ 67 66 65 false,Φ 68 2 4 65 false,Ρ 69 68 65 false,τ 70 (.bin .gtr (.t 67) (.t 69)) 65 false,ζ 71 65 70] [56,57,71]) (.cond (.t 71) (.seq (.region [σ 2 (.mv (.c (.bool false)))] [2]) .ret) .skip)))) (.region [γ 72 .add 57 1,μ 57 72] [56,57]))))
def ri:RC:=.loop [56,57] uu
def f42:aj:=⟨[.t 2],(.seq (.region [σ 1 (.box 17 (.t 0)),σ 2 (.mv (.c (.bool false)))] [1]) (.seq (.seq (.region [φ 5 0 1,ρ 6 5,σ 7 (.build [δ,δ,δ] [(0,1,(.t 6)),(1,1,(κ 1)),(2,1,(κ 64))]),φ 8 1 1,ρ 9 8,σ 10 (.build [δ,δ,δ] [(0,1,(.t 9)),(1,1,(κ 1)),(2,1,(κ 255))]),φ 11 2 1,ρ 12 11,σ 13 (.build [δ,δ,δ] [(0,1,(.t 12)),(1,1,(κ 0)),(2,1,(κ 3))]),φ 14 3 1,ρ 15 14,σ 16 (.build [δ,δ,δ] [(0,1,(.t 15)),(1,1,(κ 0)),(2,1,(κ 255))]),φ 17 4 1,ρ 18 17,σ 19 (.build [δ,δ,δ] [(0,1,(.t 18)),(1,1,(κ 0)),(2,1,(κ 255))]),φ 20 5 1,ρ 21 20,σ 22 (.build [δ,δ,δ] [(0,1,(.t 21)),(1,1,(κ 0)),(2,1,(κ 255))]),φ 23 6 1,ρ 24 23,σ 25 (.build [δ,δ,δ] [(0,1,(.t 24)),(1,1,(κ 0)),(2,1,(κ 255))]),φ 26 7 1,ρ 27 26,σ 28 (.build [δ,δ,δ] [(0,1,(.t 27)),(1,1,(κ 0)),(2,1,(κ 255))]),φ 29 8 1,ρ 30 29,σ 31 (.build [δ,δ,δ] [(0,1,(.t 30)),(1,1,(κ 0)),(2,1,(κ 1))]),φ 32 9 1,ρ 33 32,σ 34 (.build [δ,δ,δ] [(0,1,(.t 33)),(1,1,(κ 0)),(2,1,(κ 1))]),φ 35 10 1,ρ 36 35,σ 37 (.build [δ,δ,δ] [(0,1,(.t 36)),(1,1,(κ 1)),(2,1,(κ 4))]),φ 38 11 1,ρ 39 38,σ 40 (.build [δ,δ,δ] [(0,1,(.t 39)),(1,1,(κ 1)),(2,1,(κ 4))]),φ 41 12 1,ρ 42 41,σ 43 (.build [δ,δ,δ] [(0,1,(.t 42)),(1,1,(κ 0)),(2,1,(κ 1))]),φ 44 13 1,ρ 45 44,σ 46 (.build [δ,δ,δ] [(0,1,(.t 45)),(1,1,(κ 0)),(2,1,(κ 1))]),φ 47 14 1,ρ 48 47,σ 49 (.build [δ,δ,δ] [(0,1,(.t 48)),(1,1,(κ 0)),(2,1,(κ 4))]),φ 50 15 1,ρ 51 50,σ 52 (.build [δ,δ,δ] [(0,1,(.t 51)),(1,1,(κ 0)),(2,1,(κ 8))]),φ 53 16 1,ρ 54 53,σ 55 (.build [δ,δ,δ] [(0,1,(.t 54)),(1,1,(κ 0)),(2,1,(κ 3))]),σ 56 (.build [δ,δ,δ,δ,δ,δ,δ,δ,δ,δ,δ,δ,δ,δ,δ,δ,δ,δ,δ,δ,δ,δ,δ,δ,δ,δ,δ,δ,δ,δ,δ,δ,δ,δ,δ,δ,δ,δ,δ,δ,δ,δ,δ,δ,δ,δ,δ,δ,δ,δ,δ] [(0,3,(.t 7)),(3,3,(.t 10)),(6,3,(.t 13)),(9,3,(.t 16)),(12,3,(.t 19)),(15,3,(.t 22)),(18,3,(.t 25)),(21,3,(.t 28)),(24,3,(.t 31)),(27,3,(.t 34)),(30,3,(.t 37)),(33,3,(.t 40)),(36,3,(.t 43)),(39,3,(.t 46)),(42,3,(.t 49)),(45,3,(.t 52)),(48,3,(.t 55))]),η 57 0] [56,57]) (.block 0 ri)) (.seq (.region [σ 2 (.mv (.c (.bool true)))] [2]) .ret))),true⟩
def uD:RC:=(.seq (.region [β 11 .lss 10 9] [0,1,8,9,10,11]) (.seq (.cond (.t 11) .skip (.exit 0)) (.seq (.block 1 (.seq (.region [ι 12 1 8 10,ρ 13 12,μ 6 13] [0,1,6,8,9,10]) (.seq (.region [μ 14 6,σ 15 (.bin .leq (.t 14) (.c (.int .u8 (.ofNat 32)))),μ 16 15,Μ 17 6 16 false,τ 18 (.bin .gtr (.t 17) (.c (.int .u8 (.ofNat 126)))) 16 false,ζ 19 16 18] [0,1,8,9,10,19]) (.cond (.t 19) (.seq (.region [σ 4 (.mv (.c (.bool false)))] [4]) .ret) .skip)))) (.region [γ 20 .add 10 1,μ 10 20] [0,1,8,9,10]))))
def zW:RC:=.loop [0,1,8,9,10] uD
def f43:aj:=⟨[.t 4],(.seq (.region [σ 4 (.mv (.c (.bool false)))] [0,1]) (.seq (.seq (.region [μ 7 0,σ 8 (.s2b (.t 7)),ν 9 .slice 8,η 10 0] [0,1,8,9,10]) (.block 0 zW)) (.seq (.region [μ 21 0,ν 22 .str 21,μ 23 1,β 24 .leq 22 23,μ 4 24] [4]) .ret))),true⟩
def L9:RC:=(.block 1 (.seq (.region [μ 20 0,μ 21 1,σ 22 (.call 65 [.t 20,.t 21]),μ 6 22] [0,1,5,6]) (.seq (.seq (.region [μ 23 6,σ 24 (.bin .eql (.t 23) (.c (.int .i64 (.negSucc 0))))] [0,1,5,6,24]) (.cond (.t 24) (.seq (.region [μ 25 5,μ 4 25] [4]) .ret) .skip)) (.seq (.region [μ 26 5,γ 27 .add 26 1,μ 5 27] [0,1,5,6]) (.region [μ 28 0,μ 29 6,μ 30 1,ν 31 .str 30,β 32 .add 29 31,σ 33 (.slice true 1 (.t 28) (some (.t 32)) none none),μ 0 33] [0,1,5])))))
def PG:RC:=.loop [0,1,5] L9
def f44:aj:=⟨[.t 4],(.seq (.region [η 4 0] [0,1]) (.seq (.seq (.region [μ 7 1,ν 8 .str 7,γ 9 .eql 8 0] [0,1,9]) (.cond (.t 9) (.seq (.region [μ 10 0,σ 11 (.call 63 [.t 10]),γ 12 .add 11 1,μ 4 12] [4]) .ret) .skip)) (.seq (.seq (.region [μ 13 1,ν 14 .str 13,γ 15 .eql 14 1] [0,1,15]) (.cond (.t 15) (.seq (.region [μ 16 0,μ 17 1,σ 18 (.index (.t 17) (κ 0)),σ 19 (.call 64 [.t 16,.t 18]),μ 4 19] [4]) .ret) .skip)) (.seq (.region [η 5 0] [0,1,5]) (.block 0 PG))))),true⟩
def zg:RC:=(.seq (.seq (.region [μ 7 3,μ 8 0,ν 9 .str 8,β 10 .lss 7 9] [0,3,10]) (.cond (.t 10) .skip (.exit 0))) (.seq (.block 1 (.seq (.region [μ 13 0,μ 14 3,σ 15 (.index (.t 13) (.t 14)),σ 16 (.call 58 [.t 15]),γ 17 .eql 16 0] [0,3,17]) (.cond (.t 17) (.seq (.region [η 2 4] [2]) .ret) .skip))) (.region [μ 11 3,γ 12 .add 11 1,μ 3 12] [0,3])))
def yx:RC:=.loop [0,3] zg
def f45:aj:=⟨[.t 2],(.seq (.region [η 2 0] [0]) (.seq (.seq (.region [μ 4 0,ν 5 .str 4,γ 6 .gtr 5 4096] [0,6]) (.cond (.t 6) (.seq (.region [η 2 3] [2]) .ret) .skip)) (.seq (.seq (.region [η 3 0] [0,3]) (.block 0 yx)) (.seq (.region [η 2 0] [2]) .ret)))),true⟩
def f46:aj:=⟨[.t 2],(.seq (.region [σ 1 (.box 3 (.t 0)),σ 2 (.mv (.c (.bool false)))] [1]) (.seq (.region [φ 3 0 1,ρ 4 3,σ 5 (.call 66 [.t 4,(κ 0),(κ 64)]),μ 6 5,Φ 7 1 1 6 true,Ρ 8 7 6 true,τ 9 (.call 66 [.t 8,(κ 0),(κ 15)]) 6 true,ξ 10 6 9,μ 11 10,Φ 12 2 1 11 true,Ρ 13 12 11 true,τ 14 (.call 67 [.t 13]) 11 true,ξ 15 11 14,μ 2 15] [2]) .ret)),true⟩
@[simp] def Ew:Ω:=[σ 1 (.box 17 (.t 0)),σ 2 (.mv (.c (.bool false)))]
@[simp] def ET:Ω:=[φ 6 0 1,ρ 7 6,σ 8 (.call 66 [.t 7,(κ 1),(κ 64)]),μ 9 8,Φ 10 1 1 9 true,Ρ 11 10 9 true,τ 12 (.call 66 [.t 11,(κ 1),(κ 255)]) 9 true,ξ 13 9 12,μ 14 13,Φ 15 2 1 14 true,Ρ 16 15 14 true,τ 17 (.call 66 [.t 16,(κ 0),(κ 3)]) 14 true,ξ 18 14 17,μ 3 18]
@[simp] def B1:Ω:=[φ 19 3 1,ρ 20 19,σ 21 (.call 66 [.t 20,(κ 0),(κ 255)]),μ 22 21,Φ 23 4 1 22 true,Ρ 24 23 22 true,τ 25 (.call 66 [.t 24,(κ 0),(κ 255)]) 22 true,ξ 26 22 25,μ 27 26,Φ 28 5 1 27 true,Ρ 29 28 27 true,τ 30 (.call 66 [.t 29,(κ 0),(κ 255)]) 27 true,ξ 31 27 30,μ 32 31,Φ 33 6 1 32 true,Ρ 34 33 32 true,τ 35 (.call 66 [.t 34,(κ 0),(κ 255)]) 32 true,ξ 36 32 35,μ 37 36,Φ 38 7 1 37 true,Ρ 39 38 37 true,τ 40 (.call 66 [.t 39,(κ 0),(κ 255)]) 37 true,ξ 41 37 40,μ 4 41]
@[simp] def En:Ω:=[φ 42 8 1,ρ 43 42,σ 44 (.call 67 [.t 43]),μ 45 44,Φ 46 9 1 45 true,Ρ 47 46 45 true,τ 48 (.call 67 [.t 47]) 45 true,ξ 49 45 48,μ 50 49,Φ 51 12 1 50 true,Ρ 52 51 50 true,τ 53 (.call 67 [.t 52]) 50 true,ξ 54 50 53,μ 55 54,Φ 56 13 1 55 true,Ρ 57 56 55 true,τ 58 (.call 67 [.t 57]) 55 true,ξ 59 55 58,μ 5 59]
@[simp] def Dx:Ω:=[μ 60 3,μ 61 60,Μ 62 4 61 true,ξ 63 61 62,μ 64 63,Μ 65 5 64 true,ξ 66 64 65,μ 67 66,Φ 68 10 1 67 true,Ρ 69 68 67 true,τ 70 (.call 66 [.t 69,(κ 1),(κ 4)]) 67 true,ξ 71 67 70,μ 72 71,Φ 73 11 1 72 true,Ρ 74 73 72 true,τ 75 (.call 66 [.t 74,(κ 1),(κ 4)]) 72 true,ξ 76 72 75,μ 77 76,Φ 78 14 1 77 true,Ρ 79 78 77 true,τ 80 (.call 66 [.t 79,(κ 0),(κ 4)]) 77 true,ξ 81 77 80,μ 82 81,Φ 83 15 1 82 true,Ρ 84 83 82 true,τ 85 (.call 66 [.t 84,(κ 0),(κ 8)]) 82 true,ξ 86 82 85,μ 87 86,Φ 88 16 1 87 true,Ρ 89 88 87 true,τ 90 (.call 66 [.t 89,(κ 0),(κ 3)]) 87 true,ξ 91 87 90,μ 2 91]
def f47:aj:=⟨[.t 2],(.seq (.region Ew [1]) (.seq (.region ET [1,3]) (.seq (.region B1 [1,3,4]) (.seq (.region En [1,3,4,5]) (.seq (.region Dx [2]) .ret))))),true⟩
def ui:RC:=(.seq (.seq (.region [μ 6 5,μ 7 0,ν 8 .str 7,β 9 .lss 6 8] [0,1,5,9]) (.cond (.t 9) .skip (.exit 0))) (.seq (.block 1 (.seq (.region [μ 12 0,μ 13 5,σ 14 (.index (.t 12) (.t 13)),σ 15 (.bin .lss (.t 14) (.c (.int .u8 (.ofNat 33)))),μ 16 15,Μ 17 0 16 false,Μ 18 5 16 false,τ 19 (.index (.t 17) (.t 18)) 16 false,τ 20 (.bin .gtr (.t 19) (.c (.int .u8 (.ofNat 126)))) 16 false,ζ 21 16 20] [0,1,5,21]) (.cond (.t 21) (.seq (.region [σ 4 (.mv (.c (.bool false)))] [4]) .ret) .skip))) (.region [μ 10 5,γ 11 .add 10 1,μ 5 11] [0,1,5])))
def yZ:RC:=.loop [0,1,5] ui
def f48:aj:=⟨[.t 4],(.seq (.region [σ 4 (.mv (.c (.bool false)))] [0,1]) (.seq (.seq (.region [η 5 0] [0,1,5]) (.block 0 yZ)) (.seq (.region [μ 22 0,ν 23 .str 22,μ 24 1,β 25 .leq 23 24,μ 4 25] [4]) .ret))),true⟩
def f51:aj:=⟨[.t 2],(.seq (.region [σ 2 (.mv (.c (.bool false)))] [0]) (.seq (.region [μ 3 0,γ 4 .geq 3 1,μ 5 4,Μ 6 0 5 true,τ 7 (.bin .leq (.t 6) (κ 64)) 5 true,ξ 8 5 7,μ 2 8] [2]) .ret)),true⟩
def O9:RC:=(.seq (.seq (.region [μ 6 5,μ 7 1,ν 8 .str 7,β 9 .lss 6 8] [0,1,5,9]) (.cond (.t 9) .skip (.exit 0))) (.seq (.block 1 (.seq (.region [μ 12 1,μ 13 5,σ 14 (.index (.t 12) (.t 13)),μ 15 0,β 16 .eql 14 15] [0,1,5,16]) (.cond (.t 16) (.seq (.region [σ 4 (.mv (.c (.bool true)))] [4]) .ret) .skip))) (.region [μ 10 5,γ 11 .add 10 1,μ 5 11] [0,1,5])))
def MR:RC:=.loop [0,1,5] O9
def f52:aj:=⟨[.t 4],(.seq (.region [σ 4 (.mv (.c (.bool false)))] [0,1]) (.seq (.seq (.region [η 5 0] [0,1,5]) (.block 0 MR)) (.seq (.region [σ 4 (.mv (.c (.bool false)))] [4]) .ret))),true⟩
def zM:RC:=(.seq (.seq (.region [μ 10 8,μ 11 2,β 12 .lss 10 11] [0,1,2,7,8,12]) (.cond (.t 12) .skip (.exit 0))) (.seq (.block 1 (.seq (.region [μ 15 7,μ 16 0,μ 17 8,ι 18 6 16 17,φ 19 4 18,ρ 20 19,β 21 .add 15 20,μ 7 21] [0,1,2,7,8]) (.seq (.region [μ 22 8,μ 23 1,β 24 .gtr 22 23] [0,1,2,7,8,24]) (.cond (.t 24) (.region [μ 25 7,μ 26 0,μ 27 8,ι 28 6 26 27,φ 29 5 28,ρ 30 29,β 31 .add 25 30,μ 7 31] [0,1,2,7,8]) .skip)))) (.region [μ 13 8,γ 14 .add 13 1,μ 8 14] [0,1,2,7,8])))
def yS:RC:=.loop [0,1,2,7,8] zM
def f53:aj:=⟨[.t 6],(.seq (.region [η 6 0] [0,1,2]) (.seq (.region [η 7 0] [0,1,2,7]) (.seq (.seq (.region [μ 9 1,μ 8 9] [0,1,2,7,8]) (.block 0 yS)) (.seq (.region [μ 32 7,μ 6 32] [6]) .ret)))),true⟩
def zD:RC:=(.seq (.region [β 12 .lss 11 10] [9,10,11,12]) (.seq (.cond (.t 12) .skip (.exit 0)) (.seq (.block 1 (.seq (.region [ι 13 1 9 11,ρ 14 13,μ 4 14] [4,9,10,11]) (.seq (.region [μ 15 4,σ 16 (.call 68 [.t 15]),γ 17 .eql 16 0] [9,10,11,17]) (.cond (.t 17) (.seq (.region [η 2 4] [2]) .ret) .skip)))) (.region [γ 18 .add 11 1,μ 11 18] [9,10,11]))))
def zI:RC:=.loop [9,10,11] zD
def f54:aj:=⟨[.t 2],(.seq (.region [η 2 0] [0]) (.seq (.seq (.region [μ 5 0,ν 6 .str 5,γ 7 .gtr 6 4096] [0,7]) (.cond (.t 7) (.seq (.region [η 2 3] [2]) .ret) .skip)) (.seq (.seq (.region [μ 8 0,σ 9 (.s2b (.t 8)),ν 10 .slice 9,η 11 0] [9,10,11]) (.block 0 zI)) (.seq (.region [η 2 0] [2]) .ret)))),true⟩
def f55:aj:=⟨[.t 2],(.seq (.region [σ 1 (.box 1 (.t 0)),σ 2 (.mv (.c .bO))] [1]) (.seq (.region [σ 3 (.gD 69 [] [.t 1]),μ 2 3] [2]) .ret)),false⟩
def Aq:RC:=(.seq (.seq (.region [ρ 5 1,ν 6 .slice 5,γ 7 .gtr 6 1,μ 8 7,Μ 9 0 8 true,Ρ 10 2 8 true,τ 11 (.bin .geq (.t 9) (.t 10)) 8 true,ξ 12 8 11] [0,1,2,4,12]) (.cond (.t 12) .skip (.exit 0))) (.block 1 (.seq (.region [ρ 13 1,σ 14 (.slice false 4 (.t 13) (some (κ 1)) none none),ω 1 1 14] [0,1,2,4]) (.av [ρ 15 2,ρ 16 1,σ 17 (.aY 4 (.t 16) (κ 0)),φ 18 0 17,ρ 19 18,β 20 .add 15 19,ω 1 2 20] [] [] [0,1,2,4]))))
def vK:RC:=.loop [0,1,2,4] Aq
def f56:aj:=⟨[.cell 4 3 true],(.seq (.region [σ 4 (.alloc [δ,δ,δ])] [0,1,2,4]) (.seq (.block 0 vK) (.seq (.region [ρ 21 1,σ 22 (.aY 4 (.t 21) (κ 0)),φ 23 1 22,Λ 24 3 23,ω 3 4 24] [4]) .ret))),false⟩
def u9:RC:=(.seq (.seq (.region [μ 8 7,γ 9 .add 8 1,μ 10 0,ν 11 .str 10,β 12 .lss 9 11] [0,1,2,7,12]) (.cond (.t 12) .skip (.exit 0))) (.seq (.block 1 (.seq (.region [μ 15 0,μ 16 7,σ 17 (.index (.t 15) (.t 16)),μ 18 1,β 19 .eql 17 18,μ 20 19,Μ 21 0 20 true,Μ 22 7 20 true,τ 23 (.bin .add (.t 22) (κ 1)) 20 true,τ 24 (.index (.t 21) (.t 23)) 20 true,Μ 25 2 20 true,τ 26 (.bin .eql (.t 24) (.t 25)) 20 true,ξ 27 20 26] [0,1,2,7,27]) (.cond (.t 27) (.seq (.region [σ 6 (.mv (.c (.bool true)))] [6]) .ret) .skip))) (.region [μ 13 7,γ 14 .add 13 3,μ 7 14] [0,1,2,7])))
def z3:RC:=.loop [0,1,2,7] u9
def f57:aj:=⟨[.t 6],(.seq (.region [σ 6 (.mv (.c (.bool false)))] [0,1,2]) (.seq (.seq (.region [η 7 0] [0,1,2,7]) (.block 0 z3)) (.seq (.region [σ 6 (.mv (.c (.bool false)))] [6]) .ret))),true⟩
def f58:aj:=⟨[.t 2],(.seq (.region [η 2 0] [0]) (.seq (.block 0 (.seq (.region [μ 4 0,σ 5 (.bin .eql (.t 4) (.c (.int .u8 (.ofNat 32)))),μ 3 5] [0,3]) (.cond (.t 3) (.seq (.region [η 2 3] [2]) .ret) (.seq (.region [μ 7 0,σ 8 (.bin .eql (.t 7) (.c (.int .u8 (.ofNat 9)))),μ 6 8] [0,6]) (.cond (.t 6) (.seq (.region [η 2 4] [2]) .ret) (.seq (.region [μ 10 0,σ 11 (.bin .eql (.t 10) (.c (.int .u8 (.ofNat 31)))),μ 9 11] [0,9]) (.cond (.t 9) (.seq (.region [η 2 5] [2]) .ret) (.seq (.region [μ 13 0,σ 14 (.bin .eql (.t 13) (.c (.int .u8 (.ofNat 1)))),μ 12 14] [0,12]) (.cond (.t 12) (.seq (.region [η 2 6] [2]) .ret) (.seq (.region [μ 16 0,σ 17 (.bin .eql (.t 16) (.c (.int .u8 (.ofNat 2)))),μ 15 17] [0,15]) (.cond (.t 15) (.seq (.region [η 2 7] [2]) .ret) (.seq (.region [μ 19 0,σ 20 (.bin .eql (.t 19) (.c (.int .u8 (.ofNat 3)))),μ 18 20] [0,18]) (.cond (.t 18) (.seq (.region [η 2 8] [2]) .ret) (.seq (.region [μ 22 0,σ 23 (.call 71 [.t 22]),μ 21 23] [0,21]) (.cond (.t 21) (.seq (.region [η 2 1] [2]) .ret) (.seq (.region [μ 25 0,σ 26 (.bin .gtr (.t 25) (.c (.int .u8 (.ofNat 32)))),μ 27 26,Μ 28 0 27 true,τ 29 (.bin .lss (.t 28) (.c (.int .u8 (.ofNat 127)))) 27 true,ξ 30 27 29,μ 24 30] [24]) (.cond (.t 24) (.seq (.region [η 2 2] [2]) .ret) .skip))))))))))))))))) (.seq (.region [η 2 0] [2]) .ret))),true⟩
def f59:aj:=⟨[.t 2],(.seq (.region [σ 2 (.mv (.c (.bool false)))] [0]) (.seq (.region [μ 3 0,σ 4 (.bin .eql (.t 3) (.c (.int .u8 (.ofNat 94)))),μ 5 4,Μ 6 0 5 false,τ 7 (.bin .eql (.t 6) (.c (.int .u8 (.ofNat 96)))) 5 false,ζ 8 5 7,μ 9 8,Μ 10 0 9 false,τ 11 (.bin .eql (.t 10) (.c (.int .u8 (.ofNat 126)))) 9 false,ζ 12 9 11,μ 2 12] [2]) .ret)),true⟩
def Am:RC:=(.seq (.seq (.region [μ 6 5,μ 7 0,ν 8 .slice 7,β 9 .lss 6 8] [0,1,5,9]) (.cond (.t 9) .skip (.exit 0))) (.seq (.block 1 (.seq (.region [μ 12 0,μ 13 5,ι 14 1 12 13,ρ 15 14,μ 16 1,β 17 .eql 15 16] [0,1,5,17]) (.cond (.t 17) (.seq (.region [σ 4 (.mv (.c (.bool true)))] [4]) .ret) .skip))) (.region [μ 10 5,γ 11 .add 10 1,μ 5 11] [0,1,5])))
def z2:RC:=.loop [0,1,5] Am
def f60:aj:=⟨[.t 4],(.seq (.region [σ 4 (.mv (.c (.bool false)))] [0,1]) (.seq (.seq (.region [η 5 0] [0,1,5]) (.block 0 z2)) (.seq (.region [σ 4 (.mv (.c (.bool false)))] [4]) .ret))),true⟩
def f61:aj:=⟨[.t 4],(.seq (.region [η 4 0] [0,1]) (.seq (.region [μ 5 0,μ 6 1,σ 7 (.call 72 [.t 5,.t 6]),μ 4 7] [4]) .ret)),true⟩
def f62:aj:=⟨[.t 2],(.seq (.region [σ 1 (.box 3 (.t 0)),σ 2 (.mv (.c (.bool false)))] [1]) (.seq (.region [φ 3 0 1,ρ 4 3,γ 5 .geq 4 0,μ 6 5,Φ 7 0 1 6 true,Ρ 8 7 6 true,τ 9 (.bin .leq (.t 8) (κ 64)) 6 true,ξ 10 6 9,μ 11 10,Φ 12 1 1 11 true,Ρ 13 12 11 true,τ 14 (.bin .geq (.t 13) (κ 0)) 11 true,ξ 15 11 14,μ 16 15,Φ 17 1 1 16 true,Ρ 18 17 16 true,τ 19 (.bin .leq (.t 18) (κ 15)) 16 true,ξ 20 16 19,μ 21 20,Φ 22 2 1 21 true,Ρ 23 22 21 true,τ 24 (.bin .eql (.t 23) (κ 0)) 21 true,Μ 25 24 21 true,Φ 26 2 1 25 false,Ρ 27 26 25 false,τ 28 (.bin .eql (.t 27) (κ 1)) 25 false,τ 29 (.pick (.t 25) (.c (.bool true)) (.t 28)) 21 true,ξ 30 21 29,μ 2 30] [2]) .ret)),true⟩
def Ox:RC:=(.seq (.region [σ 5 .fail,ε 6 5 0] [2,6]) (.seq (.cond (.t 6) .skip (.exit 0)) (.block 1 (.region [μ 7 2,γ 8 .add 7 1,μ 2 8] [2]))))
def Nh:RC:=.loop [2] Ox
def f63:aj:=⟨[.t 2],(.seq (.region [η 2 0] [0,2]) (.seq (.seq (.region [μ 3 0,σ 4 .fail] [2]) (.block 0 Nh)) (.seq (.region [μ 9 2,μ 2 9] [2]) .ret))),true⟩
def f65:aj:=⟨[.t 4],(.seq (.region [η 4 0] [0,1]) (.seq (.region [μ 5 0,μ 6 1,σ 7 (.call 73 [.t 5,.t 6]),μ 4 7] [4]) .ret)),true⟩
def f66:aj:=⟨[.t 6],(.seq (.region [σ 6 (.mv (.c (.bool false)))] [0,1,2]) (.seq (.region [μ 7 0,μ 8 1,β 9 .geq 7 8,μ 10 9,Μ 11 0 10 true,Μ 12 2 10 true,τ 13 (.bin .leq (.t 11) (.t 12)) 10 true,ξ 14 10 13,μ 6 14] [6]) .ret)),true⟩
def f67:aj:=⟨[.t 2],(.seq (.region [σ 2 (.mv (.c (.bool false)))] [0]) (.seq (.region [μ 3 0,γ 4 .eql 3 0,μ 5 4,Μ 6 0 5 false,τ 7 (.bin .eql (.t 6) (κ 1)) 5 false,ζ 8 5 7,μ 2 8] [2]) .ret)),true⟩
def f68:aj:=⟨[.t 2],(.seq (.region [η 2 0] [0]) (.seq (.block 0 (.seq (.region [μ 4 0,σ 5 (.call 74 [.t 4]),μ 3 5] [0,3]) (.cond (.t 3) (.seq (.region [η 2 1] [2]) .ret) (.seq (.region [μ 7 0,σ 8 (.bin .eql (.t 7) (.c (.int .u8 (.ofNat 32)))),μ 6 8] [0,6]) (.cond (.t 6) (.seq (.region [η 2 3] [2]) .ret) (.seq (.region [μ 10 0,σ 11 (.bin .eql (.t 10) (.c (.int .u8 (.ofNat 9)))),μ 9 11] [0,9]) (.cond (.t 9) (.seq (.region [η 2 4] [2]) .ret) (.seq (.region [μ 13 0,σ 14 (.bin .eql (.t 13) (.c (.int .u8 (.ofNat 31)))),μ 12 14] [0,12]) (.cond (.t 12) (.seq (.region [η 2 5] [2]) .ret) (.seq (.region [μ 16 0,σ 17 (.bin .eql (.t 16) (.c (.int .u8 (.ofNat 1)))),μ 15 17] [0,15]) (.cond (.t 15) (.seq (.region [η 2 6] [2]) .ret) (.seq (.region [μ 19 0,σ 20 (.bin .eql (.t 19) (.c (.int .u8 (.ofNat 2)))),μ 18 20] [0,18]) (.cond (.t 18) (.seq (.region [η 2 7] [2]) .ret) (.seq (.region [μ 22 0,σ 23 (.bin .eql (.t 22) (.c (.int .u8 (.ofNat 3)))),μ 21 23] [0,21]) (.cond (.t 21) (.seq (.region [η 2 8] [2]) .ret) (.seq (.region [μ 25 0,σ 26 (.bin .gtr (.t 25) (.c (.int .u8 (.ofNat 32)))),μ 27 26,Μ 28 0 27 true,τ 29 (.bin .leq (.t 28) (.c (.int .u8 (.ofNat 126)))) 27 true,ξ 30 27 29,μ 24 30] [24]) (.cond (.t 24) (.seq (.region [η 2 2] [2]) .ret) .skip))))))))))))))))) (.seq (.region [η 2 0] [2]) .ret))),true⟩
def nh:RC:=(.seq (.seq (.region [φ 17 2 4,ρ 18 17,γ 19 .eql 18 1,μ 20 19,Φ 21 1 4 20 true,Ρ 22 21 20 true,Ρ 23 1 20 true,τ 24 (.len .str (.t 23)) 20 true,τ 25 (.bin .lss (.t 22) (.t 24)) 20 true,ξ 26 20 25,μ 27 26,Φ 28 1 4 27 true,Ρ 29 28 27 true,Μ 30 3 27 true,τ 31 (.bin .add (.t 30) (κ 3)) 27 true,τ 32 (.bin .lss (.t 29) (.t 31)) 27 true,ξ 33 27 32,μ 34 33,Ρ 35 1 34 true,Φ 36 1 4 34 true,Ρ 37 36 34 true,τ 38 (.index (.t 35) (.t 37)) 34 true,τ 39 (.call 70 [.t 38]) 34 true,ξ 40 34 39] [0,1,3,4,40]) (.cond (.t 40) .skip (.exit 2))) (.block 3 (.region [φ 41 1 4,ρ 42 41,γ 43 .add 42 1,φ 44 1 4,ω 1 44 43] [0,1,3,4])))
def zY:RC:=.loop [0,1,3,4] nh
def Ai:RC:=(.seq (.seq (.region [μ 5 3,ρ 6 1,ν 7 .str 6,β 8 .lss 5 7] [0,1,3,8]) (.cond (.t 8) .skip (.exit 0))) (.block 1 (.seq (.region [μ 9 3,μ 10 3,γ 11 .add 10 1,ρ 12 1,μ 13 3,σ 14 (.index (.t 12) (.t 13)),σ 15 (.call 68 [.t 14]),σ 16 (.build [δ,δ,δ] [(0,1,(.t 9)),(1,1,(.t 11)),(2,1,(.t 15))]),σ 4 (.alloc [δ,δ,δ]),ω 3 4 16] [0,1,3,4]) (.seq (.block 2 zY) (.seq (.seq (.region [μ 45 0,Λ 46 3 4,σ 47 (.bz (.t 45) [.t 46]),σ 48 (.un .not (.t 47))] [0,1,4,48]) (.cond (.t 48) .ret .skip)) (.region [φ 49 1 4,ρ 50 49,μ 3 50] [0,1,3]))))))
def vU:RC:=.loop [0,1,3] Ai
def f69:aj:=⟨[],(.seq (.region [η 3 0] [0,1,3]) (.block 0 vU)),false⟩
def f70:aj:=⟨[.t 2],(.seq (.region [σ 2 (.mv (.c (.bool false)))] [0]) (.seq (.region [μ 3 0,σ 4 (.bin .eql (.t 3) (.c (.int .u8 (.ofNat 94)))),μ 5 4,Μ 6 0 5 false,τ 7 (.bin .eql (.t 6) (.c (.int .u8 (.ofNat 96)))) 5 false,ζ 8 5 7,μ 9 8,Μ 10 0 9 false,τ 11 (.bin .eql (.t 10) (.c (.int .u8 (.ofNat 126)))) 9 false,ζ 12 9 11,μ 2 12] [2]) .ret)),true⟩
def f71:aj:=⟨[.t 2],(.seq (.region [σ 2 (.mv (.c (.bool false)))] [0]) (.seq (.region [μ 3 0,σ 4 (.bin .geq (.t 3) (.c (.int .u8 (.ofNat 97)))),μ 5 4,Μ 6 0 5 true,τ 7 (.bin .leq (.t 6) (.c (.int .u8 (.ofNat 122)))) 5 true,ξ 8 5 7,μ 9 8,Μ 10 0 9 false,τ 11 (.bin .geq (.t 10) (.c (.int .u8 (.ofNat 65)))) 9 false,Μ 12 11 9 false,Μ 13 0 12 true,τ 14 (.bin .leq (.t 13) (.c (.int .u8 (.ofNat 90)))) 12 true,τ 15 (.pick (.t 12) (.t 14) (.c (.bool false))) 9 false,ζ 16 9 15,μ 2 16] [2]) .ret)),true⟩
def Rn:RC:=(.seq (.seq (.region [μ 57 8,μ 58 9,β 59 .lss 57 58] [0,1,5,6,7,8,9,10,59]) (.cond (.t 59) .skip (.exit 1))) (.block 2 (.seq (.seq (.region [μ 60 0,μ 61 8,σ 62 (.index (.t 60) (.t 61)),μ 63 6,β 64 .neq 62 63] [0,1,5,6,7,8,9,10,64]) (.cond (.t 64) (.seq (.region [μ 65 0,μ 66 8,γ 67 .add 66 1,μ 68 9,σ 69 (.slice true 1 (.t 65) (some (.t 67)) (some (.t 68)) none),μ 70 6,σ 71 (.call 61 [.t 69,.t 70]),μ 11 71] [0,1,5,6,7,8,9,10,11]) (.seq (.seq (.region [μ 72 11,γ 73 .lss 72 0] [0,1,5,6,7,8,9,10,11,73]) (.cond (.t 73) (.seq (.region [σ 4 (.mv (.c (.int .i64 (.negSucc 0))))] [4]) .ret) .skip)) (.region [μ 74 8,μ 75 11,γ 76 .add 75 1,β 77 .add 74 76,μ 8 77] [0,1,5,6,7,8,9,10]))) .skip)) (.seq (.seq (.region [μ 78 0,μ 79 8,γ 80 .add 79 1,σ 81 (.index (.t 78) (.t 80)),μ 82 7,β 83 .eql 81 82,μ 84 83,Μ 85 0 84 true,Μ 86 8 84 true,Μ 87 8 84 true,Μ 88 5 84 true,τ 89 (.bin .add (.t 87) (.t 88)) 84 true,τ 90 (.slice true 1 (.t 85) (some (.t 86)) (some (.t 89)) none) 84 true,Μ 91 1 84 true,τ 92 (.bin .eql (.t 90) (.t 91)) 84 true,ξ 93 84 92] [0,1,5,6,7,8,9,10,93]) (.cond (.t 93) (.seq (.region [μ 94 8,μ 4 94] [4]) .ret) .skip)) (.seq (.region [μ 95 8,γ 96 .add 95 1,μ 8 96] [0,1,5,6,7,8,9,10]) (.seq (.region [μ 97 10,γ 98 .add 97 1,μ 10 98] [0,1,5,6,7,8,9,10]) (.seq (.region [μ 99 5,σ 100 .fail,β 101 .leq 99 100,μ 102 101,Μ 103 10 102 true,Μ 104 8 102 true,τ 105 (.call 76 [.t 104]) 102 true,τ 106 (.bin .gtr (.t 103) (.t 105)) 102 true,ξ 107 102 106] [0,1,5,6,7,8,9,10,107]) (.cond (.t 107) (.seq (.region [μ 108 0,μ 109 8,σ 110 (.slice true 1 (.t 108) (some (.t 109)) none none),μ 111 1,σ 112 (.call 75 [.t 110,.t 111]),μ 12 112] [8,12]) (.seq (.seq (.region [μ 113 12,γ 114 .geq 113 0] [8,12,114]) (.cond (.t 114) (.seq (.region [μ 115 12,μ 116 8,β 117 .add 115 116,μ 4 117] [4]) .ret) .skip)) (.seq (.region [σ 4 (.mv (.c (.int .i64 (.negSucc 0))))] [4]) .ret))) (.seq (.region [μ 118 5,σ 119 .fail,β 120 .gtr 118 119,μ 121 120,Μ 122 10 121 true,Μ 123 8 121 true,τ 124 (.bin .shr (.t 123) (.c (.int .u64 (.ofNat 4)))) 121 true,τ 125 (.bin .add (κ 4) (.t 124)) 121 true,τ 126 (.bin .geq (.t 122) (.t 125)) 121 true,ξ 127 121 126,μ 128 127,Μ 129 8 128 true,Μ 130 9 128 true,τ 131 (.bin .lss (.t 129) (.t 130)) 128 true,ξ 132 128 131] [0,1,5,6,7,8,9,10,132]) (.cond (.t 132) (.seq (.region [μ 133 0,μ 134 8,σ 135 (.slice true 1 (.t 133) (some (.t 134)) none none),μ 136 1,σ 137 (.call 77 [.t 135,.t 136]),μ 13 137] [8,13]) (.seq (.seq (.region [μ 138 13,γ 139 .lss 138 0] [8,13,139]) (.cond (.t 139) (.seq (.region [σ 4 (.mv (.c (.int .i64 (.negSucc 0))))] [4]) .ret) .skip)) (.seq (.region [μ 140 8,μ 141 13,β 142 .add 140 141,μ 4 142] [4]) .ret))) .skip))))))))))
def Ry:RC:=.loop [0,1,5,6,7,8,9,10] Rn
def f73:aj:=⟨[.t 4],(.seq (.region [η 4 0] [0,1]) (.seq (.region [μ 14 1,ν 15 .str 14,μ 5 15] [0,1,5]) (.seq (.block 0 (.seq (.region [μ 17 5,γ 18 .eql 17 0,μ 19 18,Μ 20 1 19 false,Μ 21 0 19 false,τ 22 (.bin .eql (.t 20) (.t 21)) 19 false,ζ 23 19 22,μ 16 23] [0,1,5,16]) (.cond (.t 16) (.seq (.region [η 4 0] [4]) .ret) (.seq (.region [μ 25 5,γ 26 .eql 25 1,μ 24 26] [0,1,5,24]) (.cond (.t 24) (.seq (.region [μ 27 0,μ 28 1,σ 29 (.index (.t 28) (κ 0)),σ 30 (.call 61 [.t 27,.t 29]),μ 4 30] [4]) .ret) (.seq (.region [μ 32 5,μ 33 0,ν 34 .str 33,β 35 .geq 32 34,μ 31 35] [0,1,5,31]) (.cond (.t 31) (.seq (.region [σ 4 (.mv (.c (.int .i64 (.negSucc 0))))] [4]) .ret) (.seq (.region [μ 37 5,σ 38 .fail,β 39 .leq 37 38,μ 40 39,Μ 41 0 40 true,τ 42 (.len .str (.t 41)) 40 true,τ 43 (.bin .leq (.t 42) (κ 64)) 40 true,ξ 44 40 43,μ 36 44] [0,1,5,36]) (.cond (.t 36) (.seq (.region [μ 45 0,μ 46 1,σ 47 (.call 75 [.t 45,.t 46]),μ 4 47] [4]) .ret) .skip))))))))) (.seq (.region [μ 48 1,σ 49 (.index (.t 48) (κ 0)),μ 6 49] [0,1,5,6]) (.seq (.region [μ 50 1,σ 51 (.index (.t 50) (κ 1)),μ 7 51] [0,1,5,6,7]) (.seq (.region [η 8 0] [0,1,5,6,7,8]) (.seq (.region [μ 52 0,ν 53 .str 52,μ 54 5,β 55 .sub 53 54,γ 56 .add 55 1,μ 9 56] [0,1,5,6,7,8,9]) (.seq (.region [η 10 0] [0,1,5,6,7,8,9,10]) (.seq (.block 1 Ry) (.seq (.region [σ 4 (.mv (.c (.int .i64 (.negSucc 0))))] [4]) .ret)))))))))),true⟩
def f74:aj:=⟨[.t 2],(.seq (.region [σ 2 (.mv (.c (.bool false)))] [0]) (.seq (.region [μ 3 0,σ 4 (.bin .geq (.t 3) (.c (.int .u8 (.ofNat 97)))),μ 5 4,Μ 6 0 5 true,τ 7 (.bin .leq (.t 6) (.c (.int .u8 (.ofNat 122)))) 5 true,ξ 8 5 7,μ 9 8,Μ 10 0 9 false,τ 11 (.bin .geq (.t 10) (.c (.int .u8 (.ofNat 65)))) 9 false,Μ 12 11 9 false,Μ 13 0 12 true,τ 14 (.bin .leq (.t 13) (.c (.int .u8 (.ofNat 90)))) 12 true,τ 15 (.pick (.t 12) (.t 14) (.c (.bool false))) 9 false,ζ 16 9 15,μ 2 16] [2]) .ret)),true⟩
def f76:aj:=⟨[.t 2],(.seq (.region [η 2 0] [0]) (.seq (.region [μ 3 0,γ 4 .add 3 16,γ 5 .quo 4 8,μ 2 5] [2]) .ret)),true⟩
@[simp] def sR:Ω:=[σ 7 (.alloc [δ,δ,δ,δ,δ,δ,δ,(.bool false)]),ω 8 7 19]
@[simp] def sr:Ω:=[ρ 20 6,Λ 21 8 7,σ 22 (.lit 8 true [δ,δ,δ,δ,δ,δ,δ,(.bool false)] 1 [(0,(.t 21))]),σ 23 (.append 8 true 64 (.t 20) (.t 22)),ω 1 6 23]
def f106:aj:=⟨[.t 2,.t 3],(.seq (.region [σ 1 (.box 21 (.t 0)),σ 2 (.mv (.c θ)),η 3 0] [1]) (.seq (.region [Λ 9 21 1,σ 10 (.call 117 [.t 9]),μ 8 10,ε 11 8 0,ε 12 8 1,μ 4 11,μ 5 12] [1,4,5]) (.seq (.seq (.region [μ 13 5,γ 14 .neq 13 0] [1,4,5,14]) (.cond (.t 14) (.seq (.region [μ 15 5,σ 2 (.mv (.c θ)),μ 3 15] [2,3]) .ret) .skip)) (.seq (.region [σ 6 (.alloc [θ])] [1,4,6]) (.seq (.seq (.region [Λ 16 21 1,μ 17 4,σ 18 (.call 118 [.t 16,.t 17])] [6,18]) (.block 0 (.gK (.t 18) [19] (.region sR [6,7]) (.block 1 (.region sr [])) [6,18]))) (.seq (.region [ρ 24 6,μ 2 24,η 3 0] [2,3]) .ret)))))),true⟩
def Kk:RC:=(.seq (.region [β 8 .lss 7 6] [5,6,7,8]) (.seq (.cond (.t 8) .skip (.exit 0)) (.seq (.block 1 (.seq (.region [ι 9 8 5 7,Λ 10 8 9,σ 4 (.alloc [δ,δ,δ,δ,δ,δ,δ,(.bool false)]),ω 8 4 10] [4,5,6,7]) (.seq (.region [φ 11 0 4,ρ 12 11,γ 13 .eql 12 4] [5,6,7,13]) (.cond (.t 13) (.seq (.region [σ 2 (.mv (.c (.bool true)))] [2]) .ret) .skip)))) (.region [γ 14 .add 7 1,μ 7 14] [5,6,7]))))
def KB:RC:=.loop [5,6,7] Kk
def f108:aj:=⟨[.t 2],(.seq (.region [σ 2 (.mv (.c (.bool false)))] [0]) (.seq (.seq (.region [μ 5 0,ν 6 .slice 5,η 7 0] [5,6,7]) (.block 0 KB)) (.seq (.region [σ 2 (.mv (.c (.bool false)))] [2]) .ret))),true⟩
def tm:RC:=(.seq (.region [β 11 .lss 10 9] [8,9,10,11]) (.seq (.cond (.t 11) .skip (.exit 0)) (.seq (.block 1 (.seq (.region [ι 12 8 8 10,Λ 13 8 12,σ 4 (.alloc [δ,δ,δ,δ,δ,δ,δ,(.bool false)]),ω 8 4 13] [4,8,9,10]) (.seq (.region [Λ 14 8 4,σ 15 (.call 120 [.t 14])] [8,9,10,15]) (.cond (.t 15) (.seq (.region [η 2 2] [2]) .ret) .skip)))) (.region [γ 16 .add 10 1,μ 10 16] [8,9,10]))))
def oz:RC:=.loop [8,9,10] tm
def f109:aj:=⟨[.t 2],(.seq (.region [η 2 0] [0]) (.seq (.seq (.region [μ 5 0,ν 6 .slice 5,γ 7 .gtr 6 8192] [0,7]) (.cond (.t 7) (.seq (.region [η 2 3] [2]) .ret) .skip)) (.seq (.seq (.region [μ 8 0,ν 9 .slice 8,η 10 0] [8,9,10]) (.block 0 oz)) (.seq (.region [η 2 0] [2]) .ret)))),true⟩
def mg:RC:=(.seq (.region [β 31 .lss 30 29] [0,2,3,11,28,29,30,31]) (.seq (.cond (.t 31) .skip (.exit 0)) (.seq (.block 1 (.seq (.region [ι 32 8 28 30,Λ 33 8 32,σ 13 (.alloc [δ,δ,δ,δ,δ,δ,δ,(.bool false)]),ω 8 13 33] [0,2,3,11,13,28,29,30]) (.seq (.region [φ 34 0 13,ρ 35 34] [0,2,3,11,13,28,29,30,35]) (.block 2 (.seq (.seq (.region [γ 37 .eql 35 1,μ 36 37] [0,2,3,11,13,28,29,30,35,36]) (.cond (.t 36) .skip (.region [γ 38 .eql 35 2,μ 36 38] [0,2,3,11,13,28,29,30,35,36]))) (.cond (.t 36) (.region [μ 39 11,φ 40 3 13,ρ 41 40,β 42 .add 39 41,μ 11 42] [0,2,3,11,28,29,30]) (.seq (.region [γ 44 .eql 35 4,μ 43 44] [0,2,3,11,28,29,30,43]) (.cond (.t 43) (.region [μ 45 11,σ 46 (.call 124 [.t 45]),μ 11 46] [0,2,3,11,28,29,30]) .skip)))))))) (.region [γ 47 .add 30 1,μ 30 47] [0,2,3,11,28,29,30]))))
def tP:RC:=.loop [0,2,3,11,28,29,30] mg
def f110:aj:=⟨[.t 8,.t 9],(.seq (.region [η 8 0,η 9 0] [0,1,2,3]) (.seq (.seq (.region [μ 14 0,μ 15 1,μ 16 2,σ 17 (.call 121 [.t 14,.t 15,.t 16]),μ 10 17] [0,1,2,3,10]) (.seq (.region [μ 18 10,γ 19 .neq 18 0] [0,1,2,3,10,19]) (.cond (.t 19) (.seq (.region [μ 20 10,η 8 0,μ 9 20] [8,9]) .ret) .skip))) (.seq (.seq (.region [μ 21 3,σ 22 (.call 122 [.t 21]),σ 23 (.un .not (.t 22))] [0,1,2,3,23]) (.cond (.t 23) (.seq (.region [η 8 0,η 9 5] [8,9]) .ret) .skip)) (.seq (.region [μ 24 3,μ 11 24] [0,1,2,3,11]) (.seq (.seq (.region [μ 25 0,μ 26 1,μ 27 2,σ 28 (.call 123 [.t 25,.t 26,.t 27]),ν 29 .slice 28,η 30 0] [0,2,3,11,28,29,30]) (.block 0 tP)) (.seq (.seq (.region [μ 48 2,μ 49 0,ν 50 .slice 49,β 51 .lss 48 50,μ 52 51,Μ 53 0 52 true,Μ 54 2 52 true,τ 55 (.aY 8 (.t 53) (.t 54)) 52 true,Φ 56 0 55 52 true,Ρ 57 56 52 true,τ 58 (.bin .eql (.t 57) (κ 3)) 52 true,ξ 59 52 58] [0,2,3,11,59]) (.cond (.t 59) (.region [μ 60 11,μ 61 0,μ 62 2,ι 63 8 61 62,φ 64 3 63,ρ 65 64,β 66 .add 60 65,μ 11 66] [3,11]) .skip)) (.seq (.region [μ 67 11,μ 68 3,β 69 .sub 67 68,μ 8 69,η 9 0] [8,9]) .ret))))))),true⟩
def oP:RC:=(.seq (.seq (.region [μ 27 11,μ 28 0,ν 29 .slice 28,β 30 .lss 27 29,μ 31 30,Μ 32 0 31 true,Μ 33 11 31 true,τ 34 (.aY 8 (.t 32) (.t 33)) 31 true,Φ 35 0 34 31 true,Ρ 36 35 31 true,τ 37 (.bin .eql (.t 36) (κ 2)) 31 true,ξ 38 31 37] [0,10,11,38]) (.cond (.t 38) .skip (.exit 0))) (.block 1 (.region [μ 39 11,γ 40 .add 39 1,μ 11 40] [0,10,11])))
def nb:RC:=.loop [0,10,11] oP
def f113:aj:=⟨[.t 6,.t 7],(.seq (.region [σ 4 (.box 1 (.t 1)),σ 5 (.box 2 (.t 2)),σ 6 (.mv (.c θ)),η 7 0] [0,4,5]) (.seq (.seq (.region [μ 12 0,σ 13 (.call 109 [.t 12]),μ 8 13] [0,4,5,8]) (.seq (.region [μ 14 8,γ 15 .neq 14 0] [0,4,5,8,15]) (.cond (.t 15) (.seq (.region [μ 16 8,σ 6 (.mv (.c θ)),μ 7 16] [6,7]) .ret) .skip))) (.seq (.seq (.region [ρ 17 4,Λ 18 2 5,σ 19 (.call 126 [.t 17,.t 18]),μ 9 19] [0,4,5,9]) (.seq (.region [μ 20 9,γ 21 .neq 20 0] [0,4,5,9,21]) (.cond (.t 21) (.seq (.region [μ 22 9,σ 6 (.mv (.c θ)),μ 7 22] [6,7]) .ret) .skip))) (.seq (.region [μ 23 0,σ 24 (.gD 127 [] [.t 4,.t 5]),σ 25 (.build [θ,.bO,θ] [(0,1,(.t 23)),(1,1,(.t 24))]),σ 26 (.box 3 (.t 25)),μ 10 26] [0,10]) (.seq (.region [η 11 0] [0,10,11]) (.seq (.block 0 nb) (.seq (.seq (.region [μ 41 11,μ 42 0,ν 43 .slice 42,β 44 .eql 41 43] [0,10,11,44]) (.cond (.t 44) (.seq (.region [μ 45 0,ν 46 .slice 45,μ 47 0,ν 48 .slice 47,σ 49 (.build [δ,δ,(.bool false),(.bool false),δ] [(0,1,(.t 46)),(1,1,(.t 48))]),σ 50 (.lit 5 true [δ,δ,(.bool false),(.bool false),δ] 1 [(0,(.t 49))]),μ 6 50,η 7 0] [6,7]) .ret) .skip)) (.seq (.region [μ 51 11,μ 52 0,ν 53 .slice 52,μ 54 10,σ 55 (.gD 129 [.t 54] []),μ 56 10,σ 57 (.gD 130 [.t 56] []),σ 58 (.call 128 [.t 51,.t 53,.t 55,.t 57])] [10]) (.seq (.region [μ 59 10,σ 60 (.aX (.t 59)),φ 61 2 60,ρ 62 61,μ 6 62,η 7 0] [6,7]) .ret))))))))),true⟩
def f114:aj:=⟨[.cell 6 2 true],(.seq (.region [σ 4 (.box 2 (.t 1)),σ 6 (.alloc [δ,δ])] [0,2,4,6]) (.seq (.block 0 (.seq (.region [μ 8 2,γ 9 .lss 8 0,μ 7 9] [0,2,4,6,7]) (.cond (.t 7) (.seq (.region [σ 10 (.build [δ,δ] []),ω 2 6 10] [6]) .ret) (.seq (.region [μ 12 2,μ 13 0,ν 14 .slice 13,β 15 .lss 12 14,μ 11 15] [0,2,4,6,11]) (.cond (.t 11) (.seq (.region [μ 16 0,μ 17 2,ι 18 2 16 17,Λ 19 2 18,ω 2 6 19] [6]) .ret) .skip))))) (.seq (.region [Λ 20 2 4,ω 2 6 20] [6]) .ret))),true⟩
def f117:aj:=⟨[.t 2,.t 3],(.seq (.region [σ 1 (.box 21 (.t 0)),σ 2 (.mv (.c θ)),η 3 0] [1]) (.seq (.region [Λ 7 21 1,σ 8 (.call 10 [.t 7]),μ 6 8,ε 9 6 0,ε 10 6 1,μ 4 9,μ 5 10] [1,4,5]) (.seq (.seq (.region [μ 11 5,γ 12 .eql 11 0,μ 13 12,Φ 14 2 1 13 true,Φ 15 14 14 13 true,Ρ 16 15 13 true,τ 17 (.bin .geq (.t 16) (κ 2)) 13 true,ξ 18 13 17,μ 19 18,Μ 20 4 19 true,τ 21 (.len .slice (.t 20)) 19 true,τ 22 (.bin .gtr (.t 21) (κ 0)) 19 true,ξ 23 19 22,μ 24 23,Μ 25 4 24 true,τ 26 (.aY 6 (.t 25) (κ 0)) 24 true,Φ 27 2 26 24 true,Ρ 28 27 24 true,τ 29 (.bin .eql (.t 28) (κ 1)) 24 true,ξ 30 24 29] [4,5,30]) (.cond (.t 30) (.region [μ 31 4,σ 32 (.slice false 6 (.t 31) (some (κ 1)) none none),μ 4 32] [4,5]) .skip)) (.seq (.region [μ 33 4,μ 34 5,μ 2 33,μ 3 34] [2,3]) .ret)))),true⟩
def f118:aj:=⟨[.t 4],(.seq (.region [σ 2 (.box 21 (.t 0)),σ 3 (.box 1 (.t 1)),σ 4 (.mv (.c .bO))] [2,3]) (.seq (.region [σ 5 (.gD 131 [] [.t 2,.t 3]),μ 4 5] [4]) .ret)),false⟩
def f120:aj:=⟨[.t 2],(.seq (.region [σ 1 (.box 8 (.t 0)),σ 2 (.mv (.c (.bool false)))] [1]) (.seq (.seq (.region [φ 3 0 1,ρ 4 3,γ 5 .lss 4 1,μ 6 5,Φ 7 0 1 6 false,Ρ 8 7 6 false,τ 9 (.bin .gtr (.t 8) (κ 4)) 6 false,ζ 10 6 9,μ 11 10,Φ 12 1 1 11 false,Ρ 13 12 11 false,τ 14 (.bin .lss (.t 13) (κ 0)) 11 false,ζ 15 11 14,μ 16 15,Φ 17 2 1 16 false,Ρ 18 17 16 false,Φ 19 1 1 16 false,Ρ 20 19 16 false,τ 21 (.bin .lss (.t 18) (.t 20)) 16 false,ζ 22 16 21,μ 23 22,Φ 24 3 1 23 false,Ρ 25 24 23 false,τ 26 (.bin .lss (.t 25) (κ 0)) 23 false,ζ 27 23 26,μ 28 27,Φ 29 3 1 28 false,Ρ 30 29 28 false,τ 31 (.bin .gtr (.t 30) (κ 2097152)) 28 false,ζ 32 28 31,μ 33 32,Φ 34 4 1 33 false,Ρ 35 34 33 false,τ 36 (.call 122 [.t 35]) 33 false,τ 37 (.un .not (.t 36)) 33 false,ζ 38 33 37,μ 39 38,Φ 40 5 1 39 false,Ρ 41 40 39 false,τ 42 (.call 122 [.t 41]) 39 false,τ 43 (.un .not (.t 42)) 39 false,ζ 44 39 43,μ 45 44,Φ 46 6 1 45 false,Ρ 47 46 45 false,τ 48 (.call 122 [.t 47]) 45 false,τ 49 (.un .not (.t 48)) 45 false,ζ 50 45 49] [1,50]) (.cond (.t 50) (.seq (.region [σ 2 (.mv (.c (.bool true)))] [2]) .ret) .skip)) (.seq (.region [φ 51 0 1,ρ 52 51,γ 53 .neq 52 3,μ 54 53,Φ 55 7 1 54 true,Ρ 56 55 54 true,Μ 57 56 54 true,Φ 58 6 1 57 false,Ρ 59 58 57 false,τ 60 (.bin .neq (.t 59) (κ 0)) 57 false,τ 61 (.pick (.t 57) (.c (.bool true)) (.t 60)) 54 true,ξ 62 54 61,μ 63 62,Φ 64 0 1 63 false,Ρ 65 64 63 false,τ 66 (.bin .neq (.t 65) (κ 2)) 63 false,Μ 67 66 63 false,Φ 68 4 1 67 true,Ρ 69 68 67 true,τ 70 (.bin .neq (.t 69) (κ 0)) 67 true,Μ 71 70 67 true,Φ 72 5 1 71 false,Ρ 73 72 71 false,τ 74 (.bin .neq (.t 73) (κ 0)) 71 false,τ 75 (.pick (.t 71) (.c (.bool true)) (.t 74)) 67 true,τ 76 (.pick (.t 67) (.t 75) (.c (.bool false))) 63 false,ζ 77 63 76,μ 78 77,Φ 79 0 1 78 false,Ρ 80 79 78 false,τ 81 (.bin .eql (.t 80) (κ 4)) 78 false,Μ 82 81 78 false,Φ 83 3 1 82 true,Ρ 84 83 82 true,τ 85 (.bin .neq (.t 84) (κ 0)) 82 true,τ 86 (.pick (.t 82) (.t 85) (.c (.bool false))) 78 false,ζ 87 78 86,μ 2 87] [2]) .ret))),true⟩
def f121:aj:=⟨[.t 6],(.seq (.region [η 6 0] [0,1,2]) (.seq (.region [μ 8 0,σ 9 (.call 109 [.t 8]),μ 7 9] [0,1,2,7]) (.seq (.seq (.region [μ 10 7,γ 11 .eql 10 0,μ 12 11,Μ 13 1 12 true,τ 14 (.bin .lss (.t 13) (κ 0)) 12 true,Μ 15 14 12 true,Μ 16 2 15 false,Μ 17 1 15 false,τ 18 (.bin .lss (.t 16) (.t 17)) 15 false,τ 19 (.pick (.t 15) (.c (.bool true)) (.t 18)) 12 true,Μ 20 19 12 true,Μ 21 2 20 false,Μ 22 0 20 false,τ 23 (.len .slice (.t 22)) 20 false,τ 24 (.bin .gtr (.t 21) (.t 23)) 20 false,τ 25 (.pick (.t 20) (.c (.bool true)) (.t 24)) 12 true,ξ 26 12 25] [7,26]) (.cond (.t 26) (.region [η 7 5] [7]) .skip)) (.seq (.region [μ 27 7,μ 6 27] [6]) .ret)))),true⟩
def f122:aj:=⟨[.t 2],(.seq (.region [σ 2 (.mv (.c (.bool false)))] [0]) (.seq (.region [μ 3 0,γ 4 .geq 3 0,μ 5 4,Μ 6 0 5 true,τ 7 (.bin .leq (.t 6) (κ 4095)) 5 true,ξ 8 5 7,μ 2 8] [2]) .ret)),true⟩
def oW:RC:=(.seq (.seq (.region [μ 7 2,μ 8 1,β 9 .gtr 7 8,μ 10 9,Μ 11 0 10 true,Μ 12 2 10 true,τ 13 (.bin .sub (.t 12) (κ 1)) 10 true,τ 14 (.aY 8 (.t 11) (.t 13)) 10 true,Φ 15 0 14 10 true,Ρ 16 15 10 true,τ 17 (.bin .eql (.t 16) (κ 2)) 10 true,ξ 18 10 17] [0,1,2,18]) (.cond (.t 18) .skip (.exit 0))) (.block 1 (.region [μ 19 2,γ 20 .sub 19 1,μ 2 20] [0,1,2])))
def mU:RC:=.loop [0,1,2] oW
def f123:aj:=⟨[.t 6],(.seq (.region [σ 6 (.mv (.c θ))] [0,1,2]) (.seq (.block 0 mU) (.seq (.region [μ 21 0,μ 22 1,μ 23 2,σ 24 (.slice false 8 (.t 21) (some (.t 22)) (some (.t 23)) none),μ 6 24] [6]) .ret))),true⟩
def f124:aj:=⟨[.t 2],(.seq (.region [η 2 0] [0]) (.seq (.seq (.region [μ 6 0,σ 7 (.call 139 [(.c θ),.t 6]),μ 5 7,ε 8 5 0,ε 9 5 1,σ 3 (.alloc [δ,δ]),ω 2 3 8,μ 4 9] [0,3,4]) (.seq (.region [μ 10 4,γ 11 .eql 10 0] [0,3,11]) (.cond (.t 11) (.seq (.region [φ 12 0 3,ρ 13 12,μ 2 13] [2]) .ret) .skip))) (.seq (.region [μ 14 0,γ 15 .quo 14 48,γ 16 .add 15 1,γ 17 .mul 16 48,μ 2 17] [2]) .ret))),true⟩
@[simp] def wL:Ω:=[σ 3 (.box 2 (.t 1)),η 4 0]
@[simp] def xG:Ω:=[μ 7 0,ν 8 .slice 7,γ 9 .gtr 8 256]
@[simp] def xD:Ω:=[η 4 3]
@[simp] def yh:Ω:=[μ 10 0,σ 11 (.append 2 true 16 (.c θ) (.t 10)),Λ 12 2 3,σ 13 (.lit 2 true [δ,δ] 1 [(0,(.t 12))]),σ 14 (.append 2 true 16 (.t 11) (.t 13)),ν 15 .slice 14,η 16 0]
def tc:RC:=(.seq (.region [β 17 .lss 16 15] [14,15,16,17]) (.seq (.cond (.t 17) .skip (.exit 0)) (.seq (.block 1 (.seq (.region [ι 18 2 14 16,Λ 19 2 18,σ 6 (.alloc [δ,δ]),ω 2 6 19] [6,14,15,16]) (.seq (.region [Λ 20 2 6,σ 21 (.call 140 [.t 20]),σ 22 (.un .not (.t 21))] [14,15,16,22]) (.cond (.t 22) (.seq (.region [η 4 2] [4]) .ret) .skip)))) (.region [γ 23 .add 16 1,μ 16 23] [14,15,16]))))
def m9:RC:=.loop [14,15,16] tc
@[simp] def B2:Ω:=[η 4 0]
def f126:aj:=⟨[.t 4],(.seq (.region wL [0,3]) (.seq (.seq (.region xG [0,3,9]) (.cond (.t 9) (.seq (.region xD [4]) .ret) .skip)) (.seq (.seq (.av yh [] [(2,[0]),(3,[0])] [14,15,16]) (.block 0 m9)) (.seq (.region B2 [4]) .ret)))),true⟩
def f127:aj:=⟨[.cell 4 2 true],(.seq (.region [σ 4 (.alloc [δ,δ])] [0,1,2,4]) (.seq (.region [ρ 5 1,Λ 6 2 2,μ 7 0,σ 8 (.call 114 [.t 5,.t 6,.t 7]),ω 2 4 8] [4]) .ret)),false⟩
def tC:RC:=(.seq (.seq (.region [μ 10 8,μ 11 1,β 12 .lss 10 11] [1,2,3,8,12]) (.cond (.t 12) .skip (.exit 0))) (.seq (.block 1 .skip) (.region [μ 13 3,μ 14 2,μ 15 8,σ 16 (.bz (.t 14) [.t 15]),σ 17 (.bz (.t 13) [.t 16]),μ 8 17] [1,2,3,8])))
def oX:RC:=.loop [1,2,3,8] tC
def f128:aj:=⟨[],(.seq (.region [μ 9 0,μ 8 9] [1,2,3,8]) (.block 0 oX)),false⟩
@[simp] def wM:Ω:=[η 4 0]
@[simp] def r8:Ω:=[μ 14 0,σ 15 (.aX (.t 14)),φ 16 1 15,ρ 17 16,μ 18 0,σ 19 (.aX (.t 18)),φ 20 2 19,ρ 21 20,ν 22 .slice 21,σ 23 (.bz (.t 17) [.t 22]),σ 5 (.alloc [δ,δ]),ω 2 5 23]
@[simp] def xi:Ω:=[σ 6 (.mv (.c (.int .i64 (.negSucc 0)))),η 7 0,σ 8 (.mv (.c (.bool false)))]
@[simp] def ye:Ω:=[φ 24 0 5,ρ 25 24,μ 9 25]
@[simp] def yl:Ω:=[φ 26 0 5,ρ 27 26,μ 10 27]
@[simp] def x7:Ω:=[μ 28 1,μ 11 28]
@[simp] def Dk:Ω:=[μ 29 11,μ 30 0,σ 31 (.aX (.t 30)),φ 32 0 31,ρ 33 32,ν 34 .slice 33,β 35 .leq 29 34]
@[simp] def sC:Ω:=[μ 38 11,μ 39 1,β 40 .gtr 38 39,μ 41 40,Μ 42 0 41 true,Μ 43 11 41 true,τ 44 (.call 141 [.t 42,.t 43]) 41 true,ξ 45 41 44]
@[simp] def sI:Ω:=[μ 46 10,φ 47 0 5,ρ 48 47,β 49 .sub 46 48,μ 12 49]
@[simp] def sg:Ω:=[μ 50 11,μ 51 0,σ 52 (.aX (.t 51)),φ 53 0 52,ρ 54 53,ν 55 .slice 54,β 56 .lss 50 55,μ 57 56,Μ 58 0 57 true,τ 59 (.aX (.t 58)) 57 true,Φ 60 0 59 57 true,Ρ 61 60 57 true,Μ 62 11 57 true,τ 63 (.aY 8 (.t 61) (.t 62)) 57 true,Φ 64 0 63 57 true,Ρ 65 64 57 true,τ 66 (.bin .eql (.t 65) (κ 3)) 57 true,ξ 67 57 66]
@[simp] def nV:Ω:=[μ 68 12,μ 69 0,σ 70 (.aX (.t 69)),φ 71 0 70,ρ 72 71,μ 73 11,ι 74 8 72 73,φ 75 3 74,ρ 76 75,β 77 .add 68 76,μ 12 77]
@[simp] def tR:Ω:=[μ 78 6,γ 79 .lss 78 0,μ 80 79,Μ 81 12 80 false,Φ 82 1 5 80 false,Ρ 83 82 80 false,τ 84 (.bin .leq (.t 81) (.t 83)) 80 false,ζ 85 80 84]
@[simp] def rZ:Ω:=[μ 86 12,φ 87 1 5,ρ 88 87,β 89 .gtr 86 88]
@[simp] def ta:Ω:=[σ 8 (.mv (.c (.bool true)))]
@[simp] def so:Ω:=[μ 90 11,μ 91 12,μ 6 90,μ 7 91]
@[simp] def si:Ω:=[μ 92 12,φ 93 1 5,ρ 94 93,β 95 .gtr 92 94]
@[simp] def zf:Ω:=[μ 96 11,μ 97 0,σ 98 (.aX (.t 97)),φ 99 0 98,ρ 100 99,ν 101 .slice 100,β 102 .lss 96 101]
@[simp] def yQ:Ω:=[μ 103 0,μ 104 11,μ 105 9,σ 106 (.call 142 [.t 103,.t 104,.t 105]),μ 9 106]
@[simp] def yG:Ω:=[μ 107 0,σ 108 (.aX (.t 107)),φ 109 0 108,ρ 110 109,μ 111 11,ι 112 8 110 111,φ 113 0 112,ρ 114 113,γ 115 .neq 114 2]
@[simp] def Ap:Ω:=[μ 116 9,μ 10 116]
def pW:RC:=(.seq (.seq (.region Dk [0,1,5,6,7,8,9,10,11,35]) (.cond (.t 35) .skip (.exit 0))) (.seq (.block 1 (.seq (.seq (.region sC [0,1,5,6,7,8,9,10,11,45]) (.cond (.t 45) (.seq (.region sI [0,1,5,6,7,8,9,10,11,12]) (.seq (.seq (.region sg [0,1,5,6,7,8,9,10,11,12,67]) (.cond (.t 67) (.region nV [0,1,5,6,7,8,9,10,11,12]) .skip)) (.seq (.seq (.region tR [0,1,5,6,7,8,9,10,11,12,85]) (.cond (.t 85) (.seq (.seq (.region rZ [0,1,5,8,9,10,11,12,89]) (.cond (.t 89) (.region ta [0,1,5,8,9,10,11,12]) .skip)) (.region so [0,1,5,6,7,8,9,10,11,12])) .skip)) (.seq (.region si [0,1,5,6,7,8,9,10,11,95]) (.cond (.t 95) (.exit 0) .skip))))) .skip)) (.seq (.region zf [0,1,5,6,7,8,9,10,11,102]) (.cond (.t 102) (.seq (.region yQ [0,1,5,6,7,8,9,10,11]) (.seq (.region yG [0,1,5,6,7,8,9,10,11,115]) (.cond (.t 115) (.region Ap [0,1,5,6,7,8,9,10,11]) .skip))) .skip)))) (.region [μ 36 11,γ 37 .add 36 1,μ 11 37] [0,1,5,6,7,8,9,10,11])))
def jB:RC:=.loop [0,1,5,6,7,8,9,10,11] pW
@[simp] def sj:Ω:=[μ 117 1,μ 118 6,μ 119 8,μ 120 7,σ 121 (.build [δ,δ,(.bool false),(.bool false),δ] [(0,1,(.t 117)),(1,1,(.t 118)),(2,1,(.t 119)),(4,1,(.t 120))]),σ 13 (.alloc [δ,δ,(.bool false),(.bool false),δ]),ω 5 13 121]
@[simp] def rR:Ω:=[μ 122 6,μ 123 0,σ 124 (.aX (.t 123)),φ 125 0 124,ρ 126 125,ν 127 .slice 126,β 128 .lss 122 127,μ 129 128,Μ 130 0 129 true,τ 131 (.aX (.t 130)) 129 true,Φ 132 0 131 129 true,Ρ 133 132 129 true,Μ 134 6 129 true,τ 135 (.aY 8 (.t 133) (.t 134)) 129 true,Φ 136 7 135 129 true,Ρ 137 136 129 true,ξ 138 129 137,φ 139 3 13,ω 1 139 138]
@[simp] def rX:Ω:=[μ 140 0,μ 141 0,σ 142 (.aX (.t 141)),φ 143 2 142,ρ 144 143,Λ 145 5 13,σ 146 (.lit 5 true [δ,δ,(.bool false),(.bool false),δ] 1 [(0,(.t 145))]),σ 147 (.append 5 true 32 (.t 144) (.t 146)),σ 148 (.aX (.t 140)),φ 149 2 148,ω 1 149 147]
@[simp] def yK:Ω:=[μ 150 6,μ 4 150]
def f129:aj:=⟨[.t 4],(.seq (.region wM [0,1]) (.seq (.av r8 [10] [] [0,1,5]) (.seq (.region xi [0,1,5,6,7,8]) (.seq (.region ye [0,1,5,6,7,8,9]) (.seq (.region yl [0,1,5,6,7,8,9,10]) (.seq (.seq (.region x7 [0,1,5,6,7,8,9,10,11]) (.block 0 jB)) (.seq (.region sj [0,6,13]) (.seq (.region rR [0,6,13]) (.seq (.av rX [] [] [6]) (.seq (.region yK [4]) .ret)))))))))),false⟩
def oI:RC:=(.seq (.seq (.region [μ 29 1,μ 30 0,σ 31 (.aX (.t 30)),φ 32 0 31,ρ 33 32,ν 34 .slice 33,β 35 .lss 29 34,μ 36 35,Μ 37 0 36 true,τ 38 (.aX (.t 37)) 36 true,Φ 39 0 38 36 true,Ρ 40 39 36 true,Μ 41 1 36 true,τ 42 (.aY 8 (.t 40) (.t 41)) 36 true,Φ 43 0 42 36 true,Ρ 44 43 36 true,τ 45 (.bin .eql (.t 44) (κ 2)) 36 true,ξ 46 36 45] [0,1,46]) (.cond (.t 46) .skip (.exit 0))) (.block 1 (.region [μ 47 1,γ 48 .add 47 1,μ 1 48] [0,1])))
def jy:RC:=.loop [0,1] oI
def f130:aj:=⟨[.t 4],(.seq (.region [η 4 0] [0,1]) (.seq (.seq (.region [μ 5 1,μ 6 0,σ 7 (.aX (.t 6)),φ 8 0 7,ρ 9 8,ν 10 .slice 9,β 11 .lss 5 10,μ 12 11,Μ 13 1 12 true,τ 14 (.bin .geq (.t 13) (κ 0)) 12 true,ξ 15 12 14,μ 16 15,Μ 17 0 16 true,τ 18 (.aX (.t 17)) 16 true,Φ 19 0 18 16 true,Ρ 20 19 16 true,Μ 21 1 16 true,τ 22 (.aY 8 (.t 20) (.t 21)) 16 true,Φ 23 0 22 16 true,Ρ 24 23 16 true,τ 25 (.bin .eql (.t 24) (κ 3)) 16 true,ξ 26 16 25] [0,1,26]) (.cond (.t 26) (.region [μ 27 1,γ 28 .add 27 1,μ 1 28] [0,1]) .skip)) (.seq (.block 0 jy) (.seq (.region [μ 49 1,μ 4 49] [4]) .ret)))),false⟩
def jg:RC:=(.seq (.region [β 20 .lss 19 18] [2,3,4,5,6,7,8,17,18,19,20]) (.seq (.cond (.t 20) .skip (.exit 0)) (.seq (.block 1 (.seq (.region [μ 21 19,ι 22 6 17 19,Λ 23 6 22,σ 10 (.alloc [δ,δ,δ,δ,δ,δ]),μ 9 21,ω 6 10 23] [2,3,4,5,6,7,8,9,10,17,18,19]) (.seq (.seq (.region [Λ 24 6 10,σ 25 (.call 136 [.t 24]),σ 26 (.un .not (.t 25))] [2,3,4,5,6,7,8,9,10,17,18,19,26]) (.cond (.t 26) (.seq (.seq (.av [μ 27 8,μ 28 9,σ 29 (.bz (.t 27) [.t 28]),σ 30 (.un .not (.t 29)),μ 31 30,Ρ 32 3 31 false,τ 33 (.load 6 true (.t 10)) 31 false,τ 34 (.call 137 [.t 33]) 31 false,τ 35 (.bz (.t 32) [.t 34]) 31 false,τ 36 (.un .not (.t 35)) 31 false,ζ 37 31 36] [] [] [2,3,4,5,7,8,9,17,18,19,37]) (.cond (.t 37) .ret .skip)) (.seq (.region [μ 38 9,γ 39 .add 38 1,μ 40 9,γ 41 .add 40 1,μ 6 39,ω 1 7 41] [2,3,4,5,6,7,8,17,18,19]) (.exit 1))) .skip)) (.seq (.seq (.region [μ 42 9,ρ 43 7,β 44 .eql 42 43] [2,3,4,5,6,7,8,9,10,17,18,19,44]) (.cond (.t 44) (.exit 1) .skip)) (.seq (.region [φ 45 0 10,ρ 46 45,φ 47 0 10,ρ 48 47,σ 49 (.build [δ,δ,δ,δ,δ,δ,δ,(.bool false)] [(0,1,(κ 3)),(1,1,(.t 46)),(2,1,(.t 48))]),σ 11 (.alloc [δ,δ,δ,δ,δ,δ,δ,(.bool false)]),ω 8 11 49] [2,3,4,5,6,7,8,9,10,11,17,18,19]) (.seq (.block 2 (.seq (.region [μ 51 4,μ 52 9,ι 53 1 51 52,ρ 54 53,μ 50 54] [2,3,4,5,6,7,8,9,10,11,17,18,19,50]) (.cond (.t 50) (.region [φ 55 3 10,ρ 56 55,σ 57 (.call 138 [.t 56]),φ 58 6 11,⟨none,.store 1 (.t 58) (κ 100),none⟩,φ 59 7 11,⟨none,.store 1 (.t 59) (.c (.bool true)),none⟩,φ 60 3 11,ω 1 60 57] [2,3,4,5,6,7,8,9,11,17,18,19]) (.seq (.region [μ 62 5,μ 63 9,γ 64 .sub 63 1,σ 65 (.bz (.t 62) [.t 64]),μ 66 65,Μ 67 5 66 true,Μ 68 9 66 true,τ 69 (.bz (.t 67) [.t 68]) 66 true,τ 70 (.un .not (.t 69)) 66 true,ξ 71 66 70,μ 72 71,Μ 73 9 72 true,τ 74 (.bin .sub (.t 73) (κ 1)) 72 true,Μ 75 6 72 true,τ 76 (.bin .gtr (.t 74) (.t 75)) 72 true,ξ 77 72 76,μ 61 77] [2,3,4,5,6,7,8,9,11,17,18,19,61]) (.cond (.t 61) (.region [φ 78 6 11,⟨none,.store 1 (.t 78) (κ 50),none⟩] [2,3,4,5,6,7,8,9,11,17,18,19]) (.exit 1)))))) (.seq (.seq (.region [μ 79 8,μ 80 9,σ 81 (.bz (.t 79) [.t 80]),σ 82 (.un .not (.t 81)),μ 83 82,Ρ 84 3 83 false,τ 85 (.load 8 true (.t 11)) 83 false,τ 86 (.bz (.t 84) [.t 85]) 83 false,τ 87 (.un .not (.t 86)) 83 false,ζ 88 83 87] [2,3,4,5,6,7,8,9,17,18,19,88]) (.cond (.t 88) .ret .skip)) (.region [μ 89 9,ω 1 7 89] [2,3,4,5,6,7,8,17,18,19])))))))) (.region [γ 90 .add 19 1,μ 19 90] [2,3,4,5,6,7,8,17,18,19]))))
def gF:RC:=.loop [2,3,4,5,6,7,8,17,18,19] jg
def f131:aj:=⟨[],(.seq (.region [σ 3 (.box 1 (.t 0))] [1,2,3]) (.seq (.region [Λ 12 21 1,ρ 13 2,σ 14 (.call 132 [.t 12,.t 13]),μ 4 14] [1,2,3,4]) (.seq (.region [σ 15 (.gD 133 [] [.t 2,.t 1]),μ 5 15] [2,3,4,5]) (.seq (.region [σ 7 (.alloc [δ]),η 6 0,⟨none,.store 1 (.t 7) (κ 0),none⟩] [2,3,4,5,6,7]) (.seq (.region [σ 16 (.gD 134 [] [.t 7,.t 3,.t 2]),μ 8 16] [2,3,4,5,6,7,8]) (.seq (.seq (.region [ρ 17 2,ν 18 .slice 17,η 19 0] [2,3,4,5,6,7,8,17,18,19]) (.block 0 gF)) (.region [μ 91 8,ρ 92 2,ν 93 .slice 92,σ 94 (.bz (.t 91) [.t 93])] []))))))),false⟩
def Kc:RC:=(.seq (.seq (.av [μ 37 8,μ 38 1,ν 39 .slice 38,β 40 .lss 37 39,μ 41 40,Μ 42 1 41 true,Μ 43 8 41 true,τ 44 (.aY 6 (.t 42) (.t 43)) 41 true,Φ 45 2 44 41 true,Ρ 46 45 41 true,τ 47 (.bin .eql (.t 46) (κ 1)) 41 true,ξ 48 41 47,μ 49 48,Μ 50 1 49 true,Μ 51 8 49 true,τ 52 (.aY 6 (.t 50) (.t 51)) 49 true,Φ 53 3 52 49 true,Ρ 54 53 49 true,Μ 55 1 49 true,Μ 56 7 49 true,τ 57 (.aY 6 (.t 55) (.t 56)) 49 true,Φ 58 3 57 49 true,Ρ 59 58 49 true,τ 60 (.bin .eql (.t 54) (.t 59)) 49 true,ξ 61 49 60] [] [] [1,2,5,6,7,8,9,61]) (.cond (.t 61) .skip (.exit 2))) (.block 3 (.seq (.av [μ 62 9,φ 63 0 2,ρ 64 63,μ 65 1,μ 66 8,ι 67 6 65 66,φ 68 0 67,ρ 69 68,σ 70 (.index (.t 64) (.t 69)),σ 71 (.lit 1 false [(.int .u8 (.ofNat 0))] 1 [(0,(.t 70))]),σ 72 (.append 1 false 1 (.t 62) (.t 71)),μ 9 72] [] [] [1,2,5,6,7,8,9]) (.region [μ 73 8,γ 74 .add 73 1,μ 8 74] [1,2,5,6,7,8,9]))))
def KJ:RC:=.loop [1,2,5,6,7,8,9] Kc
def JA:RC:=(.seq (.region [β 85 .lss 84 83] [1,2,5,6,7,8,82,83,84,85]) (.seq (.cond (.t 85) .skip (.exit 4)) (.seq (.block 5 (.seq (.region [ι 86 1 82 84,ρ 87 86,μ 13 87] [1,2,5,6,7,8,13,82,83,84]) (.region [μ 88 5,μ 89 7,μ 90 13,β 91 .add 89 90,ι 92 1 88 91,⟨none,.store 1 (.t 92) (.c (.bool true)),none⟩] [1,2,5,6,7,8,82,83,84]))) (.region [γ 93 .add 84 1,μ 84 93] [1,2,5,6,7,8,82,83,84]))))
def KP:RC:=.loop [1,2,5,6,7,8,82,83,84] JA
def K0:RC:=(.seq (.seq (.region [μ 24 7,μ 25 1,ν 26 .slice 25,β 27 .lss 24 26] [1,2,5,6,7,27]) (.cond (.t 27) .skip (.exit 0))) (.block 1 (.seq (.seq (.region [μ 28 1,μ 29 7,ι 30 6 28 29,φ 31 2 30,ρ 32 31,γ 33 .neq 32 1] [1,2,5,6,7,33]) (.cond (.t 33) (.seq (.region [μ 34 7,γ 35 .add 34 1,μ 7 35] [1,2,5,6,7]) (.exit 1)) .skip)) (.seq (.region [μ 36 7,μ 8 36] [1,2,5,6,7,8]) (.seq (.region [σ 9 (.mv (.c θ))] [1,2,5,6,7,8,9]) (.seq (.block 2 KJ) (.seq (.region [μ 76 6,μ 77 9,σ 78 (.b2s (.t 77)),σ 79 (.call 144 [.t 76,.t 78]),μ 75 79,ε 80 75 0,ε 81 75 1,μ 10 80,μ 11 81] [1,2,5,6,7,8,10]) (.seq (.seq (.region [μ 82 10,ν 83 .slice 82,η 84 0] [1,2,5,6,7,8,82,83,84]) (.block 4 KP)) (.region [μ 94 8,μ 7 94] [1,2,5,6,7])))))))))
def KG:RC:=.loop [1,2,5,6,7] K0
def f132:aj:=⟨[.t 4],(.seq (.region [σ 2 (.box 21 (.t 0)),σ 4 (.mv (.c θ))] [1,2]) (.seq (.region [μ 14 1,ν 15 .slice 14,γ 16 .add 15 1,σ 17 (.cE 1 false 1 [(.bool false)] (.t 16) (.t 16)),μ 5 17] [1,2,5]) (.seq (.seq (.region [φ 18 2 2,φ 19 12 18,ρ 20 19,γ 21 .eql 20 0] [1,2,5,21]) (.cond (.t 21) (.seq (.region [μ 22 5,μ 4 22] [4]) .ret) .skip)) (.seq (.region [σ 23 (.call 143 []),μ 6 23] [1,2,5,6]) (.seq (.seq (.region [η 7 0] [1,2,5,6,7]) (.block 0 KG)) (.seq (.region [μ 95 5,μ 4 95] [4]) .ret)))))),true⟩
def f133:aj:=⟨[.t 4],(.seq (.region [σ 4 (.mv (.c (.bool false)))] [0,1,2]) (.seq (.av [ρ 5 1,μ 6 0,ι 7 6 5 6,φ 8 2 7,ρ 9 8,γ 10 .eql 9 2,μ 11 10,Φ 12 0 2 11 true,Ρ 13 12 11 true,Ρ 14 1 11 true,Μ 15 0 11 true,τ 16 (.aY 6 (.t 14) (.t 15)) 11 true,Φ 17 0 16 11 true,Ρ 18 17 11 true,τ 19 (.index (.t 13) (.t 18)) 11 true,τ 20 (.bin .eql (.t 19) (.c (.int .u8 (.ofNat 45)))) 11 true,ξ 21 11 20,μ 4 21] [] [] [4]) .ret)),false⟩
def f134:aj:=⟨[.t 5],(.seq (.region [σ 5 (.mv (.c (.bool false)))] [0,1,2,3]) (.seq (.av [ρ 6 1,μ 7 0,β 8 .geq 6 7,μ 9 8,Ρ 10 2 9 false,Ρ 11 3 9 false,Ρ 12 1 9 false,Μ 13 0 9 false,τ 14 (.call 135 [.t 11,.t 12,.t 13]) 9 false,τ 15 (.bz (.t 10) [.t 14]) 9 false,ζ 16 9 15,μ 5 16] [] [] [5]) .ret)),false⟩
def f135:aj:=⟨[.cell 6 8 true],(.seq (.region [σ 6 (.alloc [δ,δ,δ,δ,δ,δ,δ,(.bool false)])] [0,1,2,6]) (.seq (.region [μ 10 0,μ 11 1,μ 12 2,σ 13 (.call 23 [.t 10,.t 11,.t 12]),μ 9 13,ε 14 9 0,ε 15 9 1,μ 7 14,μ 8 15] [0,1,2,6,7]) (.seq (.av [μ 16 0,μ 17 1,ι 18 6 16 17,φ 19 0 18,ρ 20 19,μ 21 0,μ 22 2,γ 23 .sub 22 1,ι 24 6 21 23,φ 25 1 24,ρ 26 25,μ 27 7,σ 28 (.build [δ,δ,δ,δ,δ,δ,δ,(.bool false)] [(0,1,(κ 1)),(1,1,(.t 20)),(2,1,(.t 26)),(3,1,(.t 27))]),ω 8 6 28] [] [] [6]) .ret))),true⟩
def f136:aj:=⟨[.t 2],(.seq (.region [σ 1 (.box 6 (.t 0)),σ 2 (.mv (.c (.bool false)))] [1]) (.seq (.region [φ 3 2 1,ρ 4 3,γ 5 .neq 4 3,μ 6 5,Φ 7 2 1 6 true,Ρ 8 7 6 true,τ 9 (.bin .neq (.t 8) (κ 4)) 6 true,ξ 10 6 9,μ 11 10,Φ 12 2 1 11 true,Ρ 13 12 11 true,τ 14 (.bin .neq (.t 13) (κ 5)) 11 true,ξ 15 11 14,μ 2 15] [2]) .ret)),true⟩
def f137:aj:=⟨[.cell 2 8 true],(.seq (.region [σ 1 (.box 6 (.t 0)),σ 2 (.alloc [δ,δ,δ,δ,δ,δ,δ,(.bool false)])] [1,2]) (.seq (.seq (.region [φ 3 2 1,ρ 4 3] [1,2,4]) (.block 0 (.seq (.region [γ 6 .eql 4 3,μ 5 6] [1,2,4,5]) (.cond (.t 5) (.seq (.region [φ 7 0 1,ρ 8 7,φ 9 1 1,ρ 10 9,φ 11 4 1,ρ 12 11,φ 13 4 1,ρ 14 13,γ 15 .quo 14 2,φ 16 4 1,ρ 17 16,γ 18 .quo 17 3,σ 19 (.build [δ,δ,δ,δ,δ,δ,δ,(.bool false)] [(0,1,(κ 2)),(1,1,(.t 8)),(2,1,(.t 10)),(3,1,(.t 12)),(4,1,(.t 15)),(5,1,(.t 18))]),ω 8 2 19] [2]) .ret) (.seq (.region [γ 21 .eql 4 4,μ 20 21] [1,2,20]) (.cond (.t 20) (.seq (.region [φ 22 0 1,ρ 23 22,φ 24 1 1,ρ 25 24,σ 26 (.build [δ,δ,δ,δ,δ,δ,δ,(.bool false)] [(0,1,(κ 4)),(1,1,(.t 23)),(2,1,(.t 25))]),ω 8 2 26] [2]) .ret) .skip)))))) (.seq (.av [φ 27 0 1,ρ 28 27,φ 29 1 1,ρ 30 29,φ 31 3 1,ρ 32 31,σ 33 (.call 138 [.t 32]),σ 34 (.build [δ,δ,δ,δ,δ,δ,δ,(.bool false)] [(0,1,(κ 3)),(1,1,(.t 28)),(2,1,(.t 30)),(3,1,(.t 33)),(6,1,(κ 50)),(7,1,(.c (.bool true)))]),ω 8 2 34] [] [] [2]) .ret))),true⟩
def f138:aj:=⟨[.t 2],(.seq (.region [η 2 0] [0]) (.seq (.region [μ 6 0,σ 7 (.call 17 [(.c (.str [45])),.t 6]),μ 5 7,ε 8 5 0,ε 9 5 1,μ 3 8,μ 4 9] [3]) (.seq (.region [μ 10 3,μ 2 10] [2]) .ret))),true⟩
def f139:aj:=⟨[.cell 4 2 true,.t 5],(.seq (.region [σ 4 (.alloc [δ,δ]),η 5 0] [0,1,4]) (.seq (.seq (.region [μ 7 0,σ 8 (.call 145 [.t 7]),μ 6 8] [0,1,4,6]) (.seq (.region [μ 9 6,γ 10 .neq 9 0] [0,1,4,6,10]) (.cond (.t 10) (.seq (.region [σ 11 (.build [δ,δ] []),μ 12 6,ω 2 4 11,μ 5 12] [4,5]) .ret) .skip))) (.seq (.seq (.region [μ 13 1,γ 14 .lss 13 0,μ 15 14,Μ 16 1 15 false,τ 17 (.bin .gtr (.t 16) (κ 8190)) 15 false,ζ 18 15 17] [0,1,4,18]) (.cond (.t 18) (.seq (.region [σ 19 (.build [δ,δ] []),ω 2 4 19,η 5 5] [4,5]) .ret) .skip)) (.seq (.region [μ 20 0,μ 21 1,σ 22 (.call 146 [.t 20,.t 21]),ω 2 4 22,η 5 0] [4,5]) .ret)))),true⟩
def f140:aj:=⟨[.t 2],(.seq (.region [σ 1 (.box 2 (.t 0)),σ 2 (.mv (.c (.bool false)))] [1]) (.seq (.region [φ 3 0 1,ρ 4 3,γ 5 .geq 4 0,μ 6 5,Φ 7 0 1 6 true,Ρ 8 7 6 true,τ 9 (.bin .leq (.t 8) (κ 4095)) 6 true,ξ 10 6 9,μ 11 10,Φ 12 1 1 11 true,Ρ 13 12 11 true,τ 14 (.bin .geq (.t 13) (κ 0)) 11 true,ξ 15 11 14,μ 16 15,Φ 17 1 1 16 true,Ρ 18 17 16 true,τ 19 (.bin .leq (.t 18) (κ 4095)) 16 true,ξ 20 16 19,μ 2 20] [2]) .ret)),true⟩
def f141:aj:=⟨[.t 4],(.seq (.region [σ 4 (.mv (.c (.bool false)))] [0,1]) (.seq (.seq (.region [μ 5 1,μ 6 0,σ 7 (.aX (.t 6)),φ 8 0 7,ρ 9 8,ν 10 .slice 9,β 11 .eql 5 10,μ 12 11,Μ 13 0 12 false,τ 14 (.aX (.t 13)) 12 false,Φ 15 0 14 12 false,Ρ 16 15 12 false,Μ 17 1 12 false,τ 18 (.aY 8 (.t 16) (.t 17)) 12 false,Φ 19 0 18 12 false,Ρ 20 19 12 false,τ 21 (.bin .eql (.t 20) (κ 3)) 12 false,ζ 22 12 21] [0,1,22]) (.cond (.t 22) (.seq (.region [σ 4 (.mv (.c (.bool true)))] [4]) .ret) .skip)) (.seq (.region [μ 23 0,σ 24 (.aX (.t 23)),φ 25 0 24,ρ 26 25,μ 27 1,ι 28 8 26 27,φ 29 0 28,ρ 30 29,γ 31 .eql 30 2,μ 32 31,Μ 33 1 32 true,τ 34 (.bin .gtr (.t 33) (κ 0)) 32 true,ξ 35 32 34,μ 36 35,Μ 37 0 36 true,τ 38 (.aX (.t 37)) 36 true,Φ 39 0 38 36 true,Ρ 40 39 36 true,Μ 41 1 36 true,τ 42 (.bin .sub (.t 41) (κ 1)) 36 true,τ 43 (.aY 8 (.t 40) (.t 42)) 36 true,Φ 44 0 43 36 true,Ρ 45 44 36 true,τ 46 (.bin .neq (.t 45) (κ 2)) 36 true,ξ 47 36 46,μ 4 47] [4]) .ret))),false⟩
def f142:aj:=⟨[.t 6],(.seq (.region [η 6 0] [0,1,2]) (.seq (.seq (.region [μ 9 0,σ 10 (.aX (.t 9)),φ 11 0 10,ρ 12 11,μ 13 1,ι 14 8 12 13,φ 15 0 14,ρ 16 15] [0,1,2,16]) (.block 0 (.seq (.seq (.region [γ 18 .eql 16 1,μ 17 18] [0,1,2,16,17]) (.cond (.t 17) .skip (.region [γ 19 .eql 16 2,μ 17 19] [0,1,2,16,17]))) (.cond (.t 17) (.seq (.region [μ 20 2,μ 21 0,σ 22 (.aX (.t 21)),φ 23 0 22,ρ 24 23,μ 25 1,ι 26 8 24 25,φ 27 3 26,ρ 28 27,β 29 .add 20 28,μ 6 29] [6]) .ret) (.seq (.region [γ 31 .eql 16 4,μ 30 31] [0,1,2,30]) (.cond (.t 30) (.seq (.region [μ 33 0,σ 34 (.aX (.t 33)),φ 35 0 34,ρ 36 35,μ 37 1,μ 38 1,γ 39 .add 38 1,σ 40 (.slice false 8 (.t 36) (some (.t 37)) (some (.t 39)) none),μ 41 2,σ 42 (.min [.t 41,(κ 4095)]),σ 43 (.call 110 [.t 40,(κ 0),(κ 1),.t 42]),μ 32 43,ε 44 32 0,ε 45 32 1,μ 7 44,μ 8 45] [2,7]) (.seq (.seq (.region [μ 46 2,γ 47 .gtr 46 4095] [2,7,47]) (.cond (.t 47) (.seq (.region [μ 48 2,γ 49 .quo 48 48,γ 50 .add 49 1,γ 51 .mul 50 48,μ 6 51] [6]) .ret) .skip)) (.seq (.region [μ 52 2,μ 53 7,β 54 .add 52 53,μ 6 54] [6]) .ret))) .skip)))))) (.seq (.region [μ 55 2,μ 6 55] [6]) .ret))),false⟩
def EU:RC:=(.seq (.region [β 12 .lss 11 10] [3,9,10,11,12]) (.seq (.cond (.t 12) .skip (.exit 0)) (.seq (.block 1 (.seq (.region [ι 13 2 9 11,Λ 14 2 13,σ 5 (.alloc [δ,δ]),ω 2 5 14] [3,5,9,10,11]) (.seq (.seq (.region [φ 15 0 5,ρ 16 15,μ 17 3,β 18 .leq 16 17,μ 19 18,Φ 20 0 5 19 false,Ρ 21 20 19 false,τ 22 (.bin .gtr (.t 21) (κ 4095)) 19 false,ζ 23 19 22,μ 24 23,Φ 25 1 5 24 false,Ρ 26 25 24 false,τ 27 (.bin .neq (.t 26) (κ 0)) 24 false,Μ 28 27 24 false,Φ 29 1 5 28 true,Ρ 30 29 28 true,τ 31 (.bin .neq (.t 30) (κ 2)) 28 true,τ 32 (.pick (.t 28) (.t 31) (.c (.bool false))) 24 false,Μ 33 32 24 false,Φ 34 1 5 33 true,Ρ 35 34 33 true,τ 36 (.bin .neq (.t 35) (κ 3)) 33 true,τ 37 (.pick (.t 33) (.t 36) (.c (.bool false))) 24 false,ζ 38 24 37] [5,9,10,11,38]) (.cond (.t 38) (.seq (.region [η 2 2] [2]) .ret) .skip)) (.region [φ 39 0 5,ρ 40 39,μ 3 40] [3,9,10,11])))) (.region [γ 41 .add 11 1,μ 11 41] [3,9,10,11]))))
def wN:RC:=.loop [3,9,10,11] EU
def f145:aj:=⟨[.t 2],(.seq (.region [η 2 0] [0]) (.seq (.seq (.region [μ 6 0,ν 7 .slice 6,γ 8 .gtr 7 16] [0,8]) (.cond (.t 8) (.seq (.region [η 2 2] [2]) .ret) .skip)) (.seq (.region [η 3 0] [0,3]) (.seq (.seq (.region [μ 9 0,ν 10 .slice 9,η 11 0] [3,9,10,11]) (.block 0 wN)) (.seq (.region [η 2 0] [2]) .ret))))),true⟩
end Go.D.Tab
end
