import Derived.Laws.IdiomStrings
import Derived.Laws.MakeOwn
import Derived.Lib.Builder
import Derived.Lib.UnsafeStr
import Derived.Lib.FrozenHead
import Derived.Lib.MakeNoZero
import Derived.Lib.Bytealg
import Derived.Test.YthhpkjnogjjeeaaGreatDoorChecked
import Derived.KernelRfl
import Derived.Test.YthhpkjnogjjeeaaGreatDoorM0
/-! Texts 1 of this claim, joined. -/
set_option linter.unnecessarySimpa false
set_option linter.unusedSimpArgs false
set_option linter.unusedVariables false
open _root_.Array renaming getD_eq_getD_getElem? → aag, getElem?_append_left → aa7, getElem?_eq_getElem → aa9, getElem?_eq_some_iff → aaZ, length_toList → aa2
open _root_.Bool renaming and_eq_true → aab, false_eq_true → aam
open _root_.Int renaming ofNat → abh
open _root_.List renaming all_eq_true → aaf, append_assoc → aas, getD_eq_getElem?_getD → aak, getElem?_append_left → aaj, getElem?_append_right → aaq, getElem?_cons_zero → aat, getElem?_eq_getElem → aac, getElem?_eq_some_iff → aad, getElem?_map → abc, getElem?_set_ne → aax, getElem?_set_self → aa6, getElem?_toArray → aba, getElem_append_left → aaR, getElem_append_right → aaO, getElem_mem → aau, getElem_of_mem → aa1, length_append → aah, length_cons → aaw, length_map → aaU, length_nil → aaX, map_cons → aaP, map_nil → abf, mem_append → aaG, mem_map → aaQ, mem_of_getElem? → aaN, mem_of_mem_drop → aar, mem_of_mem_take → aaD, mem_range → abq, range → aal, take_of_length_le → aa0
open _root_.Nat renaming add_assoc → abo, add_mul → aaI, add_zero → aaV, beq → aaz, eq_of_beq_eq_true → aaF, le_of_ble_eq_true → aaB, le_refl → aai, le_trans → abk, lt_irrefl → aaT, lt_of_lt_of_le → abb, mul_le_mul_right → aay, zero_add → aav
open _root_.Option renaming getD_some → abg, isSome_iff_exists → aaS, map_eq_some_iff → aae, map_none → abm, some → aaa
open _root_.UInt8 renaming ofNat → abj
section
namespace Go.D
open Go.RowKit
variable {P:Program} {fm:FM}
theorem qQ {t e:TypeId} {n len:Nat} {i:TypeInfo} {x j:X} {xo jo:Operand} {o:Oper} (ho:o.op=.indexAddr t xo jo) (ht:P.underlying t=some (.array len e)) (hi:P.info? e=some i) (hn:i.size=n) (hx:aZ fm x xo) (hj:aZ fm j jo):au P fm (.cP n len x j) o:=by
 refine ax fun CR G w0 st w fr a v st' hs hf hrun=>?_;simp only[aq] at hrun;have hxv:=hx.ev (a:=a) hf;have hjv:=hj.ev (a:=a) hf;generalize hx0:a.eval xo=x0 at hxv;generalize hj0:a.eval jo=j0 at hjv;have hsz:(sizeOf e).run P w=.ok n w:=by unfold sizeOf typeInfo;simp[hi,hn]
 split at hrun
 · rename_i b off k q hb hq;rw[hb] at hxv;rw[hq] at hjv;split at hrun
   · rename_i hc;obtain⟨hc1,hc2⟩:=hc;simp only[aaa.injEq,Prod.mk.injEq] at hrun;obtain⟨rfl,rfl⟩:=hrun;cases hjv
     cases hxv with
     | ptr _ _ r hm=>
       refine⟨rfl,.pointer (some ⟨r,off+q.toNat*n,none⟩),?_,.ptr b (off+q.toNat*n) r hm⟩;unfold execOp;simp only[ho,hx0,hj0];refine aa ?_;unfold Instr.indexAt;simp[asIntOf,run_underlying ht,hc1,hc2,hsz,Addr.add_lit,Instr.sureAddr]
   · cases hrun
 · rename_i cs k q hb hq;rw[hb] at hxv;rw[hq] at hjv;split at hrun
   · rename_i hc;obtain⟨hc1,hc2,hc3⟩:=hc;simp only[aaa.injEq,Prod.mk.injEq] at hrun;obtain⟨rfl,rfl⟩:=hrun;cases hjv
     cases hxv with
     | bC _ r off f hr hcc hp=>
       refine⟨rfl,.pointer (some ⟨r,off+q.toNat*n,none⟩),?_,.bC _ r (off+q.toNat*n) (fun i=>f (q.toNat*n+i)) (fun i hi=>?_) (fun i hi=>?_) ?_⟩
       · unfold execOp;simp only[ho,hx0,hj0];refine aa ?_;unfold Instr.indexAt;simp[asIntOf,run_underlying ht,hc1,hc2,hsz,Addr.add_lit,Instr.sureAddr]
       · simp only[List.length_drop] at hi;rw[abo];exact hr _ (by omega)
       · simp only[List.length_drop] at hi;rw[List.getElem_drop];exact hcc _ (by omega)
       · rw[aaf] at hp ⊢;exact fun y hy=>hp y (aar hy)
   · cases hrun
 · cases hrun
theorem qA {t e:TypeId} {n len:Nat} {ag:Bool} {x j:X} {xo jo:Operand} {o:Oper} (ho:o.op=.index t xo jo) (ht:P.underlying t=some (.array len e)) (hty:g9 P e n ag) (hx:aZ fm x xo) (hj:aZ fm j jo):au P fm (.gL n ag len x j) o:=by
 refine ax fun CR G w0 st w fr a v st' hs hf hrun=>?_;simp only[aq] at hrun;have hxv:=hx.ev (a:=a) hf;have hjv:=hj.ev (a:=a) hf;generalize hx0:a.eval xo=x0 at hxv;generalize hj0:a.eval jo=j0 at hjv;split at hrun
 · rename_i vs k q hb hq;rw[hb] at hxv;rw[hq] at hjv;split at hrun
   · rename_i hc;obtain⟨hc1,hc2⟩:=hc;simp only[aae] at hrun;obtain⟨u,hu,hrun⟩:=hrun;cases hrun;cases hjv
     cases hxv with
     | agg _ cs hl hcc=>
       obtain⟨y,g1,g2⟩:=s5 (P:=P) (w:=w) hl hcc hu hty;refine⟨rfl,y,?_,g2⟩;unfold execOp;simp only[ho,hx0,hj0];refine aa ?_;obtain⟨⟨d,hd,hag⟩,⟨i,hi,hsz⟩,h1⟩:=hty;have hsz:(sizeOf e).run P w=.ok n w:=by unfold sizeOf typeInfo;simp[hi,hsz]
       unfold Instr.index;simp[asIntOf,run_underlying ht,hc1,hc2,hsz,g1]
   · cases hrun
 · cases hrun
theorem eM {w:World} {r off q:Nat} (f:Nat→Value) (h:∀ i,i<q→w.cell? ⟨r,off+i,none⟩=some (f i)):(loadCells ⟨r,off,none⟩ q).run P w=.ok ((aal q).map f).toArray w:=
 run_loadCells (P:=P) w ⟨r,off,none⟩ q f (fun j hj=>by rw[Addr.add_lit];exact h j hj)
structure wR (P:Program) (fm:FM) (G:Gh) (w:World) (n m:Nat) (news:List DV) (x:Value):Prop where
 len:(Builtin.lenOf x).run P w=.ok m w
 length:news.length=m*n
 aT:news.all DV.aT=true
 cells:∀ k w',k≤m→Below w.heap.size w w'→∃ vs,(Builtin.firstCells n k x).run P w'=.ok vs w'∧vs.size=k*n∧(∀ i (h:i<news.length),i<k*n→Rel fm G (news[i]) (vs.getD i undef))
theorem eC {CR:Nat→RC→Code→Prop} {G:Gh} {w0 w:World} {st:St} (hs:Sim fm CR G w0 st w) {n m:Nat} {news:List DV} {v:DV} {x:Value} (hv:Rel fm G v x) (h:bQ st n v=some (m,news)):wR P fm G w n m news x:=by
 unfold bQ at h;split at h
 · rename_i tag n' tk nn xs;split at h
   · rename_i hnn;subst hnn;simp only[aaa.injEq,Prod.mk.injEq] at h;obtain⟨rfl,rfl⟩:=h;cases hv;refine⟨rfl,by simp,rfl,fun k w' hk _=>⟨#[],rfl,by have h0:k=0:=Nat.le_zero.1 hk;subst h0;simp,fun i hi=>by simp at hi⟩⟩
   · rename_i hnn;split at h
     · rename_i hn';subst hn';simp only[aaa.injEq,Prod.mk.injEq] at h;obtain⟨rfl,rfl⟩:=h
       cases hv with
       | eF=>simp at hnn
       | list _ _ _ _ r off cap f hr hc hp hk hl hn=>
         have hfl:=cT xs n' hn;refine⟨rfl,hfl,bP hp,fun k w' hk hb=>?_⟩;have hkn:k*n'≤(flat xs).length:=by rw[hfl];exact aay _ hk
         have hcell:∀ i,i<k*n'→w'.cell? ⟨r,off+i,none⟩=some (f i):=by
          intro i hi;obtain⟨cs,t,fz,h1,h2⟩:=hs.ro r (off+i) (f i) (hr i (by omega));rw[cell?_cells ((hb.block r (get?_lt h1)).trans h1)];exact h2
         refine⟨_,eM f hcell,by simp,fun i hi hik=>?_⟩;rw[fy f _ i hik];exact hc i (by omega)
     · cases h
 · rename_i s;split at h
   · rename_i hn;subst hn;simp only[aaa.injEq,Prod.mk.injEq] at h;obtain⟨rfl,rfl⟩:=h
     cases hv with
     | str _ ba hba=>
       subst hba;have hsz:ba.data.toList.length=ba.size:=by rw[aa2];rfl
       refine⟨by rw[hsz];rfl,by simp,?_,fun k w' hk _=>⟨_,rfl,?_,fun i hi hik=>?_⟩⟩
       · rw[aaf];intro y hy;obtain⟨b,_,rfl⟩:=aaQ.1 hy;rfl
       · have:(ba.extract 0 k).data.size=k:=by
          have h1:(ba.extract 0 k).data.size=(ba.extract 0 k).size:=rfl;rw[h1,ByteArray.size_extract];omega
         rw[Array.size_map,this,Nat.mul_one]
       · have hi':i<ba.data.size:=by simpa using hi
         have hg:(ba.extract 0 k).data[i]? = some ba.data[i]:=by
          rw[ByteArray.data_extract];rw[Array.getElem?_extract];rw[if_pos (by omega),aav,aa9 hi']
         have:((ba.extract 0 k).data.map fun b=>Value.int .u8 b.toNat).getD i undef=.int .u8 ba.data[i].toNat:=by
          rw[aag,Array.getElem?_map,hg];rfl
         rw[this];simp only[List.getElem_map,Array.getElem_toList];exact .int _ _
   · cases h
 · rename_i n' ag b off len cap;split at h
   · rename_i hn';subst hn';split at h
     · rename_i g vs hb;split at h
       · rename_i hle;simp only[aaa.injEq,Prod.mk.injEq] at h;obtain⟨rfl,rfl⟩:=h
         cases hv with
         | hsl _ _ _ _ _ _ r c hm hcap=>
           have hbo:st.heap[b]? = some (.cells g vs):=by
            unfold St.cells at hb;split at hb
            · rename_i g' vs' e;simp only[aaa.injEq,Prod.mk.injEq] at hb;obtain⟨rfl,rfl⟩:=hb;exact e
            · cases hb
           obtain⟨r',ob,h1,h2,h3,h4⟩:=hs.obj b _ hbo rfl (hs.np hm);rw[hm] at h1;cases h1
           have key:∃ cs t fz,ob=.cells cs t fz∧vs.length≤cs.size∧(∀ i (h:i<vs.length),Rel fm G (vs[i]) (cs.getD i undef))∧vs.all DV.aT=true:=by
            cases g with
            | plain=>obtain⟨cs,t,fz,e,f1,f2,f3,f4⟩:=h3;exact⟨cs,t,fz,e,by omega,f2,f4⟩
            | typed ty=>obtain⟨cs,t,fz,e,_,f1,f2,f3,f4⟩:=h3;exact⟨cs,t,fz,e,by omega,f2,f4⟩
            | frz ty=>obtain⟨cs,t,fz,e,_,f1,_,f2,f3,f4⟩:=h3;exact⟨cs,t,fz,e,f1,f2,f4⟩
            | grown=>obtain⟨cs,t,fz,e,f1,_,f2,f3,f4⟩:=h3;exact⟨cs,t,fz,e,f1,f2,f4⟩
           obtain⟨cs,t,fz,rfl,k1,k2,k3⟩:=key;refine⟨rfl,by simp;omega,?_,fun k w' hk hbw=>?_⟩
           · rw[aaf] at k3 ⊢;exact fun y hy=>k3 y (aar (aaD hy))
           · have hkn:k*n'≤len*n':=aay _ hk
             have hcell:∀ i,i<k*n'→w'.cell? ⟨r,off+i,none⟩=some (cs.getD (off+i) undef):=by
              intro i hi;rw[cell?_cells ((hbw.block r (get?_lt h2)).trans h2)];rw[aag,aa9 (by omega)];rfl
             refine⟨_,eM _ hcell,by simp,fun i hi hik=>?_⟩;rw[fy _ _ i hik];have:=k2 (off+i) (by omega);simpa using this
       · cases h
     · cases h
   · cases h
 · cases h
theorem pC {G:Gh}:∀ (vs:List DV) (l:List UInt8) (xs:List Value),iD vs=some l→xs.length=vs.length→(∀ i (h:i<vs.length),Rel fm G (vs[i]) (xs.getD i undef))→∃ ns:List Int,xs=ns.map (Value.int .u8)∧ns.map (fun n=>abj n.toNat)=l
 | [],l,xs,h,hl,_=>by
   simp only[iD,aaa.injEq] at h;subst h;exact⟨[],by simpa using hl,rfl⟩
 | v::vs,l,[],_,hl,_=>by simp at hl
 | v::vs,l,x::xs,h,hl,hr=>by
   unfold iD at h;split at h
   · rename_i heq;cases heq
   · rename_i n r heq;simp only[List.cons.injEq] at heq;obtain⟨rfl,rfl⟩:=heq;simp only[aae] at h;obtain⟨l',h1,rfl⟩:=h;obtain⟨ns,e1,e2⟩:=pC vs l' xs h1 (by simpa using hl) (fun i hi=>hr (i+1) (Nat.succ_lt_succ hi));have h0:=hr 0 (by simp);simp only[List.getElem_cons_zero,List.getD_cons_zero] at h0;cases h0;exact⟨n::ns,by simp[e1],by simp[e2]⟩
   · cases h
theorem gq:∀ (ns:List Int) (r:ByteArray),ns.foldl (fun r n=>r.push (abj n.toNat)) r=⟨r.data++(ns.map fun n=>abj n.toNat).toArray⟩
 | [],r=>by simp
 | n::ns,r=>by
   simp only[List.foldl_cons];rw[gq ns];simp[ByteArray.push]
theorem xP {s d e:TypeId} {x:X} {xo:Operand} {o:Oper} (ho:o.op=.convert s d xo) (hs0:P.underlying s=some (.slice e)) (he:P.underlying e=some (.int .u8)) (hd:P.underlying d=some .string) (hx:aZ fm x xo):au P fm (.b2s x) o:=by
 refine ax fun CR G w0 st w fr a v st' hs hf hrun=>?_;simp only[aq] at hrun;have hxv:=hx.ev (a:=a) hf;split at hrun
 · rename_i m vs hnews;simp only[aae] at hrun;obtain⟨l,hl,hrun⟩:=hrun;cases hrun;split at hnews
   · cases hnews
   rename_i dv hdv hns;have hnr:=eC (P:=P) hs hxv hnews;generalize hx0:a.eval xo=x0 at hxv hnr;obtain⟨cs,g1,g2,g3⟩:=hnr.cells m w (aai _) (Below.refl _ w);have hlen:=hnr.length;obtain⟨ns,e1,e2⟩:=pC (fm:=fm) (G:=G) vs l cs.toList hl (by simp[g2,hlen]) (fun i hi=>by rw[aH];exact g3 i hi (by omega));have ecs:cs=(ns.map (Value.int .u8)).toArray:=by rw[← e1]
   have hsl:∀ (p:Option Addr) (n c:Nat),x0=.slice p n c→(execOp a.eval o).run P w=.ok (.value (.string ⟨l.toArray⟩)) w:=by
    intro p n c hp;subst hp;unfold execOp;simp only[ho,hx0];refine aa ?_;rw[run_convert_bytes_string w s d e p n c hs0 he hd]
    have hnm:n=m:=by
     have:=hnr.len;simp only[Builtin.lenOf,Sem.run_pure] at this;cases this;rfl
    subst hnm
    cases p with
    | none=>
      have h0:cs = #[]:=by
       simp only[Builtin.firstCells,Sem.run_pure] at g1;cases g1;rfl
      have:ns=[]:=by
       rw[h0] at e1
       cases ns with
       | nil=>rfl
       | cons _ _=>simp at e1
      subst this;simp only[abf] at e2;subst e2;rfl
    | some ad=>
      have g1':(loadCells ad n).run P w=.ok (ns.map (Value.int .u8)).toArray w:=by
       simp only[Builtin.firstCells,Nat.mul_one] at g1;rw[g1,ecs]
      rw[run_bytesToString w ad n c ns g1',gq,e2];simp
   generalize X.ev fr x=dv' at hxv hnews hns;unfold bQ at hnews;split at hnews
   · cases hxv with
     | eF=>exact⟨rfl,_,hsl _ _ _ rfl,.str _ _ rfl⟩
     | list=>exact⟨rfl,_,hsl _ _ _ rfl,.str _ _ rfl⟩
   · exact absurd rfl (hns _)
   · cases hxv with
     | hsl=>exact⟨rfl,_,hsl _ _ _ rfl,.str _ _ rfl⟩
   · cases hnews
 · cases hrun
theorem gS (s:ByteArray) (c i:Nat) (h:i<s.data.toList.length):(bytesRow s c)[i]? = some (.int .u8 (s.data.toList[i]).toNat):=by
 have hi:i<s.data.size:=by simpa using h
 unfold bytesRow;rw[aa7 (by simpa using hi),Array.getElem?_map,aa9 hi];simp
theorem oD (s:ByteArray) (c:Nat) (h:s.size≤c):(bytesRow s c).size=c:=by
 have:s.data.size=s.size:=rfl;simp[bytesRow,this];omega
theorem ic (s:List UInt8):flat (s.map fun b=>DV.int .u8 b.toNat)=s.map fun b=>DV.int .u8 b.toNat:=by
 induction s with
 | nil=>rfl
 | cons b s ih=>
   show DV.leaves (DV.int .u8 b.toNat)++flat (s.map fun b=>DV.int .u8 b.toNat)=_;rw[ih];rfl
theorem xz {s d e:TypeId} {x:X} {xo:Operand} {o:Oper} (ho:o.op=.convert s d xo) (hs0:P.underlying s=some .string) (hd:P.underlying d=some (.slice e)) (he:P.underlying e=some (.int .u8)) (hx:aZ fm x xo):au P fm (.s2b x) o:=by
 intro CR G w0 st w fr a v st' hs hf hrun;simp only[aq] at hrun;have hxv:=hx.ev (a:=a) hf;split at hrun
 · rename_i l hl;rw[hl] at hxv;simp only[aaa.injEq,Prod.mk.injEq] at hrun;obtain⟨rfl,rfl⟩:=hrun;generalize hx0:a.eval xo=x0 at hxv
   cases hxv with
   | str _ ba hba=>
     subst hba;have hc:=run_bytes_of_string (P:=P) w s d e ba hs0 hd he;generalize hcap:grownCap w ba.size 0 e=cap at hc;have hge:ba.size≤cap:=by rw[← hcap];exact grownCap_ge _ _ _ _
     have hsz:ba.data.toList.length=ba.size:=by rw[aa2];rfl
     have hb:Below w.heap.size w (w.drew.alloc (.cells (bytesRow ba cap) e ((bytesRow ba cap).size,(bytesRow ba cap).size+1))):=(Below.refl _ w).drew.alloc (aai _) _;have hnew:(w.drew.alloc (.cells (bytesRow ba cap) e ((bytesRow ba cap).size,(bytesRow ba cap).size+1))).heap[w.heap.size]? = some (.cells (bytesRow ba cap) e ((bytesRow ba cap).size,(bytesRow ba cap).size+1)):=World.alloc_heap_new w.drew _;have hs':=hs.fM hb hnew ba.size;have hle:=Gh.mE hs (bytesRow ba cap) ba.size;have hlist:=Rel.list (fm:=fm) (G:=G.fM w.heap.size (bytesRow ba cap) ba.size) st.cur 1 .no (ba.data.toList.map fun b=>DV.int .u8 b.toNat) w.heap.size 0 cap (fun i=>(bytesRow ba cap).getD i undef) ?_ ?_ ?_ trivial ?_ ?_
     · have e1:(ba.data.toList.map fun b=>DV.int .u8 b.toNat).length=ba.size:=by simp
       rw[e1] at hlist;refine⟨_,_,.slice (some ⟨w.heap.size,0,none⟩) ba.size cap,_,?_,.inl rfl,hle,hs',hlist⟩;unfold execOp;simp only[ho,hx0];exact aa hc
     · intro i hi;rw[ic] at hi;have hi':i<ba.data.toList.length:=by simpa using hi
       have hlt:i<ba.size:=by omega
       simp[Gh.fM,hlt,gS ba cap i hi',aag]
     · intro i hi;have hi0:=hi;rw[ic] at hi;have hi':i<ba.data.toList.length:=by simpa using hi
       have e1:(flat (ba.data.toList.map fun b=>DV.int .u8 b.toNat))[i]=.int .u8 (ba.data.toList[i]).toNat:=by
        apply aaa.inj;rw[← aac hi0,ic];rw[abc,aac hi'];rfl
       rw[e1,aag,gS ba cap i hi'];exact .int _ _
     · rw[ic,aaf];intro y hy;obtain⟨b,_,rfl⟩:=aaQ.1 hy;rfl
     · simpa[hsz] using hge
     · intro y hy;obtain⟨b,_,rfl⟩:=aaQ.1 hy;rfl
 · cases hrun
theorem xu {s d e:TypeId} {x:X} {xo:Operand} {o:Oper} (ho:o.op=.convert s d xo) (hs0:P.underlying s=some .string) (hd:P.underlying d=some (.slice e)) (he:P.underlying e=some (.int .u8)) (hx:aZ fm x xo):au P fm (.s2h x) o:=by
 intro CR G w0 st w fr a v st' hs hf hrun;simp only[aq] at hrun;have hxv:=hx.ev (a:=a) hf;split at hrun
 · rename_i l hl;rw[hl] at hxv;simp only[aaa.injEq,Prod.mk.injEq] at hrun;obtain⟨rfl,rfl⟩:=hrun;generalize hx0:a.eval xo=x0 at hxv
   cases hxv with
   | str _ ba hba=>
     subst hba;have hc:=run_bytes_of_string (P:=P) w s d e ba hs0 hd he;generalize hcap:grownCap w ba.size 0 e=cap at hc;have hge:ba.size≤cap:=by rw[← hcap];exact grownCap_ge _ _ _ _
     have hsz:ba.data.toList.length=ba.size:=by rw[aa2];rfl
     have hss:=oD ba cap hge
     have hs':=hs.drew.push (o:=.cells .grown (ba.data.toList.map fun b=>DV.int .u8 b.toNat)) (ob:=.cells (bytesRow ba cap) e ((bytesRow ba cap).size,(bytesRow ba cap).size+1)) cap
      ⟨bytesRow ba cap,e,_,rfl,by simpa[hss,hsz] using hge,by simp[Gh.push,hss],fun i hi=>by
       have hi':i<ba.data.toList.length:=by simpa using hi
       rw[aag,gS ba cap i hi'];simp only[List.getElem_map]
       exact .int _ _,fun i hi=>by omega,by
       rw[aaf];intro y hy;obtain⟨b,_,rfl⟩:=aaQ.1 hy
       rfl⟩ rfl
     have hle:G.le (G.push st.heap.length w.heap.size cap):=Gh.bm hs.bM;refine⟨_,_,.slice (some ⟨w.heap.size,0,none⟩) ba.size cap,_,?_,.inl rfl,hle,hs',?_⟩
     · unfold execOp;simp only[ho,hx0];exact aa hc
     · rw[hsz];exact .hsl _ _ _ _ _ _ _ _ (by simp[Gh.push]) ⟨hge,by simp[Gh.push]⟩
 · cases hrun
end Go.D
end
section
namespace Go.D
open Go.RowKit
variable {P:Program} {fm:FM}
theorem n5 {t e:TypeId} {n bytes:Nat} {ag:Bool} {zs:List DV} {i:TypeInfo} {l c:X} {lo co:Operand} {o:Oper} (ho:o.op=.makeSlice t lo co) (ht:P.underlying t=some (.slice e)) (hi:P.info? e=some i) (hn:i.size=n) (hby:i.bytes=bytes) (hz:a9 P e=some zs) (hzl:zs.length=n)
 (hl:aZ fm l lo) (hc:aZ fm c co):au P fm (.bZ n ag bytes zs l c) o:=by
 intro CR G w0 st w fr a v st' hs hf hrun;simp only[aq] at hrun;have hlv:=hl.ev (a:=a) hf;have hcv:=hc.ev (a:=a) hf;split at hrun
 · rename_i lv cv el ec;rw[el] at hlv;rw[ec] at hcv;split at hrun
   · rename_i hcond;obtain⟨c1,c2,c3,c4⟩:=hcond;simp only[aaa.injEq,Prod.mk.injEq] at hrun;obtain⟨rfl,rfl⟩:=hrun;generalize hl0:a.eval lo=l0 at hlv;generalize hc0:a.eval co=c0 at hcv;cases hlv;cases hcv;obtain⟨i',z,hi',hzz,hcc⟩:=bx hz;rw[hi] at hi';cases hi';obtain⟨zl,zr⟩:=bL (fm:=fm) hcc;have hle:G.le (G.push st.heap.length w.heap.size 0):=Gh.bm hs.bM;have hrd:(ay:Int)=140737488355328:=rfl;rw[hrd] at c3 c4;have hrun:=run_make (P:=P) w t e i z ht hi hzz .i64 .i64 lv cv c1 c2 (by rw[hby,Int.mul_comm];omega) (by omega);obtain⟨s1,s2⟩:=kO (fm:=fm) (G:=G.push st.heap.length w.heap.size 0) (zs:=zs) (z:=z.cells) (by simpa using zl) (fun i hi=>zr _ i hi) cv.toNat
     have hscal:(bk zs cv.toNat).all DV.aT=true:=by
      rw[aaf];intro x hx;obtain⟨j,hj,rfl⟩:=aa1 hx;have hj':=hj;rw[cM] at hj';have:=getElem?_repl zs cv.toNat j hj';rw[aac hj] at this;exact aaf.1 (bP (cm hcc)) _ (aaN this.symm)
     have hmade:madeCells z.cells (cv.toNat*i.size)=(Array.range (cv.toNat*zs.length)).map (z.cells[· % z.cells.size]!):=by rw[hn,hzl];rfl
     rw[← hmade] at s1 s2;have hs':=hs.push (o:=.cells .plain (bk zs cv.toNat)) (ob:=.cells (madeCells z.cells (cv.toNat*i.size)) e) 0 ⟨_,e,(0,0),rfl,s1,s2,fun i hi=>by simp,hscal⟩ rfl;refine⟨_,_,.slice (some ⟨w.heap.size,0,none⟩) lv.toNat cv.toNat,_,?_,.inl rfl,hle,hs',.hsl _ _ _ _ _ _ _ _ (by simp[Gh.push]) ⟨rfl,by omega⟩⟩;unfold execOp;simp only[ho,hl0,hc0];exact aa hrun
   · cases hrun
 · cases hrun
theorem ou {e:TypeId} {zs:List DV} {o:Oper} (ho:o.op=.alloc e) (hz:a9 P e=some zs):im P fm (.alloc zs) o:=by
 obtain⟨i,z,hi,hzz,hc⟩:=bx hz;intro CR G w0 st w fr a b v ob hs hf hfree;simp only[gv,aaa.injEq,Prod.mk.injEq] at hfree;obtain⟨rfl,rfl⟩:=hfree;obtain⟨hl,hr⟩:=bL (fm:=fm) hc;refine⟨rfl,.cells z.cells e,.pointer (some ⟨w.heap.size,0,none⟩),_,?_,.inl rfl,fun G' hG'=>⟨⟨z.cells,e,(0,0),rfl,by simpa using hl,fun i hi=>by rw[← aH];exact hr _ i hi,fun i hi=>by simp,bP (cm hc)⟩,.ptr _ _ _ hG'⟩⟩;unfold execOp;simp only[ho];refine aa ?_;unfold Instr.alloc;simp only[Sem.run_bind,j7 hi hzz,Result.andThen_ok];rfl
theorem n7 {t:TypeId} {o:Oper} (ho:o.op=.makeMap t none):im P fm .iz o:=by
 intro CR G w0 st w fr a b v ob hs hf hfree;simp only[gv,aaa.injEq,Prod.mk.injEq] at hfree;obtain⟨rfl,rfl⟩:=hfree;refine⟨rfl,.map #[] 0,.map (some w.heap.size),_,?_,.inl rfl,fun G' hG'=>⟨⟨#[],0,rfl,rfl,fun i k v hi=>by simp at hi⟩,.map _ _ hG'⟩⟩;unfold execOp;simp only[ho,abm];exact aa (by simp[Instr.makeMap])
theorem l3 {t e:TypeId} {n bytes:Nat} {ag:Bool} {zs:List DV} {i:TypeInfo} {l c:X} {lo co:Operand} {o:Oper} (ho:o.op=.makeSlice t lo co) (ht:P.underlying t=some (.slice e)) (hi:P.info? e=some i) (hn:i.size=n) (hby:i.bytes=bytes) (hz:a9 P e=some zs) (hzl:zs.length=n)
 (hl:aZ fm l lo) (hc:aZ fm c co):im P fm (.bZ n ag bytes zs l c) o:=by
 intro CR G w0 st w fr a b v ob hs hf hfree;simp only[gv] at hfree;have hlv:=hl.ev (a:=a) hf;have hcv:=hc.ev (a:=a) hf;split at hfree
 · rename_i lv cv el ec;rw[el] at hlv;rw[ec] at hcv;split at hfree
   · rename_i hcond;obtain⟨c1,c2,c3,c4⟩:=hcond;simp only[aaa.injEq,Prod.mk.injEq] at hfree;obtain⟨rfl,rfl⟩:=hfree;generalize hl0:a.eval lo=l0 at hlv;generalize hc0:a.eval co=c0 at hcv;cases hlv;cases hcv;obtain⟨i',z,hi',hzz,hcc⟩:=bx hz;rw[hi] at hi';cases hi';obtain⟨zl,zr⟩:=bL (fm:=fm) hcc;have hrd:(ay:Int)=140737488355328:=rfl;rw[hrd] at c3 c4;have hrun:=run_make (P:=P) w t e i z ht hi hzz .i64 .i64 lv cv c1 c2 (by rw[hby,Int.mul_comm];omega) (by omega)
     have hscal:(bk zs cv.toNat).all DV.aT=true:=by
      rw[aaf];intro x hx;obtain⟨j,hj,rfl⟩:=aa1 hx;have hj':=hj;rw[cM] at hj';have:=getElem?_repl zs cv.toNat j hj';rw[aac hj] at this;exact aaf.1 (bP (cm hcc)) _ (aaN this.symm)
     have hmade:madeCells z.cells (cv.toNat*i.size)=(Array.range (cv.toNat*zs.length)).map (z.cells[· % z.cells.size]!):=by rw[hn,hzl];rfl
     refine⟨rfl,.cells (madeCells z.cells (cv.toNat*i.size)) e,.slice (some ⟨w.heap.size,0,none⟩) lv.toNat cv.toNat,_,?_,.inl rfl,fun G' hG'=>?_⟩
     · unfold execOp;simp only[ho,hl0,hc0];exact aa hrun
     · obtain⟨s1,s2⟩:=kO (fm:=fm) (G:=G') (zs:=zs) (z:=z.cells) (by simpa using zl) (fun i hi=>zr _ i hi) cv.toNat;rw[← hmade] at s1 s2;exact⟨⟨_,e,(0,0),rfl,s1,s2,fun i hi=>by simp,hscal⟩,.hsl _ _ _ _ _ _ _ _ hG' ⟨rfl,by omega⟩⟩
   · cases hfree
 · cases hfree
def Gh.c9 (G:Gh) (t s r len cap n:Nat):Gh:={ G with aY:=fun t' s'=>if t'=t∧s'=s then some (r,len,cap,n) else G.aY t' s' }
theorem Sim.z8 {CR:Nat→RC→Code→Prop} {G:Gh} {w0 w:World} {st:St} (hs:Sim fm CR G w0 st w) {t s:Nat} (h:∀ s',st.aO[t]? = some s'→s'<s):G.aY t s=none:=by
 cases e:G.aY t s with
 | none=>rfl
 | some x=>
   obtain⟨s',h1,h2⟩:=hs.aY t s x e;have:=h s' h1;omega
theorem Gh.lg {CR:Nat→RC→Code→Prop} {G:Gh} {w0 w:World} {st:St} (hs:Sim fm CR G w0 st w) {t s:Nat} (h:∀ s',st.aO[t]? = some s'→s'<s) (r len cap n:Nat):G.le (G.c9 t s r len cap n):=by
 have hn:=hs.z8 h;refine⟨⟨fun _ _ _ x=>x,fun _ _ x=>x,fun t' s' x hx=>?_,fun _ _ _=>rfl⟩,fun _ x=>x,fun _ x=>x,rfl,fun _ _ _=>rfl,rfl,rfl,rfl⟩;simp only[Gh.c9];rw[if_neg]
 · exact hx
 · rintro⟨rfl,rfl⟩;rw[hn] at hx;cases hx
theorem get?_append_cases {α:Type} {l:List α} {x y:α} {t:Nat} (h:(l++[x])[t]? = some y):(t<l.length∧l[t]? = some y)∨(t=l.length∧y=x):=by
 rcases getElem?_push_cases _ _ _ _ h with h|h
 · exact .inr h
 · exact .inl h
theorem Sim.A2 {CR:Nat→RC→Code→Prop} {G:Gh} {w0 w:World} {st:St} (hs:Sim fm CR G w0 st w) {t s r len cap n:Nat} {aO:List Nat} {cs:Array Value} {ty:TypeId}
 (hold:∀ s',st.aO[t]? = some s'→s'<s) (hnew:aO[t]? = some s) (hoth:∀ u x,u≠t→(aO[u]? = some x↔st.aO[u]? = some x))
 (hn:0<n) (hlc:len≤cap) (hrow:w.heap[r]? = some (.cells cs ty (0,0))) (hsz:cs.size=cap*n) (hro:∀ i,len*n≤i→G.ro r i=none)
 (hobj:∀ b o,st.heap[b]? = some o→o.bN=false→G.mu b≠some r) (hfl:st.aF≤t→G.floor≤r)
 (hdis:∀ u x y,u≠t→st.aO[u]? = some x→G.aY u x=some y→y.1≠r) :
 Sim fm CR (G.c9 t s r len cap n) w0 { st with aO:=aO } w:=by
 have hle:=(Gh.lg hs hold r len cap n).toSub;have hh:∀ u x,u≠t→(G.c9 t s r len cap n).aY u x=G.aY u x:=fun u x hu=>by simp only[Gh.c9];rw[if_neg (fun h=>hu h.1)]
 have hh':(G.c9 t s r len cap n).aY t s=some (r,len,cap,n):=by simp[Gh.c9]
 refine { bD:=hs.bD,bu:=hs.bu,obj:=?_,ro:=hs.ro,cB:=hs.cB,tok:=?_,a0:=?_,aY:=?_,dfr:=hs.dfr,lps:=hs.lps,aw:=hs.aw,below:=hs.below,base:=hs.base,aF:=hs.aF,bg:=hs.bg,aQ:=hs.aQ,env:=hs.env }
 · intro b o ho hg hpd;obtain⟨r',ob,h1,h2,h3,h4⟩:=hs.obj b o ho hg hpd;exact⟨r',ob,h1,h2,h3.sub hle h1,h4⟩
 · intro u x hu;by_cases e:u=t
   · subst e;rw[hnew] at hu;cases hu;exact⟨r,len,cap,n,cs,ty,hh',hn,hlc,hrow,hsz,hro,hobj,hfl⟩
   · obtain⟨r',len',cap',n',cs',ty',h1,h2⟩:=hs.tok u x ((hoth u x e).1 hu);exact⟨r',len',cap',n',cs',ty',by rw[hh u x e];exact h1,h2⟩
 · intro u u' x x' y y' hu hu' hy hy' hyy;by_cases e:u=t<;>by_cases e':u'=t
   · rw[e,e']
   · subst e;rw[hnew] at hu;cases hu;rw[hh'] at hy;cases hy;rw[hh u' x' e'] at hy';exact absurd hyy.symm (hdis u' x' y' e' ((hoth u' x' e').1 hu') hy')
   · subst e';rw[hnew] at hu';cases hu';rw[hh'] at hy';cases hy';rw[hh u x e] at hy;exact absurd hyy (hdis u x y e ((hoth u x e).1 hu) hy)
   · rw[hh u x e] at hy;rw[hh u' x' e'] at hy';exact hs.a0 u u' x x' y y' ((hoth u x e).1 hu) ((hoth u' x' e').1 hu') hy hy' hyy
 · intro u x y hy;by_cases e:u=t
   · subst e;by_cases e2:x=s
     · subst e2;exact⟨x,hnew,aai _⟩
     · have:G.aY u x=some y:=by
        simp only[Gh.c9] at hy
        rwa [if_neg (fun h=>e2 h.2)] at hy
       obtain⟨s',h1,h2⟩:=hs.aY u x y this;exact⟨s,hnew,by have:=hold s' h1;omega⟩
   · rw[hh u x e] at hy;obtain⟨s',h1,h2⟩:=hs.aY u x y hy;exact⟨s',(hoth u s' e).2 h1,h2⟩
theorem Sim.dy {CR:Nat→RC→Code→Prop} {G:Gh} {w0 w:World} {st:St} (hs:Sim fm CR G w0 st w):∀ b o,st.heap[b]? = some o→o.bN=false→G.mu b≠some w.heap.size:=by
 intro b o ho hg e;obtain⟨r,ob,h1,h2,_⟩:=hs.obj b o ho hg (hs.np e);rw[e] at h1;cases h1;exact absurd (get?_lt h2) (aaT _)
theorem Sim.BE {CR:Nat→RC→Code→Prop} {G:Gh} {w0 w:World} {st:St} (hs:Sim fm CR G w0 st w):∀ u x y,st.aO[u]? = some x→G.aY u x=some y→y.1≠w.heap.size:=by
 intro u x y hu hy e;obtain⟨r,len,cap,n,cs,ty,h1,h2,h3,h4,h5⟩:=hs.tok u x hu;rw[hy] at h1;cases h1;simp only at e;rw[e] at h4;exact absurd (get?_lt h4) (aaT _)
theorem Sim.D8 {CR:Nat→RC→Code→Prop} {G:Gh} {w0 w:World} {st:St} (hs:Sim fm CR G w0 st w) (i:Nat):G.ro w.heap.size i=none:=by
 cases e:G.ro w.heap.size i with
 | none=>rfl
 | some v=>exact absurd (hs.xf e) (aaT _)
end Go.D
end
section
namespace Go.D
open Go.RowKit
variable {P:Program} {fm:FM}
def ew (P:Program) (u:TypeId):Bool:=match P.underlying u with | some (.slice _)=>true | some .string=>true | _=>false
theorem appArg {u:TypeId} (h:ew P u=true):(∃ e,P.underlying u=some (.slice e))∨P.underlying u=some .string:=by
 unfold ew at h;split at h
 · rename_i e he;exact .inl ⟨e,he⟩
 · rename_i he;exact .inr he
 · cases h
theorem cb {w w':World} {t u ty e:TypeId} {i:TypeInfo} {a:Option Addr} {sLen sCap m:Nat} {x:Value} {news:Array Value} (ht:P.underlying t=some (.slice e)) (hi:P.info? e=some i) (hu:ew P u=true)
 (hlen:(Builtin.lenOf x).run P w=.ok m w) (hfit:sLen+m≤sCap) (hnews:(Builtin.firstCells i.size m x).run P w=.ok news w)
 (hst:(match a with | some a=>storeCells (a.add (sLen*i.size)) news.toList | none=>pure ():Sem Unit).run P w=.ok () w') :
 (Builtin.append_ #[t,u] ty #[.slice a sLen sCap,x]).run P w=.ok (.slice a (sLen+m) sCap) w':=by
 have hsize:(sizeOf e).run P w=.ok i.size w:=by unfold sizeOf typeInfo;simp[hi]
 cases a with
 | none=>
   simp only[Sem.run_pure] at hst;cases hst;rcases appArg hu with ⟨e',hd⟩ | hd<;>simp[Builtin.append_,run_underlying ht,run_underlying hd,hsize,hlen,hfit,hnews]
 | some a=>
   simp only at hst;rcases appArg hu with ⟨e',hd⟩ | hd<;>simp[Builtin.append_,run_underlying ht,run_underlying hd,hsize,hlen,hfit,hnews,hst]
theorem cD {w:World} {t u ty e:TypeId} {i:TypeInfo} {z:Value} {a:Option Addr} {sLen sCap m:Nat} {x:Value} {olds news:Array Value} (ht:P.underlying t=some (.slice e)) (hi:P.info? e=some i) (hz:i.zero=some z) (hu:ew P u=true)
 (hlen:(Builtin.lenOf x).run P w=.ok m w) (hg:sCap<sLen+m) (hb:(sLen+m)*i.bytes≤140737488355328) (h63:sLen+m≤140737488355328)
 (holds:(Builtin.firstCells i.size sLen (.slice a sLen sCap)).run P w.drew=.ok olds w.drew) (hnews:(Builtin.firstCells i.size m x).run P w.drew=.ok news w.drew) :
 (Builtin.append_ #[t,u] ty #[.slice a sLen sCap,x]).run P w =
  .ok (.slice (some ⟨w.heap.size,0,none⟩) (sLen+m) (grownCap w (sLen+m) sCap e)) (w.drew.alloc (.cells (olds++news++Builtin.zeroCells z.cells (grownCap w (sLen+m) sCap e-(sLen+m))) e)):=by
 have hsize:(sizeOf e).run P w=.ok i.size w:=by unfold sizeOf typeInfo;simp[hi]
 have hn:¬ (sLen+m≤sCap):=by omega
 have h63':¬ (9223372036854775807<((sLen:Int)+(m:Int))):=by omega
 have h48':¬ (281474976710656<Builtin.nextslicecap (sLen+m) sCap*i.bytes):=by
  have:=growslice_fits (bytes:=i.bytes) hg hb;omega
 rcases appArg hu with ⟨e',hd⟩ | hd<;>simp[Builtin.append_,run_underlying ht,run_underlying hd,sizeOf,hlen,hn,h63',h48',Question.forced,typeInfo,zeroValue,hi,hz,holds,hnews,newRow,grownCap]
section
variable {CR:Nat→RC→Code→Prop} {G:Gh} {w0 w:World} {st:St}
def Gh.cJ (G:Gh) (r:Nat) (arr:Array Value) (lo hi:Nat):Gh:={ G with ro:=fun r' i=>if r'=r∧lo≤i∧i<hi then arr[i]? else G.ro r' i }
theorem Gh.jE (G:Gh) (r:Nat) (arr:Array Value) (lo hi:Nat) (hn:∀ i,lo≤i→i<hi→G.ro r i=none) (hr:G.floor≤r):G.le (G.cJ r arr lo hi):=by
 refine⟨⟨fun r' i v hv=>?_,fun _ _ x=>x,fun _ _ _ x=>x,fun _ _ _=>rfl⟩,fun _ x=>x,fun _ x=>x,rfl,fun r' i hv=>?_,rfl,rfl,rfl⟩
 · simp only[Gh.cJ];rw[if_neg]
   · exact hv
   · rintro⟨rfl,h1,h2⟩;rw[hn i h1 h2] at hv;cases hv
 · simp only[Gh.cJ];rw[if_neg];rintro⟨rfl,_⟩;omega
theorem Sim.cJ (h:Sim fm CR G w0 st w) {r:Nat} {arr:Array Value} {ty:TypeId} {fz:Nat×Nat} (lo hi:Nat) (hn:∀ i,lo≤i→i<hi→G.ro r i=none) (hr:G.floor≤r) (hrow:w.heap[r]? = some (.cells arr ty fz))
 (hobj:∀ b o,st.heap[b]? = some o→o.bN=false→G.mu b≠some r)
 (htok:∀ u x y,st.aO[u]? = some x→G.aY u x=some y→y.1=r→hi≤y.2.1*y.2.2.2):Sim fm CR (G.cJ r arr lo hi) w0 st w:=by
 have hle:=(Gh.jE G r arr lo hi hn hr).toSub;refine { bD:=h.bD,bu:=h.bu,obj:=?_,ro:=?_,cB:=?_,tok:=?_,a0:=h.a0,aY:=h.aY,dfr:=h.dfr,lps:=h.lps,aw:=h.aw,below:=h.below,base:=h.base,aF:=h.aF,bg:=h.bg,aQ:=h.aQ,env:=h.env }
 · intro b o ho hg hpd;obtain⟨r',ob,h1,h2,h3,h4⟩:=h.obj b o ho hg hpd;exact⟨r',ob,h1,h2,h3.sub hle h1,h4⟩
 · intro r' i v hv;simp only[Gh.cJ] at hv;split at hv
   · rename_i e1;obtain⟨rfl,_,_⟩:=e1;exact⟨arr,ty,fz,hrow,hv⟩
   · exact h.ro r' i v hv
 · intro r' i v b o hv ho hg hm;simp only[Gh.cJ] at hv;split at hv
   · rename_i e1;obtain⟨rfl,_,_⟩:=e1;exact hobj b o ho hg hm
   · exact h.cB r' i v b o hv ho hg hm
 · intro u x hu;obtain⟨r',len,cap,n,cs,ty',h1,h2,h3,h4,h5,h6,h7,h8⟩:=h.tok u x hu;refine⟨r',len,cap,n,cs,ty',h1,h2,h3,h4,h5,fun i hi'=>?_,h7,h8⟩;simp only[Gh.cJ];rw[if_neg]
   · exact h6 i hi'
   · rintro⟨rfl,e1,e2⟩;have:=htok u x _ hu h1 rfl;simp only at this;omega
theorem Sim.vA (h:Sim fm CR G w0 st w) {r:Nat} {cs cs':Array Value} {ty:TypeId} {fz:Nat×Nat} (hrow:w.heap[r]? = some (.cells cs ty fz)) (hr:G.floor≤r)
 (hobj:∀ b o,st.heap[b]? = some o→o.bN=false→G.mu b≠some r) (hsz:cs'.size=cs.size) (hsame:∀ i v,G.ro r i=some v→cs'[i]? = cs[i]?):Sim fm CR G w0 st (w.putObj r (.cells cs' ty fz)):=by
 have hlt:=get?_lt hrow;have hp:=fun k=>dB w r k (.cells cs' ty fz) hlt;refine { bD:=h.bD,bu:=h.bu,obj:=?_,ro:=?_,cB:=h.cB,tok:=?_,a0:=h.a0,aY:=h.aY,dfr:=?_,lps:=?_,aw:=?_,below:=?_,base:=h.base,aF:=h.aF,bg:=h.bg,aQ:=h.aQ,env:=h.env }
 · intro b o ho hg hpd;obtain⟨r',ob,h1,h2,h3,h4⟩:=h.obj b o ho hg hpd;refine⟨r',ob,h1,?_,h3,h4⟩;rw[hp,if_neg]
   · exact h2
   · rintro rfl;exact hobj b o ho hg h1
 · intro r' i v hv;obtain⟨c,t,f,g1,g2⟩:=h.ro r' i v hv;by_cases e:r'=r
   · subst e;rw[hrow] at g1;cases g1;exact⟨cs',ty,fz,by rw[hp];simp,by rw[hsame i v hv];exact g2⟩
   · exact⟨c,t,f,by rw[hp,if_neg e];exact g1,g2⟩
 · intro u x hu;obtain⟨r',len,cap,n,c,t,h1,h2,h3,h4,h5,h6,h7,h8⟩:=h.tok u x hu;by_cases e:r'=r
   · subst e;rw[hrow] at h4;cases h4;exact⟨r',len,cap,n,cs',ty,h1,h2,h3,by rw[hp];simp,by rw[hsz];exact h5,h6,h7,h8⟩
   · exact⟨r',len,cap,n,c,t,h1,h2,h3,by rw[hp,if_neg e];exact h4,h5,h6,h7,h8⟩
 · intro r' hd;have:=h.dfr r' hd;rw[hp,if_neg]
   · exact this
   · rintro rfl;rw[hrow] at this;cases this
 · intro r' hd;obtain⟨l,hl⟩:=h.lps r' hd;refine⟨l,?_⟩;rw[hp,if_neg]
   · exact hl
   · rintro rfl;rw[hrow] at hl;cases hl
 · simpa[World.putObj] using h.aw
 · exact h.below.trans (gK _ _ _ hr)
theorem Sim.BD (h:Sim fm CR G w0 st w) (b:Nat) (hnp:G.aQ b=none):Sim fm CR G w0 { st with heap:=st.heap.set b .gone } w:=by
 have old:∀ k o,(st.heap.set b .gone)[k]? = some o→o.bN=false→k≠b∧st.heap[k]? = some o:=by
  intro k o hk hg;rcases getElem?_set_cases _ _ _ _ _ hk with ⟨rfl,rfl,_⟩ | h
  · cases hg
  · exact h
 refine { bD:=?_,bu:=?_,obj:=?_,ro:=h.ro,cB:=?_,tok:=?_,a0:=h.a0,aY:=h.aY,dfr:=h.dfr,lps:=h.lps,aw:=h.aw,below:=h.below,base:=h.base,aF:=h.aF,bg:=by simpa using h.bg,aQ:=?_,env:=h.env }
 · intro k x hk;simpa using h.bD k x hk
 · intro k k' x x' y hk hk' gx gx';exact h.bu k k' x x' y (old k x hk gx).2 (old k' x' hk' gx').2 gx gx'
 · intro k o hk hg hpd;exact h.obj k o (old k o hk hg).2 hg hpd
 · intro r i v k o hv hk hg;exact h.cB r i v k o hv (old k o hk hg).2 hg
 · intro u x hu;obtain⟨r',len,cap,n,c,t,h1,h2,h3,h4,h5,h6,h7,h8⟩:=h.tok u x hu;exact⟨r',len,cap,n,c,t,h1,h2,h3,h4,h5,h6,fun k o hk hg=>h7 k o (old k o hk hg).2 hg,h8⟩
 · intro k o hk;obtain⟨p1,p2⟩:=h.aQ k o hk;have:b≠k:=by rintro rfl;rw[hnp] at hk;cases hk
   exact⟨by rw[aax this];exact p1,p2⟩
theorem Sim.DK (h:Sim fm CR G w0 st w) {r:Nat} {o:HO} {ob:Obj} (size:Nat) (hrow:w.heap[r]? = some ob) (hr0:G.floor≤r) (hobj:∀ b o,st.heap[b]? = some o→o.bN=false→G.mu b≠some r)
 (hro:∀ i,G.ro r i=none) (htok:∀ u x y,st.aO[u]? = some x→G.aY u x=some y→y.1≠r)
 (hr:b5 fm CR (G.push st.heap.length r size) st.heap.length o ob) (hg:o.bN=false):Sim fm CR (G.push st.heap.length r size) w0 (st.push o) w:=by
 have hn:=h.bM;have hle:G.le (G.push st.heap.length r size):=Gh.bm hn;have muOld:∀ k,k<st.heap.length→(G.push st.heap.length r size).mu k=G.mu k:=fun k hk=>by simp[Gh.push,Nat.ne_of_lt hk]
 have dy:(G.push st.heap.length r size).mu st.heap.length=some r:=by simp[Gh.push]
 refine { bD:=?_,bu:=?_,obj:=?_,ro:=h.ro,cB:=?_,tok:=?_,a0:=h.a0,aY:=h.aY,dfr:=h.dfr,lps:=h.lps,aw:=h.aw,below:=h.below,base:=h.base,aF:=h.aF,bg:=by have:=h.bg;simp only[St.push,aah];omega,aQ:=?_,env:=h.env }
 · intro k x hk;simp only[St.push,aah,aaw,aaX];by_cases e:k=st.heap.length
   · omega
   · have:G.mu k=some x:=by simpa[Gh.push,e] using hk
     have:=h.bD _ _ this;omega
 · intro k k' x x' y hk hk' gx gx' mk mk';rcases getElem?_push_cases _ _ _ _ hk with ⟨rfl,rfl⟩ | ⟨e,hk1⟩<;>rcases getElem?_push_cases _ _ _ _ hk' with ⟨rfl,rfl⟩ | ⟨e',hk1'⟩
   · rfl
   · rw[dy] at mk;rw[muOld _ e'] at mk';cases mk;exact absurd mk' (hobj _ _ hk1' gx')
   · rw[dy] at mk';rw[muOld _ e] at mk;cases mk';exact absurd mk (hobj _ _ hk1 gx)
   · rw[muOld _ e] at mk;rw[muOld _ e'] at mk';exact h.bu _ _ _ _ _ hk1 hk1' gx gx' mk mk'
 · intro k x hk gx hpd;rcases getElem?_push_cases _ _ _ _ hk with ⟨rfl,rfl⟩ | ⟨e,hk⟩
   · exact⟨_,_,dy,hrow,hr,fun _=>hr0⟩
   · obtain⟨r2,ob2,m2,g2,o2,f2⟩:=h.obj _ _ hk gx hpd;exact⟨r2,ob2,by rw[muOld _ e];exact m2,g2,o2.le hle m2,f2⟩
 · intro r' i v k x hv hk gx mk;rcases getElem?_push_cases _ _ _ _ hk with ⟨rfl,rfl⟩ | ⟨e,hk⟩
   · rw[dy] at mk;cases mk;have:G.ro r i=some v:=hv;rw[hro i] at this;cases this
   · rw[muOld _ e] at mk;exact h.cB _ _ _ _ _ hv hk gx mk
 · intro t s ht;obtain⟨r2,len,cap,n,cs,ty,a1,a2,a3,a4,a5,a6,a7,a8⟩:=h.tok t s ht;refine⟨r2,len,cap,n,cs,ty,a1,a2,a3,a4,a5,a6,?_,a8⟩;intro k x hk gx;rcases getElem?_push_cases _ _ _ _ hk with ⟨rfl,rfl⟩ | ⟨e,hk⟩
   · rw[dy];intro e;cases e;exact htok t s _ ht a1 rfl
   · rw[muOld _ e];exact a7 _ _ hk gx
 · intro k x hk;obtain⟨p1,p2⟩:=h.aQ k x hk;have hlt:=(aad.1 p1).1;exact⟨by simp only[St.push];rw[aaj hlt];exact p1,(muOld k hlt).trans p2⟩
end
end Go.D
end
section
namespace Go.D
open Go.RowKit
variable {P:Program} {fm:FM}
section
variable {CR:Nat→RC→Code→Prop} {G:Gh} {w0 w:World} {st:St}
theorem x9 (hs:Sim fm CR G w0 st w) {t s n len cap:Nat} {aO:List Nat} {arr:Array Value} {e:TypeId}
 (hold:∀ s',st.aO[t]? = some s'→s'<s) (hnew:aO[t]? = some s) (hoth:∀ u x,u≠t→(aO[u]? = some x↔st.aO[u]? = some x))
 (hn:0<n) (hlc:len≤cap) (hsz:arr.size=cap*n) :
 ∃ G',G.le G'∧Sim fm CR G' w0 { st with aO:=aO } (w.drew.alloc (.cells arr e))∧(∀ i,i<len*n→G'.ro w.heap.size i=some (arr.getD i undef))∧G'.aY t s=some (w.heap.size,len,cap,n):=by
 have h1:=hs.drew.alloc (.cells arr e);have hrow:(w.drew.alloc (.cells arr e)).heap[w.heap.size]? = some (.cells arr e (0,0)):=World.alloc_heap_new w.drew _;have h2:=h1.A2 (t:=t) (s:=s) (r:=w.heap.size) (len:=len) (cap:=cap) (n:=n) (aO:=aO) (cs:=arr) (ty:=e) hold hnew hoth hn hlc hrow hsz (fun i _=>hs.D8 i) hs.dy (fun _=>hs.aw) (fun u x y _ hx hy=>hs.BE u x y hx hy);have hro:∀ i,0≤i→i<len*n→(G.c9 t s w.heap.size len cap n).ro w.heap.size i=none:=fun i _ _=>hs.D8 i
 have h3:=h2.cJ 0 (len*n) hro hs.aw hrow hs.dy (fun u x y hu hy hr=>by
  by_cases e:u=t
  · subst e;have hu':aO[u]? = some x:=hu;rw[hnew] at hu';cases hu';have:y=(w.heap.size,len,cap,n):=by simpa[Gh.c9] using hy.symm
    subst this;exact aai _
  · have hy':G.aY u x=some y:=by
     simp only[Gh.c9] at hy
     rwa [if_neg (fun h=>e h.1)] at hy
    exact absurd hr (hs.BE u x y ((hoth u x e).1 hu) hy'))
 refine⟨_,(Gh.lg hs hold _ _ _ _).trans (Gh.jE _ _ _ _ _ hro hs.aw),h3,fun i hi=>?_,by simp[Gh.cJ,Gh.c9]⟩;have hlt:i<arr.size:=by rw[hsz];exact abb hi (aay _ hlc)
 simp[Gh.cJ,hi,hlt,Array.getD]
theorem sU (hs:Sim fm CR G w0 st w) {t s n r len cap m:Nat} {N:List Value} (ht:st.aO[t]? = some s) (htb:st.aF≤t) (hh:G.aY t s=some (r,len,cap,n)) (hfit:len+m≤cap) (hN:N.length=m*n) (h1:∀ u∈N,u.oneCell'=true) :
 ∃ G' w',(storeCells ⟨r,len*n,none⟩ N).run P w=.ok () w'∧G.le G'∧Sim fm CR G' w0 { st with aO:=st.aO.set t (s+1) } w'∧(∀ i,i<m*n→G'.ro r (len*n+i)=some (N.getD i undef))∧G'.aY t (s+1)=some (r,len+m,cap,n):=by
 obtain⟨r',len',cap',n',cs,ty,a1,a2,a3,a4,a5,a6,a7,a8⟩:=hs.tok t s ht;rw[hh] at a1;cases a1;have hfl:=a8 htb;have hmul:len*n+m*n≤cs.size:=by rw[a5,← aaI];exact aay _ hfit
 have hst:=cq (P:=P) (off:=len*n) N 0 cs w a4 (by omega) (fun i hi=>by simp) h1;rw[aaV,eo a4] at hst;have hssz:=dH (cur:=cs) (k:=len*n) (vs:=N) (by omega)
 have hget:∀ i,i<len*n→(aD cs (len*n) N)[i]? = cs[i]?:=by
  intro i hi;unfold aD;rw[aba,aas,aaj (by simp;omega),List.getElem?_take];simp[hi]
 have h2:=hs.vA (cs':=aD cs (len*n) N) a4 hfl a7 hssz (fun i v hv=>by
  apply hget;rcases Nat.lt_or_ge i (len*n) with h | h
  · exact h
  · rw[a6 i h] at hv;cases hv)
 have hrow:(w.putObj r (.cells (aD cs (len*n) N) ty (0,0))).heap[r]? = some (.cells (aD cs (len*n) N) ty (0,0)):=by rw[dB w r r _ (get?_lt a4)];simp
 have hlt:t<st.aO.length:=(aad.1 ht).1;have hoth:∀ u x,u≠t→((st.aO.set t (s+1))[u]? = some x↔st.aO[u]? = some x):=fun u x hu=>by rw[aax (fun e=>hu e.symm)]
 have hold:∀ s',st.aO[t]? = some s'→s'<s+1:=fun s' h=>by rw[ht] at h;cases h;omega
 have hdis:∀ u x y,u≠t→st.aO[u]? = some x→G.aY u x=some y→y.1≠r:=fun u x y hu hx hy e=>hu (hs.a0 u t x s y _ hx ht hy hh e);have hrange:∀ i,(len+m)*n≤i→len*n≤i:=fun i hi=>by rw[aaI] at hi;omega
 have h3:=h2.A2 (t:=t) (s:=s+1) (r:=r) (len:=len+m) (cap:=cap) (n:=n) (aO:=st.aO.set t (s+1)) (cs:=aD cs (len*n) N) (ty:=ty)
  hold (by simp[hlt]) hoth a2 hfit hrow (by rw[hssz,a5]) (fun i hi=>a6 i (hrange i hi)) a7 a8 hdis
 have hro:∀ i,len*n≤i→i<(len+m)*n→(G.c9 t (s+1) r (len+m) cap n).ro r i=none:=fun i hi _=>a6 i hi
 have h4:=h3.cJ (len*n) ((len+m)*n) hro hfl hrow a7 (fun u x y hu hy hr=>by
  by_cases e:u=t
  · subst e;have hu':(st.aO.set u (s+1))[u]? = some x:=hu;simp only[aa6 hlt,aaa.injEq] at hu';subst hu';have:y=(r,len+m,cap,n):=by simpa[Gh.c9] using hy.symm
    subst this;exact aai _
  · have hy':G.aY u x=some y:=by
     simp only[Gh.c9] at hy
     rwa [if_neg (fun h=>e h.1)] at hy
    exact absurd hr (hdis u x y e ((hoth u x e).1 hu) hy'))
 refine⟨_,_,hst,(Gh.lg hs hold _ _ _ _).trans (Gh.jE _ _ _ _ _ hro hfl),h4,fun i hi=>?_,by simp[Gh.cJ,Gh.c9]⟩;have e1:len*n+i<(len+m)*n:=by rw[aaI];omega
 have e2:(aD cs (len*n) N)[len*n+i]? = some (N.getD i undef):=by
  unfold aD;have hiN:i<N.length:=by omega
  rw[aba,aas,aaq (by simp;omega)];have e3:len*n+i-(cs.toList.take (len*n)).length=i:=by simp;omega
  rw[e3,aaj hiN,aak,aac hiN];rfl
 simp[Gh.cJ,e1,e2]
end
theorem iT {G:Gh} {olds news:List DV} {O N Z:Array Value} (hO:O.size=olds.length) (hN:N.size=news.length) (rO:∀ i (h:i<olds.length),Rel fm G (olds[i]) (O.getD i undef)) (rN:∀ i (h:i<news.length),Rel fm G (news[i]) (N.getD i undef)) :
 ∀ i (h:i<(olds++news).length),Rel fm G ((olds++news)[i]) ((O++N++Z).getD i undef):=by
 intro i h;have hi:i<olds.length+news.length:=by simpa using h
 have e0:(O++N++Z).getD i undef=(O++N).getD i undef:=by
  rw[aag,aag,aa7 (by simp;omega)]
 rw[e0];by_cases e:i<olds.length
 · rw[aaR e]
   have:(O++N).getD i undef=O.getD i undef:=by
    rw[aag,aag,aa7 (by omega)]
   rw[this];exact rO i e
 · rw[aaO (by omega)]
   have:(O++N).getD i undef=N.getD (i-olds.length) undef:=by
    rw[aag,aag,Array.getElem?_append_right (by omega),hO]
   rw[this];exact rN _ (by omega)
theorem iE (news:List DV) (i:Nat) (h:i<(news.map DV.aE).length):(news.map DV.aE)[i]=(news[i]'(by simpa using h)).aE:=by simp
end Go.D
end
section
namespace Go.D
open Go.RowKit
variable {P:Program} {fm:FM}
theorem nG {G:Gh} {tag n r len cap:Nat} {tk:Tk} {ys:List DV} (f:Nat→Value) (hlen:ys.length=len) (hn:∀ y∈ys,y.leaves.length=n) (hp:(flat ys).all DV.pure=true) (hr:∀ i,i<len*n→G.ro r i=some (f i))
 (hc:∀ i (h:i<(flat ys).length),Rel fm G ((flat ys)[i]) (f i)) (hk:yH G n tk r 0 len cap) (hl:len≤cap):Rel fm G (.list tag n tk true ys) (.slice (some ⟨r,0,none⟩) len cap):=by
 subst hlen;refine .list tag n tk ys r 0 cap f (fun i hi=>?_) hc hp hk hl hn;rw[aav];exact hr i (by rw[← cT ys n hn];exact hi)
theorem mf {G:Gh} {news:List DV} {N:Array Value} (hN:N.size=news.length) (rN:∀ i (h:i<news.length),Rel fm G (news[i]) (N.getD i undef)) (hsc:news.all DV.aT=true):∀ u∈N.toList,u.oneCell'=true:=by
 intro u hu;obtain⟨j,hj,rfl⟩:=aa1 hu;have hj':j<news.length:=by rw[← hN];simpa using hj
 have h1:=rN j hj';rw[← aH,aak,aac hj] at h1;exact sO h1 (aaf.1 hsc _ (aau hj'))
theorem pM {t u e:TypeId} {n bytes:Nat} {ag:Bool} {zs:List DV} {i:TypeInfo} {x y:X} {xo yo:Operand} {o:Oper} (ho:builtinCall .append [xo,yo] [t,u] o.op) (ht:P.underlying t=some (.slice e)) (hu:ew P u=true)
 (hi:P.info? e=some i) (hn:i.size=n) (hby:i.bytes=bytes) (hz:a9 P e=some zs) (hzl:zs.length=n) (hag:ag=true∨n=1) (hx:aZ fm x xo) (hy:aZ fm y yo):au P fm (.append n ag bytes x y) o:=by
 intro CR G w0 st w fr a v st' hs hf hrun;simp only[aq,bJ] at hrun;have hxv:=hx.ev (a:=a) hf;have hyv:=hy.ev (a:=a) hf;split at hrun
 · cases hrun
 rename_i m news hnews;have hnr:=eC (P:=P) hs hyv hnews;generalize hx0:a.eval xo=x0 at hxv;generalize hy0:a.eval yo=y0 at hyv hnr;obtain⟨N,n1,n2,n3⟩:=hnr.cells m w (aai _) (Below.refl _ w);obtain⟨N',d1,d2,d3⟩:=hnr.cells m w.drew (aai _) ((Below.refl _ w).drew);have hnl:=hnr.length;obtain⟨i',z,hi',hzz,hcc⟩:=bx hz;rw[hi] at hi';cases hi';obtain⟨zl,zr⟩:=bL (fm:=fm) hcc;have hzsz:z.cells.size=n:=by rw[← hzl,← zl];simp
 have fin:∀ (r:Value) (w':World),(Builtin.append_ #[t,u] o.type #[x0,y0]).run P w=.ok r w'→(execOp a.eval o).run P w=.ok (.value r) w':=by
  intro r w' h;obtain⟨consts,he⟩:=cA ho a.eval;rw[he];simp only[aaP,abf,hx0,hy0];unfold builtin;exact aa h
 have none0:∀ (p:Option Addr) (l c:Nat),m=0→x0=.slice p l c→l≤c→(Builtin.append_ #[t,u] o.type #[x0,y0]).run P w=.ok x0 w:=by
  intro p l c hm hp hlc;subst hm;have hN0:N = #[]:=by simpa using n2
  rw[hp];rw[← hn] at n1;have:=cb (P:=P) (w:=w) (w':=w) (ty:=o.type) (a:=p) (sLen:=l) (sCap:=c) (m:=0) (x:=y0) (news:=N) ht hi hu hnr.len (by omega) n1 (by subst hN0;cases p<;>rfl);simpa using this
 generalize X.ev fr x=xv at hxv hrun;split at hrun
 ·
  rename_i tag n' tk nn xs
  have hshape:∃ p cap,x0=.slice p xs.length cap∧xs.length≤cap:=by
   cases hxv with
   | eF=>exact⟨none,0,rfl,aai _⟩
   | list _ _ _ _ r off cap f hr hc hp hk hl hnn=>exact⟨_,cap,rfl,hl⟩
  obtain⟨p,cap,hxe,hlc⟩:=hshape;split at hrun
  · rename_i hm;simp only[aaa.injEq,Prod.mk.injEq] at hrun;obtain⟨rfl,rfl⟩:=hrun;exact⟨G,w,x0,_,fin _ _ (none0 p _ _ hm hxe hlc),.inl rfl,Gh.le.refl G,hs,hxv⟩
  rename_i hm;split at hrun
  · cases hrun
  rename_i hcond;simp only[not_or,Bool.not_eq_true,Bool.not_eq_false'] at hcond;obtain⟨hn0,hnn',hb1,hb2,hpure⟩:=hcond;have hpure:(news.map DV.aE).all DV.pure=true:=by simpa using hpure
  have hn0:0<n:=by omega
  have hb1:(xs.length+m)*bytes≤140737488355328:=by simpa[ay] using hb1
  have hb2:xs.length+m≤140737488355328:=by simpa[ay] using hb2
  have hml:(news.map DV.aE).length=m*n:=by simpa using hnl
  have hold:wR P fm G w n xs.length (flat xs) x0∧(∀ y∈xs,y.leaves.length=n)∧(flat xs).all DV.pure=true:=by
   cases hxv with
   | eF=>exact⟨eC (P:=P) hs (.eF tag n' tk) (by simp[bQ,flat]),fun y hy=>by simp at hy,rfl⟩
   | list _ _ _ _ r off cap f hr hc hp hk hl hnn=>
     have:n'=n:=by simpa using hnn'
     subst this;exact⟨eC (P:=P) hs (.list tag n' tk xs r off cap f hr hc hp hk hl hnn) (by simp[bQ]),hnn,hp⟩
  obtain⟨hor,hxn,hxp⟩:=hold;obtain⟨O,o1,o2,o3⟩:=hor.cells xs.length w.drew (aai _) ((Below.refl _ w).drew);have hfx:=cT xs n hxn;have hfc:=jV n ag hag m (news.map DV.aE) hml hpure;have hlc':=gF n ag m (news.map DV.aE);generalize hys:xs++chunk n ag m (news.map DV.aE)=ys at hrun;have hyf:flat ys=flat xs++news.map DV.aE:=by rw[← hys,iK,hfc]
  have hyl:ys.length=xs.length+m:=by rw[← hys];simp[hlc']
  have hyn:∀ y∈ys,y.leaves.length=n:=by
   intro y hy;rw[← hys] at hy;rcases aaG.1 hy with h | h
   · exact hxn y h
   · exact ig n ag hag m _ hml hpure y h
  have hyp:(flat ys).all DV.pure=true:=by rw[hyf,List.all_append,hxp,hpure];rfl
  have grown:∀ (t0 s0:Nat) (aO:List Nat),(∀ s',st.aO[t0]? = some s'→s'<s0)→aO[t0]? = some s0→(∀ u x,u≠t0→(aO[u]? = some x↔st.aO[u]? = some x))→cap<xs.length+m →
   ∃ G' w' x nx,(execOp a.eval o).run P w=.ok nx w'∧ux nx x∧G.le G'∧Sim fm CR G' w0 { st with aO:=aO } w'∧Rel fm G' (.list st.cur n (.own t0 s0) true ys) x:=by
   intro t0 s0 aO h1 h2 h3 hg;have hge:=grownCap_ge w (xs.length+m) cap e;have hd1:=d1;rw[← hn] at hd1;have ho1:=o1;rw[← hn,hxe] at ho1;have hr:=cD (P:=P) (w:=w) (u:=u) (ty:=o.type) (z:=z) (a:=p) (sLen:=xs.length) (sCap:=cap) (m:=m) (x:=y0) (olds:=O) (news:=N') ht hi hzz hu hnr.len hg (by rw[hby];omega) (by omega) ho1 hd1;rw[← hxe] at hr
   have hsz:(O++N'++Builtin.zeroCells z.cells (grownCap w (xs.length+m) cap e-(xs.length+m))).size=grownCap w (xs.length+m) cap e*n:=by
    simp only[Array.size_append,o2,d2,size_zeroCells,hzsz,← aaI]
    congr 1;omega
   obtain⟨G',g1,g2,g3,g4⟩:=x9 hs (t:=t0) (s:=s0) (n:=n) (len:=xs.length+m) (cap:=grownCap w (xs.length+m) cap e) (aO:=aO) (arr:=O++N'++Builtin.zeroCells z.cells (grownCap w (xs.length+m) cap e-(xs.length+m))) (e:=e) h1 h2 h3 hn0 hge hsz;refine⟨G',_,_,_,fin _ _ hr,.inl rfl,g1,g2,?_⟩;refine nG _ hyl hyn hyp g3 (fun i hi=>?_) ⟨rfl,g4⟩ hge
   have:=iT (fm:=fm) (G:=G') (olds:=flat xs) (news:=news.map DV.aE) (O:=O) (N:=N') (Z:=Builtin.zeroCells z.cells (grownCap w (xs.length+m) cap e-(xs.length+m))) (by rw[o2,hfx]) (by rw[d2,hml])
    (fun i hi=>(o3 i hi (by rw[← hfx];exact hi)).le g1) (fun i hi=>by
     rw[iE];have hi':i<news.length:=by simpa using hi
     exact((d3 i hi' (by omega)).le g1).aE) i (by rw[← hyf];exact hi)
   have e1:(flat ys)[i]=(flat xs++news.map DV.aE)[i]'(by rw[← hyf];exact hi):=by congr 1
   rw[e1];exact this
  split at hrun
  ·
   simp only[aaa.injEq,Prod.mk.injEq] at hrun;obtain⟨rfl,rfl⟩:=hrun;cases hxv;simp only[Value.slice.injEq] at hxe;obtain⟨rfl,_,rfl⟩:=hxe
   exact grown st.aO.length 0 (st.aO++[0]) (fun s' h=>by simp at h) (by simp) (fun u x hu=>by
    constructor
    · intro h;rcases get?_append_cases h with h | h;exact h.2;exact absurd h.1 hu
    · intro h;rw[aaj (aad.1 h).1];exact h) (by simp;omega)
  ·
   simp only[aaa.injEq,Prod.mk.injEq] at hrun;obtain⟨rfl,rfl⟩:=hrun
   have hcap:cap=xs.length:=by
    cases hxv with
    | list _ _ _ _ r off cap' f hr hc hp hk hl hnn=>
      simp only[Value.slice.injEq] at hxe;rw[← hxe.2.2];exact hk
   exact grown st.aO.length 0 (st.aO++[0]) (fun s' h=>by simp at h) (by simp) (fun u x hu=>by
    constructor
    · intro h;rcases get?_append_cases h with h | h;exact h.2;exact absurd h.1 hu
    · intro h;rw[aaj (aad.1 h).1];exact h) (by omega)
  ·
   rename_i t0 s0;split at hrun
   · rename_i htok;obtain⟨htb,ht0⟩:=htok;simp only[aaa.injEq,Prod.mk.injEq] at hrun;obtain⟨rfl,rfl⟩:=hrun;have hlt:t0<st.aO.length:=(aad.1 ht0).1;by_cases hg:cap<xs.length+m
     · exact grown t0 (s0+1) (st.aO.set t0 (s0+1)) (fun s' h=>by rw[ht0] at h;cases h;omega) (by simp[hlt]) (fun u x hu=>by rw[aax (fun e=>hu e.symm)]) hg
     · cases hxv with
       | list _ _ _ _ r off cap' f hr hc hp hk hl hnn=>
         simp only[Value.slice.injEq] at hxe;obtain⟨hpe,_,hce⟩:=hxe;subst hce;subst hpe;obtain⟨hoff,hhist⟩:=hk;subst hoff;have:n'=n:=by simpa using hnn'
         subst this;obtain⟨G',w',g1,g2,g3,g4,g5⟩:=sU (P:=P) hs ht0 htb hhist (m:=m) (N:=N.toList) (by omega) (by simpa using n2) (mf (G:=G) (news:=news) (by rw[n2,hnl]) (fun i hi=>n3 i hi (by omega)) hnr.aT);have hn1:=n1;rw[← hn] at hn1
         have hr':=cb (P:=P) (w:=w) (w':=w') (ty:=o.type) (a:=some ⟨r,0,none⟩) (sLen:=xs.length) (sCap:=cap') (m:=m) (x:=y0) (news:=N) ht hi hu hnr.len (by omega) hn1 (by
          show (storeCells ((⟨r,0,none⟩:Addr).add (xs.length*i.size)) N.toList).run P w=.ok () w'
          rw[Addr.add_lit,aav,hn];exact g1)
         refine⟨G',w',_,_,fin _ _ hr',.inl rfl,g2,g3,?_⟩;refine nG (fun j=>if j<xs.length*n' then f j else N.getD (j-xs.length*n') undef) hyl hyn hyp (fun j hj=>?_) (fun j hj=>?_) ⟨rfl,g5⟩ (by omega)
         · by_cases ej:j<xs.length*n'
           · rw[if_pos ej];have:=hr j (by rw[hfx];exact ej);rw[aav] at this;exact g2.toSub.ro _ _ _ this
           · rw[if_neg ej];have:=g4 (j-xs.length*n') (by rw[aaI] at hj;omega);have e2:xs.length*n'+(j-xs.length*n')=j:=by omega
             rw[e2,aH] at this;exact this
         · have hj':j<(flat xs++news.map DV.aE).length:=by rw[← hyf];exact hj
           have e1:(flat ys)[j]=(flat xs++news.map DV.aE)[j]'hj':=by congr 1
           rw[e1];by_cases ej:j<xs.length*n'
           · rw[if_pos ej,aaR (by rw[hfx];exact ej)];exact(hc j _).le g2
           · rw[if_neg ej,aaO (by rw[hfx];omega),iE]
             have hj2:j-(flat xs).length<news.length:=by
              simp only[aah,aaU] at hj';omega
             have ek:j-xs.length*n'=j-(flat xs).length:=by rw[hfx]
             rw[ek];exact((n3 (j-(flat xs).length) hj2 (by omega)).le g2).aE
   · cases hrun
  · cases hrun
 ·
  rename_i n' ag' b off len capx
  cases hxv with
  | hsl _ _ _ _ _ _ r c hmu hcap=>
  have hlc:len≤c:=by
   cases capx with
   | none=>exact hcap.1
   | some k=>have:=hcap.2;rw[hcap.1];exact this
  split at hrun
  · rename_i hm;simp only[aaa.injEq,Prod.mk.injEq] at hrun;obtain⟨rfl,rfl⟩:=hrun;exact⟨G,w,_,_,fin _ _ (none0 _ _ _ hm rfl hlc),.inl rfl,Gh.le.refl G,hs,.hsl _ _ _ _ _ _ _ _ hmu hcap⟩
  rename_i hm;split at hrun
  · rename_i hcond;obtain⟨rfl,hn0,hb1,hb2⟩:=hcond;have hb1:(len+m)*bytes≤140737488355328:=by simpa[ay] using hb1
    have hb2:len+m≤140737488355328:=by simpa[ay] using hb2
    split at hrun
    · rename_i cap0;split at hrun
      · rename_i hcond2;obtain⟨rfl,hbase⟩:=hcond2;split at hrun
        · rename_i vs hcell;split at hrun
          · rename_i hvl;simp only[aaa.injEq,Prod.mk.injEq] at hrun;obtain⟨rfl,rfl⟩:=hrun
            have hbo:st.heap[b]? = some (.cells .grown vs):=by
             unfold St.cells at hcell;split at hcell
             · rename_i g' vs' e;simp only[aaa.injEq,Prod.mk.injEq] at hcell;obtain⟨rfl,rfl⟩:=hcell;exact e
             · cases hcell
            obtain⟨r',ob,q1,q2,q3,q4⟩:=hs.obj b _ hbo rfl (hs.np hmu);rw[hmu] at q1;cases q1;obtain⟨cs,ty,fz,rfl,k1,k2,k3,k4,k5⟩:=q3
            have hro:∀ i,G.ro r i=none:=by
             intro i
             cases er:G.ro r i with
             | none=>rfl
             | some v=>exact absurd hmu (fun h=>hs.cB r i v b _ er hbo rfl h)
            have htk:∀ u x y,st.aO[u]? = some x→G.aY u x=some y→y.1≠r:=by
             intro u x y hu hy e;obtain⟨r',len',cap',n'',cs',ty',h1,h2,h3,h4,h5,h6,h7,h8⟩:=hs.tok u x hu;rw[hy] at h1;cases h1;simp only at e;subst e;exact h7 b _ hbo rfl hmu
            have hgone:=hs.BD b (hs.np hmu)
            have hfree:∀ b' o,(st.heap.set b .gone)[b']? = some o→o.bN=false→G.mu b'≠some r:=by
             intro b' o hb' hg e;rcases getElem?_set_cases _ _ _ _ _ hb' with ⟨rfl,rfl,_⟩ | ⟨e1,e2⟩
             · cases hg
             · exact e1 (hs.bu _ _ _ _ _ e2 hbo hg rfl e hmu)
            have hset:(st.heap.set b .gone).length=st.heap.length:=by simp
            have hscal:(vs++news).all DV.aT=true:=by rw[List.all_append,k5,hnr.aT];rfl
            have hcapo:=hcap.2;by_cases hg:c<len+m
            ·
             have hge:=grownCap_ge w (len+m) c e
             have hor:=eC (P:=P) (n:=n') (m:=len) (news:=(vs.drop 0).take (len*n')) hs (.hsl n' ag' b 0 len none r c hmu hcap) (by
              simp only[bQ,if_true,St.cells,hbo]
              rw[if_pos (by omega)])
             obtain⟨O,o1,o2,o3⟩:=hor.cells len w.drew (aai _) ((Below.refl _ w).drew);have hvs:(vs.drop 0).take (len*n')=vs:=by rw[List.drop_zero,aa0 (by omega)]
             rw[hvs] at o3;have hd1:=d1;rw[← hn] at hd1 o1;have hr:=cD (P:=P) (w:=w) (u:=u) (ty:=o.type) (z:=z) (a:=some ⟨r,0,none⟩) (sLen:=len) (sCap:=c) (m:=m) (x:=y0) (olds:=O) (news:=N') ht hi hzz hu hnr.len hg (by rw[hby];omega) (by omega) o1 hd1;generalize harr:O++N'++Builtin.zeroCells z.cells (grownCap w (len+m) c e-(len+m))=arr at hr
             have hsz:arr.size=grownCap w (len+m) c e*n':=by
              rw[← harr];simp only[Array.size_append,o2,d2,size_zeroCells,hzsz,← aaI]
              congr 1;omega
             have hpush:=hgone.drew.push (o:=.cells .grown (vs++news)) (ob:=.cells arr e) (grownCap w (len+m) c e*n') ⟨arr,e,(0,0),rfl,by
              rw[hsz,aah,← hvl,hnl,← aaI];exact aay _ hge,by simp[Gh.push,hsz],fun i hi=>by
               have:=iT (fm:=fm) (G:=G) (olds:=vs) (news:=news) (O:=O) (N:=N') (Z:=Builtin.zeroCells z.cells (grownCap w (len+m) c e-(len+m))) (by rw[o2,hvl]) (by rw[d2,hnl])
                (fun i hi=>o3 i hi (by rw[hvl];exact hi)) (fun i hi=>d3 i hi (by omega)) i hi
               rw[harr] at this;refine this.le ?_;have:=hgone.bM
               exact Gh.bm this,fun i hi=>by simp,hscal⟩ rfl
             have hle:G.le (G.push (st.heap.set b .gone).length w.heap.size (grownCap w (len+m) c e*n')):=Gh.bm hgone.bM;refine⟨_,_,_,_,fin _ _ hr,.inl rfl,hle,hpush,?_⟩;rw[← hset];exact .hsl _ _ _ _ _ _ _ _ (by simp[Gh.push]) ⟨hge,by simp[Gh.push]⟩
            ·
             have hcn:c*n'≤cs.size:=by rw[k2];omega
             have hmul:len*n'+m*n'≤cs.size:=by
              rw[← aaI];exact abk (aay _ (by omega)) hcn
             have hNl:N.toList.length=m*n':=by simpa using n2
             have hst:=cq (P:=P) (off:=len*n') N.toList 0 cs w q2 (by omega) k4 (mf (G:=G) (news:=news) (by rw[n2,hnl]) (fun i hi=>n3 i hi (by omega)) hnr.aT);rw[aaV,eo q2] at hst;have hssz:=dH (cur:=cs) (k:=len*n') (vs:=N.toList) (by omega);have hput:=hgone.vA (cs':=aD cs (len*n') N.toList) q2 (q4 hbase) hfree hssz (fun i v hv=>by rw[hro i] at hv;cases hv);have hrow:(w.putObj r (.cells (aD cs (len*n') N.toList) ty fz)).heap[r]? = some (.cells (aD cs (len*n') N.toList) ty fz):=by rw[dB w r r _ (get?_lt q2)];simp
             have hlow:∀ i,i<vs.length→(aD cs (len*n') N.toList).getD i undef=cs.getD i undef:=by
              intro i hi;unfold aD;rw[aag,aag,aba,aas,aaj (by simp;omega),List.getElem?_take,if_pos (by omega)];simp
             have hhigh:∀ i,i<news.length→(aD cs (len*n') N.toList).getD (vs.length+i) undef=N.getD i undef:=by
              intro i hi;unfold aD;have hiN:i<N.toList.length:=by omega
              have e3:vs.length+i-(cs.toList.take (len*n')).length=i:=by simp;omega
              rw[aag,aba,aas,aaq (by simp;omega),e3,aaj hiN,← aH,aak]
             have hle:G.le (G.push (st.heap.set b .gone).length r cs.size):=Gh.bm hgone.bM
             have hadopt:=hput.DK (o:=.cells .grown (vs++news)) cs.size hrow (q4 hbase) hfree hro htk ⟨_,ty,fz,rfl,by
              rw[hssz,aah,← hvl,hnl];exact hmul,by simp[Gh.push,hssz],fun i hi=>by
               by_cases ei:i<vs.length
               · rw[aaR ei,hlow i ei];exact(k3 i ei).le hle
               · have hi2:i-vs.length<news.length:=by simp only[aah] at hi;omega
                 rw[aaO (by omega)];have e4:vs.length+(i-vs.length)=i:=by omega
                 have:=hhigh (i-vs.length) hi2;rw[e4] at this;rw[this]
                 exact(n3 _ hi2 (by omega)).le hle,by rw[hssz];exact k4,hscal⟩ rfl
             have hn1:=n1;rw[← hn] at hn1
             have hr':=cb (P:=P) (w:=w) (w':=w.putObj r (.cells (aD cs (len*n') N.toList) ty fz)) (ty:=o.type) (a:=some ⟨r,0,none⟩) (sLen:=len) (sCap:=c) (m:=m) (x:=y0) (news:=N) ht hi hu hnr.len (by omega) hn1 (by
              show (storeCells ((⟨r,0,none⟩:Addr).add (len*i.size)) N.toList).run P w=_
              rw[Addr.add_lit,aav,hn];exact hst)
             refine⟨_,_,_,_,fin _ _ hr',.inl rfl,hle,hadopt,?_⟩;rw[← hset];exact .hsl _ _ _ _ _ _ _ _ (by simp[Gh.push]) ⟨by omega,by simp[Gh.push];omega⟩
          · cases hrun
        · cases hrun
      · cases hrun
    · rename_i k;obtain⟨hck,hlk⟩:=hcap;subst hck;split at hrun
      · rename_i g vs hcell
        have hbo:st.heap[b]? = some (.cells g vs):=by
         unfold St.cells at hcell;split at hcell
         · rename_i g' vs' e;simp only[aaa.injEq,Prod.mk.injEq] at hcell;obtain⟨rfl,rfl⟩:=hcell;exact e
         · cases hcell
        split at hrun
        · rename_i hfit;split at hrun
          · rename_i hc3;obtain⟨hbase,hvl,hw⟩:=hc3;simp only[aaa.injEq,Prod.mk.injEq] at hrun;obtain⟨rfl,rfl⟩:=hrun
            obtain⟨cur,ty,fz,k1,k2,k3,k4⟩:=ml (P:=P) hs hw hbo hbase (k:=off+len*n') (ns:=news) (xs:=N.toList) hvl (by simp[n2,hnl]) (fun i hi=>by rw[aH];exact n3 i hi (by omega)) hnr.aT
             (mf (G:=G) (news:=news) (by rw[n2,hnl]) (fun i hi=>n3 i hi (by omega)) hnr.aT) hmu
            have hn1:=n1;rw[← hn] at hn1
            have hr':=cb (P:=P) (w:=w) (ty:=o.type) (a:=some ⟨r,off,none⟩) (sLen:=len) (sCap:=c) (m:=m) (x:=y0) (news:=N) ht hi hu hnr.len hfit hn1 (by
             show (storeCells ((⟨r,off,none⟩:Addr).add (len*i.size)) N.toList).run P w=_
             rw[Addr.add_lit,hn];exact k3)
            exact⟨G,_,_,_,fin _ _ hr',.inl rfl,Gh.le.refl G,k4,.hsl _ _ _ _ _ _ _ _ hmu ⟨rfl,hfit⟩⟩
          · cases hrun
        · rename_i hfit;split at hrun
          · rename_i hvl;simp only[aaa.injEq,Prod.mk.injEq] at hrun;obtain⟨rfl,rfl⟩:=hrun;have hge:=grownCap_ge w (len+m) c e
            have hor:=eC (P:=P) (n:=n') (m:=len) (news:=(vs.drop off).take (len*n')) hs (.hsl n' ag' b off len (some c) r c hmu ⟨rfl,hlk⟩) (by
             simp only[bQ,if_true,hcell]
             rw[if_pos hvl])
            obtain⟨O,o1,o2,o3⟩:=hor.cells len w.drew (aai _) ((Below.refl _ w).drew);have hd1:=d1;rw[← hn] at hd1 o1;have hr:=cD (P:=P) (w:=w) (u:=u) (ty:=o.type) (z:=z) (a:=some ⟨r,off,none⟩) (sLen:=len) (sCap:=c) (m:=m) (x:=y0) (olds:=O) (news:=N') ht hi hzz hu hnr.len (by omega) (by rw[hby];omega) (by omega) o1 hd1;generalize harr:O++N'++Builtin.zeroCells z.cells (grownCap w (len+m) c e-(len+m))=arr at hr
            have hsz:arr.size=grownCap w (len+m) c e*n':=by
             rw[← harr];simp only[Array.size_append,o2,d2,size_zeroCells,hzsz,← aaI]
             congr 1;omega
            have hol:=hor.length
            have hpush:=hs.drew.push (o:=.cells .grown ((vs.drop off).take (len*n')++news)) (ob:=.cells arr e) (grownCap w (len+m) c e*n') ⟨arr,e,(0,0),rfl,by
             rw[hsz,aah,hol,hnl,← aaI];exact aay _ hge,by simp[Gh.push,hsz],fun i hi=>by
              have:=iT (fm:=fm) (G:=G) (olds:=(vs.drop off).take (len*n')) (news:=news) (O:=O) (N:=N') (Z:=Builtin.zeroCells z.cells (grownCap w (len+m) c e-(len+m))) (by rw[o2,hol]) (by rw[d2,hnl])
               (fun i hi=>o3 i hi (by rw[← hol];exact hi)) (fun i hi=>d3 i hi (by omega)) i hi
              rw[harr] at this
              exact this.le (Gh.bm hs.bM),fun i hi=>by simp,by rw[List.all_append,hor.aT,hnr.aT];rfl⟩ rfl
            have hle:G.le (G.push st.heap.length w.heap.size (grownCap w (len+m) c e*n')):=Gh.bm hs.bM;refine⟨_,_,_,_,fin _ _ hr,.inl rfl,hle,hpush,?_⟩;exact .hsl _ _ _ _ _ _ _ _ (by simp[Gh.push]) ⟨hge,by simp[Gh.push]⟩
          · cases hrun
      · cases hrun
  · cases hrun
 · cases hrun
end Go.D
end
section
namespace Go.D
open Go.RowKit
variable {P:Program} {fm:FM}
end Go.D
end
section
namespace Go.D
open Go.RowKit
variable {P:Program} {fm:FM}
end Go.D
end
section
namespace Go.D
open Go.RowKit
variable {P:Program} {fm:FM}
theorem qM {e:TypeId} {zs:List DV} {o:Oper} (ho:o.op=.alloc e) (hz:a9 P e=some zs):au P fm (.fw e zs) o:=by
 obtain⟨i,z,hi,hzz,hc⟩:=bx hz;intro CR G w0 st w fr a v st' hs hf hrun;simp only[aq,aaa.injEq,Prod.mk.injEq] at hrun;obtain⟨rfl,rfl⟩:=hrun;obtain⟨hl,hr⟩:=bL (fm:=fm) hc;have hs':=hs.push (o:=.cells (.typed e) zs) (ob:=.cells z.cells e) 0 ⟨z.cells,e,(0,0),rfl,rfl,by simpa using hl,fun i hi=>by rw[← aH];exact hr _ i hi,fun i hi=>by simp,bP (cm hc)⟩ rfl;refine⟨_,_,.pointer (some ⟨w.heap.size,0,none⟩),_,?_,.inl rfl,Gh.bm hs.bM,hs',.ptr _ _ _ (by simp[Gh.push])⟩;unfold execOp;simp only[ho];refine aa ?_;unfold Instr.alloc;simp only[Sem.run_bind,j7 hi hzz,Result.andThen_ok];rfl
theorem rQ {CR:Nat→RC→Code→Prop} {G:Gh} {w0 w:World} {st:St} (hs:Sim fm CR G w0 st w) {b r ty:Nat} {vs:List DV} (hb:st.heap[b]? = some (.cells (.typed ty) vs)) (hm:G.mu b=some r):w.shape? r=some (ty,vs.length):=by
 obtain⟨r',ob,h1,h2,h3,_⟩:=hs.obj b _ hb rfl (hs.np hm);rw[hm] at h1;cases h1;obtain⟨cs,t,fz,rfl,rfl,h4,_⟩:=h3;unfold World.shape?;rw[h2];simp[h4]
theorem o9 {st:St} {ty n:Nat} {x v:DV} (h:sg st ty n x=some v):∃ b vs,x=.ptr b 0∧v=.ptr b 0∧st.heap[b]? = some (.cells (.typed ty) vs)∧vs.length=n:=by
 unfold sg at h;split at h
 · rename_i b;split at h
   · rename_i t vs hb;split at h
     · rename_i hc;obtain⟨rfl,hn⟩:=hc;injection h with h;exact⟨b,vs,rfl,h.symm,hb,hn⟩
     · cases h
   · cases h
 · cases h
theorem qT {s d t:TypeId} {j:TypeInfo} {ty n:Nat} {x:X} {xo:Operand} {o:Oper} (ho:o.op=.convert s d xo) (hs0:P.underlying s=some (.pointer t)) (hd:P.underlying d=some .unsafePointer) (ht:P.info? t=some j) (hj:j.size≠0) (hn:0<n)
 (hx:aZ fm x xo):au P fm (.conv ty n x) o:=by
 refine ax fun CR G w0 st w fr a v st' hs hf hrun=>?_;simp only[aq,aae] at hrun;obtain⟨u,hu,hrun⟩:=hrun;cases hrun;obtain⟨b,vs,e1,rfl,hb,hl⟩:=o9 hu;have hxv:=hx.ev (a:=a) hf;rw[e1] at hxv;generalize hx0:a.eval xo=x0 at hxv
 cases hxv with
 | ptr _ _ r hm=>
   refine⟨rfl,_,?_,.ptr _ _ _ hm⟩;unfold execOp;simp only[ho,hx0];exact aa (Lib.run_to_unsafe w ⟨r,0,none⟩ hs0 hd ht hj (rQ hs hb hm) (by show 0<vs.length;omega))
theorem nR {s d u:TypeId} {j:TypeInfo} {ty n:Nat} {x:X} {xo:Operand} {o:Oper} (ho:o.op=.convert s d xo) (hs0:P.underlying s=some .unsafePointer) (hd:P.underlying d=some (.pointer u)) (hu0:P.info? u=some j)
 (hlies:liesAt P P.depth ty (n/P.cellsOf ty) 0 u 1=true) (hx:aZ fm x xo):au P fm (.conv ty n x) o:=by
 refine ax fun CR G w0 st w fr a v st' hs hf hrun=>?_;simp only[aq,aae] at hrun;obtain⟨u',hu,hrun⟩:=hrun;cases hrun;obtain⟨b,vs,e1,rfl,hb,hl⟩:=o9 hu;have hxv:=hx.ev (a:=a) hf;rw[e1] at hxv;generalize hx0:a.eval xo=x0 at hxv
 cases hxv with
 | ptr _ _ r hm=>
   refine⟨rfl,_,?_,.ptr _ _ _ hm⟩;unfold execOp;simp only[ho,hx0];exact aa (Lib.run_from_unsafe w ⟨r,0,none⟩ hs0 hd hu0 (rQ hs hb hm) (by rw[hl];exact hlies))
theorem rE {t:TypeId} {x:X} {xo:Operand} {o:Oper} (ho:builtinCall .unsafeSliceData [xo] [t] o.op) (hx:aZ fm x xo):au P fm (.fe x) o:=by
 refine ax fun CR G w0 st w fr a v st' hs hf hrun=>?_;simp only[aq,aae] at hrun;obtain⟨u,hu,hrun⟩:=hrun;cases hrun;have hxv:=hx.ev (a:=a) hf;generalize hx0:a.eval xo=x0 at hxv
 have fin:∀ (r:Value),(Builtin.unsafeSliceData_ #[t] o.type #[x0]).run P w=.ok r w→(execOp a.eval o).run P w=.ok (.value r) w:=by
  intro r h;obtain⟨consts,he⟩:=cA ho a.eval;rw[he];simp only[aaP,abf,hx0];unfold builtin;exact aa h
 generalize x.ev fr=xv at hu hxv;unfold jW at hu;split at hu
 · injection hu with hu;subst hu;cases hxv;exact⟨rfl,_,fin _ (Lib.run_unsafeSliceData_nil w _ _ _ _),.bG⟩
 · split at hu
   · rename_i hl;injection hu with hu;subst hu
     cases hxv with
     | hsl _ _ _ _ _ _ r c hm hcap=>
       rename_i cap
       have hc:c≠0:=by
        cases cap with
        | none=>have:=hcap.1;omega
        | some k=>have:=hcap.2;rw[hcap.1];omega
       exact⟨rfl,_,fin _ (Lib.run_unsafeSliceData_row w _ _ _ _ _ hc),.ptr _ _ _ hm⟩
   · cases hu
 · cases hu
theorem j6:∀ (vs:List DV) (bs:List UInt8),dK vs=some bs→bs.length=vs.length∧∀ (j:Nat) (x:UInt8),bs[j]? = some x→vs[j]? = some (.int .u8 (x.toNat:Int))
 | [],bs,h=>by
   simp only[dK,aaa.injEq] at h;subst h;exact⟨rfl,fun j x h=>by simp at h⟩
 | v::vs,bs,h=>by
   cases v<;>try (simp[dK] at h;done)
   rename_i k n;cases k<;>try (simp[dK] at h;done)
   simp only[dK] at h;split at h
   · rename_i hn;simp only[aae] at h;obtain⟨l,hl,rfl⟩:=h;obtain⟨h1,h2⟩:=j6 vs l hl;refine⟨by simp[h1],fun j x hx=>?_⟩
     cases j with
     | zero=>
       simp only[aat,aaa.injEq] at hx ⊢;subst hx
       have:(abj n.toNat).toNat=n.toNat:=by
        rw[UInt8.toNat_ofNat'];omega
       rw[this]
       congr 1
       omega
     | succ j=>simpa using h2 j x (by simpa using hx)
   · cases h
theorem vz {w:World} {r:Nat} {cs:Array Value} {t:TypeId} {lo hi n:Nat} (h:w.heap[r]? = some (.cells cs t (lo,hi))) (hn:n≠0) :
 w.freeze ⟨r,0,none⟩ n=w.putObj r (.cells cs t (if lo==hi then (0,n) else (min lo 0,max hi n))):=by
 unfold World.freeze World.putObj;rw[if_neg hn]
 congr 1
 apply Array.ext_getElem?;intro k;rw[Array.getElem?_modify,Array.getElem?_setIfInBounds];by_cases e:r=k
 · subst e;have hlt:=get?_lt h;have hv:w.heap[r]=.cells cs t (lo,hi):=(aaZ.1 h).2;simp[hlt,hv]
 · simp[e]
theorem An {α:Type} {l:List α} {b:Nat} {x:α} (h:l[b]? = some x):l.set b x=l:=by
 apply List.ext_getElem?;intro i;rw[List.getElem?_set];by_cases e:b=i
 · subst e;rw[if_pos rfl,if_pos (aad.1 h).1,h]
 · rw[if_neg e]
theorem uA {pt it e:TypeId} {x l:X} {xo lo:Operand} {o:Oper} (ho:builtinCall .unsafeString [xo,lo] [pt,it] o.op) (hp:P.underlying pt=some (.pointer e)) (hc1:P.cellsOf e=1) (hx:aZ fm x xo) (hl:aZ fm l lo):au P fm (.mm e x l) o:=by
 intro CR G w0 st w fr a v st' hs hf hrun;simp only[aq,aae] at hrun;obtain⟨u,hu,hrun⟩:=hrun;cases hrun;have hxv:=hx.ev (a:=a) hf;have hlv:=hl.ev (a:=a) hf;generalize hx0:a.eval xo=x0 at hxv;generalize hl0:a.eval lo=l0 at hlv
 have fin:∀ (r:Value) (w':World),(Builtin.unsafeString_ #[pt,it] o.type #[x0,l0]).run P w=.ok r w'→(execOp a.eval o).run P w=.ok (.value r) w':=by
  intro r w' h;obtain⟨consts,he⟩:=cA ho a.eval;rw[he];simp only[aaP,abf,hx0,hl0];unfold builtin;exact aa h
 generalize x.ev fr=xv at hu hxv;generalize l.ev fr=lv at hu hlv;unfold sC at hu;split at hu
 · split at hu
   · rename_i h0;subst h0;injection hu with hu;subst hu;cases hxv;cases hlv;exact⟨G,w,_,_,fin _ _ (Lib.run_unsafeString_none w pt it _ none),.inl rfl,Gh.le.refl G,hs,.str _ _ rfl⟩
   · cases hu
 · rename_i b off n
   cases hxv with
   | ptr _ _ r hm=>
   cases hlv;split at hu
   · rename_i h0;subst h0;injection hu with hu;subst hu;exact⟨G,w,_,_,fin _ _ (Lib.run_unsafeString_none w pt it _ (some _)),.inl rfl,Gh.le.refl G,hs,.str _ _ rfl⟩
   · rename_i h0;split at hu
     · rename_i t vs hcell;split at hu
       · rename_i hcond;obtain⟨rfl,rfl,hbase,hn0,hnl,hroom⟩:=hcond;simp only[aae] at hu;obtain⟨bs,hbs,rfl⟩:=hu;have hbo:=gA hcell;obtain⟨r',ob,q1,q2,q3,q4⟩:=hs.obj b _ hbo rfl (hs.np hm);rw[hm] at q1;cases q1;obtain⟨cs,t,⟨flo,fhi⟩,rfl,rfl,k1,k2,k3,k4,k5⟩:=q3;obtain⟨g1,g2⟩:=j6 _ _ hbs;have hlen:bs.length=n.toNat:=by rw[g1];simp;omega
         have hne:bs≠[]:=by
          intro e0;rw[e0] at hlen;simp at hlen;omega
         have hcellr:∀ j x,bs[j]? = some x→w.cell? ((⟨r,0,none⟩:Addr).add j)=some (.int .u8 x.toNat):=by
          intro j y hy;have h1:=g2 j y hy;have hj:j<bs.length:=(aad.1 hy).1;have hjv:j<vs.length:=by omega
          rw[List.getElem?_take,if_pos (by omega)] at h1;have h2:=k3 j hjv;rw[(aad.1 h1).2] at h2;have hjc:j<cs.size:=by omega
          rw[aag,aa9 hjc] at h2;rw[Addr.add_lit,aav];simp only[World.cell?,q2];rw[aa9 hjc];simp only[abg] at h2;generalize cs[j]=cj at h2;cases h2;simp
         have hrd:(ay:Int)=140737488355328:=rfl;rw[hrd] at hroom;have hrun:=Lib.run_unsafeString_row w pt it o.type t hp hc1 r cs.size (by unfold World.shape?;rw[q2]) bs hne (by omega) (by omega) hcellr;rw[hlen,show ((n.toNat:Nat):Int)=n by omega] at hrun;have hfz:=vz (n:=n.toNat) q2 (by omega);rw[hfz] at hrun
         have hput:=hs.put (o':=.cells (.frz t) vs) (ob':=.cells cs t (if flo==fhi then (0,n.toNat) else (min flo 0,max fhi n.toNat))) hbo rfl hm hbase
          ⟨cs,t,_,rfl,rfl,k1,k2,k3,by split<;>simp<;>omega,k5⟩ rfl (fun h=>by cases h)
         rw[An hbo] at hput;exact⟨G,_,_,_,fin _ _ hrun,.inl rfl,Gh.le.refl G,hput,.str _ _ rfl⟩
       · cases hu
     · cases hu
 · cases hu
theorem oe {t u e:TypeId} {bytes:Nat} {zs:List DV} {i:TypeInfo} {x y:X} {xo yo:Operand} {o:Oper} (ho:builtinCall .append [xo,yo] [t,u] o.op) (ht:P.underlying t=some (.slice e)) (hu:ew P u=true)
 (hi:P.info? e=some i) (hn:i.size=1) (hby:i.bytes=bytes) (hz:a9 P e=some zs) (hzl:zs.length=1) (hx:aZ fm x xo) (hy:aZ fm y yo):au P fm (.dg e bytes x y) o:=by
 intro CR G w0 st w fr a v st' hs hf hrun;simp only[aq,df] at hrun;have hxv:=hx.ev (a:=a) hf;have hyv:=hy.ev (a:=a) hf;split at hrun
 · cases hrun
 rename_i m news hnews;have hnr:=eC (P:=P) hs hyv hnews;generalize hx0:a.eval xo=x0 at hxv;generalize hy0:a.eval yo=y0 at hyv hnr;obtain⟨N,n1,n2,n3⟩:=hnr.cells m w (aai _) (Below.refl _ w);obtain⟨N',d1,d2,d3⟩:=hnr.cells m w.drew (aai _) ((Below.refl _ w).drew);have hnl:=hnr.length;obtain⟨i',z,hi',hzz,hcc⟩:=bx hz;rw[hi] at hi';cases hi';obtain⟨zl,zr⟩:=bL (fm:=fm) hcc;have hzsz:z.cells.size=1:=by rw[← hzl,← zl];simp
 have fin:∀ (r:Value) (w':World),(Builtin.append_ #[t,u] o.type #[x0,y0]).run P w=.ok r w'→(execOp a.eval o).run P w=.ok (.value r) w':=by
  intro r w' h;obtain⟨consts,he⟩:=cA ho a.eval;rw[he];simp only[aaP,abf,hx0,hy0];unfold builtin;exact aa h
 have none0:∀ (p:Option Addr) (l c:Nat),m=0→x0=.slice p l c→l≤c→(Builtin.append_ #[t,u] o.type #[x0,y0]).run P w=.ok x0 w:=by
  intro p l c hm hp hlc;subst hm;have hN0:N = #[]:=by simpa using n2
  rw[hp];rw[← hn] at n1;have:=cb (P:=P) (w:=w) (w':=w) (ty:=o.type) (a:=p) (sLen:=l) (sCap:=c) (m:=0) (x:=y0) (news:=N) ht hi hu hnr.len (by omega) n1 (by subst hN0;cases p<;>rfl);simpa using this
 generalize X.ev fr x=xv at hxv hrun;split at hrun
 ·
  rename_i tag n' tk;cases hxv;split at hrun
  · rename_i hm;simp only[aaa.injEq,Prod.mk.injEq] at hrun;obtain⟨rfl,rfl⟩:=hrun;exact⟨G,w,_,_,fin _ _ (none0 none 0 0 hm rfl (aai _)),.inl rfl,Gh.le.refl G,hs,.eF _ _ _⟩
  rename_i hm0;split at hrun
  · rename_i hcond;obtain⟨hb1,hb2⟩:=hcond;simp only[aaa.injEq,Prod.mk.injEq] at hrun;obtain⟨rfl,rfl⟩:=hrun;have hb1:m*bytes≤140737488355328:=by simpa[ay] using hb1
    have hb2:m≤140737488355328:=by simpa[ay] using hb2
    have hd1:=d1;rw[← hn] at hd1;have hge:=grownCap_ge w (0+m) 0 e;have hr:=cD (P:=P) (w:=w) (u:=u) (ty:=o.type) (z:=z) (a:=none) (sLen:=0) (sCap:=0) (m:=m) (x:=y0) (olds:=#[]) (news:=N') ht hi hzz hu hnr.len (by omega) (by rw[hby,aav];omega) (by omega) rfl hd1;generalize harr:(#[]:Array Value)++N'++Builtin.zeroCells z.cells (grownCap w (0+m) 0 e-(0+m))=arr at hr
    have hsz:arr.size=grownCap w (0+m) 0 e*1:=by
     rw[← harr];simp only[Array.size_append,d2,size_zeroCells,hzsz,Array.size_empty];omega
    have hpush:=hs.drew.push (o:=.cells (.frz e) news) (ob:=.cells arr e) (grownCap w (0+m) 0 e*1) ⟨arr,e,(0,0),rfl,rfl,by
     rw[hsz,hnl];exact aay _ (by omega),by simp[Gh.push,hsz],fun i hi=>by
      have:=iT (fm:=fm) (G:=G) (olds:=[]) (news:=news) (O:=#[]) (N:=N') (Z:=Builtin.zeroCells z.cells (grownCap w (0+m) 0 e-(0+m))) rfl (by rw[d2,hnl])
       (fun i hi=>by simp at hi) (fun i hi=>d3 i hi (by omega)) i (by simpa using hi)
      rw[harr] at this
      exact this.le (Gh.bm hs.bM),Nat.zero_le _,hnr.aT⟩ rfl
    have hle:G.le (G.push st.heap.length w.heap.size (grownCap w (0+m) 0 e*1)):=Gh.bm hs.bM;refine⟨_,_,.slice (some ⟨w.heap.size,0,none⟩) (0+m) (grownCap w (0+m) 0 e),_,fin _ _ hr,.inl rfl,hle,hpush,?_⟩;rw[show 0+m=m by omega] at hge ⊢;exact .hsl _ _ _ _ _ _ _ _ (by simp[Gh.push]) ⟨hge,by simp[Gh.push]⟩
  · cases hrun
 ·
  rename_i n' ag' b off len
  cases hxv with
  | hsl _ _ _ _ _ _ r c hmu hcap=>
  have hlc:len≤c:=hcap.1;split at hrun
  · rename_i hm;simp only[aaa.injEq,Prod.mk.injEq] at hrun;obtain⟨rfl,rfl⟩:=hrun;exact⟨G,w,_,_,fin _ _ (none0 _ _ _ hm rfl hlc),.inl rfl,Gh.le.refl G,hs,.hsl _ _ _ _ _ _ _ _ hmu hcap⟩
  rename_i hm;split at hrun
  · rename_i hcond;obtain⟨rfl,rfl,hbase,hb1,hb2⟩:=hcond;have hb1:(len+m)*bytes≤140737488355328:=by simpa[ay] using hb1
    have hb2:len+m≤140737488355328:=by simpa[ay] using hb2
    split at hrun
    · rename_i ty0 vs hcell;split at hrun
      · rename_i hcond2;obtain⟨rfl,hvl⟩:=hcond2;simp only[aaa.injEq,Prod.mk.injEq] at hrun;obtain⟨rfl,rfl⟩:=hrun;have hbo:=gA hcell;obtain⟨r',ob,q1,q2,q3,q4⟩:=hs.obj b _ hbo rfl (hs.np hmu);rw[hmu] at q1;cases q1;obtain⟨cs,ty,fz,rfl,rfl,k1,k2,k3,k4,k5⟩:=q3
        have hro:∀ i,G.ro r i=none:=by
         intro i
         cases er:G.ro r i with
         | none=>rfl
         | some v=>exact absurd hmu (fun h=>hs.cB r i v b _ er hbo rfl h)
        have htk:∀ u x y,st.aO[u]? = some x→G.aY u x=some y→y.1≠r:=by
         intro u x y hu hy e;obtain⟨r',len',cap',n'',cs',ty',h1,h2,h3,h4,h5,h6,h7,h8⟩:=hs.tok u x hu;rw[hy] at h1;cases h1;simp only at e;subst e;exact h7 b _ hbo rfl hmu
        have hgone:=hs.BD b (hs.np hmu)
        have hfree:∀ b' o,(st.heap.set b .gone)[b']? = some o→o.bN=false→G.mu b'≠some r:=by
         intro b' o hb' hg e;rcases getElem?_set_cases _ _ _ _ _ hb' with ⟨rfl,rfl,_⟩ | ⟨e1,e2⟩
         · cases hg
         · exact e1 (hs.bu _ _ _ _ _ e2 hbo hg rfl e hmu)
        have hset:(st.heap.set b .gone).length=st.heap.length:=by simp
        have hscal:(vs++news).all DV.aT=true:=by rw[List.all_append,k5,hnr.aT];rfl
        have hcapo:=hcap.2;by_cases hg:c<len+m
        ·
         have hge:=grownCap_ge w (len+m) c ty
         have hor:=eC (P:=P) (n:=1) (m:=len) (news:=(vs.drop 0).take (len*1)) hs (.hsl 1 ag' b 0 len none r c hmu hcap) (by
          simp only[bQ,if_true,St.cells,hbo]
          rw[if_pos (by omega)])
         obtain⟨O,o1,o2,o3⟩:=hor.cells len w.drew (aai _) ((Below.refl _ w).drew);have hvs:(vs.drop 0).take (len*1)=vs:=by rw[List.drop_zero,aa0 (by omega)]
         rw[hvs] at o3;have hd1:=d1;rw[← hn] at hd1 o1;have hr:=cD (P:=P) (w:=w) (u:=u) (ty:=o.type) (z:=z) (a:=some ⟨r,0,none⟩) (sLen:=len) (sCap:=c) (m:=m) (x:=y0) (olds:=O) (news:=N') ht hi hzz hu hnr.len hg (by rw[hby];omega) (by omega) o1 hd1;generalize harr:O++N'++Builtin.zeroCells z.cells (grownCap w (len+m) c ty-(len+m))=arr at hr
         have hsz:arr.size=grownCap w (len+m) c ty*1:=by
          rw[← harr];simp only[Array.size_append,o2,d2,size_zeroCells,hzsz];omega
         have hpush:=hgone.drew.push (o:=.cells (.frz ty) (vs++news)) (ob:=.cells arr ty) (grownCap w (len+m) c ty*1) ⟨arr,ty,(0,0),rfl,rfl,by
          rw[hsz,aah,← hvl,hnl];omega,by simp[Gh.push,hsz],fun i hi=>by
           have:=iT (fm:=fm) (G:=G) (olds:=vs) (news:=news) (O:=O) (N:=N') (Z:=Builtin.zeroCells z.cells (grownCap w (len+m) c ty-(len+m))) (by rw[o2,hvl];omega) (by rw[d2,hnl])
            (fun i hi=>o3 i hi (by omega)) (fun i hi=>d3 i hi (by omega)) i hi
           rw[harr] at this;refine this.le ?_;have:=hgone.bM
           exact Gh.bm this,Nat.zero_le _,hscal⟩ rfl
         have hle:G.le (G.push (st.heap.set b .gone).length w.heap.size (grownCap w (len+m) c ty*1)):=Gh.bm hgone.bM;refine⟨_,_,_,_,fin _ _ hr,.inl rfl,hle,hpush,?_⟩;rw[← hset];exact .hsl _ _ _ _ _ _ _ _ (by simp[Gh.push]) ⟨hge,by simp[Gh.push]⟩
        ·
         have hcn:c≤cs.size:=by rw[k2];omega
         have hmul:len+m≤cs.size:=by omega
         have hNl:N.toList.length=m:=by simpa using n2
         have hst:=run_storeCells_atF P r len ty fz N.toList 0 cs w q2 (by omega) (by omega) (mf (G:=G) (news:=news) (by rw[n2,hnl]) (fun i hi=>n3 i hi (by omega)) hnr.aT);rw[aaV,eo q2] at hst;have hsp:(cs.toList.take len++N.toList++cs.toList.drop (len+N.toList.length)).toArray=aD cs len N.toList:=rfl;rw[hsp] at hst;have hssz:=dH (cur:=cs) (k:=len) (vs:=N.toList) (by omega);have hput:=hgone.vA (cs':=aD cs len N.toList) q2 (q4 hbase) hfree hssz (fun i v hv=>by rw[hro i] at hv;cases hv);have hrow:(w.putObj r (.cells (aD cs len N.toList) ty fz)).heap[r]? = some (.cells (aD cs len N.toList) ty fz):=by rw[dB w r r _ (get?_lt q2)];simp
         have hlow:∀ i,i<vs.length→(aD cs len N.toList).getD i undef=cs.getD i undef:=by
          intro i hi;unfold aD;rw[aag,aag,aba,aas,aaj (by simp;omega),List.getElem?_take,if_pos (by omega)];simp
         have hhigh:∀ i,i<news.length→(aD cs len N.toList).getD (vs.length+i) undef=N.getD i undef:=by
          intro i hi;unfold aD;have hiN:i<N.toList.length:=by omega
          have e3:vs.length+i-(cs.toList.take len).length=i:=by simp;omega
          rw[aag,aba,aas,aaq (by simp;omega),e3,aaj hiN,← aH,aak]
         have hle:G.le (G.push (st.heap.set b .gone).length r cs.size):=Gh.bm hgone.bM
         have hadopt:=hput.DK (o:=.cells (.frz ty) (vs++news)) cs.size hrow (q4 hbase) hfree hro htk ⟨_,ty,fz,rfl,rfl,by
          rw[hssz,aah,← hvl,hnl];omega,by simp[Gh.push,hssz],fun i hi=>by
           by_cases ei:i<vs.length
           · rw[aaR ei,hlow i ei];exact(k3 i ei).le hle
           · have hi2:i-vs.length<news.length:=by simp only[aah] at hi;omega
             rw[aaO (by omega)];have e4:vs.length+(i-vs.length)=i:=by omega
             have:=hhigh (i-vs.length) hi2;rw[e4] at this;rw[this]
             exact(n3 _ hi2 (by omega)).le hle,by simp;omega,hscal⟩ rfl
         have hn1:=n1;rw[← hn] at hn1
         have hr':=cb (P:=P) (w:=w) (w':=w.putObj r (.cells (aD cs len N.toList) ty fz)) (ty:=o.type) (a:=some ⟨r,0,none⟩) (sLen:=len) (sCap:=c) (m:=m) (x:=y0) (news:=N) ht hi hu hnr.len (by omega) hn1 (by
          show (storeCells ((⟨r,0,none⟩:Addr).add (len*i.size)) N.toList).run P w=_
          rw[Addr.add_lit,aav,hn,Nat.mul_one];exact hst)
         refine⟨_,_,_,_,fin _ _ hr',.inl rfl,hle,hadopt,?_⟩;rw[← hset];exact .hsl _ _ _ _ _ _ _ _ (by simp[Gh.push]) ⟨by omega,by simp[Gh.push];omega⟩
      · cases hrun
    · cases hrun
  · cases hrun
 · cases hrun
theorem ql {t arr e:TypeId} {n len:Nat} {ag:Bool} {i:TypeInfo} {x:X} {xo:Operand} {o:Oper} (ho:o.op=.slice t xo none none none) (ht:P.underlying t=some (.pointer arr)) (ha:P.underlying arr=some (.array len e)) (hi:P.info? e=some i)
 (hx:aZ fm x xo):au P fm (.fi n ag len x) o:=by
 refine ax fun CR G w0 st w fr a v st' hs hf hrun=>?_;simp only[aq] at hrun;have hxv:=hx.ev (a:=a) hf;generalize hx0:a.eval xo=x0 at hxv;split at hrun
 · rename_i b off e0;rw[e0] at hxv;simp only[aaa.injEq,Prod.mk.injEq] at hrun;obtain⟨rfl,rfl⟩:=hrun
   cases hxv with
   | ptr _ _ r hm=>
     refine⟨rfl,.slice (some ⟨r,off,none⟩) len len,?_,.hsl _ _ _ _ _ _ _ _ hm ⟨rfl,aai _⟩⟩;unfold execOp;simp only[ho,hx0,abm];refine aa ?_;unfold Instr.sliceAt Instr.slice;simp[run_underlying ht,run_underlying ha,asAddr,Instr.sliceBounds,sizeOf,typeInfo,hi,Addr.add]
 · cases hrun
theorem ot {t e:TypeId} {n len:Nat} {ag:Bool} {i:TypeInfo} {x:X} {xo:Operand} {o:Oper} (ho:o.op=.slice t xo none none none) (ht:P.underlying t=some (.array len e)) (hi:P.info? e=some i)
 (hx:aZ fm x xo):au P fm (.fi n ag len x) o:=by
 refine ax fun CR G w0 st w fr a v st' hs hf hrun=>?_;simp only[aq] at hrun;have hxv:=hx.ev (a:=a) hf;generalize hx0:a.eval xo=x0 at hxv;split at hrun
 · rename_i b off e0;rw[e0] at hxv;simp only[aaa.injEq,Prod.mk.injEq] at hrun;obtain⟨rfl,rfl⟩:=hrun
   cases hxv with
   | ptr _ _ r hm=>
     refine⟨rfl,.slice (some ⟨r,off,none⟩) len len,?_,.hsl _ _ _ _ _ _ _ _ hm ⟨rfl,aai _⟩⟩;unfold execOp;simp only[ho,hx0,abm];refine aa ?_;unfold Instr.sliceAt Instr.slice;simp[run_underlying ht,Instr.sureAddr,Instr.sliceBounds,sizeOf,typeInfo,hi,Addr.add]
 · cases hrun
theorem mW {n:Nat} {ag:Bool} {b off len:Nat} {lov hiv mxv:Option DV} {u:DV} {G:Gh} {lo0 hh1 mx0:Option Value} {w:World} {r:Nat} (hm:G.mu b=some r) (hlov:jU fm G lov lo0) (hhiv:jU fm G hiv hh1) (hmxv:jU fm G mxv mx0) (hu:b6 false n (.hsl n ag b off len (some len)) lov hiv mxv=some u) :
 ∃ l h m,(Instr.sliceBounds false len len lo0 hh1 mx0).run P w=.ok (l,h,m) w∧Rel fm G u (.slice (if m=l then (some (⟨r,off,none⟩:Addr)) else (some (⟨r,off,none⟩:Addr)).map (·.add (l*n))) (h-l) (m-l)):=by
 simp only[b6,if_true] at hu;split at hu
 · cases hu
 · rename_i m hm1;split at hu
   · cases hu
   · rename_i h hh;split at hu
     · cases hu
     · rename_i l hl;injection hu with hu;subst hu
       have hb:=dn (P:=P) (G:=G) (isS:=false) (len:=len) (c0:=len) (cap:=len) (lo:=lov) (hi:=hiv) (mx:=mxv) (lo':=lo0) (hi':=hh1) (mx':=mx0) (l:=l) (h:=h) (m:=m) (w:=w) hlov hhiv hmxv (aai _)
        (fun v e=>by subst e;exact hm1) (fun e=>by subst e;simp at hm1;exact hm1.symm)
        (fun v e=>by
         subst e
         cases mxv with
         | none=>simp at hh hm1;exact⟨len,hh,by omega⟩
         | some v'=>simp at hh;exact⟨m,hh,aai _⟩)
        (fun e=>by subst e;cases mxv with | none=>simp at hh;exact⟨rfl,hh.symm⟩ | some v=>simp at hh) (fun v e=>by subst e;exact hl) (fun e=>by subst e;simp at hl;exact hl.symm)
       refine⟨l,h,m,hb,?_⟩
       have eaddr:(if m=l then (some (⟨r,off,none⟩:Addr)) else (some (⟨r,off,none⟩:Addr)).map (·.add (l*n)))=some ⟨r,if m=l then off else off+l*n,none⟩:=by
        split<;>simp[Addr.add_lit]
       rw[eaddr];refine .hsl _ _ _ _ _ _ r _ hm ⟨rfl,?_⟩
       have hhm:h≤m:=by
        cases hiv with
        | none=>cases mxv with
          | none=>simp at hh hm1;omega
          | some v=>simp at hh
        | some v=>
          cases mxv with
          | none=>simp at hh hm1;have:=(cg hh).1;omega
          | some v'=>simp at hh;exact(cg hh).1
       omega
theorem q7 {t arr e:TypeId} {n len:Nat} {ag:Bool} {i:TypeInfo} {x:X} {lo hi mx:Option X} {xo:Operand} {lo' hi' mx':Option Operand} {o:Oper} (ho:o.op=.slice t xo lo' hi' mx') (ht:P.underlying t=some (.pointer arr)) (ha:P.underlying arr=some (.array len e)) (hi0:P.info? e=some i) (hn:i.size=n)
 (hx:aZ fm x xo) (hlo:cr fm lo lo') (hhi:cr fm hi hi') (hmx:cr fm mx mx'):au P fm (.sliceB n ag len x lo hi mx) o:=by
 refine ax fun CR G w0 st w fr a v st' hs hf hrun=>?_;simp only[aq] at hrun;have hxv:=hx.ev (a:=a) hf;have hlov:=hlo.ev (a:=a) hf;have hhiv:=hhi.ev (a:=a) hf;have hmxv:=hmx.ev (a:=a) hf;generalize hx0:a.eval xo=x0 at hxv;generalize lo.map (X.ev fr)=lov at hrun hlov;generalize hi.map (X.ev fr)=hiv at hrun hhiv;generalize mx.map (X.ev fr)=mxv at hrun hmxv;generalize hl0:lo'.map a.eval=lo0 at hlov;generalize hh0:hi'.map a.eval=hh1 at hhiv;generalize hm0:mx'.map a.eval=mx0 at hmxv;have hsz:(sizeOf e).run P w=.ok n w:=by unfold sizeOf typeInfo;simp[hi0,hn]
 split at hrun
 · rename_i b off e0;rw[e0] at hxv;simp only[aae] at hrun;obtain⟨u,hu,hrun⟩:=hrun;cases hrun
   cases hxv with
   | ptr _ _ r hm=>
     obtain⟨l,h,m,hb,hrel⟩:=mW (P:=P) (w:=w) hm hlov hhiv hmxv hu;refine⟨rfl,_,?_,hrel⟩;unfold execOp;simp only[ho,hx0,hl0,hh0,hm0];refine aa ?_;unfold Instr.sliceAt Instr.slice;by_cases hml:m=l<;>simp[run_underlying ht,run_underlying ha,asAddr,hb,hsz,hml]
 · cases hrun
theorem oj {t e:TypeId} {n len:Nat} {ag:Bool} {i:TypeInfo} {x:X} {lo hi mx:Option X} {xo:Operand} {lo' hi' mx':Option Operand} {o:Oper} (ho:o.op=.slice t xo lo' hi' mx') (ht:P.underlying t=some (.array len e)) (hi0:P.info? e=some i) (hn:i.size=n)
 (hx:aZ fm x xo) (hlo:cr fm lo lo') (hhi:cr fm hi hi') (hmx:cr fm mx mx'):au P fm (.sliceB n ag len x lo hi mx) o:=by
 refine ax fun CR G w0 st w fr a v st' hs hf hrun=>?_;simp only[aq] at hrun;have hxv:=hx.ev (a:=a) hf;have hlov:=hlo.ev (a:=a) hf;have hhiv:=hhi.ev (a:=a) hf;have hmxv:=hmx.ev (a:=a) hf;generalize hx0:a.eval xo=x0 at hxv;generalize lo.map (X.ev fr)=lov at hrun hlov;generalize hi.map (X.ev fr)=hiv at hrun hhiv;generalize mx.map (X.ev fr)=mxv at hrun hmxv;generalize hl0:lo'.map a.eval=lo0 at hlov;generalize hh0:hi'.map a.eval=hh1 at hhiv;generalize hm0:mx'.map a.eval=mx0 at hmxv;have hsz:(sizeOf e).run P w=.ok n w:=by unfold sizeOf typeInfo;simp[hi0,hn]
 split at hrun
 · rename_i b off e0;rw[e0] at hxv;simp only[aae] at hrun;obtain⟨u,hu,hrun⟩:=hrun;cases hrun
   cases hxv with
   | ptr _ _ r hm=>
     obtain⟨l,h,m,hb,hrel⟩:=mW (P:=P) (w:=w) hm hlov hhiv hmxv hu;refine⟨rfl,_,?_,hrel⟩;unfold execOp;simp only[ho,hx0,hl0,hh0,hm0];refine aa ?_;unfold Instr.sliceAt Instr.slice;by_cases hml:m=l<;>simp[run_underlying ht,Instr.sureAddr,hb,hsz,hml]
 · cases hrun
end Go.D
end
section
namespace Go.D
open Go.RowKit
variable {P:Program} {fm:FM}
def BF (fm:FM) (g:Nat):List DV→Nat→Bool
 | [],_=>true
 | d::ds,i=>(match fm.env g i with | some v=>(match lQ v with | some u=>DV.beq u d | none=>false) | none=>false)&&BF fm g ds (i+1)
theorem xb {g:Nat}:∀ {ds:List DV} {k:Nat},BF fm g ds k=true→∀ i (h:i<ds.length),∃ v,fm.env g (k+i)=some v∧lQ v=some ds[i]
 | [],_,_,i,h=>by simp at h
 | d::ds,k,hb,i,h=>by
   simp only[BF,aab] at hb;obtain⟨h1,h2⟩:=hb
   cases i with
   | zero=>
     split at h1
     · rename_i v hv;split at h1
       · rename_i u hu;have:=DV.beq_eq _ _ h1;subst this;exact⟨v,hv,hu⟩
       · cases h1
     · cases h1
   | succ i=>
     obtain⟨v,g1,g2⟩:=xb h2 i (by simpa using h);exact⟨v,by rwa [show k+(i+1)=k+1+i by omega],by simpa using g2⟩
theorem Cd {g:Nat} {ds:List DV} (h:BF fm g ds 0=true) (G:Gh):Rel fm G (.bC ds) (.pointer (some ⟨g,0,none⟩)):=by
 have key:=xb h;refine .bC ds g 0 (fun i=>(fm.env g i).getD undef) (fun i hi=>?_) (fun i hi=>?_) ?_
 · obtain⟨v,h1,h2⟩:=key i hi;rw[aav] at h1 ⊢;exact .inr (by rw[h1];rfl)
 · obtain⟨v,h1,h2⟩:=key i hi;rw[aav] at h1;simp only[h1,abg];exact kW h2 G
 · rw[aaf];intro x hx;obtain⟨i,hi,rfl⟩:=aa1 hx;obtain⟨v,h1,h2⟩:=key i hi;exact mo h2
def xB (fm:FM):X→Operand→Bool
 | .t n,.tmp m=>n==m
 | .c v,.const x=>(match Gq x with | some u=>DV.beq u v | none=>false)
 | .f g,.func f=>(match fm g with | some f'=>f'==f | none=>false)
 | .c (.bC cs),.global g=>BF fm g cs 0
 | _,_=>false
theorem aN {x:X} {o:Operand} (h:xB fm x o=true):aZ fm x o:=by
 unfold xB at h;split at h
 · exact eq_of_beq h
 · split at h
   · rename_i u hu;have:=DV.beq_eq _ _ h;subst this;exact fun G=>Br hu G
   · cases h
 · split at h
   · rename_i f' hf;have:=eq_of_beq h;subst this;exact hf
   · cases h
 · exact fun G=>Cd h G
 · cases h
def xsB (fm:FM):List X→List Operand→Bool
 | [],[]=>true
 | x::xs,o::os=>xB fm x o&&xsB fm xs os
 | _,_=>false
theorem iV:∀ {xs:List X} {os:List Operand},xsB fm xs os=true→jC fm xs os
 | [],[],_=>⟨rfl,fun i x o h=>by simp at h⟩
 | x::xs,o::os,h=>by
   simp only[xsB,aab] at h;obtain⟨h1,h2⟩:=iV h.2;refine⟨by simp[h1],fun i y z hy hz=>?_⟩
   cases i with
   | zero=>simp only[aat,aaa.injEq] at hy hz;subst hy;subst hz;exact aN h.1
   | succ i=>exact h2 i y z (by simpa using hy) (by simpa using hz)
 | [],_::_,h=>by simp[xsB] at h
 | _::_,[],h=>by simp[xsB] at h
def xoB (fm:FM):Option X→Option Operand→Bool
 | none,none=>true
 | some x,some o=>xB fm x o
 | _,_=>false
theorem eY {x:Option X} {o:Option Operand} (h:xoB fm x o=true):cr fm x o:=by
 unfold xoB at h;split at h
 · trivial
 · exact aN h
 · cases h
def Et:TypeDesc→Bool
 | .struct _ | .array _ _=>true
 | _=>false
def iO (P:Program) (t:TypeId) (n:Nat) (ag:Bool):Bool:=
 (match P.underlying t with | some d=>Et d==ag | none=>false)&&(match P.info? t with | some i=>i.size==n | none=>false)&&(ag||n==1)
theorem iP {t:TypeId} {n:Nat} {ag:Bool} (h:iO P t n ag=true):g9 P t n ag:=by
 unfold iO at h;simp only[aab,Bool.or_eq_true] at h;obtain⟨⟨h1,h2⟩,h3⟩:=h;refine⟨?_,?_,?_⟩
 · split at h1
   · rename_i d hd;refine⟨d,hd,?_⟩;rw[← eq_of_beq h1];cases d<;>rfl
   · cases h1
 · split at h2
   · rename_i i hi;exact⟨i,hi,eq_of_beq h2⟩
   · cases h2
 · intro hag;rcases h3 with h3 | h3
   · rw[hag] at h3;cases h3
   · exact eq_of_beq h3
def iG (P:Program) (t:TypeId) (zs:List DV):Bool:=match a9 P t with | some u=>DV.kB u zs | none=>false
theorem dC {t:TypeId} {zs:List DV} (h:iG P t zs=true):a9 P t=some zs:=by
 unfold iG at h;split at h
 · rename_i u hu;rw[hu,DV.gZ _ _ h]
 · cases h
def kS (P:Program) (fm:FM) (t:TypeId):List (Nat×Nat×X)→List (Nat×Operand)→Bool
 | [],[]=>true
 | (off,n,x)::xs,(i,o)::os=>(match placeOf P t i with | some (a,b)=>a==off&&b==n | none=>false)&&xB fm x o&&kS P fm t xs os
 | _,_=>false
theorem oI {t:TypeId}:∀ {xs:List (Nat×Nat×X)} {os:List (Nat×Operand)},kS P fm t xs os=true→tX fm (placeOf P t) xs os
 | [],[],_=>⟨rfl,fun k off n x i o h=>by simp at h⟩
 | (off,n,x)::xs,(i,o)::os,h=>by
   simp only[kS,aab] at h;obtain⟨⟨h0,h1⟩,h2⟩:=h;obtain⟨g1,g2⟩:=oI h2;refine⟨by simp[g1],fun k off' n' y i' o' hy hz=>?_⟩
   cases k with
   | zero=>
     simp only[aat,aaa.injEq,Prod.mk.injEq] at hy hz;obtain⟨rfl,rfl,rfl⟩:=hy;obtain⟨rfl,rfl⟩:=hz;refine⟨?_,aN h1⟩;split at h0
     · rename_i a b hab;simp only[aab] at h0;rw[hab,eq_of_beq h0.1,eq_of_beq h0.2]
     · cases h0
   | succ k=>exact g2 k off' n' y i' o' (by simpa using hy) (by simpa using hz)
 | [],_::_,h=>by simp[kS] at h
 | _::_,[],h=>by simp[kS] at h
def mX (fm:FM):List (Nat×X)→List (Nat×Operand)→Bool
 | [],[]=>true
 | (j,x)::xs,(i,o)::os=>j==i&&xB fm x o&&mX fm xs os
 | _,_=>false
theorem nV:∀ {xs:List (Nat×X)} {os:List (Nat×Operand)},mX fm xs os=true→os.length=xs.length∧∀ (k j j':Nat) (x:X) (o:Operand),xs[k]? = some (j,x)→os[k]? = some (j',o)→j=j'∧aZ fm x o
 | [],[],_=>⟨rfl,fun k off n x i h=>by simp at h⟩
 | (j,x)::xs,(i,o)::os,h=>by
   simp only[mX,aab] at h;obtain⟨⟨h0,h1⟩,h2⟩:=h;obtain⟨g1,g2⟩:=nV h2;refine⟨by simp[g1],fun k j1 j2 y o' hy hz=>?_⟩
   cases k with
   | zero=>
     simp only[aat,aaa.injEq,Prod.mk.injEq] at hy hz;obtain⟨rfl,rfl⟩:=hy;obtain⟨rfl,rfl⟩:=hz;exact⟨eq_of_beq h0,aN h1⟩
   | succ k=>exact g2 k j1 j2 y o' (by simpa using hy) (by simpa using hz)
 | [],_::_,h=>by simp[mX] at h
 | _::_,[],h=>by simp[mX] at h
def opB (P:Program) (fm:FM) (r:ROp) (o:Op):Bool:=
 match r with
 | .mv x=>(match o with | .move xo=>xB fm x xo | .assign xo=>xB fm x xo | _=>false)
 | .pick c a b=>(match o with | .pick co ao bo=>xB fm c co&&xB fm a ao&&xB fm b bo | _=>false)
 | .alloc zs=>(match o with | .alloc e=>iG P e zs | _=>false)
 | .box _ x=>(match o with | .box _ xo=>xB fm x xo | _=>false)
 | .build zs parts=>(match o with | .build t ps=>iG P t zs&&ll P t&&kS P fm t parts ps.toList | _=>false)
 | .lit n ag zs len parts=>(match o with
   | .buildSlice t l ps=>l==len&&(match P.underlying t with
     | some (.slice e)=>(match P.info? e with | some i=>i.size==n | none=>false)&&iG P e zs&&zs.length==n&&(ag||n==1)&&Nat.ble (len*n) 16777216&&mX fm parts ps.toList
     | _=>false)
   | _=>false)
 | .lZ n _ zs len parts=>(match o with
   | .buildSlice t l ps=>l==len&&(match P.underlying t with
     | some (.slice e)=>(match P.info? e with | some i=>i.size==n | none=>false)&&iG P e zs&&zs.length==n&&Nat.ble (len*n) 16777216&&mX fm parts ps.toList
     | _=>false)
   | _=>false)
 | .load n ag x=>(match o with | .load t xo=>iO P t n ag&&xB fm x xo | _=>false)
 | .store n x v=>(match o with | .store t xo vo=>(match P.info? t with | some i=>i.size==n | none=>false)&&xB fm x xo&&xB fm v vo | _=>false)
 | .aJ x=>(match o with | .nilCheck xo=>xB fm x xo | _=>false)
 | .bin op x y=>(match o with | .binOp op' _ xo yo _=>decide (op=op')&&xB fm x xo&&xB fm y yo | _=>false)
 | .eq k neg x y=>(match o with | .binOp op' t xo yo _=>decide (op'=if neg then .neq else .eql)&&uz P t k&&xB fm x xo&&xB fm y yo | _=>false)
 | .un op x=>(match o with | .unOp op' _ xo=>decide (op=op')&&xB fm x xo | _=>false)
 | .i2i k x=>(match o with | .convert s d xo=>(P.underlying s).isSome&&(match P.underlying d with | some (.int k')=>decide (k=k') | _=>false)&&xB fm x xo | _=>false)
 | .i2s .. => false
 | .same .. => false
 | .s2b x | .s2h x=>(match o with
   | .convert s d xo=>(match P.underlying s with | some .string=>true | _=>false)&&(match P.underlying d with | some (.slice e)=>(match P.underlying e with | some (.int k)=>decide (k=.u8) | _=>false) | _=>false)&&xB fm x xo
   | _=>false)
 | .b2s x=>(match o with
   | .convert s d xo=>(match P.underlying d with | some .string=>true | _=>false)&&(match P.underlying s with | some (.slice e)=>(match P.underlying e with | some (.int k)=>decide (k=.u8) | _=>false) | _=>false)&&xB fm x xo
   | _=>false)
 | .ff g fs cs=>(match o with | .makeFunc (.func f) fo co=>(match fm g with | some f'=>f'==f | none=>false)&&xsB fm fs fo.toList&&xsB fm cs co.toList | _=>false)
 | .iz=>(match o with | .makeMap _ none=>true | _=>false)
 | .bZ n _ bytes zs l c=>(match o with
   | .makeSlice t lo co=>(match P.underlying t with
     | some (.slice e)=>(match P.info? e with | some i=>i.size==n&&i.bytes==bytes | none=>false)&&iG P e zs&&zs.length==n&&xB fm l lo&&xB fm c co
     | _=>false)
   | _=>false)
 | .jQ .. => false
 | .slice true _ x lo hi mx=>(match o with | .slice t xo lo' hi' none=>(match P.underlying t with | some .string=>true | _=>false)&&mx.isNone&&xB fm x xo&&xoB fm lo lo'&&xoB fm hi hi' | _=>false)
 | .slice false n x lo hi mx=>(match o with
   | .slice t xo lo' hi' mx'=>(match P.underlying t with | some (.slice e)=>(match P.info? e with | some i=>i.size==n | none=>false) | _=>false)&&xB fm x xo&&xoB fm lo lo'&&xoB fm hi hi'&&xoB fm mx mx'
   | _=>false)
 | .fh off x=>(match o with
   | .fieldAddr s xo k=>(match P.underlying s with | some (.struct fs)=>(match fs[k]? with | some f=>(match P.info? f.type with | some i => !(i.size==0) | none=>false)&&f.offset==off | none=>false) | _=>false)&&xB fm x xo
   | _=>false)
 | .field .. => false
 | .bw n x j=>(match o with
   | .indexAddr t xo jo=>(match P.underlying t with | some (.slice e)=>(match P.info? e with | some i=>i.size==n | none=>false) | _=>false)&&xB fm x xo&&xB fm j jo
   | _=>false)
 | .cP n len x j=>(match o with
   | .indexAddr t xo jo=>(match P.underlying t with | some (.array l e)=>l==len&&(match P.info? e with | some i=>i.size==n | none=>false) | _=>false)&&xB fm x xo&&xB fm j jo
   | _=>false)
 | .index x j=>(match o with | .index t xo jo=>(match P.underlying t with | some .string=>true | _=>false)&&xB fm x xo&&xB fm j jo | _=>false)
 | .gL n ag len x j=>(match o with
   | .index t xo jo=>(match P.underlying t with | some (.array l e)=>l==len&&iO P e n ag | _=>false)&&xB fm x xo&&xB fm j jo
   | _=>false)
 | .lookup .. => false
 | .fY .. => false
 | .extract x i=>(match o with | .extract xo j=>i==j&&xB fm x xo | _=>false)
 | .iface .. => false
 | .len k x=>(match o with | .call c=>(match c.callee,c.args.toList,c.argTypes.toList with | .builtin .len,[xo],[t]=>qX P t k&&xB fm x xo | _,_,_=>false) | _=>false)
 | .ur .. => false
 | .cap .. => false
 | .append n ag bytes x y=>(match o with
   | .call c=>(match c.callee,c.args.toList,c.argTypes.toList with
     | .builtin .append,[xo,yo],[t,u]=>(match P.underlying t with
       | some (.slice e)=>(match P.info? e with | some i=>i.size==n&&i.bytes==bytes | none=>false)&&(match a9 P e with | some zs=>zs.length==n | none=>false)&&(ag||n==1)&&ew P u&&xB fm x xo&&xB fm y yo
       | _=>false)
     | _,_,_=>false)
   | _=>false)
 | .eN .. => false
 | .clear .. => false
 | .copy .. => false
 | .max args=>(match o with | .call c=>(match c.callee with | .builtin .max=>xsB fm args c.args.toList | _=>false) | _=>false)
 | .min args=>(match o with | .call c=>(match c.callee with | .builtin .min=>xsB fm args c.args.toList | _=>false) | _=>false)
 | .call .. | .bd .. | .cI .. => false
 | .fw ty zs=>(match o with | .alloc e=>e==ty&&iG P e zs | _=>false)
 | .conv ty n x=>(match o with
   | .convert s d xo=>(match P.underlying s,P.underlying d with
     | some (.pointer t),some .unsafePointer=>(match P.info? t with | some j => !(j.size==0) | none=>false)&&Nat.blt 0 n
     | some .unsafePointer,some (.pointer u)=>(P.info? u).isSome&&liesAt P P.depth ty (n/P.cellsOf ty) 0 u 1
     | _,_=>false)&&xB fm x xo
   | _=>false)
 | .dg ty bytes x y=>(match o with
   | .call c=>(match c.callee,c.args.toList,c.argTypes.toList with
     | .builtin .append,[xo,yo],[t,u]=>(match P.underlying t with
       | some (.slice e)=>e==ty&&(match P.info? e with | some i=>i.size==1&&i.bytes==bytes | none=>false)&&(match a9 P e with | some zs=>zs.length==1 | none=>false)&&ew P u&&xB fm x xo&&xB fm y yo
       | _=>false)
     | _,_,_=>false)
   | _=>false)
 | .fe x=>(match o with
   | .call c=>(match c.callee,c.args.toList,c.argTypes.toList with
     | .builtin .unsafeSliceData,[xo],[_]=>xB fm x xo
     | _,_,_=>false)
   | _=>false)
 | .mm ty x l=>(match o with
   | .call c=>(match c.callee,c.args.toList,c.argTypes.toList with
     | .builtin .unsafeString,[xo,lo],[pt,_]=>(match P.underlying pt with | some (.pointer e)=>e==ty&&P.cellsOf e==1 | _=>false)&&xB fm x xo&&xB fm l lo
     | _,_,_=>false)
   | _=>false)
 | .sliceB n _ len x lo hi mx=>(match o with
   | .slice t xo lo' hi' mx'=>(match P.underlying t with
     | some (.pointer arr)=>(match P.underlying arr with | some (.array l e)=>l==len&&(match P.info? e with | some i=>i.size==n | none=>false) | _=>false)
     | some (.array l e)=>l==len&&(match P.info? e with | some i=>i.size==n | none=>false)
     | _=>false)&&xB fm x xo&&xoB fm lo lo'&&xoB fm hi hi'&&xoB fm mx mx'
   | _=>false)
 | .fi _ _ len x=>(match o with
   | .slice t xo none none none=>(match P.underlying t with
     | some (.pointer arr)=>(match P.underlying arr with | some (.array l e)=>l==len&&(P.info? e).isSome | _=>false)
     | some (.array l e)=>l==len&&(P.info? e).isSome
     | _=>false)&&xB fm x xo
   | _=>false)
 | .got .. => false
 | .fail=>(match o with | .defer _=>false | _=>true)
end Go.D
end
section
namespace Go.D
open Go.RowKit
variable {P:Program} {fm:FM}
theorem iq {b:Builtin} {c:Call} {as_:List Operand} {ts:List TypeId} {op:Op} (ho:op=.call c) (h1:c.callee=.builtin b) (h2:c.args.toList=as_) (h3:c.argTypes.toList=ts):builtinCall b as_ ts op:=⟨c,ho,h1,h2,h3⟩
theorem tA {e:TypeId} {n:Nat} (h:(match P.info? e with | some i=>i.size==n | none=>false)=true):∃ i,P.info? e=some i∧i.size=n:=by
 split at h
 · rename_i i hi;exact⟨i,hi,eq_of_beq h⟩
 · cases h
theorem qf {e:TypeId} {n b:Nat} (h:(match P.info? e with | some i=>i.size==n&&i.bytes==b | none=>false)=true):∃ i,P.info? e=some i∧i.size=n∧i.bytes=b:=by
 split at h
 · rename_i i hi;simp only[aab] at h;exact⟨i,hi,eq_of_beq h.1,eq_of_beq h.2⟩
 · cases h
theorem HM {α:Type} {o:Option α} (h:o.isSome=true):∃ x,o=some x:=aaS.1 h
theorem yZ {t:TypeId} (h:(match P.underlying t with | some .string=>true | _=>false)=true):P.underlying t=some .string:=by
 split at h
 · assumption
 · cases h
theorem uN {t:TypeId} (h:(match P.underlying t with | some (.slice e)=>(match P.underlying e with | some (.int k)=>decide (k=.u8) | _=>false) | _=>false)=true):∃ e,P.underlying t=some (.slice e)∧P.underlying e=some (.int .u8):=by
 split at h
 · rename_i e he;split at h
   · rename_i k hk;have:=of_decide_eq_true h;subst this;exact⟨e,he,hk⟩
   · cases h
 · cases h
theorem slB {t:TypeId} {n:Nat} (h:(match P.underlying t with | some (.slice e)=>(match P.info? e with | some i=>i.size==n | none=>false) | _=>false)=true):∃ e i,P.underlying t=some (.slice e)∧P.info? e=some i∧i.size=n:=by
 split at h
 · rename_i e he;obtain⟨i,h1,h2⟩:=tA h;exact⟨e,i,he,h1,h2⟩
 · cases h
theorem orB {ag:Bool} {n:Nat} (h:(ag||n==1)=true):ag=true∨n=1:=by
 simp only[Bool.or_eq_true] at h;rcases h with h | h
 · exact .inl h
 · exact .inr (eq_of_beq h)
theorem Er {r:ROp} {o:Oper} (h:opB P fm r o.op=true):au P fm r o:=by
 cases r with
 | mv x=>
   simp only[opB] at h;split at h
   · exact sf (.inl (by assumption)) (aN h)
   · exact sf (.inr (by assumption)) (aN h)
   · cases h
 | pick c a b=>
   simp only[opB] at h;split at h
   · simp only[aab] at h;exact uk (by assumption) (aN h.1.1) (aN h.1.2) (aN h.2)
   · cases h
 | alloc zs=>
   simp only[opB] at h;split at h
   · exact sF (by assumption) (dC h)
   · cases h
 | box n x=>
   simp only[opB] at h;split at h
   · exact xx (by assumption) (aN h)
   · cases h
 | build zs parts=>
   simp only[opB] at h;split at h
   · simp only[aab] at h;exact sq (by assumption) (dC h.1.1) h.1.2 (oI h.2)
   · cases h
 | lit n ag zs len parts=>
   simp only[opB] at h;split at h
   · rename_i ho;simp only[aab] at h;have hl:=eq_of_beq h.1;subst hl;have h:=h.2;split at h
     · rename_i e he;simp only[aab] at h;obtain⟨⟨⟨⟨⟨h1,h2⟩,h3⟩,h4⟩,h5⟩,h6⟩:=h;obtain⟨i,hi,hn⟩:=tA h1;exact xm ho he hi hn (dC h2) (eq_of_beq h3) (orB h4) (aaB h5) (nV h6)
     · cases h
   · cases h
 | lZ n ag zs len parts=>
   simp only[opB] at h;split at h
   · rename_i ho;simp only[aab] at h;have hl:=eq_of_beq h.1;subst hl;have h:=h.2;split at h
     · rename_i e he;simp only[aab] at h;obtain⟨⟨⟨⟨h1,h2⟩,h3⟩,h5⟩,h6⟩:=h;obtain⟨i,hi,hn⟩:=tA h1;exact u3 ho he hi hn (dC h2) (eq_of_beq h3) (aaB h5) (nV h6)
     · cases h
   · cases h
 | load n ag x=>
   simp only[opB] at h;split at h
   · simp only[aab] at h;exact vk (by assumption) (iP h.1) (aN h.2)
   · cases h
 | store n x v=>
   simp only[opB] at h;split at h
   · simp only[aab] at h;obtain⟨i,hi,hn⟩:=tA h.1.1;exact tu (by assumption) hi hn (aN h.1.2) (aN h.2)
   · cases h
 | aJ x=>
   simp only[opB] at h;split at h
   · exact rB (by assumption) (aN h)
   · cases h
 | bin op x y=>
   simp only[opB] at h;split at h
   · rename_i ho;simp only[aab] at h;have:=of_decide_eq_true h.1.1;subst this;exact yz ho (aN h.1.2) (aN h.2)
   · cases h
 | eq k neg x y=>
   simp only[opB] at h;split at h
   · rename_i ho;simp only[aab] at h;have:=of_decide_eq_true h.1.1.1;subst this;exact Az ho h.1.1.2 (aN h.1.2) (aN h.2)
   · cases h
 | un op x=>
   simp only[opB] at h;split at h
   · rename_i ho;simp only[aab] at h;have:=of_decide_eq_true h.1;subst this;exact yI ho (aN h.2)
   · cases h
 | i2i k x=>
   simp only[opB] at h;split at h
   · rename_i ho;simp only[aab] at h;obtain⟨⟨h1,h2⟩,h3⟩:=h;obtain⟨e,he⟩:=HM h1;split at h2
     · rename_i k' hk;have:=of_decide_eq_true h2;subst this;exact xw ho he hk (aN h3)
     · cases h2
   · cases h
 | i2s x=>simp[opB] at h
 | same x=>simp[opB] at h
 | s2b x=>
   simp only[opB] at h;split at h
   · rename_i ho;simp only[aab] at h;obtain⟨⟨h1,h2⟩,h3⟩:=h;obtain⟨e,he,hu⟩:=uN h2;exact xz ho (yZ h1) he hu (aN h3)
   · cases h
 | s2h x=>
   simp only[opB] at h;split at h
   · rename_i ho;simp only[aab] at h;obtain⟨⟨h1,h2⟩,h3⟩:=h;obtain⟨e,he,hu⟩:=uN h2;exact xu ho (yZ h1) he hu (aN h3)
   · cases h
 | b2s x=>
   simp only[opB] at h;split at h
   · rename_i ho;simp only[aab] at h;obtain⟨⟨h1,h2⟩,h3⟩:=h;obtain⟨e,he,hu⟩:=uN h2;exact xP ho he hu (yZ h1) (aN h3)
   · cases h
 | ff g fs cs=>
   simp only[opB] at h;split at h
   · rename_i ho;simp only[aab] at h;obtain⟨⟨h1,h2⟩,h3⟩:=h;split at h1
     · rename_i f' hf;have:=eq_of_beq h1;subst this;exact vf ho hf (iV h2) (iV h3)
     · cases h1
   · cases h
 | iz=>
   simp only[opB] at h;split at h
   · exact sX (by assumption)
   · cases h
 | bZ n ag bytes zs l c=>
   simp only[opB] at h;split at h
   · rename_i ho;split at h
     · rename_i e he;simp only[aab] at h;obtain⟨⟨⟨⟨h1,h2⟩,h3⟩,h4⟩,h5⟩:=h
       obtain⟨i,hi,hn,hb⟩:=qf (P:=P) (e:=e) (n:=n) (b:=bytes) (by
        split
        · rename_i i hi;rw[hi] at h1;simpa using h1
        · rename_i hi;rw[hi] at h1;cases h1)
       exact n5 ho he hi hn hb (dC h2) (eq_of_beq h3) (aN h4) (aN h5)
     · cases h
   · cases h
 | jQ n bytes l c=>simp[opB] at h
 | slice str n x lo hi mx=>
   cases str with
   | true=>
     simp only[opB] at h;split at h
     · rename_i ho;simp only[aab] at h;obtain⟨⟨⟨⟨h1,h2⟩,h3⟩,h4⟩,h5⟩:=h;have:mx=none:=Option.isNone_iff_eq_none.1 h2;subst this;exact l5 ho (yZ h1) (aN h3) (eY h4) (eY h5)
     · cases h
   | false=>
     simp only[opB] at h;split at h
     · rename_i ho;simp only[aab] at h;obtain⟨⟨⟨⟨h1,h2⟩,h3⟩,h4⟩,h5⟩:=h;obtain⟨e,i,he,hi,hn⟩:=slB h1;exact tY ho he hi hn (aN h2) (eY h3) (eY h4) (eY h5)
     · cases h
 | fh off x=>
   simp only[opB] at h;split at h
   · rename_i ho;simp only[aab] at h;obtain⟨h1,h2⟩:=h;split at h1
     · rename_i fs hfs;split at h1
       · rename_i f hf;simp only[aab] at h1;obtain⟨h3,h4⟩:=h1;split at h3
         · rename_i i hi;exact sY ho hfs hf hi (by intro e;rw[e] at h3;simp at h3) (eq_of_beq h4) (aN h2)
         · cases h3
       · cases h1
     · cases h1
   · cases h
 | field n ag off x=>simp[opB] at h
 | bw n x j=>
   simp only[opB] at h;split at h
   · rename_i ho;simp only[aab] at h;obtain⟨⟨h1,h2⟩,h3⟩:=h;obtain⟨e,i,he,hi,hn⟩:=slB h1;exact tF ho he hi hn (aN h2) (aN h3)
   · cases h
 | cP n len x j=>
   simp only[opB] at h;split at h
   · rename_i ho;simp only[aab] at h;obtain⟨⟨h1,h2⟩,h3⟩:=h;split at h1
     · rename_i l e he;simp only[aab] at h1
       obtain⟨i,hi,hn⟩:=tA (P:=P) (e:=e) (n:=n) (by
        have h1:=h1.2;split
        · rename_i i hi;rw[hi] at h1;simpa using h1
        · rename_i hi;rw[hi] at h1;cases h1)
       have:=eq_of_beq h1.1;subst this;exact qQ ho he hi hn (aN h2) (aN h3)
     · cases h1
   · cases h
 | index x j=>
   simp only[opB] at h;split at h
   · rename_i ho;simp only[aab] at h;exact sP ho (yZ h.1.1) (aN h.1.2) (aN h.2)
   · cases h
 | gL n ag len x j=>
   simp only[opB] at h;split at h
   · rename_i ho;simp only[aab] at h;obtain⟨⟨h1,h2⟩,h3⟩:=h;split at h1
     · rename_i l e he;simp only[aab] at h1;have:=eq_of_beq h1.1;subst this;exact qA ho he (iP h1.2) (aN h2) (aN h3)
     · cases h1
   · cases h
 | lookup ks zero x j ok=>simp[opB] at h
 | fY ks m k v=>simp[opB] at h
 | extract x i=>
   simp only[opB] at h;split at h
   · rename_i ho;simp only[aab] at h;have:=eq_of_beq h.1;subst this;exact oA ho (aN h.2)
   · cases h
 | iface t x=>simp[opB] at h
 | len k x=>
   simp only[opB] at h;split at h
   · rename_i c ho;split at h
     · rename_i h1 h2 h3;simp only[aab] at h;exact xF (iq ho h1 h2 h3) h.1 (aN h.2)
     · cases h
   · cases h
 | ur n=>simp[opB] at h
 | cap x=>simp[opB] at h
 | append n ag bytes x y=>
   simp only[opB] at h;split at h
   · rename_i c ho;split at h
     · rename_i h1 h2 h3;split at h
       · rename_i e he;simp only[aab] at h;obtain⟨⟨⟨⟨⟨g1,g2⟩,g3⟩,g4⟩,g5⟩,g6⟩:=h
         obtain⟨i,hi,hn,hb⟩:=qf (P:=P) (e:=e) (n:=n) (b:=bytes) (by
          split
          · rename_i i hi;rw[hi] at g1;simpa using g1
          · rename_i hi;rw[hi] at g1;cases g1)
         split at g2
         · rename_i zs hz;exact pM (iq ho h1 h2 h3) he g4 hi hn hb hz (eq_of_beq g2) (orB g3) (aN g5) (aN g6)
         · cases g2
       · cases h
     · cases h
   · cases h
 | eN n ag bytes x y=>simp[opB] at h
 | clear n zs x=>simp[opB] at h
 | copy n x y=>simp[opB] at h
 | max args=>
   simp only[opB] at h;split at h
   · rename_i c ho;split at h
     · rename_i h1;exact x7 (iq ho h1 rfl rfl) (iV h)
     · cases h
   · cases h
 | min args=>
   simp only[opB] at h;split at h
   · rename_i c ho;split at h
     · rename_i h1;exact xE (iq ho h1 rfl rfl) (iV h)
     · cases h
   · cases h
 | call g args=>simp[opB] at h
 | bd f args=>simp[opB] at h
 | cI f args=>simp[opB] at h
 | fw ty zs=>
   simp only[opB] at h;split at h
   · rename_i e ho;simp only[aab] at h;have:=eq_of_beq h.1;subst this;exact qM ho (dC h.2)
   · cases h
 | conv ty n x=>
   simp only[opB] at h;split at h
   · rename_i s d xo ho;simp only[aab] at h;obtain⟨h1,h2⟩:=h;split at h1
     · rename_i t hs hd;simp only[aab] at h1;obtain⟨h3,h4⟩:=h1;split at h3
       · rename_i j hj;exact qT ho hs hd hj (by simpa using h3) (aaB h4) (aN h2)
       · cases h3
     · rename_i u hs hd;simp only[aab] at h1;obtain⟨j,hj⟩:=aaS.1 h1.1;exact nR ho hs hd hj h1.2 (aN h2)
     · cases h1
   · cases h
 | dg ty bytes x y=>
   simp only[opB] at h;split at h
   · rename_i c ho;split at h
     · rename_i h1 h2 h3;split at h
       · rename_i e he;simp only[aab] at h;obtain⟨⟨⟨⟨⟨g0,g1⟩,g2⟩,g4⟩,g5⟩,g6⟩:=h;have:=eq_of_beq g0;subst this
         obtain⟨i,hi,hn,hb⟩:=qf (P:=P) (e:=e) (n:=1) (b:=bytes) (by
          split
          · rename_i i hi;rw[hi] at g1;simpa using g1
          · rename_i hi;rw[hi] at g1;cases g1)
         split at g2
         · rename_i zs hz;exact oe (iq ho h1 h2 h3) he g4 hi hn hb hz (eq_of_beq g2) (aN g5) (aN g6)
         · cases g2
       · cases h
     · cases h
   · cases h
 | fe x=>
   simp only[opB] at h;split at h
   · rename_i c ho;split at h
     · rename_i h1 h2 h3;exact rE (iq ho h1 h2 h3) (aN h)
     · cases h
   · cases h
 | mm ty x l=>
   simp only[opB] at h;split at h
   · rename_i c ho;split at h
     · rename_i h1 h2 h3;simp only[aab] at h;obtain⟨⟨g1,g2⟩,g3⟩:=h;split at g1
       · rename_i e he;simp only[aab] at g1;have:=eq_of_beq g1.1;subst this;exact uA (iq ho h1 h2 h3) he (eq_of_beq g1.2) (aN g2) (aN g3)
       · cases g1
     · cases h
   · cases h
 | sliceB n ag len x lo hi mx=>
   simp only[opB] at h;split at h
   · rename_i t xo lo' hi' mx' ho;simp only[aab] at h;obtain⟨⟨⟨⟨h1,h2⟩,h3⟩,h4⟩,h5⟩:=h;split at h1
     · rename_i arr ht;split at h1
       · rename_i l e ha;simp only[aab] at h1;have:=eq_of_beq h1.1;subst this;have h6:=h1.2;split at h6
         · rename_i i hi;exact q7 ho ht ha hi (eq_of_beq h6) (aN h2) (eY h3) (eY h4) (eY h5)
         · cases h6
       · cases h1
     · rename_i l e ht;simp only[aab] at h1;have:=eq_of_beq h1.1;subst this;have h6:=h1.2;split at h6
       · rename_i i hi;exact oj ho ht hi (eq_of_beq h6) (aN h2) (eY h3) (eY h4) (eY h5)
       · cases h6
     · cases h1
   · cases h
 | fi n ag len x=>
   simp only[opB] at h;split at h
   · rename_i t xo ho;simp only[aab] at h;obtain⟨h1,h2⟩:=h;split at h1
     · rename_i arr ht;split at h1
       · rename_i l e ha;simp only[aab] at h1;have:=eq_of_beq h1.1;subst this;obtain⟨i,hi⟩:=aaS.1 h1.2;exact ql ho ht ha hi (aN h2)
       · cases h1
     · rename_i l e ht;simp only[aab] at h1;have:=eq_of_beq h1.1;subst this;obtain⟨i,hi⟩:=aaS.1 h1.2;exact ot ho ht hi (aN h2)
     · cases h1
   · cases h
 | got v xs=>simp only[opB] at h;cases h
 | fail=>
   intro CR G w0 st w fr a v st' hs hf hrun;simp[aq] at hrun
def mS:ROp→Bool
 | .alloc _ | .iz | .bZ .. => true
 | _=>false
theorem AO {r:ROp} {o:Oper} (h:opB P fm r o.op=true) (hf:mS r=true):im P fm r o:=by
 cases r<;>simp only[mS,aam] at hf
 case alloc zs=>
  simp only[opB] at h;split at h
  · exact ou (by assumption) (dC h)
  · cases h
 case iz=>
  simp only[opB] at h;split at h
  · exact n7 (by assumption)
  · cases h
 case bZ n ag bytes zs l c=>
  simp only[opB] at h;split at h
  · rename_i ho;split at h
    · rename_i e he;simp only[aab] at h;obtain⟨⟨⟨⟨h1,h2⟩,h3⟩,h4⟩,h5⟩:=h
      obtain⟨i,hi,hn,hb⟩:=qf (P:=P) (e:=e) (n:=n) (b:=bytes) (by
       split
       · rename_i i hi;rw[hi] at h1;simpa using h1
       · rename_i hi;rw[hi] at h1;cases h1)
      exact l3 ho he hi hn hb (dC h2) (eq_of_beq h3) (aN h4) (aN h5)
    · cases h
  · cases h
end Go.D
end
section
namespace Go.D
open Go.RowKit
variable {P:Program} {fm:FM} {T:Tab}
def u2 (ops:Array Oper):Option (Nat×Bool)→Option (Nat×Bool)→Bool
 | none,none=>true
 | some (t,want),some (j,want')=>want==want'&&(match ops[j]? with | some o=>(match o.dst with | some u=>u==t | none=>false) | none=>false)
 | _,_=>false
theorem xS {ops:Array Oper} {g g':Option (Nat×Bool)} (h:u2 ops g g'=true):iI ops g g':=by
 unfold u2 at h;split at h
 · trivial
 · rename_i t want j want';simp only[aab] at h;obtain⟨h1,h2⟩:=h;refine⟨eq_of_beq h1,?_⟩;split at h2
   · rename_i o ho;split at h2
     · rename_i u hu;rw[ho];simp[hu,eq_of_beq h2]
     · cases h2
   · cases h2
 · cases h
def Fq (N:Nat):Option Nat→Option Nat→Bool
 | none,none=>true
 | some a,some b=>a==b&&Nat.blt b N
 | _,_=>false
theorem CY {N:Nat} {a b:Option Nat} (h:Fq N a b=true):a=b∧∀ t,b=some t→t<N:=by
 unfold Fq at h;split at h
 · exact⟨rfl,fun t h=>by cases h⟩
 · rename_i a b;simp only[aab] at h;have h2:=h.2;refine⟨by rw[eq_of_beq h.1],fun t ht=>?_⟩;cases ht;exact aaB h2
 · cases h
def s8 (fm:FM):ROp→Op→Bool
 | .call g args,.call c=>(match c.callee with | .value (.func f)=>(match fm g with | some f'=>f'==f | none=>false)&&xsB fm args c.args.toList | _=>false)
 | .bd f args,.call c=>(match c.callee with | .value fo=>xB fm f fo&&xsB fm args c.args.toList | _=>false)
 | .cI f args,.call c=>(match c.callee with | .value fo=>xB fm f fo&&xsB fm args c.args.toList | _=>false)
 | _,_=>false
def sT (P:Program) (fm:FM) (N:Nat) (ops:Array Oper) (r:af) (o:Oper):Bool:=
 Fq N r.dst o.dst&&u2 ops r.guard o.guard&&(if kU r.op then s8 fm r.op o.op else opB P fm r.op o.op)
theorem Ad {N:Nat} {ops:Array Oper} {r:af} {o:Oper} (h:sT P fm N ops r o=true):ke P fm N ops r o:=by
 unfold sT at h;simp only[aab] at h;obtain⟨⟨h1,h2⟩,h3⟩:=h;obtain⟨g1,g2⟩:=CY h1;have g3:=xS h2
 have nd:∀ c,o.op≠.defer c:=by
  intro c e;split at h3
  · unfold s8 at h3;rw[e] at h3;split at h3<;>first | (cases h3;done) | (rename_i heq;cases heq)
  · unfold opB at h3;rw[e] at h3;split at h3<;>first | (cases h3;done) | (simp at h3;done)
 refine⟨g1,g2,g3,nd,?_⟩
 cases hr:r.op with
 | call g args=>
   rw[hr] at h3;simp only[kU,if_true] at h3;unfold s8 at h3;split at h3
   · rename_i c heq ho;cases heq;split at h3
     · rename_i f hc;simp only[aab] at h3;obtain⟨h4,h5⟩:=h3;split at h4
       · rename_i f' hf;have:=eq_of_beq h4;subst this;exact⟨c,f',ho,hc,hf,iV h5⟩
       · cases h4
     · cases h3
   all_goals first | (rename_i heq _;cases heq;done) | cases h3
 | bd f args=>
   rw[hr] at h3;simp only[kU,if_true] at h3;unfold s8 at h3;split at h3
   · rename_i heq _;cases heq
   · rename_i c heq ho;cases heq;split at h3
     · rename_i fo hc;simp only[aab] at h3;exact⟨c,fo,ho,hc,aN h3.1,iV h3.2⟩
     · cases h3
   · rename_i heq _;cases heq
   · cases h3
 | cI f args=>
   rw[hr] at h3;simp only[kU,if_true] at h3;unfold s8 at h3;split at h3
   · rename_i heq _;cases heq
   · rename_i heq _;cases heq
   · rename_i c heq ho;cases heq;split at h3
     · rename_i fo hc;simp only[aab] at h3;exact⟨c,fo,ho,hc,aN h3.1,iV h3.2⟩
     · cases h3
   · cases h3
 | _=>
   rw[hr] at h3;simp only[kU,if_false,aam] at h3;exact Er h3
def jw (P:Program) (fm:FM) (N:Nat) (ops:Array Oper):List af→List Oper→Bool
 | [],[]=>true
 | r::rs,o::os=>sT P fm N ops r o&&jw P fm N ops rs os
 | _,_=>false
theorem sI {N:Nat} {ops:Array Oper}:∀ {rs:List af} {os:List Oper},jw P fm N ops rs os=true→rs.length=os.length∧∀ (i:Nat) (r:af),rs[i]? = some r→∃ o,os[i]? = some o∧ke P fm N ops r o
 | [],[],_=>⟨rfl,fun i r h=>by simp at h⟩
 | r::rs,o::os,h=>by
   simp only[jw,aab] at h;obtain⟨h1,h2⟩:=sI h.2;refine⟨by simp[h1],fun i r' hr=>?_⟩
   cases i with
   | zero=>simp only[aat,aaa.injEq] at hr;subst hr;exact⟨o,rfl,Ad h.1⟩
   | succ i=>simpa using h2 i r' (by simpa using hr)
 | [],_::_,h=>by simp[jw] at h
 | _::_,[],h=>by simp[jw] at h
def FC (P:Program) (fm:FM) (N:Nat) (rs:List af) (ops:Array Oper):Bool:=jw P fm N ops rs ops.toList
theorem wF {N:Nat} {rs:List af} {ops:Array Oper} (h:FC P fm N rs ops=true):p9 P fm N rs ops:=by
 obtain⟨h1,h2⟩:=sI h;exact⟨by simpa using h1,fun i r hr=>by simpa using h2 i r hr⟩
theorem vi {N:Nat} {ops:Array Oper} {r:af} {o:Oper} (h:sT P fm N ops r o=true) (hf:mS r.op=true):im P fm r.op o:=by
 unfold sT at h;simp only[aab] at h;obtain⟨⟨h1,h2⟩,h3⟩:=h;have hc:kU r.op=false:=by cases hr:r.op<;>rw[hr] at hf<;>first | rfl | cases hf
 rw[hc] at h3;simp only[if_false,aam] at h3;exact AO h3 hf
theorem nU {N:Nat} {ops:Array Oper}:∀ {rs:List af} {os:List Oper},jw P fm N ops rs os=true→∀ (i:Nat) (r:af) (o:Oper),rs[i]? = some r→os[i]? = some o→mS r.op=true→im P fm r.op o
 | [],[],_=>fun i r o h=>by simp at h
 | r::rs,o::os,h=>by
   simp only[jw,aab] at h;intro i r' o' hr ho hf
   cases i with
   | zero=>
     simp only[aat,aaa.injEq] at hr ho;subst hr;subst ho;exact vi h.1 hf
   | succ i=>exact nU h.2 i r' o' (by simpa using hr) (by simpa using ho) hf
 | [],_::_,h=>by simp[jw] at h
 | _::_,[],h=>by simp[jw] at h
end Go.D
end
section
namespace Go.D
open Go.RowKit
variable {P:Program} {fm:FM} {T:Tab}
def CI (A:List (List Nat)) (o:Oper):List (List Nat):=
 A++[(o.after.toList.foldl (fun (s:List Nat) e=>if Region.binds .any e then s++(e.on::A.getD e.on []).filter (fun i => !s.contains i) else s) [])]
def Cv (ops:List Oper):List (List Nat):=ops.foldl CI []
def fx {α:Type} (p:Nat→α→Bool):List α→Nat→Bool
 | [],_=>true
 | x::xs,i=>p i x&&fx p xs (i+1)
theorem tG {α:Type} {p:Nat→α→Bool}:∀ {l:List α} {k:Nat},fx p l k=true→∀ i x,l[i]? = some x→p (k+i) x=true
 | [],_,_,i,x,h=>by simp at h
 | y::ys,k,h,i,x,hx=>by
   simp only[fx,aab] at h
   cases i with
   | zero=>simp only[aat,aaa.injEq] at hx;subst hx;exact h.1
   | succ i=>
     have:=tG h.2 i x (by simpa using hx)
     rwa [show k+1+i=k+(i+1) by omega] at this
theorem gy {α:Type} {p:Nat→α→Bool} {l:List α} (h:fx p l 0=true) (i:Nat) (x:α) (hx:l[i]? = some x):p i x=true:=by
 have:=tG h i x hx
 rwa [aav] at this
def z2 (r:af) (t:Nat):Bool:=match r.dst with | some u=>u==t | none=>false
theorem BN {r:af} {t:Nat} (h:r.dst=some t):z2 r t=true:=by unfold z2;rw[h];simp
def vP (A:List (List Nat)) (j:Nat) (o:Oper):Bool:=
 (A.getD j []).all (fun i=>Nat.blt i j&&o.after.toList.any (fun e=>Region.binds .any e&&(e.on==i||(Nat.blt e.on j&&(A.getD e.on []).contains i)))) &&
 o.after.toList.all (fun e => !Region.binds .any e||Nat.blt e.on j)
def tE (pf:Nat→Bool) (A:List (List Nat)) (i:Nat) (r:af) (j:Nat) (r':af):Bool:=
 (!(Nat.blt i j) || !(aP pf r.op) || !(aP pf r'.op)||(A.getD j []).contains i) &&
 (match r.dst with
  | none=>true
  | some t=>(i==j || !z2 r' t)&&(!(r'.reads.contains t)||(!(i==j)&&(!(Nat.blt i j)||(A.getD j []).contains i)&&(!(Nat.blt j i)||(A.getD i []).contains j))))
def pd (rs:List af) (chk:List (Nat×List Nat)):Bool:=
 chk.all fun (j,_)=>match rs[j]? with
  | none=>true
  | some r=>fx (fun i r'=>match r'.dst with | none=>true | some t => !(r.reads.contains t)||Nat.blt i j) rs 0
def Bb (pf:Nat→Bool) (A:List (List Nat)) (rs:List af) (chk:List (Nat×List Nat)) (j:Nat) (r:af):Bool:=
 aP pf r.op||bR r.op||(aal (an pf rs rs.length+1)).all fun v=>
  !(fx (fun i r' => !(aP pf r'.op) || !((A.getD j []).contains i)||Nat.blt (an pf rs i) v) rs 0) ||
  !(fx (fun i r' => !(aP pf r'.op) || !((A.getD i []).contains j)||Nat.ble v (an pf rs i)) rs 0) ||
  v==an pf rs j||(r.dst.isSome&&chk.any fun (j',vs)=>j'==j&&vs.contains v)
def Aw (pf:Nat→Bool) (rs:List af) (chk:List (Nat×List Nat)) (ops:Array Oper) (A:List (List Nat)):Bool:=
 fx (vP A) ops.toList 0&&pd rs chk&&fx (fun i r=>fx (fun j r'=>tE pf A i r j r') rs 0) rs 0&&fx (Bb pf A rs chk) rs 0
def z3 (rs:List af) (j:Nat):Bool:=match rs[j]? with | some r=>mS r.op | none=>true
def yK (P:Program) (fm:FM) (pf:Nat→Bool) (N:Nat) (rs:List af) (hs:List Nat) (chk:List (Nat×List Nat)) (ops:Array Oper) (A:List (List Nat)):Bool:=
 FC P fm N rs ops&&Aw pf (kC hs 0 rs) chk ops A&&hs.all (z3 rs)
theorem mD {a b:Nat} (h:Nat.blt a b=true):a<b:=aaB h
theorem pX {a b:Nat} (h:a<b):Nat.blt a b=true:=Nat.ble_eq_true_of_le h
theorem contains_of {l:List Nat} {i:Nat} (h:l.contains i=true):i∈l:=List.contains_iff_mem.1 h
theorem lL {l:List Nat} {i:Nat} (h:i∈l):l.contains i=true:=List.contains_iff_mem.2 h
theorem s9 {a b:Bool} (h:(!a||b)=true) (ha:a=true):b=true:=by subst ha;simpa using h
theorem n0 {α:Type} {p:Nat→α→Bool}:∀ {l:List α} {k:Nat},(∀ i x,l[i]? = some x→p (k+i) x=true)→fx p l k=true
 | [],_,_=>rfl
 | y::ys,k,h=>by
   simp only[fx,aab];refine⟨h 0 y rfl,n0 fun i x hx=>?_⟩;have:=h (i+1) x (by simpa using hx)
   rwa [show k+1+i=k+(i+1) by omega]
theorem ze {rs:List af} {chk:List (Nat×List Nat)} {ops:Array Oper} {A:List (List Nat)} (h:Aw (ai T) rs chk ops A=true):lH T rs chk ops (fun j=>A.getD j []):=by
 unfold Aw at h;simp only[aab] at h;obtain⟨⟨⟨h2,h3⟩,h4⟩,h5⟩:=h;have hj:∀ (j:Nat) (o:Oper),ops[j]? = some o→vP A j o=true:=fun j o ho=>gy h2 j o (by simpa using ho);have hp:∀ (i j:Nat) (r r':af),rs[i]? = some r→rs[j]? = some r'→tE (ai T) A i r j r'=true:=fun i j r r' hr hr'=>gy (gy h4 i r hr) j r' hr';refine { yn:=?_,pJ:=?_,gw:=?_,rA:=?_,eQ:=?_,jk:=?_,cover:=?_ }
 · intro j o ho i hi;have:=hj j o ho;unfold vP at this;simp only[aab] at this;have:=aaf.1 this.1 i hi;simp only[aab] at this;refine⟨mD this.1,?_⟩;obtain⟨e,he,hb⟩:=List.any_eq_true.1 this.2;simp only[aab,Bool.or_eq_true] at hb;refine⟨e,he,hb.1,?_⟩;rcases hb.2 with h | h
   · exact .inl (eq_of_beq h)
   · exact .inr ⟨mD h.1,contains_of h.2⟩
 · intro j o ho e he hb;have:=hj j o ho;unfold vP at this;simp only[aab] at this;exact mD (s9 (aaf.1 this.2 e he) hb)
 · intro j vs r hc hr i t r' hr' hd ht;unfold pd at h3;have:=aaf.1 h3 _ hc;simp only[hr] at this;have:=gy this i r' hr';simp only[hd] at this;exact mD (s9 this (lL ht))
 · intro i j r r' hij hr hr' hl hl';have:=hp i j r r' hr hr';unfold tE at this;simp only[aab] at this;have:=this.1;rw[pX hij,hl,hl'] at this;exact contains_of (by simpa using this)
 · intro i j t r r' hij hr hr' hd hd';have:=hp i j r r' hr hr';unfold tE at this;simp only[aab,hd] at this;have:=this.2.1;rw[BN hd'] at this;simp at this;exact hij this
 · intro i j t r r' hr hr' hd ht;have:=hp i j r r' hr hr';unfold tE at this;simp only[aab,hd] at this;have:=s9 this.2.2 (lL ht);simp only[aab] at this;refine⟨by rintro rfl;have:=this.1.1;simp at this,fun h=>contains_of (s9 this.1.2 (pX h)),fun h=>contains_of (s9 this.2 (pX h))⟩
 · intro j v r hr hl hsl hlow hup hv;have:=gy h5 j r hr;unfold Bb at this;rw[hl,hsl] at this;simp only[Bool.false_or] at this;have:=aaf.1 this v (abq.2 (by omega))
   have e1:fx (fun i r' => !(aP (ai T) r'.op) || !((A.getD j []).contains i)||Nat.blt (an (ai T) rs i) v) rs 0=true:=by
    refine n0 fun i x hx=>?_;rw[aav]
    cases hlx:aP (ai T) x.op with
    | false=>rfl
    | true=>
      cases hcx:(A.getD j []).contains i with
      | false=>rfl
      | true=>simpa using pX (hlow i x hx hlx (contains_of hcx))
   have e2:fx (fun i r' => !(aP (ai T) r'.op) || !((A.getD i []).contains j)||Nat.ble v (an (ai T) rs i)) rs 0=true:=by
    refine n0 fun i x hx=>?_;rw[aav]
    cases hlx:aP (ai T) x.op with
    | false=>rfl
    | true=>
      cases hcx:(A.getD i []).contains j with
      | false=>rfl
      | true=>simpa using Nat.ble_eq_true_of_le (hup i x hx hlx (contains_of hcx))
   rw[e1,e2] at this;simp only[Bool.not_true,Bool.false_or,Bool.or_eq_true,aab] at this;rcases this with h | h
   · exact .inl (eq_of_beq h)
   · obtain⟨q,hq,hqq⟩:=List.any_eq_true.1 h.2;obtain⟨j',vs⟩:=q;simp only[aab] at hqq;have:=eq_of_beq hqq.1;subst this;exact .inr ⟨vs,hq,contains_of hqq.2,h.1⟩
theorem BB {N:Nat} {rs:List af} {hs:List Nat} {chk:List (Nat×List Nat)} {ops:Array Oper} {A:List (List Nat)} (h:yK P fm (ai T) N rs hs chk ops A=true):FI P fm T N rs hs chk ops (fun j=>A.getD j []):=by
 unfold yK at h;simp only[aab] at h;obtain⟨⟨h1,h2⟩,h3⟩:=h;refine⟨wF h1,fun j r o hj hr ho=>?_,ze h2⟩;have:=aaf.1 h3 j hj;unfold z3 at this;rw[hr] at this;exact nU h1 j r o hr (by simpa using ho) this
def dz (P:Program) (fm:FM) (pf:Nat→Bool) (N:Nat):RC→Code→Bool
 | .skip,c=>(match c with | .skip=>true | .label _=>true | _=>false)
 | .region ops _,c=>(match c with | .region _ oops false=>FC P fm N ops oops | _=>false)
 | .av ops hs chk _,c=>(match c with | .region _ oops true=>yK P fm pf N ops hs chk oops (Cv oops.toList) | _=>false)
 | .seq a b,c=>(match c with | .seq x y=>dz P fm pf N a x&&dz P fm pf N b y | _=>false)
 | .cond x a b,c=>(match c with | .cond o y z=>xB fm x o&&dz P fm pf N a y&&dz P fm pf N b z | _=>false)
 | .block id a,c=>(match c with | .block i x=>i==id&&dz P fm pf N a x | _=>false)
 | .loop _ a,c=>(match c with | .loop x=>dz P fm pf N a x | _=>false)
 | .exit id,c=>(match c with | .exit i=>i==id | _=>false)
 | .ret,c=>(match c with | .ret=>true | _=>false)
 | .stuck,_=>true
 | .eZ f ps as_ bo _,c=>(match c with | .rangeFunc o qs x y=>xB fm f o&&decide (qs.toList=ps)&&ps.all (fun p=>Nat.blt p N)&&dz P fm pf N as_ x&&dz P fm pf N bo y | _=>false)
theorem dM {N:Nat}:∀ (rc:RC) (c:Code),dz P fm (ai T) N rc c=true→fE P fm T N rc c
 | .skip,c,h=>by
   unfold dz at h;split at h
   · exact .inl rfl
   · exact .inr ⟨_,rfl⟩
   · cases h
 | .region ops l,c,h=>by
   unfold dz at h;split at h
   · exact⟨_,_,rfl,wF h⟩
   · cases h
 | .av ops hs chk l,c,h=>by
   unfold dz at h;split at h
   · exact⟨_,_,_,rfl,BB h⟩
   · cases h
 | .seq a b,c,h=>by
   unfold dz at h;split at h
   · simp only[aab] at h;exact⟨_,_,rfl,dM a _ h.1,dM b _ h.2⟩
   · cases h
 | .cond x a b,c,h=>by
   unfold dz at h;split at h
   · simp only[aab] at h;exact⟨_,_,_,rfl,aN h.1.1,dM a _ h.1.2,dM b _ h.2⟩
   · cases h
 | .block id a,c,h=>by
   unfold dz at h;split at h
   · simp only[aab] at h;have:=eq_of_beq h.1;subst this;exact⟨_,rfl,dM a _ h.2⟩
   · cases h
 | .loop l a,c,h=>by
   unfold dz at h;split at h
   · exact⟨_,rfl,dM a _ h⟩
   · cases h
 | .exit id,c,h=>by
   unfold dz at h;split at h
   · have:=eq_of_beq h;subst this;rfl
   · cases h
 | .stuck,_,_=>trivial
 | .ret,c,h=>by
   unfold dz at h;split at h
   · rfl
   · cases h
 | .eZ f ps as_ bo l,c,h=>by
   unfold dz at h;split at h
   · simp only[aab] at h;obtain⟨⟨⟨⟨h1,h2⟩,h3⟩,h4⟩,h5⟩:=h;exact⟨_,_,_,_,rfl,aN h1,of_decide_eq_true h2,fun p hp=>mD (aaf.1 h3 p hp),dM as_ _ h4,dM bo _ h5⟩
   · cases h
def Fg (P:Program):dQ→ResultVar→Bool
 | .t n,.tmp m=>n==m
 | .cell a n ag,.cell b ty=>a==b&&iO P ty n ag
 | _,_=>false
theorem CW {a:dQ} {b:ResultVar} (h:Fg P a b=true):jI P a b:=by
 unfold Fg at h;split at h
 · exact eq_of_beq h
 · simp only[aab] at h;exact⟨eq_of_beq h.1,iP h.2⟩
 · cases h
def px (P:Program):List dQ→List ResultVar→Bool
 | [],[]=>true
 | a::as_,b::bs=>Fg P a b&&px P as_ bs
 | _,_=>false
theorem tW:∀ {as_:List dQ} {bs:List ResultVar},px P as_ bs=true→bs.length=as_.length∧∀ (i:Nat) (a:dQ) (b:ResultVar),as_[i]? = some a→bs[i]? = some b→jI P a b
 | [],[],_=>⟨rfl,fun i a b h=>by simp at h⟩
 | a::as_,b::bs,h=>by
   simp only[px,aab] at h;obtain⟨h1,h2⟩:=tW h.2;refine⟨by simp[h1],fun i x y hx hy=>?_⟩
   cases i with
   | zero=>simp only[aat,aaa.injEq] at hx hy;subst hx;subst hy;exact CW h.1
   | succ i=>exact h2 i x y (by simpa using hx) (by simpa using hy)
 | [],_::_,h=>by simp[px] at h
 | _::_,[],h=>by simp[px] at h
def zd (P:Program) (fm:FM) (pf:Nat→Bool) (F:ak) (fn:Func):Bool:=
 !(fn.name == "runtime.NumGoroutine")&&(match fn.body with | some c=>dz P fm pf fn.ntmps F.body c | none=>false)&&px P F.results fn.results.toList
theorem zS {F:ak} {f:FuncId} {fn:Func} (hf:P.funcs[f]? = some fn) (h:zd P fm (ai T) F fn=true):dr P fm T (.code F) f:=by
 unfold zd at h;simp only[aab] at h;obtain⟨⟨h1,h2⟩,h3⟩:=h;split at h2
 · rename_i c hc;obtain⟨g1,g2⟩:=tW h3;refine⟨fn,c,fun args w=>?_,hf,hc,dM _ _ h2,g1,g2⟩
   have hname:fn.name ≠ "runtime.NumGoroutine":=by simpa using h1
   simp[callFunc,hf,hname,hc]
 · cases h2
theorem AS {f:FuncId} {F:ak} (h:dr P fm T (.code F) f):∀ (args:Array Value) (w:World),(callFunc f args).run P w=.ok (.enter f args) w:=by
 obtain⟨fn,c,h1,_⟩:=h;exact h1
end Go.D
end
section
namespace Go.D
open Go.RowKit
variable {P:Program} {fm:FM}
inductive TT where
 | nil
 | leaf (g:Nat) (d:Def)
 | node (k:Nat) (l r:TT)
def TT.get:TT→Nat→Option Def
 | .nil,_=>none
 | .leaf g d,h=>bif aaz h g then some d else none
 | .node k l r,h=>bif Nat.blt h k then l.get h else r.get h
def TT.ok (P:Program) (fm:FM) (T:Tab):TT→Prop
 | .nil=>True
 | .leaf g d=>∀ f,fm g=some f→dr P fm T d f
 | .node _ l r=>l.ok P fm T∧r.ok P fm T
theorem TT.u1 {T:Tab}:∀ (t:TT),t.ok P fm T→∀ g d f,t.get g=some d→fm g=some f→dr P fm T d f
 | .nil,_,g,d,f,h,_=>by simp[TT.get] at h
 | .leaf g0 d0,h0,g,d,f,h,hf=>by
   simp only[TT.get] at h
   cases hb:aaz g g0 with
   | false=>rw[hb] at h;simp at h
   | true=>
     rw[hb] at h;simp only[cond_true,aaa.injEq] at h;subst h;have:=aaF hb;subst this;exact h0 f hf
 | .node k l r,h0,g,d,f,h,hf=>by
   simp only[TT.get] at h
   cases hb:Nat.blt g k with
   | true=>rw[hb] at h;exact l.u1 h0.1 g d f h hf
   | false=>rw[hb] at h;exact r.u1 h0.2 g d f h hf
theorem sM {t:TT} (h:t.ok P fm t.get):cH P fm t.get:=fun g d f hg hf=>t.u1 h g d f hg hf
def AI:List (Nat×FuncId)→Nat→Option FuncId
 | [],_=>none
 | (g,f)::r,h=>bif aaz h g then some f else AI r h
def zO:List (Nat×IntKind×List Nat)→Nat→Nat→Option Value
 | [],_,_=>none
 | (g,k,l)::r,b,i=>bif aaz b g then (l[i]?).map (fun n=>.int k (abh n)) else zO r b i
def jF (l:List (Nat×FuncId)) (env:List (Nat×IntKind×List Nat)):FM:=⟨AI l,zO env⟩
def lI (fm:FM) (w:World):Prop:=∀ r i v,fm.env r i=some v→r<w.heap.size∧∃ cs t fz,w.heap[r]? = some (.cells cs t fz)∧cs[i]? = some v
def st0:St:={ heap:=[],aO:=[],cur:=0,base:=0,aF:=0 }
def gh0 (w:World):Gh:={ ro:=fun _ _=>none,mu:=fun _=>none,aY:=fun _ _=>none,gsz:=fun _=>0,dfr:=fun _=>False,lps:=fun _=>False,aQ:=fun _=>none,floor:=w.heap.size,base:=0,aF:=0 }
end Go.D
end
section
namespace Go.D
open Go.RowKit
variable {P:Program} {fm:FM} {T:Tab}
theorem oX {G:Gh} {a b:DV} {args:Array Value} (h:b0 fm G [a,b] args):∃ x y,args = #[x,y]∧Rel fm G a x∧Rel fm G b y:=by
 obtain⟨h1,h2⟩:=h
 match args,h1 with
 | ⟨[x,y]⟩,_=>exact⟨x,y,rfl,h2 0 (by simp),h2 1 (by simp)⟩
theorem iZ {p:List DV→St→Option (DV×St)} {f:FuncId} {fn:Func} {e:Array Value→Sem Value} (hf:P.funcs[f]? = some fn) (hname:(fn.name == "runtime.NumGoroutine")=false) (hb:fn.body.isNone=true) (hn:Extern.findNext fn=none)
 (he:Extern.find fn=some e) (h:∀ (G:Gh) (w:World) (st:St) (args:List DV) (args':Array Value) (v:DV) (st':St),b0 fm G args args'→p args st=some (v,st')→st'=st∧∃ x,(e args').run P w=.ok x w∧Rel fm G v x):ee P fm T p f:=by
 intro G w0 st w args args' v st' hs ha hp;obtain⟨rfl,x,h1,h2⟩:=h G w st args args' v st' ha hp;refine .inr ⟨x,w,?_,G,Gh.le.refl G,hs,h2⟩;rw[run_callFunc_extern hf hname hb hn he,h1];rfl
def dT:List DV→St→Option (DV×St)
 | [.str s,.int .u8 c],st=>some (.int .i64 (Lib.indexByte s c.toNat.toUInt8),st)
 | _,_=>none
theorem mH {f:FuncId} {fn:Func} (hf:P.funcs[f]? = some fn) (hname:(fn.name == "runtime.NumGoroutine")=false) (hb:fn.body.isNone=true) (hn:Extern.findNext fn=none)
 (he:Extern.find fn=some Extern.BytealgIndexByte.indexByte):ee P fm T dT f:=by
 refine iZ hf hname hb hn he fun G w st args args' v st' ha hp=>?_;unfold dT at hp;split at hp
 · simp only[aaa.injEq,Prod.mk.injEq] at hp;obtain⟨rfl,rfl⟩:=hp;obtain⟨x,y,rfl,hx,hy⟩:=oX ha;cases hy
   cases hx with
   | str _ b hb=>subst hb;exact⟨rfl,_,Lib.run_indexByteString b _ w,.int _ _⟩
 · cases hp
def dX:List DV→St→Option (DV×St)
 | [.str s,.int .u8 c],st=>some (.int .i64 (Lib.countByte s c.toNat.toUInt8:Nat),st)
 | _,_=>none
theorem mY {f:FuncId} {fn:Func} (hf:P.funcs[f]? = some fn) (hname:(fn.name == "runtime.NumGoroutine")=false) (hb:fn.body.isNone=true) (hn:Extern.findNext fn=none)
 (he:Extern.find fn=some Extern.BytealgCount.count):ee P fm T dX f:=by
 refine iZ hf hname hb hn he fun G w st args args' v st' ha hp=>?_;unfold dX at hp;split at hp
 · simp only[aaa.injEq,Prod.mk.injEq] at hp;obtain⟨rfl,rfl⟩:=hp;obtain⟨x,y,rfl,hx,hy⟩:=oX ha;cases hy
   cases hx with
   | str _ b hb=>subst hb;exact⟨rfl,_,Lib.run_countString b _ w,.int _ _⟩
 · cases hp
def gE:List DV→St→Option (DV×St)
 | [v],st=>some (v,st)
 | _,_=>none
theorem oB {f:FuncId} {fn:Func} (hf:P.funcs[f]? = some fn) (hname:(fn.name == "runtime.NumGoroutine")=false) (hb:fn.body.isNone=true) (hn:Extern.findNext fn=none)
 (he:Extern.find fn=some Extern.AbiNoEscape.same):ee P fm T gE f:=by
 refine iZ hf hname hb hn he fun G w st args args' v st' ha hp=>?_;unfold gE at hp;split at hp
 · rename_i v0;simp only[aaa.injEq,Prod.mk.injEq] at hp;obtain⟨rfl,rfl⟩:=hp;obtain⟨h1,h2⟩:=ha;have h3:=h2 0 (by simp)
   match args',h1 with
   | ⟨[x]⟩,_=>exact⟨rfl,x,Lib.run_noEscape w x,h3⟩
 · cases hp
def iX:List Nat:=[0,0,0,0,0,0,0,0,0,1,1,1,1,1,0,0,0,0,0,0,0,0,0,0,0,0,0,0,0,0,0,0,1,0,0,0,0,0,0,0,0,0,0,0,0,0,0,0,0,0,0,0,0,0,0,0,0,0,0,0,0,0,0,0,0,0,0,0,0,0,0,0,0,0,0,0,0,0,0,0,0,0,0,0,0,0,0,0,0,0,0,0,0,0,0,0,0,0,0,0,0,0,0,0,0,0,0,0,0,0,0,0,0,0,0,0,0,0,0,0,0,0,0,0,0,0,0,0,0,0,0,0,0,0,0,0,0,0,0,0,0,0,0,0,0,0,0,0,0,0,0,0,0,0,0,0,0,0,0,0,0,0,0,0,0,0,0,0,0,0,0,0,0,0,0,0,0,0,0,0,0,0,0,0,0,0,0,0,0,0,0,0,0,0,0,0,0,0,0,0,0,0,0,0,0,0,0,0,0,0,0,0,0,0,0,0,0,0,0,0,0,0,0,0,0,0,0,0,0,0,0,0,0,0,0,0,0,0,0,0,0,0,0,0,0,0,0,0,0,0,0,0,0,0,0,0]
def nm:List Nat:=[1,10,100,1000,10000,100000,1000000,10000000,100000000,1000000000,10000000000,100000000000,1000000000000,10000000000000,100000000000000,1000000000000000,10000000000000000,100000000000000000,1000000000000000000,10000000000000000000]
def ER:DV:=.bC (nm.map fun n=>.int .u64 (abh n))
theorem vj {l:List (Nat×FuncId)} (w:World):lI (jF l []) w:=fun r i v h=>by cases h
theorem nw {l:List (Nat×FuncId)} {g:Nat} {k:IntKind} {t:List Nat} {env:List (Nat×IntKind×List Nat)} {w:World} (h:∀ i (h:i<t.length),w.cell? ⟨g,i,none⟩=some (.int k (abh t[i]))) (hr:lI (jF l env) w):lI (jF l ((g,k,t)::env)) w:=by
 intro r i v hv;simp only[jF,zO] at hv
 cases hb:aaz r g with
 | false=>rw[hb] at hv;exact hr r i v hv
 | true=>
   rw[hb] at hv;simp only[cond_true,aae] at hv;obtain⟨n,hn,rfl⟩:=hv;have:=aaF hb;subst this;obtain⟨hi,rfl⟩:=aad.1 hn;have hc:=h i hi;simp only[World.cell?] at hc;split at hc
   · rename_i cs t' fz hcs;exact⟨get?_lt hcs,cs,t',fz,hcs,by simpa using hc⟩
   all_goals first | (cases hc;done) | skip
end Go.D
end
section
namespace Go.D.Tab
@[simp] def σ (d:Nat) (x:ROp):af:=⟨some d,x,none⟩
@[simp] def τ (d:Nat) (x:ROp) (a:Nat) (b:Bool):af:=⟨some d,x,some (a,b)⟩
@[simp] def κ (n:Nat):D.X:=.c (.int .i64 (.ofNat n))
@[simp] def μ (d a:Nat):af:=⟨some d,.mv (.t a),none⟩
@[simp] def η (d a:Nat):af:=⟨some d,.mv (.c (.int .i64 (.ofNat a))),none⟩
@[simp] def φ (d k a:Nat):af:=⟨some d,.fh k (.t a),none⟩
@[simp] def ρ (d a:Nat):af:=⟨some d,.load 1 false (.t a),none⟩
@[simp] def Λ (d n a:Nat):af:=⟨some d,.load n true (.t a),none⟩
@[simp] def β (d:Nat) (o:BinOp) (a b:Nat):af:=⟨some d,.bin o (.t a) (.t b),none⟩
@[simp] def γ (d:Nat) (o:BinOp) (a b:Nat):af:=⟨some d,.bin o (.t a) (.c (.int .i64 (.ofNat b))),none⟩
@[simp] def ε (d a i:Nat):af:=⟨some d,.extract (.t a) i,none⟩
@[simp] def ν (d:Nat) (k:uH) (a:Nat):af:=⟨some d,.len k (.t a),none⟩
@[simp] def ξ (d a b:Nat):af:=⟨some d,.pick (.t a) (.t b) (.c (.bool false)),none⟩
@[simp] def ζ (d a b:Nat):af:=⟨some d,.pick (.t a) (.c (.bool true)) (.t b),none⟩
@[simp] def ι (d n a b:Nat):af:=⟨some d,.bw n (.t a) (.t b),none⟩
@[simp] def ω (n a b:Nat):af:=⟨none,.store n (.t a) (.t b),none⟩
@[simp] def Μ (d a g:Nat) (b:Bool):af:=⟨some d,.mv (.t a),some (g,b)⟩
@[simp] def Φ (d k a g:Nat) (b:Bool):af:=⟨some d,.fh k (.t a),some (g,b)⟩
@[simp] def Ρ (d a g:Nat) (b:Bool):af:=⟨some d,.load 1 false (.t a),some (g,b)⟩
@[simp] def δ:DV:=.int .i64 (.ofNat 0)
@[simp] def θ:DV:=.list 0 0 .no false []
abbrev Ω:=List af
@[simp] def Γ (a:Ω) (b:List Nat):RC:=.region a b
@[simp] def Ψ (a b:RC):RC:=.seq a b
@[simp] def Ξ (n:Nat) (a b:RC):RC:=.cond (.t n) a b
def pI:RC:=.block 2 (.seq (.region [μ 74 17,μ 75 74,Φ 76 2 13 75 false,Ρ 77 76 75 false,τ 78 (.bin .eql (.t 77) (κ 3)) 75 false,ζ 79 75 78,μ 73 79] [1,7,8,9,10,11,13,14,15,16,17,34,35,36,73]) (.cond (.t 73) (.av [μ 80 16,φ 81 3 15,ρ 82 81,σ 83 (.call 30 [.t 80,.t 82]),φ 84 1 14,ρ 85 84,β 86 .add 83 85,φ 87 4 15,ω 1 87 86] [] [] [1,7,8,9,10,11,14,15,16,17,34,35,36]) (.seq (.region [φ 89 2 13,ρ 90 89,γ 91 .eql 90 7,μ 88 91] [1,7,8,9,10,11,14,15,16,17,34,35,36,88]) (.cond (.t 88) (.seq (.av [μ 92 8,σ 93 (.bw 1 (.t 92) (κ 0)),ρ 94 93,φ 95 3 15,ρ 96 95,σ 97 (.call 31 [.t 94,.t 96]),φ 98 4 15,ω 1 98 97] [] [] [1,7,8,9,10,11,14,15,16,17,34,35,36]) (.region [μ 99 8,σ 100 (.slice false 1 (.t 99) (some (κ 1)) none none),μ 8 100] [1,7,8,9,10,11,14,15,16,17,34,35,36])) .skip))))
def dd:RC:=(.seq (.region [β 37 .lss 36 35] [1,7,8,9,10,11,34,35,36,37]) (.seq (.cond (.t 37) .skip (.exit 0)) (.seq (.block 1 (.seq (.region [ι 38 3 34 36,Λ 39 3 38,σ 13 (.alloc [δ,δ,δ]),ω 3 13 39] [1,7,8,9,10,11,13,34,35,36]) (.seq (.region [μ 40 7,φ 41 0 13,ρ 42 41,σ 43 (.bd (.t 40) [.t 42]),σ 14 (.alloc [δ,δ,δ]),ω 3 14 43] [1,7,8,9,10,11,13,14,34,35,36]) (.seq (.region [φ 44 0 13,ρ 45 44,φ 46 1 13,ρ 47 46,φ 48 2 13,ρ 49 48,φ 50 0 14,ρ 51 50,σ 52 (.build [δ,δ,δ,δ,δ,δ] [(0,1,(.t 45)),(1,1,(.t 47)),(2,1,(.t 49)),(3,1,(.t 51))]),σ 15 (.alloc [δ,δ,δ,δ,δ,δ]),ω 6 15 52] [1,7,8,9,10,11,13,14,15,34,35,36]) (.seq (.seq (.region [φ 53 3 15,ρ 54 53,γ 55 .eql 54 0] [1,7,8,9,10,11,13,14,15,34,35,36,55]) (.cond (.t 55) (.region [φ 56 2 1,φ 57 0 56,ρ 58 57,φ 59 3 15,ω 1 59 58] [1,7,8,9,10,11,13,14,15,34,35,36]) .skip)) (.seq (.region [φ 60 0 1,ρ 61 60,φ 62 0 13,ρ 63 62,σ 64 (.index (.t 61) (.t 63)),μ 16 64] [1,7,8,9,10,11,13,14,15,16,34,35,36]) (.seq (.region [φ 65 2 13,ρ 66 65,γ 67 .eql 66 1,μ 68 67,Φ 69 2 13 68 false,Ρ 70 69 68 false,τ 71 (.bin .eql (.t 70) (κ 2)) 68 false,ζ 72 68 71,μ 17 72] [1,7,8,9,10,11,13,14,15,16,17,34,35,36]) (.seq pI (.seq (.seq (.av [μ 101 17,μ 102 101,Φ 103 2 14 102 true,Ρ 104 103 102 true,τ 105 (.bin .eql (.t 104) (κ 1)) 102 true,ξ 106 102 105,μ 107 106,Μ 108 10 107 true,ξ 109 107 108,μ 110 109,Μ 111 9 110 true,Μ 112 9 110 true,τ 113 (.len .slice (.t 112)) 110 true,τ 114 (.bin .sub (.t 113) (κ 1)) 110 true,τ 115 (.bw 6 (.t 111) (.t 114)) 110 true,Φ 116 3 115 110 true,Ρ 117 116 110 true,Φ 118 3 15 110 true,Ρ 119 118 110 true,τ 120 (.bin .eql (.t 117) (.t 119)) 110 true,ξ 121 110 120] [] [] [1,7,8,9,11,14,15,16,17,34,35,36,121]) (.cond (.t 121) (.region [μ 122 11,μ 123 16,φ 124 3 15,ρ 125 124,σ 126 (.call 32 [.t 122,.t 123,.t 125]),φ 127 5 15,ω 1 127 126] [1,7,8,9,14,15,16,17,34,35,36]) .skip)) (.seq (.region [μ 128 17,μ 129 128,Φ 130 2 14 129 true,Ρ 131 130 129 true,τ 132 (.bin .eql (.t 131) (κ 1)) 129 true,ξ 133 129 132,μ 134 16,μ 10 133,μ 11 134] [1,7,8,9,10,11,15,34,35,36]) (.region [μ 135 9,Λ 136 6 15,σ 137 (.lit 6 true [δ,δ,δ,δ,δ,δ] 1 [(0,(.t 136))]),σ 138 (.append 6 true 48 (.t 135) (.t 137)),μ 9 138] [1,7,8,9,10,11,34,35,36]))))))))))) (.region [γ 139 .add 36 1,μ 36 139] [1,7,8,9,10,11,34,35,36]))))
def sW:RC:=.loop [1,7,8,9,10,11,34,35,36] dd
def f10:ak:=⟨[.t 2,.t 3],(.seq (.region [σ 1 (.box 21 (.t 0)),σ 2 (.mv (.c θ)),η 3 0] [1]) (.seq (.seq (.region [Λ 18 21 1,σ 19 (.call 13 [.t 18]),μ 4 19] [1,4]) (.seq (.region [μ 20 4,γ 21 .neq 20 0] [1,4,21]) (.cond (.t 21) (.seq (.region [μ 22 4,σ 2 (.mv (.c θ)),μ 3 22] [2,3]) .ret) .skip))) (.seq (.region [φ 24 0 1,ρ 25 24,σ 26 (.call 27 [.t 25]),μ 23 26,ε 27 23 0,ε 28 23 1,μ 5 27,μ 6 28] [1,5]) (.seq (.region [φ 29 1 1,ρ 30 29,σ 31 (.call 29 [.t 30]),μ 7 31] [1,5,7]) (.seq (.region [φ 32 20 1,ρ 33 32,μ 8 33] [1,5,7,8]) (.seq (.region [σ 9 (.mv (.c θ))] [1,5,7,8,9]) (.seq (.region [σ 10 (.mv (.c (.bool false))),σ 11 (.mv (.c (.int .u8 (.ofNat 0))))] [1,5,7,8,9,10,11]) (.seq (.seq (.region [μ 34 5,ν 35 .slice 34,η 36 0] [1,7,8,9,10,11,34,35,36]) (.block 0 sW)) (.seq (.region [μ 140 9,μ 2 140,η 3 0] [2,3]) .ret))))))))),true⟩
def tz:RC:=(.seq (.region [β 52 .lss 51 50] [49,50,51,52]) (.seq (.cond (.t 52) .skip (.exit 0)) (.seq (.block 1 (.seq (.region [ι 53 1 49 51,ρ 54 53,μ 6 54] [6,49,50,51]) (.seq (.region [μ 55 6,σ 56 (.bin .eql (.t 55) (.c (.str []))),μ 57 56,Μ 58 6 57 false,τ 59 (.call 43 [.t 58,(κ 8)]) 57 false,τ 60 (.un .not (.t 59)) 57 false,ζ 61 57 60] [49,50,51,61]) (.cond (.t 61) (.seq (.region [η 2 2] [2]) .ret) .skip)))) (.region [γ 62 .add 51 1,μ 51 62] [49,50,51]))))
def vK:RC:=.loop [49,50,51] tz
def f13:ak:=⟨[.t 2],(.seq (.region [σ 1 (.box 21 (.t 0)),η 2 0] [1]) (.seq (.seq (.region [φ 8 0 1,ρ 9 8,σ 10 (.call 27 [.t 9]),μ 7 10,ε 11 7 0,ε 12 7 1,μ 3 11,μ 4 12] [1,4]) (.seq (.region [μ 13 4,γ 14 .neq 13 0] [1,4,14]) (.cond (.t 14) (.seq (.region [μ 15 4,μ 2 15] [2]) .ret) .skip))) (.seq (.seq (.region [φ 16 0 1,ρ 17 16,σ 18 (.call 40 [.t 17,(.c (.int .u8 (.ofNat 3)))]),γ 19 .geq 18 0] [1,19]) (.cond (.t 19) (.seq (.region [η 2 4] [2]) .ret) .skip)) (.seq (.seq (.av [φ 20 1 1,ρ 21 20,φ 22 0 1,ρ 23 22,ν 24 .str 23,σ 25 (.call 41 [.t 21,.t 24]),σ 26 (.un .not (.t 25)),μ 27 26,Φ 28 2 1 27 false,τ 29 (.load 17 true (.t 28)) 27 false,τ 30 (.call 42 [.t 29]) 27 false,τ 31 (.un .not (.t 30)) 27 false,ζ 32 27 31,μ 33 32,Φ 34 19 1 33 false,Ρ 35 34 33 false,τ 36 (.call 43 [.t 35,(κ 16)]) 33 false,τ 37 (.un .not (.t 36)) 33 false,ζ 38 33 37,μ 39 38,Φ 40 20 1 39 false,Ρ 41 40 39 false,τ 42 (.len .slice (.t 41)) 39 false,Φ 43 0 1 39 false,Ρ 44 43 39 false,τ 45 (.call 44 [.t 44,(.c (.str [2]))]) 39 false,τ 46 (.bin .neq (.t 42) (.t 45)) 39 false,ζ 47 39 46] [] [] [1,47]) (.cond (.t 47) (.seq (.region [η 2 2] [2]) .ret) .skip)) (.seq (.seq (.region [φ 48 20 1,ρ 49 48,ν 50 .slice 49,η 51 0] [49,50,51]) (.block 0 vK)) (.seq (.region [η 2 0] [2]) .ret)))))),true⟩
def f17:ak:=⟨[.t 4,.t 5],(.seq (.region [η 4 0,η 5 0] [0,1]) (.seq (.seq (.region [μ 6 1,σ 7 (.call 51 [.t 6]),σ 8 (.un .not (.t 7))] [0,1,8]) (.cond (.t 8) (.seq (.region [η 4 0,η 5 5] [4,5]) .ret) .skip)) (.seq (.seq (.region [μ 9 0,ν 10 .str 9,γ 11 .gtr 10 4096] [0,1,11]) (.cond (.t 11) (.seq (.region [η 4 0,η 5 3] [4,5]) .ret) .skip)) (.seq (.region [μ 12 0,μ 13 1,σ 14 (.call 31 [.t 12,.t 13]),μ 4 14,η 5 0] [4,5]) .ret)))),true⟩
def f21:ak:=⟨[.t 2],(.seq (.region [η 2 0] [0]) (.seq (.block 0 (.seq (.region [μ 4 0,σ 5 (.call 40 [(.c (.str [105,106,108,39,46,44,58,59,33,124])),.t 4]),γ 6 .geq 5 0,μ 3 6] [0,3]) (.cond (.t 3) (.seq (.region [η 2 2] [2]) .ret) (.seq (.region [μ 8 0,σ 9 (.call 40 [(.c (.str [102,116,114,40,41,91,93,123,125,45,34,94,95,126,96,73,32])),.t 8]),γ 10 .geq 9 0,μ 7 10] [0,7]) (.cond (.t 7) (.seq (.region [η 2 3] [2]) .ret) (.seq (.region [μ 12 0,σ 13 (.bin .eql (.t 12) (.c (.int .u8 (.ofNat 109)))),μ 14 13,Μ 15 0 14 false,τ 16 (.bin .eql (.t 15) (.c (.int .u8 (.ofNat 119)))) 14 false,ζ 17 14 16,μ 11 17] [0,11]) (.cond (.t 11) (.seq (.region [η 2 7] [2]) .ret) (.seq (.region [μ 19 0,σ 20 (.bin .eql (.t 19) (.c (.int .u8 (.ofNat 77)))),μ 21 20,Μ 22 0 21 false,τ 23 (.bin .eql (.t 22) (.c (.int .u8 (.ofNat 87)))) 21 false,ζ 24 21 23,μ 18 24] [0,18]) (.cond (.t 18) (.seq (.region [η 2 8] [2]) .ret) (.seq (.region [μ 26 0,σ 27 (.bin .geq (.t 26) (.c (.int .u8 (.ofNat 65)))),μ 28 27,Μ 29 0 28 true,τ 30 (.bin .leq (.t 29) (.c (.int .u8 (.ofNat 90)))) 28 true,ξ 31 28 30,μ 25 31] [0,25]) (.cond (.t 25) (.seq (.region [η 2 6] [2]) .ret) (.seq (.region [μ 33 0,σ 34 (.bin .geq (.t 33) (.c (.int .u8 (.ofNat 97)))),μ 35 34,Μ 36 0 35 true,τ 37 (.bin .leq (.t 36) (.c (.int .u8 (.ofNat 122)))) 35 true,ξ 38 35 37,μ 39 38,Μ 40 0 39 false,τ 41 (.bin .geq (.t 40) (.c (.int .u8 (.ofNat 48)))) 39 false,Μ 42 41 39 false,Μ 43 0 42 true,τ 44 (.bin .leq (.t 43) (.c (.int .u8 (.ofNat 57)))) 42 true,τ 45 (.pick (.t 42) (.t 44) (.c (.bool false))) 39 false,ζ 46 39 45,μ 32 46] [0,32]) (.cond (.t 32) (.seq (.region [η 2 5] [2]) .ret) (.seq (.region [μ 48 0,σ 49 (.bin .gtr (.t 48) (.c (.int .u8 (.ofNat 32)))),μ 50 49,Μ 51 0 50 true,τ 52 (.bin .leq (.t 51) (.c (.int .u8 (.ofNat 126)))) 50 true,ξ 53 50 52,μ 47 53] [47]) (.cond (.t 47) (.seq (.region [η 2 6] [2]) .ret) .skip))))))))))))))) (.seq (.region [η 2 0] [2]) .ret))),true⟩
def mi:RC:=(.seq (.region [β 19 .lss 18 17] [0,1,2,16,17,18,19]) (.seq (.cond (.t 19) .skip (.exit 0)) (.seq (.block 1 (.seq (.region [ι 20 6 16 18,Λ 21 6 20,σ 9 (.alloc [δ,δ,δ,δ,δ,δ]),ω 6 9 21] [0,1,2,9,16,17,18]) (.seq (.region [φ 22 4 9,ρ 23 22,γ 24 .lss 23 0,μ 25 24,Φ 26 4 9 25 false,Ρ 27 26 25 false,τ 28 (.bin .gtr (.t 27) (κ 4095)) 25 false,ζ 29 25 28,μ 30 29,Φ 31 5 9 30 false,Ρ 32 31 30 false,τ 33 (.bin .lss (.t 32) (.c (.int .i64 (.negSucc 63)))) 30 false,ζ 34 30 33,μ 35 34,Φ 36 5 9 35 false,Ρ 37 36 35 false,τ 38 (.bin .gtr (.t 37) (κ 0)) 35 false,ζ 39 35 38] [0,1,2,16,17,18,39]) (.cond (.t 39) (.seq (.region [η 6 0,η 7 2] [6,7]) .ret) .skip)))) (.region [γ 40 .add 18 1,μ 18 40] [0,1,2,16,17,18]))))
def so:RC:=.loop [0,1,2,16,17,18] mi
def wm:RC:=(.seq (.region [β 60 .lss 59 58] [10,57,58,59,60]) (.seq (.cond (.t 60) .skip (.exit 2)) (.seq (.block 3 (.seq (.region [μ 61 59,ι 62 6 57 59,Λ 63 6 62,σ 12 (.alloc [δ,δ,δ,δ,δ,δ]),μ 11 61,ω 6 12 63] [10,11,12,57,58,59]) (.seq (.region [μ 64 10,φ 65 4 12,ρ 66 65,β 67 .add 64 66,μ 10 67] [10,11,12,57,58,59]) (.seq (.region [μ 68 11,γ 69 .gtr 68 0] [10,12,57,58,59,69]) (.cond (.t 69) (.region [μ 70 10,φ 71 5 12,ρ 72 71,β 73 .add 70 72,μ 10 73] [10,57,58,59]) .skip))))) (.region [γ 74 .add 59 1,μ 59 74] [10,57,58,59]))))
def wZ:RC:=.loop [10,57,58,59] wm
def f23:ak:=⟨[.t 6,.t 7],(.seq (.region [η 6 0,η 7 0] [0,1,2]) (.seq (.seq (.region [μ 13 0,ν 14 .slice 13,γ 15 .gtr 14 4096] [0,1,2,15]) (.cond (.t 15) (.seq (.region [η 6 0,η 7 3] [6,7]) .ret) .skip)) (.seq (.seq (.region [μ 16 0,ν 17 .slice 16,η 18 0] [0,1,2,16,17,18]) (.block 0 so)) (.seq (.seq (.region [μ 41 1,γ 42 .lss 41 0,μ 43 42,Μ 44 2 43 false,Μ 45 1 43 false,τ 46 (.bin .lss (.t 44) (.t 45)) 43 false,ζ 47 43 46,μ 48 47,Μ 49 2 48 false,Μ 50 0 48 false,τ 51 (.len .slice (.t 50)) 48 false,τ 52 (.bin .gtr (.t 49) (.t 51)) 48 false,ζ 53 48 52] [0,1,2,53]) (.cond (.t 53) (.seq (.region [η 6 0,η 7 5] [6,7]) .ret) .skip)) (.seq (.region [η 10 0] [0,1,2,10]) (.seq (.seq (.region [μ 54 0,μ 55 1,μ 56 2,σ 57 (.slice false 6 (.t 54) (some (.t 55)) (some (.t 56)) none),ν 58 .slice 57,η 59 0] [10,57,58,59]) (.block 2 wZ)) (.seq (.region [μ 75 10,μ 6 75,η 7 0] [6,7]) .ret))))))),true⟩
@[simp] def Bl:Ω:=[σ 6 (.alloc [δ,δ,δ]),ω 3 6 14]
@[simp] def zX:Ω:=[ρ 15 5,Λ 16 3 6,σ 17 (.lit 3 true [δ,δ,δ] 1 [(0,(.t 16))]),σ 18 (.append 3 true 24 (.t 15) (.t 17)),ω 1 5 18]
def f27:ak:=⟨[.t 2,.t 3],(.seq (.region [σ 2 (.mv (.c θ)),η 3 0] [0]) (.seq (.seq (.region [μ 7 0,σ 8 (.call 54 [.t 7]),μ 4 8] [0,4]) (.seq (.region [μ 9 4,γ 10 .neq 9 0] [0,4,10]) (.cond (.t 10) (.seq (.region [μ 11 4,σ 2 (.mv (.c θ)),μ 3 11] [2,3]) .ret) .skip))) (.seq (.region [σ 5 (.alloc [θ])] [0,5]) (.seq (.seq (.region [μ 12 0,σ 13 (.call 55 [.t 12])] [5,13]) (.block 0 (.eZ (.t 13) [14] (.region Bl [5,6]) (.block 1 (.region zX [])) [5,13]))) (.seq (.region [ρ 19 5,μ 2 19,η 3 0] [2,3]) .ret))))),true⟩
def f29:ak:=⟨[.t 2],(.seq (.region [σ 1 (.box 1 (.t 0)),σ 2 (.mv (.c .bt))] [1]) (.seq (.region [σ 3 (.alloc [δ]),⟨none,.store 1 (.t 3) (κ 0),none⟩] [1,3]) (.seq (.seq (.region [ρ 4 1,ν 5 .slice 4,γ 6 .gtr 5 0] [1,3,6]) (.cond (.t 6) (.region [ρ 7 1,σ 8 (.bw 4 (.t 7) (κ 0)),φ 9 0 8,ρ 10 9,ω 1 3 10] [1,3]) .skip)) (.seq (.region [σ 11 (.ff 56 [] [.t 1,.t 3]),μ 2 11] [2]) .ret)))),false⟩
def f30:ak:=⟨[.t 4],(.seq (.region [η 4 0] [0,1]) (.seq (.region [μ 5 0,σ 6 (.call 21 [.t 5]),μ 7 1,β 8 .mul 6 7,γ 9 .quo 8 8,μ 4 9] [4]) .ret)),true⟩
def z4:RC:=(.seq (.region [β 12 .lss 11 10] [1,5,9,10,11,12]) (.seq (.cond (.t 12) .skip (.exit 0)) (.seq (.block 1 (.seq (.region [ι 13 1 9 11,ρ 14 13,μ 7 14] [1,5,7,9,10,11]) (.region [μ 15 5,μ 16 7,μ 17 1,σ 18 (.call 30 [.t 16,.t 17]),β 19 .add 15 18,μ 5 19] [1,5,9,10,11]))) (.region [γ 20 .add 11 1,μ 11 20] [1,5,9,10,11]))))
def wo:RC:=.loop [1,5,9,10,11] z4
def f31:ak:=⟨[.t 4],(.seq (.region [η 4 0] [0,1]) (.seq (.region [η 5 0] [0,1,5]) (.seq (.seq (.region [μ 8 0,σ 9 (.s2b (.t 8)),ν 10 .slice 9,η 11 0] [1,5,9,10,11]) (.block 0 wo)) (.seq (.region [μ 21 5,μ 4 21] [4]) .ret)))),true⟩
def f32:ak:=⟨[.t 6],(.seq (.region [η 6 0] [0,1,2]) (.seq (.region [η 7 0] [0,1,2,7]) (.seq (.seq (.region [μ 8 0,μ 9 1,σ 10 (.call 57 [(.c (.str [65,84,32,65,86,32,65,87,32,65,89,32,84,65,32,86,65,32,87,65,32,89,65,32,76,84,32,76,86,32,76,89,32,80,65,32,84,111,32,84,97,32,84,101,32,86,111,32,86,97,32,89,111,32,89,97,32])),.t 8,.t 9])] [0,1,2,7,10]) (.cond (.t 10) (.region [η 7 2] [0,1,2,7]) .skip)) (.seq (.seq (.region [μ 11 0,μ 12 1,σ 13 (.call 57 [(.c (.str [114,46,32,114,44,32,102,46,32,102,44,32,118,46,32,121,46,32,65,118,32,65,121,32,111,118,32,118,111,32])),.t 11,.t 12])] [2,7,13]) (.cond (.t 13) (.region [η 7 1] [2,7]) .skip)) (.seq (.region [μ 14 7,μ 15 2,β 16 .mul 14 15,γ 17 .quo 16 16,σ 18 (.un .neg (.t 17)),μ 6 18] [6]) .ret))))),true⟩
def f40:ak:=⟨[.t 4],(.seq (.region [η 4 0] [0,1]) (.seq (.region [μ 5 0,μ 6 1,σ 7 (.call 61 [.t 5,.t 6]),μ 4 7] [4]) .ret)),true⟩
def pj:RC:=(.seq (.region [β 10 .lss 9 8] [1,7,8,9,10]) (.seq (.cond (.t 10) .skip (.exit 0)) (.seq (.block 1 (.seq (.region [ι 11 4 7 9,Λ 12 4 11,σ 6 (.alloc [δ,δ,δ,δ]),ω 4 6 12] [1,6,7,8,9]) (.seq (.seq (.region [φ 13 0 6,ρ 14 13,γ 15 .lss 14 1,μ 16 15,Φ 17 0 6 16 false,Ρ 18 17 16 false,Μ 19 1 16 false,τ 20 (.bin .gtr (.t 18) (.t 19)) 16 false,ζ 21 16 20,μ 22 21,Φ 23 1 6 22 false,τ 24 (.load 3 true (.t 23)) 22 false,τ 25 (.call 62 [.t 24]) 22 false,τ 26 (.un .not (.t 25)) 22 false,ζ 27 22 26] [1,6,7,8,9,27]) (.cond (.t 27) (.seq (.region [σ 4 (.mv (.c (.bool false)))] [4]) .ret) .skip)) (.region [μ 28 1,φ 29 0 6,ρ 30 29,β 31 .sub 28 30,μ 1 31] [1,7,8,9])))) (.region [γ 32 .add 9 1,μ 9 32] [1,7,8,9]))))
def nf:RC:=.loop [1,7,8,9] pj
def f41:ak:=⟨[.t 4],(.seq (.region [σ 4 (.mv (.c (.bool false)))] [0,1]) (.seq (.seq (.region [μ 7 0,ν 8 .slice 7,η 9 0] [1,7,8,9]) (.block 0 nf)) (.seq (.region [μ 33 1,γ 34 .eql 33 0,μ 4 34] [4]) .ret))),true⟩
def tN:RC:=(.seq (.region [γ 58 .lss 57 17] [56,57,58]) (.seq (.cond (.t 58) .skip (.exit 0)) (.seq (.block 1 (.seq (.region [σ 59 (.gL 3 true 17 (.t 56) (.t 57)),σ 4 (.alloc [δ,δ,δ]),ω 3 4 59] [4,56,57]) (.seq (.region [φ 60 0 4,ρ 61 60,φ 62 1 4,ρ 63 62,β 64 .lss 61 63,μ 65 64,Φ 66 0 4 65 false,Ρ 67 66 65 false,Φ 68 2 4 65 false,Ρ 69 68 65 false,τ 70 (.bin .gtr (.t 67) (.t 69)) 65 false,ζ 71 65 70] [56,57,71]) (.cond (.t 71) (.seq (.region [σ 2 (.mv (.c (.bool false)))] [2]) .ret) .skip)))) (.region [γ 72 .add 57 1,μ 57 72] [56,57]))))
def oW:RC:=.loop [56,57] tN
def f42:ak:=⟨[.t 2],(.seq (.region [σ 1 (.box 17 (.t 0)),σ 2 (.mv (.c (.bool false)))] [1]) (.seq (.seq (.region [φ 5 0 1,ρ 6 5,σ 7 (.build [δ,δ,δ] [(0,1,(.t 6)),(1,1,(κ 1)),(2,1,(κ 64))]),φ 8 1 1,ρ 9 8,σ 10 (.build [δ,δ,δ] [(0,1,(.t 9)),(1,1,(κ 1)),(2,1,(κ 255))]),φ 11 2 1,ρ 12 11,σ 13 (.build [δ,δ,δ] [(0,1,(.t 12)),(1,1,(κ 0)),(2,1,(κ 3))]),φ 14 3 1,ρ 15 14,σ 16 (.build [δ,δ,δ] [(0,1,(.t 15)),(1,1,(κ 0)),(2,1,(κ 255))]),φ 17 4 1,ρ 18 17,σ 19 (.build [δ,δ,δ] [(0,1,(.t 18)),(1,1,(κ 0)),(2,1,(κ 255))]),φ 20 5 1,ρ 21 20,σ 22 (.build [δ,δ,δ] [(0,1,(.t 21)),(1,1,(κ 0)),(2,1,(κ 255))]),φ 23 6 1,ρ 24 23,σ 25 (.build [δ,δ,δ] [(0,1,(.t 24)),(1,1,(κ 0)),(2,1,(κ 255))]),φ 26 7 1,ρ 27 26,σ 28 (.build [δ,δ,δ] [(0,1,(.t 27)),(1,1,(κ 0)),(2,1,(κ 255))]),φ 29 8 1,ρ 30 29,σ 31 (.build [δ,δ,δ] [(0,1,(.t 30)),(1,1,(κ 0)),(2,1,(κ 1))]),φ 32 9 1,ρ 33 32,σ 34 (.build [δ,δ,δ] [(0,1,(.t 33)),(1,1,(κ 0)),(2,1,(κ 1))]),φ 35 10 1,ρ 36 35,σ 37 (.build [δ,δ,δ] [(0,1,(.t 36)),(1,1,(κ 1)),(2,1,(κ 4))]),φ 38 11 1,ρ 39 38,σ 40 (.build [δ,δ,δ] [(0,1,(.t 39)),(1,1,(κ 1)),(2,1,(κ 4))]),φ 41 12 1,ρ 42 41,σ 43 (.build [δ,δ,δ] [(0,1,(.t 42)),(1,1,(κ 0)),(2,1,(κ 1))]),φ 44 13 1,ρ 45 44,σ 46 (.build [δ,δ,δ] [(0,1,(.t 45)),(1,1,(κ 0)),(2,1,(κ 1))]),φ 47 14 1,ρ 48 47,σ 49 (.build [δ,δ,δ] [(0,1,(.t 48)),(1,1,(κ 0)),(2,1,(κ 4))]),φ 50 15 1,ρ 51 50,σ 52 (.build [δ,δ,δ] [(0,1,(.t 51)),(1,1,(κ 0)),(2,1,(κ 8))]),φ 53 16 1,ρ 54 53,σ 55 (.build [δ,δ,δ] [(0,1,(.t 54)),(1,1,(κ 0)),(2,1,(κ 3))]),σ 56 (.build [δ,δ,δ,δ,δ,δ,δ,δ,δ,δ,δ,δ,δ,δ,δ,δ,δ,δ,δ,δ,δ,δ,δ,δ,δ,δ,δ,δ,δ,δ,δ,δ,δ,δ,δ,δ,δ,δ,δ,δ,δ,δ,δ,δ,δ,δ,δ,δ,δ,δ,δ] [(0,3,(.t 7)),(3,3,(.t 10)),(6,3,(.t 13)),(9,3,(.t 16)),(12,3,(.t 19)),(15,3,(.t 22)),(18,3,(.t 25)),(21,3,(.t 28)),(24,3,(.t 31)),(27,3,(.t 34)),(30,3,(.t 37)),(33,3,(.t 40)),(36,3,(.t 43)),(39,3,(.t 46)),(42,3,(.t 49)),(45,3,(.t 52)),(48,3,(.t 55))]),η 57 0] [56,57]) (.block 0 oW)) (.seq (.region [σ 2 (.mv (.c (.bool true)))] [2]) .ret))),true⟩
def r9:RC:=(.seq (.region [β 11 .lss 10 9] [0,1,8,9,10,11]) (.seq (.cond (.t 11) .skip (.exit 0)) (.seq (.block 1 (.seq (.region [ι 12 1 8 10,ρ 13 12,μ 6 13] [0,1,6,8,9,10]) (.seq (.region [μ 14 6,σ 15 (.bin .leq (.t 14) (.c (.int .u8 (.ofNat 32)))),μ 16 15,Μ 17 6 16 false,τ 18 (.bin .gtr (.t 17) (.c (.int .u8 (.ofNat 126)))) 16 false,ζ 19 16 18] [0,1,8,9,10,19]) (.cond (.t 19) (.seq (.region [σ 4 (.mv (.c (.bool false)))] [4]) .ret) .skip)))) (.region [γ 20 .add 10 1,μ 10 20] [0,1,8,9,10]))))
def wI:RC:=.loop [0,1,8,9,10] r9
def f43:ak:=⟨[.t 4],(.seq (.region [σ 4 (.mv (.c (.bool false)))] [0,1]) (.seq (.seq (.region [μ 7 0,σ 8 (.s2b (.t 7)),ν 9 .slice 8,η 10 0] [0,1,8,9,10]) (.block 0 wI)) (.seq (.region [μ 21 0,ν 22 .str 21,μ 23 1,β 24 .leq 22 23,μ 4 24] [4]) .ret))),true⟩
def HE:RC:=(.block 1 (.seq (.region [μ 20 0,μ 21 1,σ 22 (.call 65 [.t 20,.t 21]),μ 6 22] [0,1,5,6]) (.seq (.seq (.region [μ 23 6,σ 24 (.bin .eql (.t 23) (.c (.int .i64 (.negSucc 0))))] [0,1,5,6,24]) (.cond (.t 24) (.seq (.region [μ 25 5,μ 4 25] [4]) .ret) .skip)) (.seq (.region [μ 26 5,γ 27 .add 26 1,μ 5 27] [0,1,5,6]) (.region [μ 28 0,μ 29 6,μ 30 1,ν 31 .str 30,β 32 .add 29 31,σ 33 (.slice true 1 (.t 28) (some (.t 32)) none none),μ 0 33] [0,1,5])))))
def Ju:RC:=.loop [0,1,5] HE
def f44:ak:=⟨[.t 4],(.seq (.region [η 4 0] [0,1]) (.seq (.seq (.region [μ 7 1,ν 8 .str 7,γ 9 .eql 8 0] [0,1,9]) (.cond (.t 9) (.seq (.region [μ 10 0,σ 11 (.call 63 [.t 10]),γ 12 .add 11 1,μ 4 12] [4]) .ret) .skip)) (.seq (.seq (.region [μ 13 1,ν 14 .str 13,γ 15 .eql 14 1] [0,1,15]) (.cond (.t 15) (.seq (.region [μ 16 0,μ 17 1,σ 18 (.index (.t 17) (κ 0)),σ 19 (.call 64 [.t 16,.t 18]),μ 4 19] [4]) .ret) .skip)) (.seq (.region [η 5 0] [0,1,5]) (.block 0 Ju))))),true⟩
def f51:ak:=⟨[.t 2],(.seq (.region [σ 2 (.mv (.c (.bool false)))] [0]) (.seq (.region [μ 3 0,γ 4 .geq 3 1,μ 5 4,Μ 6 0 5 true,τ 7 (.bin .leq (.t 6) (κ 64)) 5 true,ξ 8 5 7,μ 2 8] [2]) .ret)),true⟩
def vM:RC:=(.seq (.region [β 12 .lss 11 10] [9,10,11,12]) (.seq (.cond (.t 12) .skip (.exit 0)) (.seq (.block 1 (.seq (.region [ι 13 1 9 11,ρ 14 13,μ 4 14] [4,9,10,11]) (.seq (.region [μ 15 4,σ 16 (.call 68 [.t 15]),γ 17 .eql 16 0] [9,10,11,17]) (.cond (.t 17) (.seq (.region [η 2 4] [2]) .ret) .skip)))) (.region [γ 18 .add 11 1,μ 11 18] [9,10,11]))))
def wk:RC:=.loop [9,10,11] vM
def f54:ak:=⟨[.t 2],(.seq (.region [η 2 0] [0]) (.seq (.seq (.region [μ 5 0,ν 6 .str 5,γ 7 .gtr 6 4096] [0,7]) (.cond (.t 7) (.seq (.region [η 2 3] [2]) .ret) .skip)) (.seq (.seq (.region [μ 8 0,σ 9 (.s2b (.t 8)),ν 10 .slice 9,η 11 0] [9,10,11]) (.block 0 wk)) (.seq (.region [η 2 0] [2]) .ret)))),true⟩
def f55:ak:=⟨[.t 2],(.seq (.region [σ 1 (.box 1 (.t 0)),σ 2 (.mv (.c .bt))] [1]) (.seq (.region [σ 3 (.ff 69 [] [.t 1]),μ 2 3] [2]) .ret)),false⟩
def wL:RC:=(.seq (.seq (.region [ρ 5 1,ν 6 .slice 5,γ 7 .gtr 6 1,μ 8 7,Μ 9 0 8 true,Ρ 10 2 8 true,τ 11 (.bin .geq (.t 9) (.t 10)) 8 true,ξ 12 8 11] [0,1,2,4,12]) (.cond (.t 12) .skip (.exit 0))) (.block 1 (.seq (.region [ρ 13 1,σ 14 (.slice false 4 (.t 13) (some (κ 1)) none none),ω 1 1 14] [0,1,2,4]) (.av [ρ 15 2,ρ 16 1,σ 17 (.bw 4 (.t 16) (κ 0)),φ 18 0 17,ρ 19 18,β 20 .add 15 19,ω 1 2 20] [] [] [0,1,2,4]))))
def rY:RC:=.loop [0,1,2,4] wL
def f56:ak:=⟨[.cell 4 3 true],(.seq (.region [σ 4 (.alloc [δ,δ,δ])] [0,1,2,4]) (.seq (.block 0 rY) (.seq (.region [ρ 21 1,σ 22 (.bw 4 (.t 21) (κ 0)),φ 23 1 22,Λ 24 3 23,ω 3 4 24] [4]) .ret))),false⟩
def sV:RC:=(.seq (.seq (.region [μ 8 7,γ 9 .add 8 1,μ 10 0,ν 11 .str 10,β 12 .lss 9 11] [0,1,2,7,12]) (.cond (.t 12) .skip (.exit 0))) (.seq (.block 1 (.seq (.region [μ 15 0,μ 16 7,σ 17 (.index (.t 15) (.t 16)),μ 18 1,β 19 .eql 17 18,μ 20 19,Μ 21 0 20 true,Μ 22 7 20 true,τ 23 (.bin .add (.t 22) (κ 1)) 20 true,τ 24 (.index (.t 21) (.t 23)) 20 true,Μ 25 2 20 true,τ 26 (.bin .eql (.t 24) (.t 25)) 20 true,ξ 27 20 26] [0,1,2,7,27]) (.cond (.t 27) (.seq (.region [σ 6 (.mv (.c (.bool true)))] [6]) .ret) .skip))) (.region [μ 13 7,γ 14 .add 13 3,μ 7 14] [0,1,2,7])))
def vT:RC:=.loop [0,1,2,7] sV
def f57:ak:=⟨[.t 6],(.seq (.region [σ 6 (.mv (.c (.bool false)))] [0,1,2]) (.seq (.seq (.region [η 7 0] [0,1,2,7]) (.block 0 vT)) (.seq (.region [σ 6 (.mv (.c (.bool false)))] [6]) .ret))),true⟩
def f61:ak:=⟨[.t 4],(.seq (.region [η 4 0] [0,1]) (.seq (.region [μ 5 0,μ 6 1,σ 7 (.call 72 [.t 5,.t 6]),μ 4 7] [4]) .ret)),true⟩
def f62:ak:=⟨[.t 2],(.seq (.region [σ 1 (.box 3 (.t 0)),σ 2 (.mv (.c (.bool false)))] [1]) (.seq (.region [φ 3 0 1,ρ 4 3,γ 5 .geq 4 0,μ 6 5,Φ 7 0 1 6 true,Ρ 8 7 6 true,τ 9 (.bin .leq (.t 8) (κ 64)) 6 true,ξ 10 6 9,μ 11 10,Φ 12 1 1 11 true,Ρ 13 12 11 true,τ 14 (.bin .geq (.t 13) (κ 0)) 11 true,ξ 15 11 14,μ 16 15,Φ 17 1 1 16 true,Ρ 18 17 16 true,τ 19 (.bin .leq (.t 18) (κ 15)) 16 true,ξ 20 16 19,μ 21 20,Φ 22 2 1 21 true,Ρ 23 22 21 true,τ 24 (.bin .eql (.t 23) (κ 0)) 21 true,Μ 25 24 21 true,Φ 26 2 1 25 false,Ρ 27 26 25 false,τ 28 (.bin .eql (.t 27) (κ 1)) 25 false,τ 29 (.pick (.t 25) (.c (.bool true)) (.t 28)) 21 true,ξ 30 21 29,μ 2 30] [2]) .ret)),true⟩
def J8:RC:=(.seq (.region [σ 5 .fail,ε 6 5 0] [2,6]) (.seq (.cond (.t 6) .skip (.exit 0)) (.block 1 (.region [μ 7 2,γ 8 .add 7 1,μ 2 8] [2]))))
def Kx:RC:=.loop [2] J8
def f63:ak:=⟨[.t 2],(.seq (.region [η 2 0] [0,2]) (.seq (.seq (.region [μ 3 0,σ 4 .fail] [2]) (.block 0 Kx)) (.seq (.region [μ 9 2,μ 2 9] [2]) .ret))),true⟩
def f65:ak:=⟨[.t 4],(.seq (.region [η 4 0] [0,1]) (.seq (.region [μ 5 0,μ 6 1,σ 7 (.call 73 [.t 5,.t 6]),μ 4 7] [4]) .ret)),true⟩
def f68:ak:=⟨[.t 2],(.seq (.region [η 2 0] [0]) (.seq (.block 0 (.seq (.region [μ 4 0,σ 5 (.call 74 [.t 4]),μ 3 5] [0,3]) (.cond (.t 3) (.seq (.region [η 2 1] [2]) .ret) (.seq (.region [μ 7 0,σ 8 (.bin .eql (.t 7) (.c (.int .u8 (.ofNat 32)))),μ 6 8] [0,6]) (.cond (.t 6) (.seq (.region [η 2 3] [2]) .ret) (.seq (.region [μ 10 0,σ 11 (.bin .eql (.t 10) (.c (.int .u8 (.ofNat 9)))),μ 9 11] [0,9]) (.cond (.t 9) (.seq (.region [η 2 4] [2]) .ret) (.seq (.region [μ 13 0,σ 14 (.bin .eql (.t 13) (.c (.int .u8 (.ofNat 31)))),μ 12 14] [0,12]) (.cond (.t 12) (.seq (.region [η 2 5] [2]) .ret) (.seq (.region [μ 16 0,σ 17 (.bin .eql (.t 16) (.c (.int .u8 (.ofNat 1)))),μ 15 17] [0,15]) (.cond (.t 15) (.seq (.region [η 2 6] [2]) .ret) (.seq (.region [μ 19 0,σ 20 (.bin .eql (.t 19) (.c (.int .u8 (.ofNat 2)))),μ 18 20] [0,18]) (.cond (.t 18) (.seq (.region [η 2 7] [2]) .ret) (.seq (.region [μ 22 0,σ 23 (.bin .eql (.t 22) (.c (.int .u8 (.ofNat 3)))),μ 21 23] [0,21]) (.cond (.t 21) (.seq (.region [η 2 8] [2]) .ret) (.seq (.region [μ 25 0,σ 26 (.bin .gtr (.t 25) (.c (.int .u8 (.ofNat 32)))),μ 27 26,Μ 28 0 27 true,τ 29 (.bin .leq (.t 28) (.c (.int .u8 (.ofNat 126)))) 27 true,ξ 30 27 29,μ 24 30] [24]) (.cond (.t 24) (.seq (.region [η 2 2] [2]) .ret) .skip))))))))))))))))) (.seq (.region [η 2 0] [2]) .ret))),true⟩
def lM:RC:=(.seq (.seq (.region [φ 17 2 4,ρ 18 17,γ 19 .eql 18 1,μ 20 19,Φ 21 1 4 20 true,Ρ 22 21 20 true,Ρ 23 1 20 true,τ 24 (.len .str (.t 23)) 20 true,τ 25 (.bin .lss (.t 22) (.t 24)) 20 true,ξ 26 20 25,μ 27 26,Φ 28 1 4 27 true,Ρ 29 28 27 true,Μ 30 3 27 true,τ 31 (.bin .add (.t 30) (κ 3)) 27 true,τ 32 (.bin .lss (.t 29) (.t 31)) 27 true,ξ 33 27 32,μ 34 33,Ρ 35 1 34 true,Φ 36 1 4 34 true,Ρ 37 36 34 true,τ 38 (.index (.t 35) (.t 37)) 34 true,τ 39 (.call 70 [.t 38]) 34 true,ξ 40 34 39] [0,1,3,4,40]) (.cond (.t 40) .skip (.exit 2))) (.block 3 (.region [φ 41 1 4,ρ 42 41,γ 43 .add 42 1,φ 44 1 4,ω 1 44 43] [0,1,3,4])))
def xg:RC:=.loop [0,1,3,4] lM
def wx:RC:=(.seq (.seq (.region [μ 5 3,ρ 6 1,ν 7 .str 6,β 8 .lss 5 7] [0,1,3,8]) (.cond (.t 8) .skip (.exit 0))) (.block 1 (.seq (.region [μ 9 3,μ 10 3,γ 11 .add 10 1,ρ 12 1,μ 13 3,σ 14 (.index (.t 12) (.t 13)),σ 15 (.call 68 [.t 14]),σ 16 (.build [δ,δ,δ] [(0,1,(.t 9)),(1,1,(.t 11)),(2,1,(.t 15))]),σ 4 (.alloc [δ,δ,δ]),ω 3 4 16] [0,1,3,4]) (.seq (.block 2 xg) (.seq (.seq (.region [μ 45 0,Λ 46 3 4,σ 47 (.bd (.t 45) [.t 46]),σ 48 (.un .not (.t 47))] [0,1,4,48]) (.cond (.t 48) .ret .skip)) (.region [φ 49 1 4,ρ 50 49,μ 3 50] [0,1,3]))))))
def sd:RC:=.loop [0,1,3] wx
def f69:ak:=⟨[],(.seq (.region [η 3 0] [0,1,3]) (.block 0 sd)),false⟩
def f70:ak:=⟨[.t 2],(.seq (.region [σ 2 (.mv (.c (.bool false)))] [0]) (.seq (.region [μ 3 0,σ 4 (.bin .eql (.t 3) (.c (.int .u8 (.ofNat 94)))),μ 5 4,Μ 6 0 5 false,τ 7 (.bin .eql (.t 6) (.c (.int .u8 (.ofNat 96)))) 5 false,ζ 8 5 7,μ 9 8,Μ 10 0 9 false,τ 11 (.bin .eql (.t 10) (.c (.int .u8 (.ofNat 126)))) 9 false,ζ 12 9 11,μ 2 12] [2]) .ret)),true⟩
def Lb:RC:=(.seq (.seq (.region [μ 57 8,μ 58 9,β 59 .lss 57 58] [0,1,5,6,7,8,9,10,59]) (.cond (.t 59) .skip (.exit 1))) (.block 2 (.seq (.seq (.region [μ 60 0,μ 61 8,σ 62 (.index (.t 60) (.t 61)),μ 63 6,β 64 .neq 62 63] [0,1,5,6,7,8,9,10,64]) (.cond (.t 64) (.seq (.region [μ 65 0,μ 66 8,γ 67 .add 66 1,μ 68 9,σ 69 (.slice true 1 (.t 65) (some (.t 67)) (some (.t 68)) none),μ 70 6,σ 71 (.call 61 [.t 69,.t 70]),μ 11 71] [0,1,5,6,7,8,9,10,11]) (.seq (.seq (.region [μ 72 11,γ 73 .lss 72 0] [0,1,5,6,7,8,9,10,11,73]) (.cond (.t 73) (.seq (.region [σ 4 (.mv (.c (.int .i64 (.negSucc 0))))] [4]) .ret) .skip)) (.region [μ 74 8,μ 75 11,γ 76 .add 75 1,β 77 .add 74 76,μ 8 77] [0,1,5,6,7,8,9,10]))) .skip)) (.seq (.seq (.region [μ 78 0,μ 79 8,γ 80 .add 79 1,σ 81 (.index (.t 78) (.t 80)),μ 82 7,β 83 .eql 81 82,μ 84 83,Μ 85 0 84 true,Μ 86 8 84 true,Μ 87 8 84 true,Μ 88 5 84 true,τ 89 (.bin .add (.t 87) (.t 88)) 84 true,τ 90 (.slice true 1 (.t 85) (some (.t 86)) (some (.t 89)) none) 84 true,Μ 91 1 84 true,τ 92 (.bin .eql (.t 90) (.t 91)) 84 true,ξ 93 84 92] [0,1,5,6,7,8,9,10,93]) (.cond (.t 93) (.seq (.region [μ 94 8,μ 4 94] [4]) .ret) .skip)) (.seq (.region [μ 95 8,γ 96 .add 95 1,μ 8 96] [0,1,5,6,7,8,9,10]) (.seq (.region [μ 97 10,γ 98 .add 97 1,μ 10 98] [0,1,5,6,7,8,9,10]) (.seq (.region [μ 99 5,σ 100 .fail,β 101 .leq 99 100,μ 102 101,Μ 103 10 102 true,Μ 104 8 102 true,τ 105 (.call 76 [.t 104]) 102 true,τ 106 (.bin .gtr (.t 103) (.t 105)) 102 true,ξ 107 102 106] [0,1,5,6,7,8,9,10,107]) (.cond (.t 107) (.seq (.region [μ 108 0,μ 109 8,σ 110 (.slice true 1 (.t 108) (some (.t 109)) none none),μ 111 1,σ 112 (.call 75 [.t 110,.t 111]),μ 12 112] [8,12]) (.seq (.seq (.region [μ 113 12,γ 114 .geq 113 0] [8,12,114]) (.cond (.t 114) (.seq (.region [μ 115 12,μ 116 8,β 117 .add 115 116,μ 4 117] [4]) .ret) .skip)) (.seq (.region [σ 4 (.mv (.c (.int .i64 (.negSucc 0))))] [4]) .ret))) (.seq (.region [μ 118 5,σ 119 .fail,β 120 .gtr 118 119,μ 121 120,Μ 122 10 121 true,Μ 123 8 121 true,τ 124 (.bin .shr (.t 123) (.c (.int .u64 (.ofNat 4)))) 121 true,τ 125 (.bin .add (κ 4) (.t 124)) 121 true,τ 126 (.bin .geq (.t 122) (.t 125)) 121 true,ξ 127 121 126,μ 128 127,Μ 129 8 128 true,Μ 130 9 128 true,τ 131 (.bin .lss (.t 129) (.t 130)) 128 true,ξ 132 128 131] [0,1,5,6,7,8,9,10,132]) (.cond (.t 132) (.seq (.region [μ 133 0,μ 134 8,σ 135 (.slice true 1 (.t 133) (some (.t 134)) none none),μ 136 1,σ 137 (.call 77 [.t 135,.t 136]),μ 13 137] [8,13]) (.seq (.seq (.region [μ 138 13,γ 139 .lss 138 0] [8,13,139]) (.cond (.t 139) (.seq (.region [σ 4 (.mv (.c (.int .i64 (.negSucc 0))))] [4]) .ret) .skip)) (.seq (.region [μ 140 8,μ 141 13,β 142 .add 140 141,μ 4 142] [4]) .ret))) .skip))))))))))
def HW:RC:=.loop [0,1,5,6,7,8,9,10] Lb
def f73:ak:=⟨[.t 4],(.seq (.region [η 4 0] [0,1]) (.seq (.region [μ 14 1,ν 15 .str 14,μ 5 15] [0,1,5]) (.seq (.block 0 (.seq (.region [μ 17 5,γ 18 .eql 17 0,μ 19 18,Μ 20 1 19 false,Μ 21 0 19 false,τ 22 (.bin .eql (.t 20) (.t 21)) 19 false,ζ 23 19 22,μ 16 23] [0,1,5,16]) (.cond (.t 16) (.seq (.region [η 4 0] [4]) .ret) (.seq (.region [μ 25 5,γ 26 .eql 25 1,μ 24 26] [0,1,5,24]) (.cond (.t 24) (.seq (.region [μ 27 0,μ 28 1,σ 29 (.index (.t 28) (κ 0)),σ 30 (.call 61 [.t 27,.t 29]),μ 4 30] [4]) .ret) (.seq (.region [μ 32 5,μ 33 0,ν 34 .str 33,β 35 .geq 32 34,μ 31 35] [0,1,5,31]) (.cond (.t 31) (.seq (.region [σ 4 (.mv (.c (.int .i64 (.negSucc 0))))] [4]) .ret) (.seq (.region [μ 37 5,σ 38 .fail,β 39 .leq 37 38,μ 40 39,Μ 41 0 40 true,τ 42 (.len .str (.t 41)) 40 true,τ 43 (.bin .leq (.t 42) (κ 64)) 40 true,ξ 44 40 43,μ 36 44] [0,1,5,36]) (.cond (.t 36) (.seq (.region [μ 45 0,μ 46 1,σ 47 (.call 75 [.t 45,.t 46]),μ 4 47] [4]) .ret) .skip))))))))) (.seq (.region [μ 48 1,σ 49 (.index (.t 48) (κ 0)),μ 6 49] [0,1,5,6]) (.seq (.region [μ 50 1,σ 51 (.index (.t 50) (κ 1)),μ 7 51] [0,1,5,6,7]) (.seq (.region [η 8 0] [0,1,5,6,7,8]) (.seq (.region [μ 52 0,ν 53 .str 52,μ 54 5,β 55 .sub 53 54,γ 56 .add 55 1,μ 9 56] [0,1,5,6,7,8,9]) (.seq (.region [η 10 0] [0,1,5,6,7,8,9,10]) (.seq (.block 1 HW) (.seq (.region [σ 4 (.mv (.c (.int .i64 (.negSucc 0))))] [4]) .ret)))))))))),true⟩
def f74:ak:=⟨[.t 2],(.seq (.region [σ 2 (.mv (.c (.bool false)))] [0]) (.seq (.region [μ 3 0,σ 4 (.bin .geq (.t 3) (.c (.int .u8 (.ofNat 97)))),μ 5 4,Μ 6 0 5 true,τ 7 (.bin .leq (.t 6) (.c (.int .u8 (.ofNat 122)))) 5 true,ξ 8 5 7,μ 9 8,Μ 10 0 9 false,τ 11 (.bin .geq (.t 10) (.c (.int .u8 (.ofNat 65)))) 9 false,Μ 12 11 9 false,Μ 13 0 12 true,τ 14 (.bin .leq (.t 13) (.c (.int .u8 (.ofNat 90)))) 12 true,τ 15 (.pick (.t 12) (.t 14) (.c (.bool false))) 9 false,ζ 16 9 15,μ 2 16] [2]) .ret)),true⟩
def f76:ak:=⟨[.t 2],(.seq (.region [η 2 0] [0]) (.seq (.region [μ 3 0,γ 4 .add 3 16,γ 5 .quo 4 8,μ 2 5] [2]) .ret)),true⟩
@[simp] def qZ:Ω:=[σ 7 (.alloc [δ,δ,δ,δ,δ,δ,δ,(.bool false)]),ω 8 7 19]
@[simp] def qy:Ω:=[ρ 20 6,Λ 21 8 7,σ 22 (.lit 8 true [δ,δ,δ,δ,δ,δ,δ,(.bool false)] 1 [(0,(.t 21))]),σ 23 (.append 8 true 64 (.t 20) (.t 22)),ω 1 6 23]
def f106:ak:=⟨[.t 2,.t 3],(.seq (.region [σ 1 (.box 21 (.t 0)),σ 2 (.mv (.c θ)),η 3 0] [1]) (.seq (.region [Λ 9 21 1,σ 10 (.call 117 [.t 9]),μ 8 10,ε 11 8 0,ε 12 8 1,μ 4 11,μ 5 12] [1,4,5]) (.seq (.seq (.region [μ 13 5,γ 14 .neq 13 0] [1,4,5,14]) (.cond (.t 14) (.seq (.region [μ 15 5,σ 2 (.mv (.c θ)),μ 3 15] [2,3]) .ret) .skip)) (.seq (.region [σ 6 (.alloc [θ])] [1,4,6]) (.seq (.seq (.region [Λ 16 21 1,μ 17 4,σ 18 (.call 118 [.t 16,.t 17])] [6,18]) (.block 0 (.eZ (.t 18) [19] (.region qZ [6,7]) (.block 1 (.region qy [])) [6,18]))) (.seq (.region [ρ 24 6,μ 2 24,η 3 0] [2,3]) .ret)))))),true⟩
def EU:RC:=(.seq (.region [β 8 .lss 7 6] [5,6,7,8]) (.seq (.cond (.t 8) .skip (.exit 0)) (.seq (.block 1 (.seq (.region [ι 9 8 5 7,Λ 10 8 9,σ 4 (.alloc [δ,δ,δ,δ,δ,δ,δ,(.bool false)]),ω 8 4 10] [4,5,6,7]) (.seq (.region [φ 11 0 4,ρ 12 11,γ 13 .eql 12 4] [5,6,7,13]) (.cond (.t 13) (.seq (.region [σ 2 (.mv (.c (.bool true)))] [2]) .ret) .skip)))) (.region [γ 14 .add 7 1,μ 7 14] [5,6,7]))))
def Ga:RC:=.loop [5,6,7] EU
def f108:ak:=⟨[.t 2],(.seq (.region [σ 2 (.mv (.c (.bool false)))] [0]) (.seq (.seq (.region [μ 5 0,ν 6 .slice 5,η 7 0] [5,6,7]) (.block 0 Ga)) (.seq (.region [σ 2 (.mv (.c (.bool false)))] [2]) .ret))),true⟩
def qw:RC:=(.seq (.region [β 11 .lss 10 9] [8,9,10,11]) (.seq (.cond (.t 11) .skip (.exit 0)) (.seq (.block 1 (.seq (.region [ι 12 8 8 10,Λ 13 8 12,σ 4 (.alloc [δ,δ,δ,δ,δ,δ,δ,(.bool false)]),ω 8 4 13] [4,8,9,10]) (.seq (.region [Λ 14 8 4,σ 15 (.call 120 [.t 14])] [8,9,10,15]) (.cond (.t 15) (.seq (.region [η 2 2] [2]) .ret) .skip)))) (.region [γ 16 .add 10 1,μ 10 16] [8,9,10]))))
def m9:RC:=.loop [8,9,10] qw
def f109:ak:=⟨[.t 2],(.seq (.region [η 2 0] [0]) (.seq (.seq (.region [μ 5 0,ν 6 .slice 5,γ 7 .gtr 6 8192] [0,7]) (.cond (.t 7) (.seq (.region [η 2 3] [2]) .ret) .skip)) (.seq (.seq (.region [μ 8 0,ν 9 .slice 8,η 10 0] [8,9,10]) (.block 0 m9)) (.seq (.region [η 2 0] [2]) .ret)))),true⟩
def lp:RC:=(.seq (.region [β 31 .lss 30 29] [0,2,3,11,28,29,30,31]) (.seq (.cond (.t 31) .skip (.exit 0)) (.seq (.block 1 (.seq (.region [ι 32 8 28 30,Λ 33 8 32,σ 13 (.alloc [δ,δ,δ,δ,δ,δ,δ,(.bool false)]),ω 8 13 33] [0,2,3,11,13,28,29,30]) (.seq (.region [φ 34 0 13,ρ 35 34] [0,2,3,11,13,28,29,30,35]) (.block 2 (.seq (.seq (.region [γ 37 .eql 35 1,μ 36 37] [0,2,3,11,13,28,29,30,35,36]) (.cond (.t 36) .skip (.region [γ 38 .eql 35 2,μ 36 38] [0,2,3,11,13,28,29,30,35,36]))) (.cond (.t 36) (.region [μ 39 11,φ 40 3 13,ρ 41 40,β 42 .add 39 41,μ 11 42] [0,2,3,11,28,29,30]) (.seq (.region [γ 44 .eql 35 4,μ 43 44] [0,2,3,11,28,29,30,43]) (.cond (.t 43) (.region [μ 45 11,σ 46 (.call 124 [.t 45]),μ 11 46] [0,2,3,11,28,29,30]) .skip)))))))) (.region [γ 47 .add 30 1,μ 30 47] [0,2,3,11,28,29,30]))))
def rj:RC:=.loop [0,2,3,11,28,29,30] lp
def f110:ak:=⟨[.t 8,.t 9],(.seq (.region [η 8 0,η 9 0] [0,1,2,3]) (.seq (.seq (.region [μ 14 0,μ 15 1,μ 16 2,σ 17 (.call 121 [.t 14,.t 15,.t 16]),μ 10 17] [0,1,2,3,10]) (.seq (.region [μ 18 10,γ 19 .neq 18 0] [0,1,2,3,10,19]) (.cond (.t 19) (.seq (.region [μ 20 10,η 8 0,μ 9 20] [8,9]) .ret) .skip))) (.seq (.seq (.region [μ 21 3,σ 22 (.call 122 [.t 21]),σ 23 (.un .not (.t 22))] [0,1,2,3,23]) (.cond (.t 23) (.seq (.region [η 8 0,η 9 5] [8,9]) .ret) .skip)) (.seq (.region [μ 24 3,μ 11 24] [0,1,2,3,11]) (.seq (.seq (.region [μ 25 0,μ 26 1,μ 27 2,σ 28 (.call 123 [.t 25,.t 26,.t 27]),ν 29 .slice 28,η 30 0] [0,2,3,11,28,29,30]) (.block 0 rj)) (.seq (.seq (.region [μ 48 2,μ 49 0,ν 50 .slice 49,β 51 .lss 48 50,μ 52 51,Μ 53 0 52 true,Μ 54 2 52 true,τ 55 (.bw 8 (.t 53) (.t 54)) 52 true,Φ 56 0 55 52 true,Ρ 57 56 52 true,τ 58 (.bin .eql (.t 57) (κ 3)) 52 true,ξ 59 52 58] [0,2,3,11,59]) (.cond (.t 59) (.region [μ 60 11,μ 61 0,μ 62 2,ι 63 8 61 62,φ 64 3 63,ρ 65 64,β 66 .add 60 65,μ 11 66] [3,11]) .skip)) (.seq (.region [μ 67 11,μ 68 3,β 69 .sub 67 68,μ 8 69,η 9 0] [8,9]) .ret))))))),true⟩
def mh:RC:=(.seq (.seq (.region [μ 27 11,μ 28 0,ν 29 .slice 28,β 30 .lss 27 29,μ 31 30,Μ 32 0 31 true,Μ 33 11 31 true,τ 34 (.bw 8 (.t 32) (.t 33)) 31 true,Φ 35 0 34 31 true,Ρ 36 35 31 true,τ 37 (.bin .eql (.t 36) (κ 2)) 31 true,ξ 38 31 37] [0,10,11,38]) (.cond (.t 38) .skip (.exit 0))) (.block 1 (.region [μ 39 11,γ 40 .add 39 1,μ 11 40] [0,10,11])))
def kZ:RC:=.loop [0,10,11] mh
def f113:ak:=⟨[.t 6,.t 7],(.seq (.region [σ 4 (.box 1 (.t 1)),σ 5 (.box 2 (.t 2)),σ 6 (.mv (.c θ)),η 7 0] [0,4,5]) (.seq (.seq (.region [μ 12 0,σ 13 (.call 109 [.t 12]),μ 8 13] [0,4,5,8]) (.seq (.region [μ 14 8,γ 15 .neq 14 0] [0,4,5,8,15]) (.cond (.t 15) (.seq (.region [μ 16 8,σ 6 (.mv (.c θ)),μ 7 16] [6,7]) .ret) .skip))) (.seq (.seq (.region [ρ 17 4,Λ 18 2 5,σ 19 (.call 126 [.t 17,.t 18]),μ 9 19] [0,4,5,9]) (.seq (.region [μ 20 9,γ 21 .neq 20 0] [0,4,5,9,21]) (.cond (.t 21) (.seq (.region [μ 22 9,σ 6 (.mv (.c θ)),μ 7 22] [6,7]) .ret) .skip))) (.seq (.region [μ 23 0,σ 24 (.ff 127 [] [.t 4,.t 5]),σ 25 (.build [θ,.bt,θ] [(0,1,(.t 23)),(1,1,(.t 24))]),σ 26 (.box 3 (.t 25)),μ 10 26] [0,10]) (.seq (.region [η 11 0] [0,10,11]) (.seq (.block 0 kZ) (.seq (.seq (.region [μ 41 11,μ 42 0,ν 43 .slice 42,β 44 .eql 41 43] [0,10,11,44]) (.cond (.t 44) (.seq (.region [μ 45 0,ν 46 .slice 45,μ 47 0,ν 48 .slice 47,σ 49 (.build [δ,δ,(.bool false),(.bool false),δ] [(0,1,(.t 46)),(1,1,(.t 48))]),σ 50 (.lit 5 true [δ,δ,(.bool false),(.bool false),δ] 1 [(0,(.t 49))]),μ 6 50,η 7 0] [6,7]) .ret) .skip)) (.seq (.region [μ 51 11,μ 52 0,ν 53 .slice 52,μ 54 10,σ 55 (.ff 129 [.t 54] []),μ 56 10,σ 57 (.ff 130 [.t 56] []),σ 58 (.call 128 [.t 51,.t 53,.t 55,.t 57])] [10]) (.seq (.region [μ 59 10,σ 60 (.aJ (.t 59)),φ 61 2 60,ρ 62 61,μ 6 62,η 7 0] [6,7]) .ret))))))))),true⟩
def f114:ak:=⟨[.cell 6 2 true],(.seq (.region [σ 4 (.box 2 (.t 1)),σ 6 (.alloc [δ,δ])] [0,2,4,6]) (.seq (.block 0 (.seq (.region [μ 8 2,γ 9 .lss 8 0,μ 7 9] [0,2,4,6,7]) (.cond (.t 7) (.seq (.region [σ 10 (.build [δ,δ] []),ω 2 6 10] [6]) .ret) (.seq (.region [μ 12 2,μ 13 0,ν 14 .slice 13,β 15 .lss 12 14,μ 11 15] [0,2,4,6,11]) (.cond (.t 11) (.seq (.region [μ 16 0,μ 17 2,ι 18 2 16 17,Λ 19 2 18,ω 2 6 19] [6]) .ret) .skip))))) (.seq (.region [Λ 20 2 4,ω 2 6 20] [6]) .ret))),true⟩
def f117:ak:=⟨[.t 2,.t 3],(.seq (.region [σ 1 (.box 21 (.t 0)),σ 2 (.mv (.c θ)),η 3 0] [1]) (.seq (.region [Λ 7 21 1,σ 8 (.call 10 [.t 7]),μ 6 8,ε 9 6 0,ε 10 6 1,μ 4 9,μ 5 10] [1,4,5]) (.seq (.seq (.region [μ 11 5,γ 12 .eql 11 0,μ 13 12,Φ 14 2 1 13 true,Φ 15 14 14 13 true,Ρ 16 15 13 true,τ 17 (.bin .geq (.t 16) (κ 2)) 13 true,ξ 18 13 17,μ 19 18,Μ 20 4 19 true,τ 21 (.len .slice (.t 20)) 19 true,τ 22 (.bin .gtr (.t 21) (κ 0)) 19 true,ξ 23 19 22,μ 24 23,Μ 25 4 24 true,τ 26 (.bw 6 (.t 25) (κ 0)) 24 true,Φ 27 2 26 24 true,Ρ 28 27 24 true,τ 29 (.bin .eql (.t 28) (κ 1)) 24 true,ξ 30 24 29] [4,5,30]) (.cond (.t 30) (.region [μ 31 4,σ 32 (.slice false 6 (.t 31) (some (κ 1)) none none),μ 4 32] [4,5]) .skip)) (.seq (.region [μ 33 4,μ 34 5,μ 2 33,μ 3 34] [2,3]) .ret)))),true⟩
def f118:ak:=⟨[.t 4],(.seq (.region [σ 2 (.box 21 (.t 0)),σ 3 (.box 1 (.t 1)),σ 4 (.mv (.c .bt))] [2,3]) (.seq (.region [σ 5 (.ff 131 [] [.t 2,.t 3]),μ 4 5] [4]) .ret)),false⟩
def f120:ak:=⟨[.t 2],(.seq (.region [σ 1 (.box 8 (.t 0)),σ 2 (.mv (.c (.bool false)))] [1]) (.seq (.seq (.region [φ 3 0 1,ρ 4 3,γ 5 .lss 4 1,μ 6 5,Φ 7 0 1 6 false,Ρ 8 7 6 false,τ 9 (.bin .gtr (.t 8) (κ 4)) 6 false,ζ 10 6 9,μ 11 10,Φ 12 1 1 11 false,Ρ 13 12 11 false,τ 14 (.bin .lss (.t 13) (κ 0)) 11 false,ζ 15 11 14,μ 16 15,Φ 17 2 1 16 false,Ρ 18 17 16 false,Φ 19 1 1 16 false,Ρ 20 19 16 false,τ 21 (.bin .lss (.t 18) (.t 20)) 16 false,ζ 22 16 21,μ 23 22,Φ 24 3 1 23 false,Ρ 25 24 23 false,τ 26 (.bin .lss (.t 25) (κ 0)) 23 false,ζ 27 23 26,μ 28 27,Φ 29 3 1 28 false,Ρ 30 29 28 false,τ 31 (.bin .gtr (.t 30) (κ 2097152)) 28 false,ζ 32 28 31,μ 33 32,Φ 34 4 1 33 false,Ρ 35 34 33 false,τ 36 (.call 122 [.t 35]) 33 false,τ 37 (.un .not (.t 36)) 33 false,ζ 38 33 37,μ 39 38,Φ 40 5 1 39 false,Ρ 41 40 39 false,τ 42 (.call 122 [.t 41]) 39 false,τ 43 (.un .not (.t 42)) 39 false,ζ 44 39 43,μ 45 44,Φ 46 6 1 45 false,Ρ 47 46 45 false,τ 48 (.call 122 [.t 47]) 45 false,τ 49 (.un .not (.t 48)) 45 false,ζ 50 45 49] [1,50]) (.cond (.t 50) (.seq (.region [σ 2 (.mv (.c (.bool true)))] [2]) .ret) .skip)) (.seq (.region [φ 51 0 1,ρ 52 51,γ 53 .neq 52 3,μ 54 53,Φ 55 7 1 54 true,Ρ 56 55 54 true,Μ 57 56 54 true,Φ 58 6 1 57 false,Ρ 59 58 57 false,τ 60 (.bin .neq (.t 59) (κ 0)) 57 false,τ 61 (.pick (.t 57) (.c (.bool true)) (.t 60)) 54 true,ξ 62 54 61,μ 63 62,Φ 64 0 1 63 false,Ρ 65 64 63 false,τ 66 (.bin .neq (.t 65) (κ 2)) 63 false,Μ 67 66 63 false,Φ 68 4 1 67 true,Ρ 69 68 67 true,τ 70 (.bin .neq (.t 69) (κ 0)) 67 true,Μ 71 70 67 true,Φ 72 5 1 71 false,Ρ 73 72 71 false,τ 74 (.bin .neq (.t 73) (κ 0)) 71 false,τ 75 (.pick (.t 71) (.c (.bool true)) (.t 74)) 67 true,τ 76 (.pick (.t 67) (.t 75) (.c (.bool false))) 63 false,ζ 77 63 76,μ 78 77,Φ 79 0 1 78 false,Ρ 80 79 78 false,τ 81 (.bin .eql (.t 80) (κ 4)) 78 false,Μ 82 81 78 false,Φ 83 3 1 82 true,Ρ 84 83 82 true,τ 85 (.bin .neq (.t 84) (κ 0)) 82 true,τ 86 (.pick (.t 82) (.t 85) (.c (.bool false))) 78 false,ζ 87 78 86,μ 2 87] [2]) .ret))),true⟩
def f121:ak:=⟨[.t 6],(.seq (.region [η 6 0] [0,1,2]) (.seq (.region [μ 8 0,σ 9 (.call 109 [.t 8]),μ 7 9] [0,1,2,7]) (.seq (.seq (.region [μ 10 7,γ 11 .eql 10 0,μ 12 11,Μ 13 1 12 true,τ 14 (.bin .lss (.t 13) (κ 0)) 12 true,Μ 15 14 12 true,Μ 16 2 15 false,Μ 17 1 15 false,τ 18 (.bin .lss (.t 16) (.t 17)) 15 false,τ 19 (.pick (.t 15) (.c (.bool true)) (.t 18)) 12 true,Μ 20 19 12 true,Μ 21 2 20 false,Μ 22 0 20 false,τ 23 (.len .slice (.t 22)) 20 false,τ 24 (.bin .gtr (.t 21) (.t 23)) 20 false,τ 25 (.pick (.t 20) (.c (.bool true)) (.t 24)) 12 true,ξ 26 12 25] [7,26]) (.cond (.t 26) (.region [η 7 5] [7]) .skip)) (.seq (.region [μ 27 7,μ 6 27] [6]) .ret)))),true⟩
def f122:ak:=⟨[.t 2],(.seq (.region [σ 2 (.mv (.c (.bool false)))] [0]) (.seq (.region [μ 3 0,γ 4 .geq 3 0,μ 5 4,Μ 6 0 5 true,τ 7 (.bin .leq (.t 6) (κ 4095)) 5 true,ξ 8 5 7,μ 2 8] [2]) .ret)),true⟩
def nA:RC:=(.seq (.seq (.region [μ 7 2,μ 8 1,β 9 .gtr 7 8,μ 10 9,Μ 11 0 10 true,Μ 12 2 10 true,τ 13 (.bin .sub (.t 12) (κ 1)) 10 true,τ 14 (.bw 8 (.t 11) (.t 13)) 10 true,Φ 15 0 14 10 true,Ρ 16 15 10 true,τ 17 (.bin .eql (.t 16) (κ 2)) 10 true,ξ 18 10 17] [0,1,2,18]) (.cond (.t 18) .skip (.exit 0))) (.block 1 (.region [μ 19 2,γ 20 .sub 19 1,μ 2 20] [0,1,2])))
def k8:RC:=.loop [0,1,2] nA
def f123:ak:=⟨[.t 6],(.seq (.region [σ 6 (.mv (.c θ))] [0,1,2]) (.seq (.block 0 k8) (.seq (.region [μ 21 0,μ 22 1,μ 23 2,σ 24 (.slice false 8 (.t 21) (some (.t 22)) (some (.t 23)) none),μ 6 24] [6]) .ret))),true⟩
def f124:ak:=⟨[.t 2],(.seq (.region [η 2 0] [0]) (.seq (.seq (.region [μ 6 0,σ 7 (.call 139 [(.c θ),.t 6]),μ 5 7,ε 8 5 0,ε 9 5 1,σ 3 (.alloc [δ,δ]),ω 2 3 8,μ 4 9] [0,3,4]) (.seq (.region [μ 10 4,γ 11 .eql 10 0] [0,3,11]) (.cond (.t 11) (.seq (.region [φ 12 0 3,ρ 13 12,μ 2 13] [2]) .ret) .skip))) (.seq (.region [μ 14 0,γ 15 .quo 14 48,γ 16 .add 15 1,γ 17 .mul 16 48,μ 2 17] [2]) .ret))),true⟩
@[simp] def ud:Ω:=[σ 3 (.box 2 (.t 1)),η 4 0]
@[simp] def uL:Ω:=[μ 7 0,ν 8 .slice 7,γ 9 .gtr 8 256]
@[simp] def um:Ω:=[η 4 3]
@[simp] def vG:Ω:=[μ 10 0,σ 11 (.append 2 true 16 (.c θ) (.t 10)),Λ 12 2 3,σ 13 (.lit 2 true [δ,δ] 1 [(0,(.t 12))]),σ 14 (.append 2 true 16 (.t 11) (.t 13)),ν 15 .slice 14,η 16 0]
def ra:RC:=(.seq (.region [β 17 .lss 16 15] [14,15,16,17]) (.seq (.cond (.t 17) .skip (.exit 0)) (.seq (.block 1 (.seq (.region [ι 18 2 14 16,Λ 19 2 18,σ 6 (.alloc [δ,δ]),ω 2 6 19] [6,14,15,16]) (.seq (.region [Λ 20 2 6,σ 21 (.call 140 [.t 20]),σ 22 (.un .not (.t 21))] [14,15,16,22]) (.cond (.t 22) (.seq (.region [η 4 2] [4]) .ret) .skip)))) (.region [γ 23 .add 16 1,μ 16 23] [14,15,16]))))
def la:RC:=.loop [14,15,16] ra
@[simp] def A3:Ω:=[η 4 0]
def f126:ak:=⟨[.t 4],(.seq (.region ud [0,3]) (.seq (.seq (.region uL [0,3,9]) (.cond (.t 9) (.seq (.region um [4]) .ret) .skip)) (.seq (.seq (.av vG [] [(2,[0]),(3,[0])] [14,15,16]) (.block 0 la)) (.seq (.region A3 [4]) .ret)))),true⟩
def f127:ak:=⟨[.cell 4 2 true],(.seq (.region [σ 4 (.alloc [δ,δ])] [0,1,2,4]) (.seq (.region [ρ 5 1,Λ 6 2 2,μ 7 0,σ 8 (.call 114 [.t 5,.t 6,.t 7]),ω 2 4 8] [4]) .ret)),false⟩
def qa:RC:=(.seq (.seq (.region [μ 10 8,μ 11 1,β 12 .lss 10 11] [1,2,3,8,12]) (.cond (.t 12) .skip (.exit 0))) (.seq (.block 1 .skip) (.region [μ 13 3,μ 14 2,μ 15 8,σ 16 (.bd (.t 14) [.t 15]),σ 17 (.bd (.t 13) [.t 16]),μ 8 17] [1,2,3,8])))
def nW:RC:=.loop [1,2,3,8] qa
def f128:ak:=⟨[],(.seq (.region [μ 9 0,μ 8 9] [1,2,3,8]) (.block 0 nW)),false⟩
@[simp] def u9:Ω:=[η 4 0]
@[simp] def ru:Ω:=[μ 14 0,σ 15 (.aJ (.t 14)),φ 16 1 15,ρ 17 16,μ 18 0,σ 19 (.aJ (.t 18)),φ 20 2 19,ρ 21 20,ν 22 .slice 21,σ 23 (.bd (.t 17) [.t 22]),σ 5 (.alloc [δ,δ]),ω 2 5 23]
@[simp] def uc:Ω:=[σ 6 (.mv (.c (.int .i64 (.negSucc 0)))),η 7 0,σ 8 (.mv (.c (.bool false)))]
@[simp] def ug:Ω:=[φ 24 0 5,ρ 25 24,μ 9 25]
@[simp] def uV:Ω:=[φ 26 0 5,ρ 27 26,μ 10 27]
@[simp] def vv:Ω:=[μ 28 1,μ 11 28]
@[simp] def yX:Ω:=[μ 29 11,μ 30 0,σ 31 (.aJ (.t 30)),φ 32 0 31,ρ 33 32,ν 34 .slice 33,β 35 .leq 29 34]
@[simp] def qU:Ω:=[μ 38 11,μ 39 1,β 40 .gtr 38 39,μ 41 40,Μ 42 0 41 true,Μ 43 11 41 true,τ 44 (.call 141 [.t 42,.t 43]) 41 true,ξ 45 41 44]
@[simp] def qK:Ω:=[μ 46 10,φ 47 0 5,ρ 48 47,β 49 .sub 46 48,μ 12 49]
@[simp] def rK:Ω:=[μ 50 11,μ 51 0,σ 52 (.aJ (.t 51)),φ 53 0 52,ρ 54 53,ν 55 .slice 54,β 56 .lss 50 55,μ 57 56,Μ 58 0 57 true,τ 59 (.aJ (.t 58)) 57 true,Φ 60 0 59 57 true,Ρ 61 60 57 true,Μ 62 11 57 true,τ 63 (.bw 8 (.t 61) (.t 62)) 57 true,Φ 64 0 63 57 true,Ρ 65 64 57 true,τ 66 (.bin .eql (.t 65) (κ 3)) 57 true,ξ 67 57 66]
@[simp] def l7:Ω:=[μ 68 12,μ 69 0,σ 70 (.aJ (.t 69)),φ 71 0 70,ρ 72 71,μ 73 11,ι 74 8 72 73,φ 75 3 74,ρ 76 75,β 77 .add 68 76,μ 12 77]
@[simp] def qW:Ω:=[μ 78 6,γ 79 .lss 78 0,μ 80 79,Μ 81 12 80 false,Φ 82 1 5 80 false,Ρ 83 82 80 false,τ 84 (.bin .leq (.t 81) (.t 83)) 80 false,ζ 85 80 84]
@[simp] def rp:Ω:=[μ 86 12,φ 87 1 5,ρ 88 87,β 89 .gtr 86 88]
@[simp] def qc:Ω:=[σ 8 (.mv (.c (.bool true)))]
@[simp] def qS:Ω:=[μ 90 11,μ 91 12,μ 6 90,μ 7 91]
@[simp] def pW:Ω:=[μ 92 12,φ 93 1 5,ρ 94 93,β 95 .gtr 92 94]
@[simp] def wy:Ω:=[μ 96 11,μ 97 0,σ 98 (.aJ (.t 97)),φ 99 0 98,ρ 100 99,ν 101 .slice 100,β 102 .lss 96 101]
@[simp] def we:Ω:=[μ 103 0,μ 104 11,μ 105 9,σ 106 (.call 142 [.t 103,.t 104,.t 105]),μ 9 106]
@[simp] def wM:Ω:=[μ 107 0,σ 108 (.aJ (.t 107)),φ 109 0 108,ρ 110 109,μ 111 11,ι 112 8 110 111,φ 113 0 112,ρ 114 113,γ 115 .neq 114 2]
@[simp] def v9:Ω:=[μ 116 9,μ 10 116]
def mK:RC:=(.seq (.seq (.region yX [0,1,5,6,7,8,9,10,11,35]) (.cond (.t 35) .skip (.exit 0))) (.seq (.block 1 (.seq (.seq (.region qU [0,1,5,6,7,8,9,10,11,45]) (.cond (.t 45) (.seq (.region qK [0,1,5,6,7,8,9,10,11,12]) (.seq (.seq (.region rK [0,1,5,6,7,8,9,10,11,12,67]) (.cond (.t 67) (.region l7 [0,1,5,6,7,8,9,10,11,12]) .skip)) (.seq (.seq (.region qW [0,1,5,6,7,8,9,10,11,12,85]) (.cond (.t 85) (.seq (.seq (.region rp [0,1,5,8,9,10,11,12,89]) (.cond (.t 89) (.region qc [0,1,5,8,9,10,11,12]) .skip)) (.region qS [0,1,5,6,7,8,9,10,11,12])) .skip)) (.seq (.region pW [0,1,5,6,7,8,9,10,11,95]) (.cond (.t 95) (.exit 0) .skip))))) .skip)) (.seq (.region wy [0,1,5,6,7,8,9,10,11,102]) (.cond (.t 102) (.seq (.region we [0,1,5,6,7,8,9,10,11]) (.seq (.region wM [0,1,5,6,7,8,9,10,11,115]) (.cond (.t 115) (.region v9 [0,1,5,6,7,8,9,10,11]) .skip))) .skip)))) (.region [μ 36 11,γ 37 .add 36 1,μ 11 37] [0,1,5,6,7,8,9,10,11])))
def hZ:RC:=.loop [0,1,5,6,7,8,9,10,11] mK
@[simp] def rI:Ω:=[μ 117 1,μ 118 6,μ 119 8,μ 120 7,σ 121 (.build [δ,δ,(.bool false),(.bool false),δ] [(0,1,(.t 117)),(1,1,(.t 118)),(2,1,(.t 119)),(4,1,(.t 120))]),σ 13 (.alloc [δ,δ,(.bool false),(.bool false),δ]),ω 5 13 121]
@[simp] def rq:Ω:=[μ 122 6,μ 123 0,σ 124 (.aJ (.t 123)),φ 125 0 124,ρ 126 125,ν 127 .slice 126,β 128 .lss 122 127,μ 129 128,Μ 130 0 129 true,τ 131 (.aJ (.t 130)) 129 true,Φ 132 0 131 129 true,Ρ 133 132 129 true,Μ 134 6 129 true,τ 135 (.bw 8 (.t 133) (.t 134)) 129 true,Φ 136 7 135 129 true,Ρ 137 136 129 true,ξ 138 129 137,φ 139 3 13,ω 1 139 138]
@[simp] def qL:Ω:=[μ 140 0,μ 141 0,σ 142 (.aJ (.t 141)),φ 143 2 142,ρ 144 143,Λ 145 5 13,σ 146 (.lit 5 true [δ,δ,(.bool false),(.bool false),δ] 1 [(0,(.t 145))]),σ 147 (.append 5 true 32 (.t 144) (.t 146)),σ 148 (.aJ (.t 140)),φ 149 2 148,ω 1 149 147]
@[simp] def wj:Ω:=[μ 150 6,μ 4 150]
def f129:ak:=⟨[.t 4],(.seq (.region u9 [0,1]) (.seq (.av ru [10] [] [0,1,5]) (.seq (.region uc [0,1,5,6,7,8]) (.seq (.region ug [0,1,5,6,7,8,9]) (.seq (.region uV [0,1,5,6,7,8,9,10]) (.seq (.seq (.region vv [0,1,5,6,7,8,9,10,11]) (.block 0 hZ)) (.seq (.region rI [0,6,13]) (.seq (.region rq [0,6,13]) (.seq (.av qL [] [] [6]) (.seq (.region wj [4]) .ret)))))))))),false⟩
def nh:RC:=(.seq (.seq (.region [μ 29 1,μ 30 0,σ 31 (.aJ (.t 30)),φ 32 0 31,ρ 33 32,ν 34 .slice 33,β 35 .lss 29 34,μ 36 35,Μ 37 0 36 true,τ 38 (.aJ (.t 37)) 36 true,Φ 39 0 38 36 true,Ρ 40 39 36 true,Μ 41 1 36 true,τ 42 (.bw 8 (.t 40) (.t 41)) 36 true,Φ 43 0 42 36 true,Ρ 44 43 36 true,τ 45 (.bin .eql (.t 44) (κ 2)) 36 true,ξ 46 36 45] [0,1,46]) (.cond (.t 46) .skip (.exit 0))) (.block 1 (.region [μ 47 1,γ 48 .add 47 1,μ 1 48] [0,1])))
def gG:RC:=.loop [0,1] nh
def f130:ak:=⟨[.t 4],(.seq (.region [η 4 0] [0,1]) (.seq (.seq (.region [μ 5 1,μ 6 0,σ 7 (.aJ (.t 6)),φ 8 0 7,ρ 9 8,ν 10 .slice 9,β 11 .lss 5 10,μ 12 11,Μ 13 1 12 true,τ 14 (.bin .geq (.t 13) (κ 0)) 12 true,ξ 15 12 14,μ 16 15,Μ 17 0 16 true,τ 18 (.aJ (.t 17)) 16 true,Φ 19 0 18 16 true,Ρ 20 19 16 true,Μ 21 1 16 true,τ 22 (.bw 8 (.t 20) (.t 21)) 16 true,Φ 23 0 22 16 true,Ρ 24 23 16 true,τ 25 (.bin .eql (.t 24) (κ 3)) 16 true,ξ 26 16 25] [0,1,26]) (.cond (.t 26) (.region [μ 27 1,γ 28 .add 27 1,μ 1 28] [0,1]) .skip)) (.seq (.block 0 gG) (.seq (.region [μ 49 1,μ 4 49] [4]) .ret)))),false⟩
def gT:RC:=(.seq (.region [β 20 .lss 19 18] [2,3,4,5,6,7,8,17,18,19,20]) (.seq (.cond (.t 20) .skip (.exit 0)) (.seq (.block 1 (.seq (.region [μ 21 19,ι 22 6 17 19,Λ 23 6 22,σ 10 (.alloc [δ,δ,δ,δ,δ,δ]),μ 9 21,ω 6 10 23] [2,3,4,5,6,7,8,9,10,17,18,19]) (.seq (.seq (.region [Λ 24 6 10,σ 25 (.call 136 [.t 24]),σ 26 (.un .not (.t 25))] [2,3,4,5,6,7,8,9,10,17,18,19,26]) (.cond (.t 26) (.seq (.seq (.av [μ 27 8,μ 28 9,σ 29 (.bd (.t 27) [.t 28]),σ 30 (.un .not (.t 29)),μ 31 30,Ρ 32 3 31 false,τ 33 (.load 6 true (.t 10)) 31 false,τ 34 (.call 137 [.t 33]) 31 false,τ 35 (.bd (.t 32) [.t 34]) 31 false,τ 36 (.un .not (.t 35)) 31 false,ζ 37 31 36] [] [] [2,3,4,5,7,8,9,17,18,19,37]) (.cond (.t 37) .ret .skip)) (.seq (.region [μ 38 9,γ 39 .add 38 1,μ 40 9,γ 41 .add 40 1,μ 6 39,ω 1 7 41] [2,3,4,5,6,7,8,17,18,19]) (.exit 1))) .skip)) (.seq (.seq (.region [μ 42 9,ρ 43 7,β 44 .eql 42 43] [2,3,4,5,6,7,8,9,10,17,18,19,44]) (.cond (.t 44) (.exit 1) .skip)) (.seq (.region [φ 45 0 10,ρ 46 45,φ 47 0 10,ρ 48 47,σ 49 (.build [δ,δ,δ,δ,δ,δ,δ,(.bool false)] [(0,1,(κ 3)),(1,1,(.t 46)),(2,1,(.t 48))]),σ 11 (.alloc [δ,δ,δ,δ,δ,δ,δ,(.bool false)]),ω 8 11 49] [2,3,4,5,6,7,8,9,10,11,17,18,19]) (.seq (.block 2 (.seq (.region [μ 51 4,μ 52 9,ι 53 1 51 52,ρ 54 53,μ 50 54] [2,3,4,5,6,7,8,9,10,11,17,18,19,50]) (.cond (.t 50) (.region [φ 55 3 10,ρ 56 55,σ 57 (.call 138 [.t 56]),φ 58 6 11,⟨none,.store 1 (.t 58) (κ 100),none⟩,φ 59 7 11,⟨none,.store 1 (.t 59) (.c (.bool true)),none⟩,φ 60 3 11,ω 1 60 57] [2,3,4,5,6,7,8,9,11,17,18,19]) (.seq (.region [μ 62 5,μ 63 9,γ 64 .sub 63 1,σ 65 (.bd (.t 62) [.t 64]),μ 66 65,Μ 67 5 66 true,Μ 68 9 66 true,τ 69 (.bd (.t 67) [.t 68]) 66 true,τ 70 (.un .not (.t 69)) 66 true,ξ 71 66 70,μ 72 71,Μ 73 9 72 true,τ 74 (.bin .sub (.t 73) (κ 1)) 72 true,Μ 75 6 72 true,τ 76 (.bin .gtr (.t 74) (.t 75)) 72 true,ξ 77 72 76,μ 61 77] [2,3,4,5,6,7,8,9,11,17,18,19,61]) (.cond (.t 61) (.region [φ 78 6 11,⟨none,.store 1 (.t 78) (κ 50),none⟩] [2,3,4,5,6,7,8,9,11,17,18,19]) (.exit 1)))))) (.seq (.seq (.region [μ 79 8,μ 80 9,σ 81 (.bd (.t 79) [.t 80]),σ 82 (.un .not (.t 81)),μ 83 82,Ρ 84 3 83 false,τ 85 (.load 8 true (.t 11)) 83 false,τ 86 (.bd (.t 84) [.t 85]) 83 false,τ 87 (.un .not (.t 86)) 83 false,ζ 88 83 87] [2,3,4,5,6,7,8,9,17,18,19,88]) (.cond (.t 88) .ret .skip)) (.region [μ 89 9,ω 1 7 89] [2,3,4,5,6,7,8,17,18,19])))))))) (.region [γ 90 .add 19 1,μ 19 90] [2,3,4,5,6,7,8,17,18,19]))))
def fj:RC:=.loop [2,3,4,5,6,7,8,17,18,19] gT
def f131:ak:=⟨[],(.seq (.region [σ 3 (.box 1 (.t 0))] [1,2,3]) (.seq (.region [Λ 12 21 1,ρ 13 2,σ 14 (.call 132 [.t 12,.t 13]),μ 4 14] [1,2,3,4]) (.seq (.region [σ 15 (.ff 133 [] [.t 2,.t 1]),μ 5 15] [2,3,4,5]) (.seq (.region [σ 7 (.alloc [δ]),η 6 0,⟨none,.store 1 (.t 7) (κ 0),none⟩] [2,3,4,5,6,7]) (.seq (.region [σ 16 (.ff 134 [] [.t 7,.t 3,.t 2]),μ 8 16] [2,3,4,5,6,7,8]) (.seq (.seq (.region [ρ 17 2,ν 18 .slice 17,η 19 0] [2,3,4,5,6,7,8,17,18,19]) (.block 0 fj)) (.region [μ 91 8,ρ 92 2,ν 93 .slice 92,σ 94 (.bd (.t 91) [.t 93])] []))))))),false⟩
def Fx:RC:=(.seq (.seq (.av [μ 37 8,μ 38 1,ν 39 .slice 38,β 40 .lss 37 39,μ 41 40,Μ 42 1 41 true,Μ 43 8 41 true,τ 44 (.bw 6 (.t 42) (.t 43)) 41 true,Φ 45 2 44 41 true,Ρ 46 45 41 true,τ 47 (.bin .eql (.t 46) (κ 1)) 41 true,ξ 48 41 47,μ 49 48,Μ 50 1 49 true,Μ 51 8 49 true,τ 52 (.bw 6 (.t 50) (.t 51)) 49 true,Φ 53 3 52 49 true,Ρ 54 53 49 true,Μ 55 1 49 true,Μ 56 7 49 true,τ 57 (.bw 6 (.t 55) (.t 56)) 49 true,Φ 58 3 57 49 true,Ρ 59 58 49 true,τ 60 (.bin .eql (.t 54) (.t 59)) 49 true,ξ 61 49 60] [] [] [1,2,5,6,7,8,9,61]) (.cond (.t 61) .skip (.exit 2))) (.block 3 (.seq (.av [μ 62 9,φ 63 0 2,ρ 64 63,μ 65 1,μ 66 8,ι 67 6 65 66,φ 68 0 67,ρ 69 68,σ 70 (.index (.t 64) (.t 69)),σ 71 (.lit 1 false [(.int .u8 (.ofNat 0))] 1 [(0,(.t 70))]),σ 72 (.append 1 false 1 (.t 62) (.t 71)),μ 9 72] [] [] [1,2,5,6,7,8,9]) (.region [μ 73 8,γ 74 .add 73 1,μ 8 74] [1,2,5,6,7,8,9]))))
def Gb:RC:=.loop [1,2,5,6,7,8,9] Fx
def E7:RC:=(.seq (.region [β 85 .lss 84 83] [1,2,5,6,7,8,82,83,84,85]) (.seq (.cond (.t 85) .skip (.exit 4)) (.seq (.block 5 (.seq (.region [ι 86 1 82 84,ρ 87 86,μ 13 87] [1,2,5,6,7,8,13,82,83,84]) (.region [μ 88 5,μ 89 7,μ 90 13,β 91 .add 89 90,ι 92 1 88 91,⟨none,.store 1 (.t 92) (.c (.bool true)),none⟩] [1,2,5,6,7,8,82,83,84]))) (.region [γ 93 .add 84 1,μ 84 93] [1,2,5,6,7,8,82,83,84]))))
def FE:RC:=.loop [1,2,5,6,7,8,82,83,84] E7
def Fj:RC:=(.seq (.seq (.region [μ 24 7,μ 25 1,ν 26 .slice 25,β 27 .lss 24 26] [1,2,5,6,7,27]) (.cond (.t 27) .skip (.exit 0))) (.block 1 (.seq (.seq (.region [μ 28 1,μ 29 7,ι 30 6 28 29,φ 31 2 30,ρ 32 31,γ 33 .neq 32 1] [1,2,5,6,7,33]) (.cond (.t 33) (.seq (.region [μ 34 7,γ 35 .add 34 1,μ 7 35] [1,2,5,6,7]) (.exit 1)) .skip)) (.seq (.region [μ 36 7,μ 8 36] [1,2,5,6,7,8]) (.seq (.region [σ 9 (.mv (.c θ))] [1,2,5,6,7,8,9]) (.seq (.block 2 Gb) (.seq (.region [μ 76 6,μ 77 9,σ 78 (.b2s (.t 77)),σ 79 (.call 144 [.t 76,.t 78]),μ 75 79,ε 80 75 0,ε 81 75 1,μ 10 80,μ 11 81] [1,2,5,6,7,8,10]) (.seq (.seq (.region [μ 82 10,ν 83 .slice 82,η 84 0] [1,2,5,6,7,8,82,83,84]) (.block 4 FE)) (.region [μ 94 8,μ 7 94] [1,2,5,6,7])))))))))
def E2:RC:=.loop [1,2,5,6,7] Fj
def f132:ak:=⟨[.t 4],(.seq (.region [σ 2 (.box 21 (.t 0)),σ 4 (.mv (.c θ))] [1,2]) (.seq (.region [μ 14 1,ν 15 .slice 14,γ 16 .add 15 1,σ 17 (.bZ 1 false 1 [(.bool false)] (.t 16) (.t 16)),μ 5 17] [1,2,5]) (.seq (.seq (.region [φ 18 2 2,φ 19 12 18,ρ 20 19,γ 21 .eql 20 0] [1,2,5,21]) (.cond (.t 21) (.seq (.region [μ 22 5,μ 4 22] [4]) .ret) .skip)) (.seq (.region [σ 23 (.call 143 []),μ 6 23] [1,2,5,6]) (.seq (.seq (.region [η 7 0] [1,2,5,6,7]) (.block 0 E2)) (.seq (.region [μ 95 5,μ 4 95] [4]) .ret)))))),true⟩
def f133:ak:=⟨[.t 4],(.seq (.region [σ 4 (.mv (.c (.bool false)))] [0,1,2]) (.seq (.av [ρ 5 1,μ 6 0,ι 7 6 5 6,φ 8 2 7,ρ 9 8,γ 10 .eql 9 2,μ 11 10,Φ 12 0 2 11 true,Ρ 13 12 11 true,Ρ 14 1 11 true,Μ 15 0 11 true,τ 16 (.bw 6 (.t 14) (.t 15)) 11 true,Φ 17 0 16 11 true,Ρ 18 17 11 true,τ 19 (.index (.t 13) (.t 18)) 11 true,τ 20 (.bin .eql (.t 19) (.c (.int .u8 (.ofNat 45)))) 11 true,ξ 21 11 20,μ 4 21] [] [] [4]) .ret)),false⟩
def f134:ak:=⟨[.t 5],(.seq (.region [σ 5 (.mv (.c (.bool false)))] [0,1,2,3]) (.seq (.av [ρ 6 1,μ 7 0,β 8 .geq 6 7,μ 9 8,Ρ 10 2 9 false,Ρ 11 3 9 false,Ρ 12 1 9 false,Μ 13 0 9 false,τ 14 (.call 135 [.t 11,.t 12,.t 13]) 9 false,τ 15 (.bd (.t 10) [.t 14]) 9 false,ζ 16 9 15,μ 5 16] [] [] [5]) .ret)),false⟩
def f135:ak:=⟨[.cell 6 8 true],(.seq (.region [σ 6 (.alloc [δ,δ,δ,δ,δ,δ,δ,(.bool false)])] [0,1,2,6]) (.seq (.region [μ 10 0,μ 11 1,μ 12 2,σ 13 (.call 23 [.t 10,.t 11,.t 12]),μ 9 13,ε 14 9 0,ε 15 9 1,μ 7 14,μ 8 15] [0,1,2,6,7]) (.seq (.av [μ 16 0,μ 17 1,ι 18 6 16 17,φ 19 0 18,ρ 20 19,μ 21 0,μ 22 2,γ 23 .sub 22 1,ι 24 6 21 23,φ 25 1 24,ρ 26 25,μ 27 7,σ 28 (.build [δ,δ,δ,δ,δ,δ,δ,(.bool false)] [(0,1,(κ 1)),(1,1,(.t 20)),(2,1,(.t 26)),(3,1,(.t 27))]),ω 8 6 28] [] [] [6]) .ret))),true⟩
def f136:ak:=⟨[.t 2],(.seq (.region [σ 1 (.box 6 (.t 0)),σ 2 (.mv (.c (.bool false)))] [1]) (.seq (.region [φ 3 2 1,ρ 4 3,γ 5 .neq 4 3,μ 6 5,Φ 7 2 1 6 true,Ρ 8 7 6 true,τ 9 (.bin .neq (.t 8) (κ 4)) 6 true,ξ 10 6 9,μ 11 10,Φ 12 2 1 11 true,Ρ 13 12 11 true,τ 14 (.bin .neq (.t 13) (κ 5)) 11 true,ξ 15 11 14,μ 2 15] [2]) .ret)),true⟩
def f137:ak:=⟨[.cell 2 8 true],(.seq (.region [σ 1 (.box 6 (.t 0)),σ 2 (.alloc [δ,δ,δ,δ,δ,δ,δ,(.bool false)])] [1,2]) (.seq (.seq (.region [φ 3 2 1,ρ 4 3] [1,2,4]) (.block 0 (.seq (.region [γ 6 .eql 4 3,μ 5 6] [1,2,4,5]) (.cond (.t 5) (.seq (.region [φ 7 0 1,ρ 8 7,φ 9 1 1,ρ 10 9,φ 11 4 1,ρ 12 11,φ 13 4 1,ρ 14 13,γ 15 .quo 14 2,φ 16 4 1,ρ 17 16,γ 18 .quo 17 3,σ 19 (.build [δ,δ,δ,δ,δ,δ,δ,(.bool false)] [(0,1,(κ 2)),(1,1,(.t 8)),(2,1,(.t 10)),(3,1,(.t 12)),(4,1,(.t 15)),(5,1,(.t 18))]),ω 8 2 19] [2]) .ret) (.seq (.region [γ 21 .eql 4 4,μ 20 21] [1,2,20]) (.cond (.t 20) (.seq (.region [φ 22 0 1,ρ 23 22,φ 24 1 1,ρ 25 24,σ 26 (.build [δ,δ,δ,δ,δ,δ,δ,(.bool false)] [(0,1,(κ 4)),(1,1,(.t 23)),(2,1,(.t 25))]),ω 8 2 26] [2]) .ret) .skip)))))) (.seq (.av [φ 27 0 1,ρ 28 27,φ 29 1 1,ρ 30 29,φ 31 3 1,ρ 32 31,σ 33 (.call 138 [.t 32]),σ 34 (.build [δ,δ,δ,δ,δ,δ,δ,(.bool false)] [(0,1,(κ 3)),(1,1,(.t 28)),(2,1,(.t 30)),(3,1,(.t 33)),(6,1,(κ 50)),(7,1,(.c (.bool true)))]),ω 8 2 34] [] [] [2]) .ret))),true⟩
def f138:ak:=⟨[.t 2],(.seq (.region [η 2 0] [0]) (.seq (.region [μ 6 0,σ 7 (.call 17 [(.c (.str [45])),.t 6]),μ 5 7,ε 8 5 0,ε 9 5 1,μ 3 8,μ 4 9] [3]) (.seq (.region [μ 10 3,μ 2 10] [2]) .ret))),true⟩
def f139:ak:=⟨[.cell 4 2 true,.t 5],(.seq (.region [σ 4 (.alloc [δ,δ]),η 5 0] [0,1,4]) (.seq (.seq (.region [μ 7 0,σ 8 (.call 145 [.t 7]),μ 6 8] [0,1,4,6]) (.seq (.region [μ 9 6,γ 10 .neq 9 0] [0,1,4,6,10]) (.cond (.t 10) (.seq (.region [σ 11 (.build [δ,δ] []),μ 12 6,ω 2 4 11,μ 5 12] [4,5]) .ret) .skip))) (.seq (.seq (.region [μ 13 1,γ 14 .lss 13 0,μ 15 14,Μ 16 1 15 false,τ 17 (.bin .gtr (.t 16) (κ 8190)) 15 false,ζ 18 15 17] [0,1,4,18]) (.cond (.t 18) (.seq (.region [σ 19 (.build [δ,δ] []),ω 2 4 19,η 5 5] [4,5]) .ret) .skip)) (.seq (.region [μ 20 0,μ 21 1,σ 22 (.call 146 [.t 20,.t 21]),ω 2 4 22,η 5 0] [4,5]) .ret)))),true⟩
def f140:ak:=⟨[.t 2],(.seq (.region [σ 1 (.box 2 (.t 0)),σ 2 (.mv (.c (.bool false)))] [1]) (.seq (.region [φ 3 0 1,ρ 4 3,γ 5 .geq 4 0,μ 6 5,Φ 7 0 1 6 true,Ρ 8 7 6 true,τ 9 (.bin .leq (.t 8) (κ 4095)) 6 true,ξ 10 6 9,μ 11 10,Φ 12 1 1 11 true,Ρ 13 12 11 true,τ 14 (.bin .geq (.t 13) (κ 0)) 11 true,ξ 15 11 14,μ 16 15,Φ 17 1 1 16 true,Ρ 18 17 16 true,τ 19 (.bin .leq (.t 18) (κ 4095)) 16 true,ξ 20 16 19,μ 2 20] [2]) .ret)),true⟩
def f141:ak:=⟨[.t 4],(.seq (.region [σ 4 (.mv (.c (.bool false)))] [0,1]) (.seq (.seq (.region [μ 5 1,μ 6 0,σ 7 (.aJ (.t 6)),φ 8 0 7,ρ 9 8,ν 10 .slice 9,β 11 .eql 5 10,μ 12 11,Μ 13 0 12 false,τ 14 (.aJ (.t 13)) 12 false,Φ 15 0 14 12 false,Ρ 16 15 12 false,Μ 17 1 12 false,τ 18 (.bw 8 (.t 16) (.t 17)) 12 false,Φ 19 0 18 12 false,Ρ 20 19 12 false,τ 21 (.bin .eql (.t 20) (κ 3)) 12 false,ζ 22 12 21] [0,1,22]) (.cond (.t 22) (.seq (.region [σ 4 (.mv (.c (.bool true)))] [4]) .ret) .skip)) (.seq (.region [μ 23 0,σ 24 (.aJ (.t 23)),φ 25 0 24,ρ 26 25,μ 27 1,ι 28 8 26 27,φ 29 0 28,ρ 30 29,γ 31 .eql 30 2,μ 32 31,Μ 33 1 32 true,τ 34 (.bin .gtr (.t 33) (κ 0)) 32 true,ξ 35 32 34,μ 36 35,Μ 37 0 36 true,τ 38 (.aJ (.t 37)) 36 true,Φ 39 0 38 36 true,Ρ 40 39 36 true,Μ 41 1 36 true,τ 42 (.bin .sub (.t 41) (κ 1)) 36 true,τ 43 (.bw 8 (.t 40) (.t 42)) 36 true,Φ 44 0 43 36 true,Ρ 45 44 36 true,τ 46 (.bin .neq (.t 45) (κ 2)) 36 true,ξ 47 36 46,μ 4 47] [4]) .ret))),false⟩
def f142:ak:=⟨[.t 6],(.seq (.region [η 6 0] [0,1,2]) (.seq (.seq (.region [μ 9 0,σ 10 (.aJ (.t 9)),φ 11 0 10,ρ 12 11,μ 13 1,ι 14 8 12 13,φ 15 0 14,ρ 16 15] [0,1,2,16]) (.block 0 (.seq (.seq (.region [γ 18 .eql 16 1,μ 17 18] [0,1,2,16,17]) (.cond (.t 17) .skip (.region [γ 19 .eql 16 2,μ 17 19] [0,1,2,16,17]))) (.cond (.t 17) (.seq (.region [μ 20 2,μ 21 0,σ 22 (.aJ (.t 21)),φ 23 0 22,ρ 24 23,μ 25 1,ι 26 8 24 25,φ 27 3 26,ρ 28 27,β 29 .add 20 28,μ 6 29] [6]) .ret) (.seq (.region [γ 31 .eql 16 4,μ 30 31] [0,1,2,30]) (.cond (.t 30) (.seq (.region [μ 33 0,σ 34 (.aJ (.t 33)),φ 35 0 34,ρ 36 35,μ 37 1,μ 38 1,γ 39 .add 38 1,σ 40 (.slice false 8 (.t 36) (some (.t 37)) (some (.t 39)) none),μ 41 2,σ 42 (.min [.t 41,(κ 4095)]),σ 43 (.call 110 [.t 40,(κ 0),(κ 1),.t 42]),μ 32 43,ε 44 32 0,ε 45 32 1,μ 7 44,μ 8 45] [2,7]) (.seq (.seq (.region [μ 46 2,γ 47 .gtr 46 4095] [2,7,47]) (.cond (.t 47) (.seq (.region [μ 48 2,γ 49 .quo 48 48,γ 50 .add 49 1,γ 51 .mul 50 48,μ 6 51] [6]) .ret) .skip)) (.seq (.region [μ 52 2,μ 53 7,β 54 .add 52 53,μ 6 54] [6]) .ret))) .skip)))))) (.seq (.region [μ 55 2,μ 6 55] [6]) .ret))),false⟩
def BC:RC:=(.seq (.region [β 12 .lss 11 10] [3,9,10,11,12]) (.seq (.cond (.t 12) .skip (.exit 0)) (.seq (.block 1 (.seq (.region [ι 13 2 9 11,Λ 14 2 13,σ 5 (.alloc [δ,δ]),ω 2 5 14] [3,5,9,10,11]) (.seq (.seq (.region [φ 15 0 5,ρ 16 15,μ 17 3,β 18 .leq 16 17,μ 19 18,Φ 20 0 5 19 false,Ρ 21 20 19 false,τ 22 (.bin .gtr (.t 21) (κ 4095)) 19 false,ζ 23 19 22,μ 24 23,Φ 25 1 5 24 false,Ρ 26 25 24 false,τ 27 (.bin .neq (.t 26) (κ 0)) 24 false,Μ 28 27 24 false,Φ 29 1 5 28 true,Ρ 30 29 28 true,τ 31 (.bin .neq (.t 30) (κ 2)) 28 true,τ 32 (.pick (.t 28) (.t 31) (.c (.bool false))) 24 false,Μ 33 32 24 false,Φ 34 1 5 33 true,Ρ 35 34 33 true,τ 36 (.bin .neq (.t 35) (κ 3)) 33 true,τ 37 (.pick (.t 33) (.t 36) (.c (.bool false))) 24 false,ζ 38 24 37] [5,9,10,11,38]) (.cond (.t 38) (.seq (.region [η 2 2] [2]) .ret) .skip)) (.region [φ 39 0 5,ρ 40 39,μ 3 40] [3,9,10,11])))) (.region [γ 41 .add 11 1,μ 11 41] [3,9,10,11]))))
def vF:RC:=.loop [3,9,10,11] BC
def f145:ak:=⟨[.t 2],(.seq (.region [η 2 0] [0]) (.seq (.seq (.region [μ 6 0,ν 7 .slice 6,γ 8 .gtr 7 16] [0,8]) (.cond (.t 8) (.seq (.region [η 2 2] [2]) .ret) .skip)) (.seq (.region [η 3 0] [0,3]) (.seq (.seq (.region [μ 9 0,ν 10 .slice 9,η 11 0] [3,9,10,11]) (.block 0 vF)) (.seq (.region [η 2 0] [2]) .ret))))),true⟩
def f146:ak:=⟨[.cell 4 2 true],(.seq (.region [σ 4 (.alloc [δ,δ])] [0,1,4]) (.seq (.region [μ 8 0,μ 9 1,γ 10 .add 9 1,σ 11 (.call 153 [.t 8,.t 10,(.f 154)]),μ 7 11,ε 12 7 0,ε 13 7 1,μ 5 12,μ 6 13] [0,1,4,5]) (.seq (.seq (.region [μ 14 5,μ 15 0,ν 16 .slice 15,β 17 .lss 14 16] [0,1,4,5,17]) (.cond (.t 17) (.seq (.region [μ 18 0,μ 19 5,ι 20 2 18 19,Λ 21 2 20,ω 2 4 21] [4]) .ret) .skip)) (.seq (.region [μ 22 1,γ 23 .quo 22 48,γ 24 .add 23 1,γ 25 .mul 24 48,σ 26 (.build [δ,δ] [(0,1,(.t 25))]),ω 2 4 26] [4]) .ret)))),true⟩
def zR:RC:=(.seq (.seq (.region [μ 15 9,μ 16 10,β 17 .lss 15 16] [0,1,2,8,9,10,17]) (.cond (.t 17) .skip (.exit 0))) (.block 1 (.seq (.region [μ 18 9,μ 19 10,β 20 .add 18 19,σ 21 (.i2i .u64 (.t 20)),σ 22 (.bin .shr (.t 21) (.c (.int .u64 (.ofNat 1)))),σ 23 (.i2i .i64 (.t 22)),μ 11 23] [0,1,2,8,9,10,11]) (.seq (.region [μ 24 2,μ 25 0,μ 26 11,ι 27 2 25 26,Λ 28 2 27,μ 29 1,σ 30 (.bd (.t 24) [.t 28,.t 29]),γ 31 .lss 30 0] [0,1,2,8,9,10,11,31]) (.cond (.t 31) (.region [μ 32 11,γ 33 .add 32 1,μ 9 33] [0,1,2,8,9,10]) (.region [μ 34 11,μ 10 34] [0,1,2,8,9,10]))))))
def uh:RC:=.loop [0,1,2,8,9,10] zR
def f153:ak:=⟨[.t 6,.t 7],(.seq (.region [η 6 0,σ 7 (.mv (.c (.bool false)))] [0,1,2]) (.seq (.region [μ 12 0,ν 13 .slice 12,μ 8 13] [0,1,2,8]) (.seq (.region [μ 14 8,η 9 0,μ 10 14] [0,1,2,8,9,10]) (.seq (.block 0 uh) (.seq (.region [μ 35 9,μ 36 9,μ 37 8,β 38 .lss 36 37,μ 39 38,Μ 40 2 39 true,Μ 41 0 39 true,Μ 42 9 39 true,τ 43 (.bw 2 (.t 41) (.t 42)) 39 true,τ 44 (.load 2 true (.t 43)) 39 true,Μ 45 1 39 true,τ 46 (.bd (.t 40) [.t 44,.t 45]) 39 true,τ 47 (.bin .eql (.t 46) (κ 0)) 39 true,ξ 48 39 47,μ 6 35,μ 7 48] [6,7]) .ret))))),false⟩
def f154:ak:=⟨[.t 4],(.seq (.region [σ 2 (.box 2 (.t 0)),η 4 0] [1,2]) (.seq (.region [φ 5 0 2,ρ 6 5,μ 7 1,σ 8 (.call 155 [.t 6,.t 7]),μ 4 8] [4]) .ret)),true⟩
def f155:ak:=⟨[.t 4],(.seq (.region [η 4 0] [0,1]) (.seq (.region [μ 7 0,σ 8 (.call 162 [.t 7]),μ 5 8] [0,1,5]) (.seq (.region [μ 9 1,σ 10 (.call 162 [.t 9]),μ 6 10] [0,1,5,6]) (.seq (.seq (.region [μ 11 5] [0,1,6,11]) (.cond (.t 11) (.seq (.seq (.region [μ 12 6] [12]) (.cond (.t 12) (.seq (.region [η 4 0] [4]) .ret) .skip)) (.seq (.region [σ 4 (.mv (.c (.int .i64 (.negSucc 0))))] [4]) .ret)) .skip)) (.seq (.seq (.region [μ 13 6] [0,1,13]) (.cond (.t 13) (.seq (.region [η 4 1] [4]) .ret) .skip)) (.seq (.seq (.region [μ 14 0,μ 15 1,β 16 .lss 14 15] [0,1,16]) (.cond (.t 16) (.seq (.region [σ 4 (.mv (.c (.int .i64 (.negSucc 0))))] [4]) .ret) .skip)) (.seq (.seq (.region [μ 17 0,μ 18 1,β 19 .gtr 17 18] [19]) (.cond (.t 19) (.seq (.region [η 4 1] [4]) .ret) .skip)) (.seq (.region [η 4 0] [4]) .ret)))))))),true⟩
def f162:ak:=⟨[.t 2],(.seq (.region [σ 2 (.mv (.c (.bool false)))] [0]) (.seq (.region [μ 3 0,μ 4 0,β 5 .neq 3 4,μ 2 5] [2]) .ret)),true⟩
def f211:ak:=⟨[.t 2,.t 3],(.seq (.region [σ 1 (.box 21 (.t 0)),η 2 0,η 3 0] [1]) (.seq (.region [Λ 7 21 1,σ 8 (.call 10 [.t 7]),μ 6 8,ε 9 6 0,ε 10 6 1,μ 4 9,μ 5 10] [1,4,5]) (.seq (.seq (.region [μ 11 5,γ 12 .neq 11 0] [1,4,5,12]) (.cond (.t 12) (.seq (.region [μ 13 5,η 2 0,μ 3 13] [2,3]) .ret) .skip)) (.seq (.region [Λ 14 21 1,μ 15 4,σ 16 (.call 234 [.t 14,.t 15]),μ 2 16,η 3 0] [2,3]) .ret)))),true⟩
def vm:ak:=⟨[.t 4],(.seq (.region [σ 2 (.box 21 (.t 0)),η 4 0] [1,2]) (.seq (.seq (.region [φ 7 2 2,φ 8 14 7,ρ 9 8,γ 10 .lss 9 2,μ 11 10,Μ 12 1 11 false,τ 13 (.len .slice (.t 12)) 11 false,τ 14 (.bin .eql (.t 13) (κ 0)) 11 false,ζ 15 11 14,μ 16 15,Μ 17 1 16 false,τ 18 (.bw 6 (.t 17) (κ 0)) 16 false,Φ 19 2 18 16 false,Ρ 20 19 16 false,τ 21 (.bin .neq (.t 20) (κ 1)) 16 false,ζ 22 16 21] [2,22]) (.cond (.t 22) (.seq (.region [η 4 0] [4]) .ret) .skip)) (.seq (.av [φ 24 0 2,ρ 25 24,σ 26 (.slice true 1 (.t 25) none (some (κ 1)) none),φ 27 2 2,φ 28 0 27,ρ 29 28,φ 30 2 2,φ 31 14 30,ρ 32 31,β 33 .mul 29 32,σ 34 (.min [.t 33,(κ 64)]),σ 35 (.call 17 [.t 26,.t 34]),μ 23 35,ε 36 23 0,ε 37 23 1,μ 5 36,μ 6 37] [] [] [5]) (.seq (.region [μ 38 5,γ 39 .add 38 4,μ 4 39] [4]) .ret)))),true⟩
def Je:ak:=⟨[.t 2],(.seq (.region [η 2 0] [0,2]) (.seq (.seq (.region [μ 3 0,σ 4 (.bin .geq (.t 3) (.c (.int .u64 (.ofNat 4294967296))))] [0,2,4]) (.cond (.t 4) (.seq (.region [μ 5 0,σ 6 (.bin .shr (.t 5) (.c (.int .u64 (.ofNat 32)))),μ 0 6] [0]) (.region [η 2 32] [0,2])) .skip)) (.seq (.seq (.region [μ 7 0,σ 8 (.bin .geq (.t 7) (.c (.int .u64 (.ofNat 65536))))] [0,2,8]) (.cond (.t 8) (.seq (.region [μ 9 0,σ 10 (.bin .shr (.t 9) (.c (.int .u64 (.ofNat 16)))),μ 0 10] [0,2]) (.region [μ 11 2,γ 12 .add 11 16,μ 2 12] [0,2])) .skip)) (.seq (.seq (.region [μ 13 0,σ 14 (.bin .geq (.t 13) (.c (.int .u64 (.ofNat 256))))] [0,2,14]) (.cond (.t 14) (.seq (.region [μ 15 0,σ 16 (.bin .shr (.t 15) (.c (.int .u64 (.ofNat 8)))),μ 0 16] [0,2]) (.region [μ 17 2,γ 18 .add 17 8,μ 2 18] [0,2])) .skip)) (.seq (.region [μ 19 2,μ 20 0,σ 21 (.i2i .u8 (.t 20)),σ 22 (.index (.c (.str [0,1,2,2,3,3,3,3,4,4,4,4,4,4,4,4,5,5,5,5,5,5,5,5,5,5,5,5,5,5,5,5,6,6,6,6,6,6,6,6,6,6,6,6,6,6,6,6,6,6,6,6,6,6,6,6,6,6,6,6,6,6,6,6,7,7,7,7,7,7,7,7,7,7,7,7,7,7,7,7,7,7,7,7,7,7,7,7,7,7,7,7,7,7,7,7,7,7,7,7,7,7,7,7,7,7,7,7,7,7,7,7,7,7,7,7,7,7,7,7,7,7,7,7,7,7,7,7,8,8,8,8,8,8,8,8,8,8,8,8,8,8,8,8,8,8,8,8,8,8,8,8,8,8,8,8,8,8,8,8,8,8,8,8,8,8,8,8,8,8,8,8,8,8,8,8,8,8,8,8,8,8,8,8,8,8,8,8,8,8,8,8,8,8,8,8,8,8,8,8,8,8,8,8,8,8,8,8,8,8,8,8,8,8,8,8,8,8,8,8,8,8,8,8,8,8,8,8,8,8,8,8,8,8,8,8,8,8,8,8,8,8,8,8,8,8,8,8,8,8,8,8,8,8,8,8])) (.t 21)),σ 23 (.i2i .i64 (.t 22)),β 24 .add 19 23,μ 2 24] [2]) .ret))))),true⟩
def kP:RC:=(.seq (.region [β 52 .lss 51 50] [3,9,11,12,13,14,15,49,50,51,52]) (.seq (.cond (.t 52) .skip (.exit 0)) (.seq (.block 1 (.seq (.region [μ 53 51,ι 54 5 49 51,Λ 55 5 54,σ 17 (.alloc [δ,δ,(.bool false),(.bool false),δ]),μ 16 53,ω 5 17 55] [3,9,11,12,13,14,15,16,17,49,50,51]) (.seq (.region [μ 56 11,Λ 57 2 12,μ 58 16,σ 59 (.call 114 [.t 56,.t 57,.t 58]),σ 18 (.alloc [δ,δ]),ω 2 18 59] [3,9,11,12,13,14,15,16,17,18,49,50,51]) (.seq (.region [φ 60 0 3,ρ 61 60,ν 62 .str 61,μ 19 62] [3,9,11,12,13,14,15,16,17,18,19,49,50,51]) (.seq (.seq (.region [μ 63 16,γ 64 .add 63 1,φ 65 0 13,ρ 66 65,ν 67 .slice 66,β 68 .lss 64 67] [3,9,11,12,13,14,15,16,17,18,19,49,50,51,68]) (.cond (.t 68) (.region [μ 69 9,φ 70 0 13,ρ 71 70,μ 72 16,γ 73 .add 72 1,ι 74 5 71 73,φ 75 0 74,ρ 76 75,ι 77 8 69 76,φ 78 1 77,ρ 79 78,μ 19 79] [3,9,11,12,13,14,15,17,18,19,49,50,51]) .skip)) (.seq (.region [μ 80 15,μ 81 19,φ 82 0 18,ρ 83 82,φ 84 1 18,ρ 85 84,φ 86 4 17,ρ 87 86,φ 88 3 17,ρ 89 88,σ 90 (.build [δ,δ,δ,δ,δ,(.bool false),δ] [(0,1,(.t 80)),(1,1,(.t 81)),(2,1,(.t 83)),(3,1,(.t 85)),(4,1,(.t 87)),(5,1,(.t 89))]),σ 20 (.alloc [δ,δ,δ,δ,δ,(.bool false),δ]),ω 7 20 90] [3,9,11,12,13,14,17,18,19,20,49,50,51]) (.seq (.region [μ 92 9,φ 93 0 17,ρ 94 93,φ 95 1 17,ρ 96 95,σ 97 (.call 322 [.t 92,.t 94,.t 96]),μ 91 97,ε 98 91 0,ε 99 91 1,ε 100 91 2,μ 21 98,μ 22 99,μ 23 100] [3,9,11,12,13,14,17,18,19,20,22,49,50,51]) (.seq (.seq (.region [φ 101 1 13,ρ 102 101,μ 103 102,Φ 104 2 17 103 true,Ρ 105 104 103 true,ξ 106 103 105,μ 107 106,Φ 108 1 13 107 false,Ρ 109 108 107 false,τ 110 (.un .not (.t 109)) 107 false,Μ 111 110 107 false,Φ 112 4 17 111 true,Ρ 113 112 111 true,Φ 114 1 18 111 true,Ρ 115 114 111 true,Μ 116 22 111 true,τ 117 (.bin .add (.t 115) (.t 116)) 111 true,τ 118 (.bin .gtr (.t 113) (.t 117)) 111 true,τ 119 (.pick (.t 111) (.t 118) (.c (.bool false))) 107 false,ζ 120 107 119] [3,9,11,12,13,14,19,20,49,50,51,120]) (.cond (.t 120) (.region [φ 121 6 20,ρ 122 121,γ 123 .add 122 1,φ 124 6 20,ω 1 124 123] [3,9,11,12,13,14,19,20,49,50,51]) .skip)) (.seq (.seq (.region [φ 125 2 13,ρ 126 125] [3,9,11,12,13,14,19,20,49,50,51,126]) (.cond (.t 126) (.region [φ 127 6 20,ρ 128 127,γ 129 .add 128 2,φ 130 6 20,ω 1 130 129] [3,9,11,12,13,14,19,20,49,50,51]) .skip)) (.seq (.region [μ 131 14,Λ 132 7 20,σ 133 (.lit 7 true [δ,δ,δ,δ,δ,(.bool false),δ] 1 [(0,(.t 132))]),σ 134 (.append 7 true 56 (.t 131) (.t 133)),μ 14 134] [3,9,11,12,13,14,19,49,50,51]) (.region [μ 135 19,μ 15 135] [3,9,11,12,13,14,15,49,50,51]))))))))))) (.region [γ 136 .add 51 1,μ 51 136] [3,9,11,12,13,14,15,49,50,51]))))
def p7:RC:=.loop [3,9,11,12,13,14,15,49,50,51] kP
def yF:ak:=⟨[.t 6,.t 7],(.seq (.region [σ 3 (.box 21 (.t 0)),σ 5 (.box 2 (.t 2)),σ 6 (.mv (.c θ)),η 7 0] [1,3,5]) (.seq (.seq (.region [Λ 24 21 3,μ 25 1,Λ 26 2 5,σ 27 (.call 319 [.t 24,.t 25,.t 26]),μ 8 27] [1,3,5,8]) (.seq (.region [μ 28 8,γ 29 .neq 28 0] [1,3,5,8,29]) (.cond (.t 29) (.seq (.region [μ 30 8,σ 6 (.mv (.c θ)),μ 7 30] [6,7]) .ret) .skip))) (.seq (.region [Λ 32 21 3,σ 33 (.call 106 [.t 32]),μ 31 33,ε 34 31 0,ε 35 31 1,μ 9 34,μ 10 35] [1,3,5,9]) (.seq (.region [Λ 37 21 3,μ 38 1,Λ 39 2 5,σ 40 (.call 320 [.t 37,.t 38,.t 39]),μ 36 40,ε 41 36 0,ε 42 36 1,σ 12 (.alloc [δ,δ]),μ 11 41,ω 2 12 42] [3,9,11,12]) (.seq (.region [Λ 43 21 3,μ 44 9,μ 45 11,Λ 46 2 12,σ 47 (.call 321 [.t 43,.t 44,.t 45,.t 46]),σ 13 (.alloc [θ,(.bool false),(.bool false)]),ω 3 13 47] [3,9,11,12,13]) (.seq (.region [σ 14 (.mv (.c θ))] [3,9,11,12,13,14]) (.seq (.region [η 15 0] [3,9,11,12,13,14,15]) (.seq (.seq (.region [φ 48 0 13,ρ 49 48,ν 50 .slice 49,η 51 0] [3,9,11,12,13,14,15,49,50,51]) (.block 0 p7)) (.seq (.region [μ 137 14,μ 6 137,η 7 0] [6,7]) .ret))))))))),true⟩
def A0:ak:=⟨[.t 6],(.seq (.region [σ 3 (.box 21 (.t 0)),σ 5 (.box 2 (.t 2)),η 6 0] [1,3,5]) (.seq (.seq (.region [Λ 8 21 3,σ 9 (.call 13 [.t 8]),μ 7 9] [1,5,7]) (.seq (.region [μ 10 7,γ 11 .neq 10 0] [1,5,7,11]) (.cond (.t 11) (.seq (.region [μ 12 7,μ 6 12] [6]) .ret) .skip))) (.seq (.region [μ 13 1,Λ 14 2 5,σ 15 (.call 126 [.t 13,.t 14]),μ 6 15] [6]) .ret))),true⟩
def ve:RC:=(.seq (.region [β 22 .lss 21 20] [1,3,5,7,8,9,10,20,21,22]) (.seq (.cond (.t 22) .skip (.exit 0)) (.seq (.block 1 (.seq (.region [μ 23 21,μ 11 23] [1,3,5,7,8,9,10,11,20,21]) (.av [μ 24 10,Λ 25 21 3,μ 26 8,μ 27 1,Λ 28 2 5,μ 29 11,σ 30 (.call 114 [.t 27,.t 28,.t 29]),μ 31 11,σ 32 (.call 331 [.t 25,.t 26,.t 30,.t 31]),σ 33 (.lit 2 true [δ,δ] 1 [(0,(.t 32))]),σ 34 (.append 2 true 16 (.t 24) (.t 33)),μ 10 34] [] [] [1,3,5,7,8,9,10,20,21]))) (.region [γ 35 .add 21 1,μ 21 35] [1,3,5,7,8,9,10,20,21]))))
def rz:RC:=.loop [1,3,5,7,8,9,10,20,21] ve
def CN:ak:=⟨[.t 6,.cell 7 2 true],(.seq (.region [σ 3 (.box 21 (.t 0)),σ 5 (.box 2 (.t 2)),σ 6 (.mv (.c θ)),σ 7 (.alloc [δ,δ])] [1,3,5,7]) (.seq (.region [Λ 12 21 3,σ 13 (.call 330 [.t 12]),μ 8 13] [1,3,5,7,8]) (.seq (.region [μ 14 1,ν 15 .slice 14,φ 16 2 3,φ 17 14 16,ρ 18 17,σ 19 (.max [.t 15,(κ 1),.t 18]),μ 9 19] [1,3,5,7,8,9]) (.seq (.region [σ 10 (.mv (.c θ))] [1,3,5,7,8,9,10]) (.seq (.seq (.region [μ 20 9,η 21 0] [1,3,5,7,8,9,10,20,21]) (.block 0 rz)) (.seq (.region [μ 36 10,Λ 37 21 3,μ 38 8,Λ 39 2 5,μ 40 9,σ 41 (.call 331 [.t 37,.t 38,.t 39,.t 40]),μ 6 36,ω 2 7 41] [6,7]) .ret)))))),true⟩
def Bg:ak:=⟨[.cell 8 3 true],(.seq (.region [σ 4 (.box 21 (.t 0)),σ 7 (.box 2 (.t 3)),σ 8 (.alloc [θ,(.bool false),(.bool false)])] [1,2,4,7,8]) (.seq (.region [σ 9 (.mv (.f 113)),σ 10 (.mv (.c (.bool true)))] [1,2,4,7,8,9,10]) (.seq (.seq (.region [φ 13 2 4,φ 14 13 13,ρ 15 14,γ 16 .eql 15 1,μ 17 16,Μ 18 1 17 true,τ 19 (.call 108 [.t 18]) 17 true,τ 20 (.un .not (.t 19)) 17 true,ξ 21 17 20] [1,2,7,8,9,10,21]) (.cond (.t 21) (.region [σ 9 (.mv (.f 332)),σ 10 (.mv (.c (.bool false)))] [1,2,7,8,9,10]) .skip)) (.seq (.region [μ 23 9,μ 24 1,μ 25 2,Λ 26 2 7,σ 27 (.bd (.t 23) [.t 24,.t 25,.t 26]),μ 22 27,ε 28 22 0,ε 29 22 1,μ 11 28,μ 12 29] [1,2,7,8,10,11,12]) (.seq (.seq (.region [μ 30 12,γ 31 .eql 30 0] [1,2,7,8,10,11,31]) (.cond (.t 31) (.seq (.region [μ 32 11,μ 33 10,σ 34 (.build [θ,(.bool false),(.bool false)] [(0,1,(.t 32)),(1,1,(.t 33)),(2,1,(.c (.bool false)))]),ω 3 8 34] [8]) .ret) .skip)) (.seq (.region [μ 36 1,μ 37 2,Λ 38 2 7,σ 39 (.call 113 [.t 36,.t 37,.t 38]),μ 35 39,ε 40 35 0,ε 41 35 1,μ 11 40] [8,11]) (.seq (.region [μ 42 11,σ 43 (.build [θ,(.bool false),(.bool false)] [(0,1,(.t 42)),(1,1,(.c (.bool true))),(2,1,(.c (.bool true)))]),ω 3 8 43] [8]) .ret))))))),true⟩
def vE:RC:=(.seq (.region [β 27 .lss 26 25] [10,11,24,25,26,27]) (.seq (.cond (.t 27) .skip (.exit 0)) (.seq (.block 1 (.seq (.region [ι 28 8 24 26,Λ 29 8 28,σ 13 (.alloc [δ,δ,δ,δ,δ,δ,δ,(.bool false)]),ω 8 13 29] [10,11,13,24,25,26]) (.seq (.region [μ 30 10,φ 31 4 13,ρ 32 31,β 33 .add 30 32,μ 10 33] [10,11,13,24,25,26]) (.region [μ 34 11,φ 35 5 13,ρ 36 35,β 37 .add 34 36,μ 11 37] [10,11,24,25,26])))) (.region [γ 38 .add 26 1,μ 26 38] [10,11,24,25,26]))))
def p4:RC:=.loop [10,11,24,25,26] vE
def yO:ak:=⟨[.t 6,.t 7,.t 8],(.seq (.region [η 6 0,η 7 0,η 8 0] [0,1,2]) (.seq (.seq (.region [μ 14 0,μ 15 1,μ 16 2,σ 17 (.call 121 [.t 14,.t 15,.t 16]),μ 9 17] [0,1,2,9]) (.seq (.region [μ 18 9,γ 19 .neq 18 0] [0,1,2,9,19]) (.cond (.t 19) (.seq (.region [μ 20 9,η 6 0,η 7 0,μ 8 20] [6,7,8]) .ret) .skip))) (.seq (.region [η 10 0,η 11 0] [0,1,2,10,11]) (.seq (.seq (.region [μ 21 0,μ 22 1,μ 23 2,σ 24 (.call 123 [.t 21,.t 22,.t 23]),ν 25 .slice 24,η 26 0] [10,11,24,25,26]) (.block 0 p4)) (.seq (.region [μ 39 10,μ 40 11,μ 6 39,μ 7 40,η 8 0] [6,7,8]) .ret))))),true⟩
def B1:ak:=⟨[.t 2],(.seq (.region [σ 1 (.box 21 (.t 0)),σ 2 (.mv (.c θ))] [1]) (.seq (.region [Λ 6 21 1,σ 7 (.call 211 [.t 6]),μ 5 7,ε 8 5 0,ε 9 5 1,σ 3 (.alloc [δ]),ω 1 3 8,μ 4 9] [1,3]) (.seq (.region [σ 10 (.ff 343 [] [.t 1]),σ 11 (.ff 344 [] [.t 1]),σ 12 (.ff 346 [] [.t 1,.t 3]),σ 13 (.lZ 1 false [.bt] 3 [(0,(.t 10)),(1,(.t 11)),(2,(.t 12))]),μ 2 13] [2]) .ret))),false⟩
def m7:RC:=(.seq (.region [β 15 .lss 14 13] [3,4,6,8,9,12,13,14,15]) (.seq (.cond (.t 15) .skip (.exit 0)) (.seq (.block 1 (.seq (.region [ι 16 1 12 14,ρ 17 16,μ 11 17] [3,4,6,8,9,11,12,13,14]) (.region [μ 18 9,μ 19 11,μ 20 3,σ 21 (.bd (.t 19) [.t 20]),β 22 .add 18 21,μ 9 22] [3,4,6,8,9,12,13,14]))) (.region [γ 23 .add 14 1,μ 14 23] [3,4,6,8,9,12,13,14]))))
def gJ:RC:=.loop [3,4,6,8,9,12,13,14] m7
def Cj:ak:=⟨[.cell 8 2 true],(.seq (.region [σ 4 (.box 21 (.t 0)),σ 6 (.box 2 (.t 2)),σ 8 (.alloc [δ,δ])] [1,3,4,6,8]) (.seq (.region [η 9 0] [1,3,4,6,8,9]) (.seq (.seq (.region [μ 12 1,ν 13 .slice 12,η 14 0] [3,4,6,8,9,12,13,14]) (.block 0 gJ)) (.seq (.region [φ 24 0 6,ρ 25 24,μ 26 9,β 27 .add 25 26,σ 28 (.min [.t 27,(κ 4095)]),φ 29 1 6,ρ 30 29,μ 31 9,β 32 .sub 30 31,φ 33 2 4,φ 34 5 33,ρ 35 34,β 36 .sub 32 35,σ 37 (.max [.t 36,(κ 0)]),σ 38 (.build [δ,δ] [(0,1,(.t 28)),(1,1,(.t 37))]),ω 2 8 38] [8]) .ret)))),false⟩
def Jj:ak:=⟨[.t 6,.t 7],(.seq (.region [σ 5 (.box 2 (.t 2)),σ 6 (.mv (.c θ)),η 7 0] [0,1,5]) (.seq (.region [μ 12 0,μ 13 1,Λ 14 2 5,σ 15 (.call 218 [.t 12,.t 13,.t 14]),μ 11 15,ε 16 11 0,ε 17 11 1,ε 18 11 2,μ 8 16,μ 9 17,μ 10 18] [8,10]) (.seq (.region [μ 19 8,μ 20 10,μ 6 19,μ 7 20] [6,7]) .ret))),true⟩
def BW:ak:=⟨[.t 3],(.seq (.region [η 3 0] [1]) (.seq (.region [φ 4 2 1,φ 5 4 4,ρ 6 5,μ 3 6] [3]) .ret)),false⟩
def Al:ak:=⟨[.t 3],(.seq (.region [η 3 0] [0,1]) (.seq (.seq (.region [μ 4 0,γ 5 .gtr 4 0] [1,5]) (.cond (.t 5) (.seq (.region [η 3 0] [3]) .ret) .skip)) (.seq (.av [φ 6 2 1,φ 7 3 6,ρ 8 7,Λ 9 21 1,σ 10 (.call 345 [.t 9]),β 11 .add 8 10,μ 3 11] [] [] [3]) .ret))),false⟩
def yY:ak:=⟨[.t 2],(.seq (.region [σ 1 (.box 21 (.t 0)),η 2 0] [1]) (.seq (.seq (.region [φ 5 19 1,ρ 6 5,σ 7 (.bin .eql (.t 6) (.c (.str [])))] [1,7]) (.cond (.t 7) (.seq (.region [η 2 0] [2]) .ret) .skip)) (.seq (.region [φ 9 19 1,ρ 10 9,φ 11 2 1,φ 12 0 11,ρ 13 12,σ 14 (.call 17 [.t 10,.t 13]),μ 8 14,ε 15 8 0,ε 16 8 1,μ 3 15,μ 4 16] [3]) (.seq (.region [μ 17 3,γ 18 .add 17 4,μ 2 18] [2]) .ret)))),true⟩
def BP:ak:=⟨[.t 4],(.seq (.region [η 4 0] [0,1,2]) (.seq (.seq (.region [μ 5 0,φ 6 2 1,φ 7 14 6,ρ 8 7,β 9 .geq 5 8] [2,9]) (.cond (.t 9) (.seq (.region [η 4 0] [4]) .ret) .skip)) (.seq (.region [ρ 10 2,μ 4 10] [4]) .ret))),false⟩
def IG:ak:=⟨[.t 2],(.seq (.region [σ 2 (.mv (.c (.str [])))] [0]) (.seq (.region [μ 3 0,σ 4 (.call 377 [.t 3]),μ 2 4] [2]) .ret)),true⟩
def Kn:ak:=⟨[.t 2],(.seq (.region [σ 2 (.mv (.c (.str [])))] [0]) (.seq (.region [μ 3 0,σ 4 (.call 378 [.t 3,(κ 10)]),μ 2 4] [2]) .ret)),true⟩
def Jn:ak:=⟨[.t 4],(.seq (.region [σ 4 (.mv (.c (.str [])))] [0,1]) (.seq (.seq (.region [μ 10 1,γ 11 .eql 10 10] [0,1,11]) (.cond (.t 11) (.seq (.seq (.region [μ 12 0,σ 13 (.bin .leq (κ 0) (.t 12)),μ 14 13,Μ 15 0 14 true,τ 16 (.bin .lss (.t 15) (κ 100)) 14 true,ξ 17 14 16] [0,17]) (.cond (.t 17) (.seq (.region [μ 18 0,σ 19 (.call 379 [.t 18]),μ 4 19] [4]) .ret) .skip)) (.seq (.region [σ 5 (.alloc [(.int .u8 (.ofNat 0)),(.int .u8 (.ofNat 0)),(.int .u8 (.ofNat 0)),(.int .u8 (.ofNat 0)),(.int .u8 (.ofNat 0)),(.int .u8 (.ofNat 0)),(.int .u8 (.ofNat 0)),(.int .u8 (.ofNat 0)),(.int .u8 (.ofNat 0)),(.int .u8 (.ofNat 0)),(.int .u8 (.ofNat 0)),(.int .u8 (.ofNat 0)),(.int .u8 (.ofNat 0)),(.int .u8 (.ofNat 0)),(.int .u8 (.ofNat 0)),(.int .u8 (.ofNat 0)),(.int .u8 (.ofNat 0)),(.int .u8 (.ofNat 0)),(.int .u8 (.ofNat 0)),(.int .u8 (.ofNat 0)),(.int .u8 (.ofNat 0)),(.int .u8 (.ofNat 0)),(.int .u8 (.ofNat 0)),(.int .u8 (.ofNat 0))])] [0,5]) (.seq (.region [μ 20 0,σ 21 (.i2i .u64 (.t 20)),μ 6 21] [0,5,6]) (.seq (.seq (.region [μ 22 0,γ 23 .lss 22 0] [0,5,6,23]) (.cond (.t 23) (.region [μ 24 6,σ 25 (.un .neg (.t 24)),μ 6 25] [0,5,6]) .skip)) (.seq (.region [μ 26 6,σ 27 (.call 380 [.t 26]),μ 7 27] [0,5,6,7]) (.seq (.region [μ 28 7,σ 29 (.bin .add (κ 1) (.t 28)),σ 30 (.sliceB 1 false 24 (.t 5) (some (κ 1)) (some (.t 29)) none),μ 31 6,σ 32 (.call 381 [.t 30,.t 31])] [0,5,7]) (.seq (.seq (.region [μ 33 0,γ 34 .lss 33 0] [5,7,34]) (.cond (.t 34) (.seq (.region [σ 35 (.cP 1 24 (.t 5) (κ 0)),⟨none,.store 1 (.t 35) (.c (.int .u8 (.ofNat 45))),none⟩] [5,7]) (.seq (.region [μ 36 7,σ 37 (.bin .add (κ 1) (.t 36)),σ 38 (.sliceB 1 false 24 (.t 5) none (some (.t 37)) none),σ 39 (.b2s (.t 38)),μ 4 39] [4]) .ret)) .skip)) (.seq (.region [μ 40 7,σ 41 (.bin .add (κ 1) (.t 40)),σ 42 (.sliceB 1 false 24 (.t 5) (some (κ 1)) (some (.t 41)) none),σ 43 (.b2s (.t 42)),μ 4 43] [4]) .ret)))))))) .skip)) (.seq (.region [μ 45 0,σ 46 (.i2i .u64 (.t 45)),μ 47 1,μ 48 0,γ 49 .lss 48 0,σ 50 (.call 382 [(.c θ),.t 46,.t 47,.t 49,(.c (.bool false))]),μ 44 50,ε 51 44 0,ε 52 44 1,μ 8 51,μ 9 52] [9]) (.seq (.region [μ 53 9,μ 4 53] [4]) .ret)))),true⟩
def JH:ak:=⟨[.t 2],(.seq (.region [σ 2 (.mv (.c (.str [])))] [0]) (.seq (.seq (.region [μ 3 0,γ 4 .lss 3 10] [0,4]) (.cond (.t 4) (.seq (.region [μ 5 0,μ 6 0,γ 7 .add 6 1,σ 8 (.slice true 1 (.c (.str [48,49,50,51,52,53,54,55,56,57,97,98,99,100,101,102,103,104,105,106,107,108,109,110,111,112,113,114,115,116,117,118,119,120,121,122])) (some (.t 5)) (some (.t 7)) none),μ 2 8] [2]) .ret) .skip)) (.seq (.region [μ 9 0,γ 10 .mul 9 2,μ 11 0,γ 12 .mul 11 2,γ 13 .add 12 2,σ 14 (.slice true 1 (.c (.str [48,48,48,49,48,50,48,51,48,52,48,53,48,54,48,55,48,56,48,57,49,48,49,49,49,50,49,51,49,52,49,53,49,54,49,55,49,56,49,57,50,48,50,49,50,50,50,51,50,52,50,53,50,54,50,55,50,56,50,57,51,48,51,49,51,50,51,51,51,52,51,53,51,54,51,55,51,56,51,57,52,48,52,49,52,50,52,51,52,52,52,53,52,54,52,55,52,56,52,57,53,48,53,49,53,50,53,51,53,52,53,53,53,54,53,55,53,56,53,57,54,48,54,49,54,50,54,51,54,52,54,53,54,54,54,55,54,56,54,57,55,48,55,49,55,50,55,51,55,52,55,53,55,54,55,55,55,56,55,57,56,48,56,49,56,50,56,51,56,52,56,53,56,54,56,55,56,56,56,57,57,48,57,49,57,50,57,51,57,52,57,53,57,54,57,55,57,56,57,57])) (some (.t 10)) (some (.t 13)) none),μ 2 14] [2]) .ret))),true⟩
def J7:ak:=⟨[.t 2],(.seq (.region [η 2 0] [0]) (.seq (.region [μ 4 0,σ 5 (.call 293 [.t 4]),σ 6 (.call 383 [.t 5]),μ 3 6] [0,3]) (.seq (.region [μ 7 3,μ 8 0,μ 9 3,σ 10 (.cP 1 20 (.c ER) (.t 9)),ρ 11 10,β 12 .geq 8 11,σ 13 (.call 384 [.t 12]),β 14 .add 7 13,μ 2 14] [2]) .ret))),true⟩
def F1:RC:=(.seq (.seq (.region [μ 19 4,γ 20 .geq 19 8] [0,1,4,20]) (.cond (.t 20) .skip (.exit 0))) (.block 1 (.seq (.region [μ 21 1,σ 22 (.bin .rem (.t 21) (.c (.int .u64 (.ofNat 100000000)))),σ 23 (.i2i .u32 (.t 22)),μ 5 23] [0,1,4,5]) (.seq (.region [μ 24 1,σ 25 (.bin .quo (.t 24) (.c (.int .u64 (.ofNat 100000000)))),μ 1 25] [0,1,4,5]) (.seq (.region [μ 26 5,σ 27 (.bin .quo (.t 26) (.c (.int .u32 (.ofNat 10000)))),μ 28 5,σ 29 (.bin .rem (.t 28) (.c (.int .u32 (.ofNat 10000)))),μ 6 27,μ 7 29] [0,1,4,6,7]) (.seq (.region [μ 30 7,σ 31 (.bin .quo (.t 30) (.c (.int .u32 (.ofNat 100)))),σ 32 (.bin .mul (.t 31) (.c (.int .u32 (.ofNat 2)))),μ 33 7,σ 34 (.bin .rem (.t 33) (.c (.int .u32 (.ofNat 100)))),σ 35 (.bin .mul (.t 34) (.c (.int .u32 (.ofNat 2)))),μ 8 32,μ 9 35] [0,1,4,6,8,9]) (.seq (.region [μ 36 6,σ 37 (.bin .quo (.t 36) (.c (.int .u32 (.ofNat 100)))),σ 38 (.bin .mul (.t 37) (.c (.int .u32 (.ofNat 2)))),μ 39 6,σ 40 (.bin .rem (.t 39) (.c (.int .u32 (.ofNat 100)))),σ 41 (.bin .mul (.t 40) (.c (.int .u32 (.ofNat 2)))),μ 10 38,μ 11 41] [0,1,4,8,9,10,11]) (.seq (.av [μ 42 0,μ 43 4,γ 44 .sub 43 1,μ 45 0,μ 46 4,γ 47 .sub 46 2,μ 48 9,σ 49 (.bin .add (.t 48) (.c (.int .u32 (.ofNat 1)))),σ 50 (.index (.c (.str [48,48,48,49,48,50,48,51,48,52,48,53,48,54,48,55,48,56,48,57,49,48,49,49,49,50,49,51,49,52,49,53,49,54,49,55,49,56,49,57,50,48,50,49,50,50,50,51,50,52,50,53,50,54,50,55,50,56,50,57,51,48,51,49,51,50,51,51,51,52,51,53,51,54,51,55,51,56,51,57,52,48,52,49,52,50,52,51,52,52,52,53,52,54,52,55,52,56,52,57,53,48,53,49,53,50,53,51,53,52,53,53,53,54,53,55,53,56,53,57,54,48,54,49,54,50,54,51,54,52,54,53,54,54,54,55,54,56,54,57,55,48,55,49,55,50,55,51,55,52,55,53,55,54,55,55,55,56,55,57,56,48,56,49,56,50,56,51,56,52,56,53,56,54,56,55,56,56,56,57,57,48,57,49,57,50,57,51,57,52,57,53,57,54,57,55,57,56,57,57])) (.t 49)),μ 51 9,σ 52 (.index (.c (.str [48,48,48,49,48,50,48,51,48,52,48,53,48,54,48,55,48,56,48,57,49,48,49,49,49,50,49,51,49,52,49,53,49,54,49,55,49,56,49,57,50,48,50,49,50,50,50,51,50,52,50,53,50,54,50,55,50,56,50,57,51,48,51,49,51,50,51,51,51,52,51,53,51,54,51,55,51,56,51,57,52,48,52,49,52,50,52,51,52,52,52,53,52,54,52,55,52,56,52,57,53,48,53,49,53,50,53,51,53,52,53,53,53,54,53,55,53,56,53,57,54,48,54,49,54,50,54,51,54,52,54,53,54,54,54,55,54,56,54,57,55,48,55,49,55,50,55,51,55,52,55,53,55,54,55,55,55,56,55,57,56,48,56,49,56,50,56,51,56,52,56,53,56,54,56,55,56,56,56,57,57,48,57,49,57,50,57,51,57,52,57,53,57,54,57,55,57,56,57,57])) (.t 51)),ι 53 1 42 44,ω 1 53 50,ι 54 1 45 47,ω 1 54 52] [] [] [0,1,4,8,10,11]) (.seq (.av [μ 55 0,μ 56 4,γ 57 .sub 56 3,μ 58 0,μ 59 4,γ 60 .sub 59 4,μ 61 8,σ 62 (.bin .add (.t 61) (.c (.int .u32 (.ofNat 1)))),σ 63 (.index (.c (.str [48,48,48,49,48,50,48,51,48,52,48,53,48,54,48,55,48,56,48,57,49,48,49,49,49,50,49,51,49,52,49,53,49,54,49,55,49,56,49,57,50,48,50,49,50,50,50,51,50,52,50,53,50,54,50,55,50,56,50,57,51,48,51,49,51,50,51,51,51,52,51,53,51,54,51,55,51,56,51,57,52,48,52,49,52,50,52,51,52,52,52,53,52,54,52,55,52,56,52,57,53,48,53,49,53,50,53,51,53,52,53,53,53,54,53,55,53,56,53,57,54,48,54,49,54,50,54,51,54,52,54,53,54,54,54,55,54,56,54,57,55,48,55,49,55,50,55,51,55,52,55,53,55,54,55,55,55,56,55,57,56,48,56,49,56,50,56,51,56,52,56,53,56,54,56,55,56,56,56,57,57,48,57,49,57,50,57,51,57,52,57,53,57,54,57,55,57,56,57,57])) (.t 62)),μ 64 8,σ 65 (.index (.c (.str [48,48,48,49,48,50,48,51,48,52,48,53,48,54,48,55,48,56,48,57,49,48,49,49,49,50,49,51,49,52,49,53,49,54,49,55,49,56,49,57,50,48,50,49,50,50,50,51,50,52,50,53,50,54,50,55,50,56,50,57,51,48,51,49,51,50,51,51,51,52,51,53,51,54,51,55,51,56,51,57,52,48,52,49,52,50,52,51,52,52,52,53,52,54,52,55,52,56,52,57,53,48,53,49,53,50,53,51,53,52,53,53,53,54,53,55,53,56,53,57,54,48,54,49,54,50,54,51,54,52,54,53,54,54,54,55,54,56,54,57,55,48,55,49,55,50,55,51,55,52,55,53,55,54,55,55,55,56,55,57,56,48,56,49,56,50,56,51,56,52,56,53,56,54,56,55,56,56,56,57,57,48,57,49,57,50,57,51,57,52,57,53,57,54,57,55,57,56,57,57])) (.t 64)),ι 66 1 55 57,ω 1 66 63,ι 67 1 58 60,ω 1 67 65] [] [] [0,1,4,10,11]) (.seq (.av [μ 68 0,μ 69 4,γ 70 .sub 69 5,μ 71 0,μ 72 4,γ 73 .sub 72 6,μ 74 11,σ 75 (.bin .add (.t 74) (.c (.int .u32 (.ofNat 1)))),σ 76 (.index (.c (.str [48,48,48,49,48,50,48,51,48,52,48,53,48,54,48,55,48,56,48,57,49,48,49,49,49,50,49,51,49,52,49,53,49,54,49,55,49,56,49,57,50,48,50,49,50,50,50,51,50,52,50,53,50,54,50,55,50,56,50,57,51,48,51,49,51,50,51,51,51,52,51,53,51,54,51,55,51,56,51,57,52,48,52,49,52,50,52,51,52,52,52,53,52,54,52,55,52,56,52,57,53,48,53,49,53,50,53,51,53,52,53,53,53,54,53,55,53,56,53,57,54,48,54,49,54,50,54,51,54,52,54,53,54,54,54,55,54,56,54,57,55,48,55,49,55,50,55,51,55,52,55,53,55,54,55,55,55,56,55,57,56,48,56,49,56,50,56,51,56,52,56,53,56,54,56,55,56,56,56,57,57,48,57,49,57,50,57,51,57,52,57,53,57,54,57,55,57,56,57,57])) (.t 75)),μ 77 11,σ 78 (.index (.c (.str [48,48,48,49,48,50,48,51,48,52,48,53,48,54,48,55,48,56,48,57,49,48,49,49,49,50,49,51,49,52,49,53,49,54,49,55,49,56,49,57,50,48,50,49,50,50,50,51,50,52,50,53,50,54,50,55,50,56,50,57,51,48,51,49,51,50,51,51,51,52,51,53,51,54,51,55,51,56,51,57,52,48,52,49,52,50,52,51,52,52,52,53,52,54,52,55,52,56,52,57,53,48,53,49,53,50,53,51,53,52,53,53,53,54,53,55,53,56,53,57,54,48,54,49,54,50,54,51,54,52,54,53,54,54,54,55,54,56,54,57,55,48,55,49,55,50,55,51,55,52,55,53,55,54,55,55,55,56,55,57,56,48,56,49,56,50,56,51,56,52,56,53,56,54,56,55,56,56,56,57,57,48,57,49,57,50,57,51,57,52,57,53,57,54,57,55,57,56,57,57])) (.t 77)),ι 79 1 68 70,ω 1 79 76,ι 80 1 71 73,ω 1 80 78] [] [] [0,1,4,10]) (.seq (.av [μ 81 0,μ 82 4,γ 83 .sub 82 7,μ 84 0,μ 85 4,γ 86 .sub 85 8,μ 87 10,σ 88 (.bin .add (.t 87) (.c (.int .u32 (.ofNat 1)))),σ 89 (.index (.c (.str [48,48,48,49,48,50,48,51,48,52,48,53,48,54,48,55,48,56,48,57,49,48,49,49,49,50,49,51,49,52,49,53,49,54,49,55,49,56,49,57,50,48,50,49,50,50,50,51,50,52,50,53,50,54,50,55,50,56,50,57,51,48,51,49,51,50,51,51,51,52,51,53,51,54,51,55,51,56,51,57,52,48,52,49,52,50,52,51,52,52,52,53,52,54,52,55,52,56,52,57,53,48,53,49,53,50,53,51,53,52,53,53,53,54,53,55,53,56,53,57,54,48,54,49,54,50,54,51,54,52,54,53,54,54,54,55,54,56,54,57,55,48,55,49,55,50,55,51,55,52,55,53,55,54,55,55,55,56,55,57,56,48,56,49,56,50,56,51,56,52,56,53,56,54,56,55,56,56,56,57,57,48,57,49,57,50,57,51,57,52,57,53,57,54,57,55,57,56,57,57])) (.t 88)),μ 90 10,σ 91 (.index (.c (.str [48,48,48,49,48,50,48,51,48,52,48,53,48,54,48,55,48,56,48,57,49,48,49,49,49,50,49,51,49,52,49,53,49,54,49,55,49,56,49,57,50,48,50,49,50,50,50,51,50,52,50,53,50,54,50,55,50,56,50,57,51,48,51,49,51,50,51,51,51,52,51,53,51,54,51,55,51,56,51,57,52,48,52,49,52,50,52,51,52,52,52,53,52,54,52,55,52,56,52,57,53,48,53,49,53,50,53,51,53,52,53,53,53,54,53,55,53,56,53,57,54,48,54,49,54,50,54,51,54,52,54,53,54,54,54,55,54,56,54,57,55,48,55,49,55,50,55,51,55,52,55,53,55,54,55,55,55,56,55,57,56,48,56,49,56,50,56,51,56,52,56,53,56,54,56,55,56,56,56,57,57,48,57,49,57,50,57,51,57,52,57,53,57,54,57,55,57,56,57,57])) (.t 90)),ι 92 1 81 83,ω 1 92 89,ι 93 1 84 86,ω 1 93 91] [] [] [0,1,4]) (.region [μ 94 4,γ 95 .sub 94 8,μ 4 95] [0,1,4]))))))))))))
def EZ:RC:=.loop [0,1,4] F1
def HZ:ak:=⟨[],(.seq (.region [μ 17 0,ν 18 .slice 17,μ 4 18] [0,1,4]) (.seq (.block 0 EZ) (.seq (.region [μ 96 1,σ 97 (.i2i .u32 (.t 96)),μ 12 97] [0,4,12]) (.seq (.seq (.region [μ 98 4,γ 99 .geq 98 4] [0,4,12,99]) (.cond (.t 99) (.seq (.region [μ 100 12,σ 101 (.bin .rem (.t 100) (.c (.int .u32 (.ofNat 10000)))),μ 13 101] [0,4,12,13]) (.seq (.region [μ 102 12,σ 103 (.bin .quo (.t 102) (.c (.int .u32 (.ofNat 10000)))),μ 12 103] [0,4,12,13]) (.seq (.region [μ 104 13,σ 105 (.bin .quo (.t 104) (.c (.int .u32 (.ofNat 100)))),σ 106 (.bin .mul (.t 105) (.c (.int .u32 (.ofNat 2)))),μ 107 13,σ 108 (.bin .rem (.t 107) (.c (.int .u32 (.ofNat 100)))),σ 109 (.bin .mul (.t 108) (.c (.int .u32 (.ofNat 2)))),μ 14 106,μ 15 109] [0,4,12,14,15]) (.seq (.av [μ 110 0,μ 111 4,γ 112 .sub 111 1,μ 113 0,μ 114 4,γ 115 .sub 114 2,μ 116 15,σ 117 (.bin .add (.t 116) (.c (.int .u32 (.ofNat 1)))),σ 118 (.index (.c (.str [48,48,48,49,48,50,48,51,48,52,48,53,48,54,48,55,48,56,48,57,49,48,49,49,49,50,49,51,49,52,49,53,49,54,49,55,49,56,49,57,50,48,50,49,50,50,50,51,50,52,50,53,50,54,50,55,50,56,50,57,51,48,51,49,51,50,51,51,51,52,51,53,51,54,51,55,51,56,51,57,52,48,52,49,52,50,52,51,52,52,52,53,52,54,52,55,52,56,52,57,53,48,53,49,53,50,53,51,53,52,53,53,53,54,53,55,53,56,53,57,54,48,54,49,54,50,54,51,54,52,54,53,54,54,54,55,54,56,54,57,55,48,55,49,55,50,55,51,55,52,55,53,55,54,55,55,55,56,55,57,56,48,56,49,56,50,56,51,56,52,56,53,56,54,56,55,56,56,56,57,57,48,57,49,57,50,57,51,57,52,57,53,57,54,57,55,57,56,57,57])) (.t 117)),μ 119 15,σ 120 (.index (.c (.str [48,48,48,49,48,50,48,51,48,52,48,53,48,54,48,55,48,56,48,57,49,48,49,49,49,50,49,51,49,52,49,53,49,54,49,55,49,56,49,57,50,48,50,49,50,50,50,51,50,52,50,53,50,54,50,55,50,56,50,57,51,48,51,49,51,50,51,51,51,52,51,53,51,54,51,55,51,56,51,57,52,48,52,49,52,50,52,51,52,52,52,53,52,54,52,55,52,56,52,57,53,48,53,49,53,50,53,51,53,52,53,53,53,54,53,55,53,56,53,57,54,48,54,49,54,50,54,51,54,52,54,53,54,54,54,55,54,56,54,57,55,48,55,49,55,50,55,51,55,52,55,53,55,54,55,55,55,56,55,57,56,48,56,49,56,50,56,51,56,52,56,53,56,54,56,55,56,56,56,57,57,48,57,49,57,50,57,51,57,52,57,53,57,54,57,55,57,56,57,57])) (.t 119)),ι 121 1 110 112,ω 1 121 118,ι 122 1 113 115,ω 1 122 120] [] [] [0,4,12,14]) (.seq (.av [μ 123 0,μ 124 4,γ 125 .sub 124 3,μ 126 0,μ 127 4,γ 128 .sub 127 4,μ 129 14,σ 130 (.bin .add (.t 129) (.c (.int .u32 (.ofNat 1)))),σ 131 (.index (.c (.str [48,48,48,49,48,50,48,51,48,52,48,53,48,54,48,55,48,56,48,57,49,48,49,49,49,50,49,51,49,52,49,53,49,54,49,55,49,56,49,57,50,48,50,49,50,50,50,51,50,52,50,53,50,54,50,55,50,56,50,57,51,48,51,49,51,50,51,51,51,52,51,53,51,54,51,55,51,56,51,57,52,48,52,49,52,50,52,51,52,52,52,53,52,54,52,55,52,56,52,57,53,48,53,49,53,50,53,51,53,52,53,53,53,54,53,55,53,56,53,57,54,48,54,49,54,50,54,51,54,52,54,53,54,54,54,55,54,56,54,57,55,48,55,49,55,50,55,51,55,52,55,53,55,54,55,55,55,56,55,57,56,48,56,49,56,50,56,51,56,52,56,53,56,54,56,55,56,56,56,57,57,48,57,49,57,50,57,51,57,52,57,53,57,54,57,55,57,56,57,57])) (.t 130)),μ 132 14,σ 133 (.index (.c (.str [48,48,48,49,48,50,48,51,48,52,48,53,48,54,48,55,48,56,48,57,49,48,49,49,49,50,49,51,49,52,49,53,49,54,49,55,49,56,49,57,50,48,50,49,50,50,50,51,50,52,50,53,50,54,50,55,50,56,50,57,51,48,51,49,51,50,51,51,51,52,51,53,51,54,51,55,51,56,51,57,52,48,52,49,52,50,52,51,52,52,52,53,52,54,52,55,52,56,52,57,53,48,53,49,53,50,53,51,53,52,53,53,53,54,53,55,53,56,53,57,54,48,54,49,54,50,54,51,54,52,54,53,54,54,54,55,54,56,54,57,55,48,55,49,55,50,55,51,55,52,55,53,55,54,55,55,55,56,55,57,56,48,56,49,56,50,56,51,56,52,56,53,56,54,56,55,56,56,56,57,57,48,57,49,57,50,57,51,57,52,57,53,57,54,57,55,57,56,57,57])) (.t 132)),ι 134 1 123 125,ω 1 134 131,ι 135 1 126 128,ω 1 135 133] [] [] [0,4,12]) (.region [μ 136 4,γ 137 .sub 136 4,μ 4 137] [0,4,12])))))) .skip)) (.seq (.seq (.region [μ 138 4,γ 139 .geq 138 2] [0,4,12,139]) (.cond (.t 139) (.seq (.region [μ 140 12,σ 141 (.bin .rem (.t 140) (.c (.int .u32 (.ofNat 100)))),σ 142 (.bin .mul (.t 141) (.c (.int .u32 (.ofNat 2)))),μ 16 142] [0,4,12,16]) (.seq (.region [μ 143 12,σ 144 (.bin .quo (.t 143) (.c (.int .u32 (.ofNat 100)))),μ 12 144] [0,4,12,16]) (.seq (.av [μ 145 0,μ 146 4,γ 147 .sub 146 1,μ 148 0,μ 149 4,γ 150 .sub 149 2,μ 151 16,σ 152 (.bin .add (.t 151) (.c (.int .u32 (.ofNat 1)))),σ 153 (.index (.c (.str [48,48,48,49,48,50,48,51,48,52,48,53,48,54,48,55,48,56,48,57,49,48,49,49,49,50,49,51,49,52,49,53,49,54,49,55,49,56,49,57,50,48,50,49,50,50,50,51,50,52,50,53,50,54,50,55,50,56,50,57,51,48,51,49,51,50,51,51,51,52,51,53,51,54,51,55,51,56,51,57,52,48,52,49,52,50,52,51,52,52,52,53,52,54,52,55,52,56,52,57,53,48,53,49,53,50,53,51,53,52,53,53,53,54,53,55,53,56,53,57,54,48,54,49,54,50,54,51,54,52,54,53,54,54,54,55,54,56,54,57,55,48,55,49,55,50,55,51,55,52,55,53,55,54,55,55,55,56,55,57,56,48,56,49,56,50,56,51,56,52,56,53,56,54,56,55,56,56,56,57,57,48,57,49,57,50,57,51,57,52,57,53,57,54,57,55,57,56,57,57])) (.t 152)),μ 154 16,σ 155 (.index (.c (.str [48,48,48,49,48,50,48,51,48,52,48,53,48,54,48,55,48,56,48,57,49,48,49,49,49,50,49,51,49,52,49,53,49,54,49,55,49,56,49,57,50,48,50,49,50,50,50,51,50,52,50,53,50,54,50,55,50,56,50,57,51,48,51,49,51,50,51,51,51,52,51,53,51,54,51,55,51,56,51,57,52,48,52,49,52,50,52,51,52,52,52,53,52,54,52,55,52,56,52,57,53,48,53,49,53,50,53,51,53,52,53,53,53,54,53,55,53,56,53,57,54,48,54,49,54,50,54,51,54,52,54,53,54,54,54,55,54,56,54,57,55,48,55,49,55,50,55,51,55,52,55,53,55,54,55,55,55,56,55,57,56,48,56,49,56,50,56,51,56,52,56,53,56,54,56,55,56,56,56,57,57,48,57,49,57,50,57,51,57,52,57,53,57,54,57,55,57,56,57,57])) (.t 154)),ι 156 1 145 147,ω 1 156 153,ι 157 1 148 150,ω 1 157 155] [] [] [0,4,12]) (.region [μ 158 4,γ 159 .sub 158 2,μ 4 159] [0,4,12])))) .skip)) (.seq (.region [μ 160 4,γ 161 .gtr 160 0] [0,12,161]) (.cond (.t 161) (.region [μ 162 0,μ 163 12,σ 164 (.bin .add (.c (.int .u32 (.ofNat 48))) (.t 163)),σ 165 (.i2i .u8 (.t 164)),σ 166 (.bw 1 (.t 162) (κ 0)),ω 1 166 165] []) .skip))))))),false⟩
end Go.D.Tab
end
section
namespace Go.D.Tab
def IL:ak:=⟨[.t 2],(.seq (.region [η 2 0] [0]) (.seq (.region [μ 3 0,γ 4 .mul 3 78913,σ 5 (.bin .shr (.t 4) (.c (.int .u64 (.ofNat 18)))),μ 2 5] [2]) .ret)),true⟩
def JN:ak:=⟨[.t 2],(.seq (.region [η 2 0] [0]) (.seq (.seq (.region [μ 3 0] [3]) (.cond (.t 3) (.seq (.region [η 2 1] [2]) .ret) .skip)) (.seq (.region [η 2 0] [2]) .ret))),true⟩
def Iv:ak:=⟨[.t 0],(.seq (.region [σ 0 (.mv (.c (.bool false)))] []) (.seq (.region [σ 13 (.call 413 [(.c (.str [45,32,3,32,45])),(κ 12)]),μ 12 13,ε 14 12 0,ε 15 12 1,μ 1 14,μ 2 15] [1,2]) (.seq (.region [σ 17 (.call 415 []),σ 18 (.call 414 [.t 17,(κ 2),(.c (.bool false))]),μ 16 18,ε 19 16 0,ε 20 16 1,σ 3 (.alloc [(.str []),(.str []),δ,δ,δ,δ,δ,δ,δ,δ,θ,θ,(.bool false)]),ω 13 3 19,μ 4 20] [1,2,3,4]) (.seq (.region [σ 22 (.build [δ,δ,δ,δ] [(2,1,(κ 5)),(3,1,(κ 10))]),σ 23 (.call 416 [(.c (.str [97,32,98])),.t 22]),μ 21 23,ε 24 21 0,ε 25 21 1,ε 26 21 2,μ 5 24,μ 6 25,μ 7 26] [1,2,3,4,5,6,7]) (.seq (.region [σ 28 (.call 413 [(.c (.str [120])),(κ 0)]),μ 27 28,ε 29 27 0,ε 30 27 1,μ 8 29,μ 9 30] [1,2,3,4,5,6,7,9]) (.seq (.region [σ 32 (.call 413 [(.c (.str [9])),(κ 1)]),μ 31 32,ε 33 31 0,ε 34 31 1,μ 10 33,μ 11 34] [1,2,3,4,5,6,7,9,11]) (.seq (.region [σ 35 (.call 417 []),μ 36 35,Μ 37 1 36 true,τ 38 (.bin .eql (.t 37) (.c (.str [45,32,49,50,32,45]))) 36 true,ξ 39 36 38,μ 40 39,Μ 41 2 40 true,τ 42 (.bin .eql (.t 41) (κ 0)) 40 true,ξ 43 40 42,μ 44 43,Φ 45 0 3 44 true,Ρ 46 45 44 true,τ 47 (.bin .eql (.t 46) (.c (.str []))) 44 true,ξ 48 44 47,μ 49 48,Φ 50 10 3 49 true,Ρ 51 50 49 true,τ 52 (.len .slice (.t 51)) 49 true,τ 53 (.bin .eql (.t 52) (κ 0)) 49 true,ξ 54 49 53,μ 55 54,Μ 56 4 55 true,τ 57 (.bin .eql (.t 56) (κ 0)) 55 true,ξ 58 55 57,μ 59 58,Μ 60 5 59 true,τ 61 (.len .slice (.t 60)) 59 true,τ 62 (.bin .eql (.t 61) (κ 1)) 59 true,ξ 63 59 62,μ 64 63,Μ 65 5 64 true,τ 66 (.bw 7 (.t 65) (κ 0)) 64 true,Φ 67 1 66 64 true,Ρ 68 67 64 true,τ 69 (.bin .eql (.t 68) (κ 2)) 64 true,ξ 70 64 69,μ 71 70,Μ 72 6 71 true,ξ 73 71 72,μ 74 73,Μ 75 7 74 true,τ 76 (.bin .eql (.t 75) (κ 0)) 74 true,ξ 77 74 76,μ 78 77,Μ 79 9 78 true,τ 80 (.bin .eql (.t 79) (κ 5)) 78 true,ξ 81 78 80,μ 82 81,Μ 83 11 82 true,τ 84 (.bin .eql (.t 83) (κ 4)) 82 true,ξ 85 82 84,μ 0 85] [0]) .ret))))))),true⟩
def Gt:RC:=(.seq (.region [β 15 .lss 14 13] [0,1,12,13,14,15]) (.seq (.cond (.t 15) .skip (.exit 0)) (.seq (.block 1 (.seq (.region [ι 16 1 12 14,ρ 17 16,μ 7 17] [0,1,7,12,13,14]) (.seq (.region [μ 18 7,σ 19 (.call 438 [.t 18]),σ 20 (.un .not (.t 19)),μ 21 20,Μ 22 7 21 true,τ 23 (.bin .neq (.t 22) (.c (.int .u8 (.ofNat 3)))) 21 true,ξ 24 21 23] [0,1,12,13,14,24]) (.cond (.t 24) (.seq (.region [σ 4 (.mv (.c (.str []))),η 5 4] [4,5]) .ret) .skip)))) (.region [γ 25 .add 14 1,μ 14 25] [0,1,12,13,14]))))
def Eo:RC:=.loop [0,1,12,13,14] Gt
def Lj:ak:=⟨[.t 4,.t 5],(.seq (.region [σ 4 (.mv (.c (.str []))),η 5 0] [0,1]) (.seq (.seq (.region [μ 8 0,ν 9 .str 8,γ 10 .gtr 9 100] [0,1,10]) (.cond (.t 10) (.seq (.region [σ 4 (.mv (.c (.str []))),η 5 3] [4,5]) .ret) .skip)) (.seq (.seq (.region [μ 11 0,σ 12 (.s2b (.t 11)),ν 13 .slice 12,η 14 0] [0,1,12,13,14]) (.block 0 Eo)) (.seq (.seq (.region [μ 26 1,γ 27 .lss 26 1,μ 28 27,Μ 29 1 28 false,τ 30 (.bin .gtr (.t 29) (κ 4096)) 28 false,ζ 31 28 30] [0,1,31]) (.cond (.t 31) (.seq (.region [σ 4 (.mv (.c (.str []))),η 5 5] [4,5]) .ret) .skip)) (.seq (.region [μ 32 0,μ 33 1,σ 34 (.call 439 [.t 32,.t 33]),μ 4 34,η 5 0] [4,5]) .ret))))),true⟩
def At:ak:=⟨[.cell 6 13 true,.t 7],(.seq (.region [σ 3 (.box 17 (.t 0)),σ 6 (.alloc [(.str []),(.str []),δ,δ,δ,δ,δ,δ,δ,δ,θ,θ,(.bool false)]),η 7 0] [1,2,3,6]) (.seq (.region [Λ 13 17 3,μ 14 1,μ 15 2,σ 16 (.call 440 [.t 13,.t 14,.t 15]),μ 12 16,ε 17 12 0,ε 18 12 1,μ 8 17,μ 9 18] [1,3,6,8,9]) (.seq (.seq (.region [μ 19 9,γ 20 .neq 19 0] [1,3,6,8,9,20]) (.cond (.t 20) (.seq (.region [σ 21 (.build [(.str []),(.str []),δ,δ,δ,δ,δ,δ,δ,δ,θ,θ,(.bool false)] []),μ 22 9,ω 13 6 21,μ 7 22] [6,7]) .ret) .skip)) (.seq (.av [μ 23 8,φ 24 11 3,σ 25 (.cP 1 3 (.t 24) (.t 23)),ρ 26 25,μ 27 1,σ 28 (.call 439 [.t 26,.t 27]),μ 29 8,φ 30 14 3,σ 31 (.cP 1 3 (.t 30) (.t 29)),ρ 32 31,μ 33 1,σ 34 (.call 439 [.t 32,.t 33]),σ 35 (.build [(.str []),(.str []),δ,δ,δ,δ,δ,δ,δ,δ,θ,θ,(.bool false)] [(0,1,(.t 28)),(1,1,(.t 34))]),σ 10 (.alloc [(.str []),(.str []),δ,δ,δ,δ,δ,δ,δ,δ,θ,θ,(.bool false)]),ω 13 10 35] [] [(3,[1]),(5,[1]),(9,[1]),(11,[1])] [1,3,6,10]) (.seq (.region [Λ 37 17 3,μ 38 1,σ 39 (.call 441 [.t 37,.t 38]),μ 36 39,ε 40 36 0,ε 41 36 1,φ 42 2 10,ω 4 42 40] [1,3,6,10]) (.seq (.region [Λ 44 17 3,μ 45 1,σ 46 (.call 442 [.t 44,.t 45]),μ 43 46,ε 47 43 0,ε 48 43 1,φ 49 6 10,ω 4 49 47] [6,10]) (.seq (.region [σ 50 (.ff 443 [] [.t 10]),μ 11 50] [6,10,11]) (.seq (.region [μ 51 11,φ 52 0 10,ρ 53 52,φ 54 2 10,Λ 55 4 54,σ 56 (.bd (.t 51) [.t 53,.t 55]),φ 57 10 10,ω 1 57 56] [6,10,11]) (.seq (.region [μ 58 11,φ 59 1 10,ρ 60 59,φ 61 6 10,Λ 62 4 61,σ 63 (.bd (.t 58) [.t 60,.t 62]),φ 64 11 10,ω 1 64 63] [6,10]) (.seq (.region [Λ 65 13 10,ω 13 6 65,η 7 0] [6,7]) .ret)))))))))),true⟩
def Hb:ak:=⟨[.cell 0 17 true],(.seq (.region [σ 0 (.alloc [δ,δ,δ,δ,δ,δ,δ,δ,δ,δ,δ,(.str []),(.str []),(.str []),(.str []),(.str []),(.str [])])] [0]) (.seq (.region [σ 2 (.call 444 []),σ 1 (.alloc [δ,δ,δ,δ,δ,δ,δ,δ,δ,δ,δ,(.str []),(.str []),(.str []),(.str []),(.str []),(.str [])]),ω 17 1 2] [0,1]) (.seq (.region [φ 3 11 1,σ 4 (.cP 1 3 (.t 3) (κ 1)),⟨none,.store 1 (.t 4) (.c (.str [45,32,3,32,45])),none⟩] [0,1]) (.seq (.region [Λ 5 17 1,ω 17 0 5] [0]) .ret)))),true⟩
def pZ:RC:=(.seq (.region [β 19 .lss 18 17] [0,3,16,17,18,19]) (.seq (.cond (.t 19) .skip (.exit 0)) (.seq (.block 1 (.seq (.region [ι 20 1 16 18,ρ 21 20,μ 8 21] [0,3,8,16,17,18]) (.seq (.region [μ 22 8,σ 23 (.call 438 [.t 22]),σ 24 (.un .not (.t 23))] [0,3,16,17,18,24]) (.cond (.t 24) (.seq (.region [σ 4 (.mv (.c θ)),σ 5 (.mv (.c (.bool false))),η 6 4] [4,5,6]) .ret) .skip)))) (.region [γ 25 .add 18 1,μ 18 25] [0,3,16,17,18]))))
def q0:RC:=.loop [0,3,16,17,18] pZ
def rG:ak:=⟨[.t 4,.t 5,.t 6],(.seq (.region [σ 3 (.box 4 (.t 1)),σ 4 (.mv (.c θ)),σ 5 (.mv (.c (.bool false))),η 6 0] [0,3]) (.seq (.seq (.region [μ 12 0,ν 13 .str 12,γ 14 .gtr 13 4096] [0,3,14]) (.cond (.t 14) (.seq (.region [σ 4 (.mv (.c θ)),σ 5 (.mv (.c (.bool false))),η 6 3] [4,5,6]) .ret) .skip)) (.seq (.seq (.region [μ 15 0,σ 16 (.s2b (.t 15)),ν 17 .slice 16,η 18 0] [0,3,16,17,18]) (.block 0 q0)) (.seq (.seq (.region [φ 26 2 3,ρ 27 26,σ 28 (.call 445 [.t 27]),σ 29 (.un .not (.t 28)),μ 30 29,Φ 31 3 3 30 false,Ρ 32 31 30 false,τ 33 (.call 445 [.t 32]) 30 false,τ 34 (.un .not (.t 33)) 30 false,ζ 35 30 34] [0,3,35]) (.cond (.t 35) (.seq (.region [σ 4 (.mv (.c θ)),σ 5 (.mv (.c (.bool false))),η 6 5] [4,5,6]) .ret) .skip)) (.seq (.seq (.region [μ 36 0,σ 37 (.bin .eql (.t 36) (.c (.str [])))] [0,3,37]) (.cond (.t 37) (.seq (.region [σ 4 (.mv (.c θ)),σ 5 (.mv (.c (.bool false))),η 6 0] [4,5,6]) .ret) .skip)) (.seq (.av [μ 39 0,σ 40 (.call 446 [.t 39]),φ 41 2 3,ρ 42 41,σ 43 (.build [δ,δ] [(1,1,(.t 42))]),σ 44 (.call 307 [.t 40,(.c θ),.t 43]),μ 38 44,ε 45 38 0,ε 46 38 1,μ 9 45,μ 10 46] [] [] [3,9]) (.seq (.region [μ 47 9,ν 48 .slice 47,φ 49 3 3,ρ 50 49,γ 51 .quo 50 10,σ 52 (.min [.t 48,.t 51]),μ 11 52] [9,11]) (.seq (.region [μ 53 9,μ 54 11,μ 55 11,σ 56 (.slice false 7 (.t 53) none (some (.t 54)) (some (.t 55))),μ 57 11,μ 58 9,ν 59 .slice 58,β 60 .lss 57 59,μ 4 56,μ 5 60,η 6 0] [4,5,6]) .ret)))))))),true⟩
def J6:ak:=⟨[.t 0],(.seq (.region [σ 0 (.mv (.c (.bool false)))] []) (.seq (.region [σ 4 (.call 415 []),σ 5 (.call 414 [.t 4,(κ 3),(.c (.bool false))]),μ 3 5,ε 6 3 0,ε 7 3 1,σ 1 (.alloc [(.str []),(.str []),δ,δ,δ,δ,δ,δ,δ,δ,θ,θ,(.bool false)]),ω 13 1 6,μ 2 7] [1,2]) (.seq (.region [μ 8 2,γ 9 .eql 8 0,μ 10 9,Φ 11 0 1 10 true,Ρ 12 11 10 true,τ 13 (.bin .eql (.t 12) (.c (.str [45,32,51,32,45]))) 10 true,ξ 14 10 13,μ 15 14,Φ 16 2 1 15 true,τ 17 (.load 4 true (.t 16)) 15 true,τ 18 (.build [δ,δ,δ,δ] [(0,1,(κ 30)),(1,1,(κ 20)),(2,1,(κ 240)),(3,1,(κ 20))]) 15 true,τ 19 (.eq (.agg [.int,.int,.int,.int]) false (.t 17) (.t 18)) 15 true,ξ 20 15 19,μ 21 20,Φ 22 10 1 21 true,Ρ 23 22 21 true,τ 24 (.len .slice (.t 23)) 21 true,τ 25 (.bin .eql (.t 24) (κ 1)) 21 true,ξ 26 21 25,μ 27 26,Φ 28 10 1 27 true,Ρ 29 28 27 true,τ 30 (.bw 7 (.t 29) (κ 0)) 27 true,Φ 31 1 30 27 true,Ρ 32 31 27 true,τ 33 (.bin .eql (.t 32) (κ 5)) 27 true,ξ 34 27 33,μ 35 34,Φ 36 10 1 35 true,Ρ 37 36 35 true,τ 38 (.bw 7 (.t 37) (κ 0)) 35 true,Φ 39 3 38 35 true,Ρ 40 39 35 true,τ 41 (.bin .eql (.t 40) (κ 240)) 35 true,ξ 42 35 41,μ 0 42] [0]) .ret))),true⟩
def yr:ak:=⟨[.t 2],(.seq (.region [σ 2 (.mv (.c (.bool false)))] [0]) (.seq (.region [μ 3 0,σ 4 (.bin .geq (.t 3) (.c (.int .u8 (.ofNat 32)))),μ 5 4,Μ 6 0 5 true,τ 7 (.bin .leq (.t 6) (.c (.int .u8 (.ofNat 126)))) 5 true,ξ 8 5 7,μ 2 8] [2]) .ret)),true⟩
def qE:RC:=(.seq (.region [β 12 .lss 11 10] [1,5,9,10,11,12]) (.seq (.cond (.t 12) .skip (.exit 0)) (.seq (.block 1 (.seq (.region [ι 13 1 9 11,ρ 14 13,μ 7 14] [1,5,7,9,10,11]) (.seq (.region [μ 15 7,σ 16 (.bin .eql (.t 15) (.c (.int .u8 (.ofNat 3))))] [1,5,7,9,10,11,16]) (.cond (.t 16) (.region [μ 17 1,σ 18 (.call 374 [.t 17]),σ 19 (.call 463 [.t 5,.t 18])] [1,5,9,10,11]) (.region [μ 20 7,σ 21 (.call 464 [.t 5,.t 20])] [1,5,9,10,11]))))) (.region [γ 22 .add 11 1,μ 11 22] [1,5,9,10,11]))))
def mP:RC:=.loop [1,5,9,10,11] qE
def AZ:ak:=⟨[.t 4],(.seq (.region [σ 4 (.mv (.c (.str [])))] [0,1]) (.seq (.region [σ 5 (.fw 65 [.bG,θ])] [0,1,5]) (.seq (.seq (.region [μ 8 0,σ 9 (.s2b (.t 8)),ν 10 .slice 9,η 11 0] [1,5,9,10,11]) (.block 0 mP)) (.seq (.region [σ 23 (.call 465 [.t 5]),μ 4 23] [4]) .ret)))),true⟩
def oo:ak:=⟨[.t 6,.t 7],(.seq (.region [σ 3 (.box 17 (.t 0)),η 6 0,η 7 0] [1,2,3]) (.seq (.seq (.region [Λ 9 17 3,μ 10 1,σ 11 (.call 466 [.t 9,.t 10,(κ 1)]),μ 8 11] [1,2,3,8]) (.seq (.region [μ 12 8,γ 13 .neq 12 0] [1,2,3,8,13]) (.cond (.t 13) (.seq (.region [μ 14 8,η 6 0,μ 7 14] [6,7]) .ret) .skip))) (.seq (.block 0 (.seq (.region [μ 16 2,μ 17 16,Φ 18 11 3 17 true,τ 19 (.cP 1 3 (.t 18) (κ 0)) 17 true,Ρ 20 19 17 true,τ 21 (.bin .neq (.t 20) (.c (.str []))) 17 true,Μ 22 21 17 true,Φ 23 14 3 22 false,τ 24 (.cP 1 3 (.t 23) (κ 0)) 22 false,Ρ 25 24 22 false,τ 26 (.bin .neq (.t 25) (.c (.str []))) 22 false,τ 27 (.pick (.t 22) (.c (.bool true)) (.t 26)) 17 true,ξ 28 17 27,μ 15 28] [1,15]) (.cond (.t 15) (.seq (.region [η 6 0,η 7 0] [6,7]) .ret) (.seq (.region [μ 30 1,γ 31 .rem 30 2,γ 32 .eql 31 1,μ 29 32] [29]) (.cond (.t 29) (.seq (.region [η 6 1,η 7 0] [6,7]) .ret) .skip))))) (.seq (.region [η 6 2,η 7 0] [6,7]) .ret)))),true⟩
def CT:ak:=⟨[.cell 4 4 true,.t 5],(.seq (.region [σ 2 (.box 17 (.t 0)),σ 4 (.alloc [δ,δ,δ,δ]),η 5 0] [1,2,4]) (.seq (.seq (.region [Λ 7 17 2,μ 8 1,σ 9 (.call 466 [.t 7,.t 8,(κ 1)]),μ 6 9] [1,2,4,6]) (.seq (.region [μ 10 6,γ 11 .neq 10 0] [1,2,4,6,11]) (.cond (.t 11) (.seq (.region [σ 12 (.build [δ,δ,δ,δ] []),μ 13 6,ω 4 4 12,μ 5 13] [4,5]) .ret) .skip))) (.seq (.region [Λ 14 17 2,μ 15 1,φ 16 2 2,ρ 17 16,γ 18 .quo 17 2,φ 19 2 2,ρ 20 19,φ 21 2 2,ρ 22 21,γ 23 .quo 22 2,β 24 .sub 20 23,σ 25 (.call 467 [.t 14,.t 15,.t 18,.t 24]),ω 4 4 25,η 5 0] [4,5]) .ret))),true⟩
def Cg:ak:=⟨[.cell 4 4 true,.t 5],(.seq (.region [σ 2 (.box 17 (.t 0)),σ 4 (.alloc [δ,δ,δ,δ]),η 5 0] [1,2,4]) (.seq (.seq (.region [Λ 7 17 2,μ 8 1,σ 9 (.call 466 [.t 7,.t 8,(κ 1)]),μ 6 9] [1,2,4,6]) (.seq (.region [μ 10 6,γ 11 .neq 10 0] [1,2,4,6,11]) (.cond (.t 11) (.seq (.region [σ 12 (.build [δ,δ,δ,δ] []),μ 13 6,ω 4 4 12,μ 5 13] [4,5]) .ret) .skip))) (.seq (.region [Λ 14 17 2,μ 15 1,φ 16 1 2,ρ 17 16,φ 18 3 2,ρ 19 18,β 20 .sub 17 19,φ 21 3 2,ρ 22 21,γ 23 .quo 22 2,σ 24 (.call 467 [.t 14,.t 15,.t 20,.t 23]),ω 4 4 24,η 5 0] [4,5]) .ret))),true⟩
def zK:ak:=⟨[.t 5],(.seq (.region [σ 4 (.box 4 (.t 1)),σ 5 (.mv (.c θ))] [0,2,4]) (.seq (.region [μ 10 0,Λ 11 4 4,σ 12 (.call 416 [.t 10,.t 11]),μ 9 12,ε 13 9 0,ε 14 9 1,ε 15 9 2,μ 6 13,μ 7 14,μ 8 15] [2,6,7]) (.seq (.region [φ 16 12 2,ρ 17 16,μ 18 17,Μ 19 7 18 false,ζ 20 18 19,φ 21 12 2,ω 1 21 20] [6]) (.seq (.region [μ 22 6,μ 5 22] [5]) .ret)))),false⟩
def I1:ak:=⟨[.cell 0 17 true],(.seq (.region [σ 0 (.alloc [δ,δ,δ,δ,δ,δ,δ,δ,δ,δ,δ,(.str []),(.str []),(.str []),(.str []),(.str []),(.str [])])] [0]) (.seq (.region [σ 1 (.build [δ,δ,δ,δ,δ,δ,δ,δ,δ,δ,δ,(.str []),(.str []),(.str []),(.str []),(.str []),(.str [])] [(0,1,(κ 300)),(1,1,(κ 400)),(2,1,(κ 40)),(3,1,(κ 40)),(4,1,(κ 30)),(5,1,(κ 30)),(6,1,(κ 1)),(7,1,(κ 10))]),ω 17 0 1] [0]) .ret)),true⟩
def AR:ak:=⟨[.t 2],(.seq (.region [σ 2 (.mv (.c (.bool false)))] [0]) (.seq (.region [μ 3 0,γ 4 .geq 3 0,μ 5 4,Μ 6 0 5 true,τ 7 (.bin .leq (.t 6) (κ 4095)) 5 true,ξ 8 5 7,μ 2 8] [2]) .ret)),true⟩
def xR:ak:=⟨[.cell 2 21 true],(.seq (.region [σ 2 (.alloc [(.str []),θ,δ,δ,δ,δ,δ,δ,δ,δ,δ,δ,δ,δ,δ,δ,δ,δ,δ,(.str []),θ])] [0,2]) (.seq (.region [μ 4 0,σ 5 (.build [δ,δ,δ,δ,δ,δ,δ,δ,δ,δ,δ,δ,δ,δ,δ,δ,δ] [(0,1,(κ 8)),(1,1,(κ 10)),(2,1,(κ 3)),(10,1,(κ 1)),(11,1,(κ 1))]),σ 6 (.build [(.str []),θ,δ,δ,δ,δ,δ,δ,δ,δ,δ,δ,δ,δ,δ,δ,δ,δ,δ,(.str []),θ] [(0,1,(.t 4)),(2,17,(.t 5))]),σ 3 (.alloc [(.str []),θ,δ,δ,δ,δ,δ,δ,δ,δ,δ,δ,δ,δ,δ,δ,δ,δ,δ,(.str []),θ]),ω 21 3 6] [0,2,3]) (.seq (.seq (.region [μ 7 0,σ 8 (.bin .neq (.t 7) (.c (.str [])))] [0,2,3,8]) (.cond (.t 8) (.region [μ 9 0,ν 10 .str 9,σ 11 (.build [δ,δ,δ,δ] [(0,1,(.t 10))]),σ 12 (.lit 4 true [δ,δ,δ,δ] 1 [(0,(.t 11))]),φ 13 1 3,ω 1 13 12] [2,3]) .skip)) (.seq (.region [Λ 14 21 3,ω 21 2 14] [2]) .ret)))),true⟩
def Ax:ak:=⟨[.t 4,.t 5],(.seq (.region [η 4 0,σ 5 (.mv (.c .aB))] [0,1]) (.seq (.region [μ 6 0,σ 7 (.call 472 [.t 6])] [0,1]) (.seq (.region [μ 8 0,μ 9 0,σ 10 (.aJ (.t 9)),φ 11 1 10,ρ 12 11,μ 13 1,σ 14 (.dg 5 1 (.t 12) (.t 13)),σ 15 (.aJ (.t 8)),φ 16 1 15,ω 1 16 14] [1]) (.seq (.region [μ 17 1,ν 18 .str 17,μ 4 18,σ 5 (.mv (.c .aB))] [4,5]) .ret)))),false⟩
def yU:ak:=⟨[.t 4],(.seq (.region [σ 4 (.mv (.c .aB))] [0,1]) (.seq (.region [μ 5 0,σ 6 (.call 472 [.t 5])] [0,1]) (.seq (.region [μ 7 0,μ 8 0,σ 9 (.aJ (.t 8)),φ 10 1 9,ρ 11 10,μ 12 1,σ 13 (.lit 1 false [(.int .u8 (.ofNat 0))] 1 [(0,(.t 12))]),σ 14 (.dg 5 1 (.t 11) (.t 13)),σ 15 (.aJ (.t 7)),φ 16 1 15,ω 1 16 14] []) (.seq (.region [σ 4 (.mv (.c .aB))] [4]) .ret)))),false⟩
def AF:ak:=⟨[.t 2],(.seq (.region [σ 2 (.mv (.c (.str [])))] [0]) (.seq (.av [μ 3 0,σ 4 (.aJ (.t 3)),φ 5 1 4,ρ 6 5,σ 7 (.fe (.t 6)),μ 8 0,σ 9 (.aJ (.t 8)),φ 10 1 9,ρ 11 10,ν 12 .slice 11,σ 13 (.mm 5 (.t 7) (.t 12)),μ 2 13] [] [] [2]) .ret)),false⟩
def uf:ak:=⟨[.t 6],(.seq (.region [σ 3 (.box 17 (.t 0)),η 6 0] [1,2,3]) (.seq (.seq (.region [Λ 8 17 3,σ 9 (.call 473 [.t 8]),μ 7 9] [1,2,7]) (.seq (.region [μ 10 7,γ 11 .neq 10 0] [1,2,7,11]) (.cond (.t 11) (.seq (.region [μ 12 7,μ 6 12] [6]) .ret) .skip))) (.seq (.seq (.region [μ 13 1,μ 14 2,β 15 .lss 13 14,μ 16 15,Μ 17 1 16 false,τ 18 (.bin .gtr (.t 17) (κ 4096)) 16 false,ζ 19 16 18] [19]) (.cond (.t 19) (.seq (.region [η 6 5] [6]) .ret) .skip)) (.seq (.region [η 6 0] [6]) .ret)))),true⟩
def Dd:ak:=⟨[.cell 8 4 true],(.seq (.region [σ 4 (.box 17 (.t 0)),σ 8 (.alloc [δ,δ,δ,δ])] [1,2,3,4,8]) (.seq (.av [Λ 9 17 4,μ 10 1,σ 11 (.call 474 [.t 9,.t 10]),μ 12 2,Λ 13 17 4,σ 14 (.call 475 [.t 13]),φ 15 6 4,ρ 16 15,β 17 .mul 14 16,φ 18 7 4,ρ 19 18,φ 20 6 4,ρ 21 20,γ 22 .sub 21 1,β 23 .mul 19 22,β 24 .add 17 23,μ 25 3,σ 26 (.build [δ,δ,δ,δ] [(0,1,(.t 11)),(1,1,(.t 12)),(2,1,(.t 24)),(3,1,(.t 25))]),ω 4 8 26] [] [] [8]) .ret)),true⟩
def zJ:ak:=⟨[],(.seq (.region [μ 2 0,σ 3 (.aJ (.t 2)),φ 4 0 3,ρ 5 4,σ 6 (.eq .ptr false (.t 5) (.c .bG))] [0,6]) (.cond (.t 6) (.region [μ 7 0,μ 8 0,σ 9 (.conv 65 2 (.t 8)),σ 10 (.call 478 [.t 9]),σ 11 (.conv 65 2 (.t 10)),σ 12 (.aJ (.t 7)),φ 13 0 12,ω 1 13 11] []) (.seq (.region [μ 14 0,σ 15 (.aJ (.t 14)),φ 16 0 15,ρ 17 16,μ 18 0,σ 19 (.eq .ptr true (.t 17) (.t 18))] [19]) (.cond (.t 19) .stuck .skip)))),false⟩
def nk:RC:=(.seq (.region [β 41 .lss 40 39] [1,38,39,40,41]) (.seq (.cond (.t 41) .skip (.exit 0)) (.seq (.block 1 (.seq (.region [ι 42 4 38 40,Λ 43 4 42,σ 4 (.alloc [δ,δ,δ,δ]),ω 4 4 43] [1,4,38,39,40]) (.seq (.region [φ 44 0 4,ρ 45 44,φ 46 1 4,ρ 47 46,β 48 .lss 45 47,μ 49 48,Φ 50 0 4 49 false,Ρ 51 50 49 false,Φ 52 2 4 49 false,Ρ 53 52 49 false,τ 54 (.bin .gtr (.t 51) (.t 53)) 49 false,ζ 55 49 54] [1,4,38,39,40,55]) (.cond (.t 55) (.seq (.region [φ 56 3 4,ρ 57 56,μ 2 57] [2]) .ret) .skip)))) (.region [γ 58 .add 40 1,μ 40 58] [1,38,39,40]))))
def lz:RC:=.loop [1,38,39,40] nk
def uj:ak:=⟨[.t 2],(.seq (.region [σ 1 (.box 17 (.t 0)),η 2 0] [1]) (.seq (.seq (.region [φ 5 0 1,ρ 6 5,σ 7 (.build [δ,δ,δ,δ] [(0,1,(.t 6)),(1,1,(κ 1)),(2,1,(κ 4095)),(3,1,(κ 5))]),φ 8 1 1,ρ 9 8,σ 10 (.build [δ,δ,δ,δ] [(0,1,(.t 9)),(1,1,(κ 1)),(2,1,(κ 4095)),(3,1,(κ 5))]),φ 11 2 1,ρ 12 11,σ 13 (.build [δ,δ,δ,δ] [(0,1,(.t 12)),(1,1,(κ 0)),(2,1,(κ 4095)),(3,1,(κ 5))]),φ 14 3 1,ρ 15 14,σ 16 (.build [δ,δ,δ,δ] [(0,1,(.t 15)),(1,1,(κ 0)),(2,1,(κ 4095)),(3,1,(κ 5))]),φ 17 4 1,ρ 18 17,σ 19 (.build [δ,δ,δ,δ] [(0,1,(.t 18)),(1,1,(κ 0)),(2,1,(κ 4095)),(3,1,(κ 5))]),φ 20 5 1,ρ 21 20,σ 22 (.build [δ,δ,δ,δ] [(0,1,(.t 21)),(1,1,(κ 0)),(2,1,(κ 4095)),(3,1,(κ 5))]),φ 23 7 1,ρ 24 23,σ 25 (.build [δ,δ,δ,δ] [(0,1,(.t 24)),(1,1,(κ 0)),(2,1,(κ 4095)),(3,1,(κ 5))]),φ 26 6 1,ρ 27 26,σ 28 (.build [δ,δ,δ,δ] [(0,1,(.t 27)),(1,1,(κ 1)),(2,1,(κ 8)),(3,1,(κ 2))]),φ 29 8 1,ρ 30 29,σ 31 (.build [δ,δ,δ,δ] [(0,1,(.t 30)),(1,1,(κ 0)),(2,1,(κ 2)),(3,1,(κ 2))]),φ 32 9 1,ρ 33 32,σ 34 (.build [δ,δ,δ,δ] [(0,1,(.t 33)),(1,1,(κ 0)),(2,1,(κ 1)),(3,1,(κ 2))]),φ 35 10 1,ρ 36 35,σ 37 (.build [δ,δ,δ,δ] [(0,1,(.t 36)),(1,1,(κ 0)),(2,1,(κ 1)),(3,1,(κ 2))]),σ 38 (.lit 4 true [δ,δ,δ,δ] 11 [(0,(.t 7)),(1,(.t 10)),(2,(.t 13)),(3,(.t 16)),(4,(.t 19)),(5,(.t 22)),(6,(.t 25)),(7,(.t 28)),(8,(.t 31)),(9,(.t 34)),(10,(.t 37))]),ν 39 .slice 38,η 40 0] [1,38,39,40]) (.block 0 lz)) (.seq (.seq (.region [Λ 59 17 1,σ 60 (.call 475 [.t 59]),γ 61 .lss 60 10,μ 62 61,τ 63 (.load 17 true (.t 1)) 62 false,τ 64 (.call 479 [.t 63]) 62 false,τ 65 (.bin .lss (.t 64) (κ 20)) 62 false,ζ 66 62 65] [1,66]) (.cond (.t 66) (.seq (.region [η 2 5] [2]) .ret) .skip)) (.seq (.av [φ 67 11 1,σ 68 (.fi 1 false 3 (.t 67)),φ 69 14 1,σ 70 (.fi 1 false 3 (.t 69)),σ 71 (.append 1 false 16 (.t 68) (.t 70)),σ 72 (.call 480 [.t 71]),μ 2 72] [] [] [2]) .ret)))),true⟩
def xy:ak:=⟨[.t 4],(.seq (.region [σ 2 (.box 17 (.t 0)),η 4 0] [1,2]) (.seq (.seq (.region [φ 5 10 2,ρ 6 5,γ 7 .eql 6 1,μ 8 7,Μ 9 1 8 true,τ 10 (.bin .rem (.t 9) (κ 2)) 8 true,τ 11 (.bin .eql (.t 10) (κ 0)) 8 true,ξ 12 8 11] [2,12]) (.cond (.t 12) (.seq (.region [φ 13 5 2,ρ 14 13,μ 4 14] [4]) .ret) .skip)) (.seq (.region [φ 15 4 2,ρ 16 15,μ 4 16] [4]) .ret))),true⟩
def Dm:ak:=⟨[.t 2],(.seq (.region [σ 1 (.box 17 (.t 0)),η 2 0] [1]) (.seq (.region [φ 3 0 1,ρ 4 3,φ 5 4 1,ρ 6 5,β 7 .sub 4 6,φ 8 5 1,ρ 9 8,β 10 .sub 7 9,φ 11 7 1,ρ 12 11,φ 13 6 1,ρ 14 13,γ 15 .sub 14 1,β 16 .mul 12 15,β 17 .sub 10 16,φ 18 6 1,ρ 19 18,β 20 .quo 17 19,μ 2 20] [2]) .ret)),true⟩
def B5:ak:=⟨[.t 2],(.seq (.region [σ 1 (.box 17 (.t 0)),η 2 0] [1]) (.seq (.region [φ 3 1 1,ρ 4 3,φ 5 2 1,ρ 6 5,β 7 .sub 4 6,φ 8 3 1,ρ 9 8,β 10 .sub 7 9,μ 2 10] [2]) .ret)),true⟩
def qH:RC:=(.seq (.region [β 12 .lss 11 10] [0,9,10,11,12]) (.seq (.cond (.t 12) .skip (.exit 0)) (.seq (.block 1 (.seq (.region [ι 13 1 9 11,ρ 14 13,μ 4 14] [0,4,9,10,11]) (.seq (.region [μ 15 4,ν 16 .str 15,γ 17 .gtr 16 100] [0,9,10,11,17]) (.cond (.t 17) (.seq (.region [η 2 3] [2]) .ret) .skip)))) (.region [γ 18 .add 11 1,μ 11 18] [0,9,10,11]))))
def qN:RC:=.loop [0,9,10,11] qH
def kN:RC:=(.seq (.region [β 28 .lss 27 26] [6,19,20,21,26,27,28]) (.seq (.cond (.t 28) .skip (.exit 4)) (.seq (.block 5 (.seq (.region [μ 29 27,μ 7 29] [6,7,19,20,21,26,27]) (.seq (.region [μ 30 6,μ 31 7,σ 32 (.index (.t 30) (.t 31)),μ 8 32] [6,8,19,20,21,26,27]) (.seq (.region [μ 33 8,σ 34 (.bin .neq (.t 33) (.c (.int .u8 (.ofNat 3)))),μ 35 34,Μ 36 8 35 true,τ 37 (.bin .lss (.t 36) (.c (.int .u8 (.ofNat 32)))) 35 true,Μ 38 37 35 true,Μ 39 8 38 false,τ 40 (.bin .gtr (.t 39) (.c (.int .u8 (.ofNat 126)))) 38 false,τ 41 (.pick (.t 38) (.c (.bool true)) (.t 40)) 35 true,ξ 42 35 41] [6,19,20,21,26,27,42]) (.cond (.t 42) (.seq (.region [η 2 4] [2]) .ret) .skip))))) (.region [γ 43 .add 27 1,μ 27 43] [6,19,20,21,26,27]))))
def pQ:RC:=.loop [6,19,20,21,26,27] kN
def rk:RC:=(.seq (.region [β 22 .lss 21 20] [19,20,21,22]) (.seq (.cond (.t 22) .skip (.exit 2)) (.seq (.block 3 (.seq (.region [ι 23 1 19 21,ρ 24 23,μ 6 24] [6,19,20,21]) (.seq (.region [μ 25 6,ν 26 .str 25,η 27 0] [6,19,20,21,26,27]) (.block 4 pQ)))) (.region [γ 44 .add 21 1,μ 21 44] [19,20,21]))))
def rn:RC:=.loop [19,20,21] rk
def x4:ak:=⟨[.t 2],(.seq (.region [η 2 0] [0]) (.seq (.seq (.region [μ 9 0,ν 10 .slice 9,η 11 0] [0,9,10,11]) (.block 0 qN)) (.seq (.seq (.region [μ 19 0,ν 20 .slice 19,η 21 0] [19,20,21]) (.block 2 rn)) (.seq (.region [η 2 0] [2]) .ret)))),true⟩
def pN:ak:=⟨[.t 6],(.seq (.region [σ 3 (.box 17 (.t 0)),σ 6 (.mv (.c (.bool false)))] [1,2,3]) (.seq (.region [σ 13 (.call 395 []),μ 7 13] [1,2,3,7]) (.seq (.region [Λ 15 17 3,μ 16 1,σ 17 (.call 414 [.t 15,.t 16,(.c (.bool false))]),μ 14 17,ε 18 14 0,ε 19 14 1,σ 8 (.alloc [(.str []),(.str []),δ,δ,δ,δ,δ,δ,δ,δ,θ,θ,(.bool false)]),ω 13 8 18,μ 9 19] [1,2,3,7,8,9]) (.seq (.region [Λ 21 17 3,μ 22 2,σ 23 (.call 414 [.t 21,.t 22,(.c (.bool false))]),μ 20 23,ε 24 20 0,ε 25 20 1,σ 10 (.alloc [(.str []),(.str []),δ,δ,δ,δ,δ,δ,δ,δ,θ,θ,(.bool false)]),ω 13 10 24,μ 11 25] [1,2,3,7,8,9,10,11]) (.seq (.seq (.region [μ 26 9,γ 27 .neq 26 0,μ 28 27,Μ 29 11 28 false,τ 30 (.bin .neq (.t 29) (κ 0)) 28 false,ζ 31 28 30,μ 32 31,Μ 33 1 32 false,Μ 34 2 32 false,τ 35 (.bin .eql (.t 33) (.t 34)) 32 false,ζ 36 32 35,μ 37 36,Μ 38 1 37 false,τ 39 (.bin .rem (.t 38) (κ 2)) 37 false,Μ 40 2 37 false,τ 41 (.bin .rem (.t 40) (κ 2)) 37 false,τ 42 (.bin .neq (.t 39) (.t 41)) 37 false,ζ 43 37 42] [1,3,7,8,10,43]) (.cond (.t 43) (.seq (.region [μ 44 7,μ 6 44] [6]) .ret) .skip)) (.seq (.region [μ 45 1,γ 46 .rem 45 2,σ 47 (.bin .sub (κ 2) (.t 46)),μ 12 47] [3,7,8,10,12]) (.seq (.av [μ 48 7,μ 49 48,Φ 50 0 8 49 true,Ρ 51 50 49 true,Φ 52 0 10 49 true,Ρ 53 52 49 true,τ 54 (.bin .neq (.t 51) (.t 53)) 49 true,Μ 55 12 49 true,Φ 56 11 3 49 true,τ 57 (.cP 1 3 (.t 56) (.t 55)) 49 true,Ρ 58 57 49 true,τ 59 (.call 644 [.t 58]) 49 true,τ 60 (.eq .bool false (.t 54) (.t 59)) 49 true,ξ 61 49 60,μ 62 61,Φ 63 1 8 62 true,Ρ 64 63 62 true,Φ 65 1 10 62 true,Ρ 66 65 62 true,τ 67 (.bin .neq (.t 64) (.t 66)) 62 true,Μ 68 12 62 true,Φ 69 14 3 62 true,τ 70 (.cP 1 3 (.t 69) (.t 68)) 62 true,Ρ 71 70 62 true,τ 72 (.call 644 [.t 71]) 62 true,τ 73 (.eq .bool false (.t 67) (.t 72)) 62 true,ξ 74 62 73,μ 6 74] [] [] [6]) .ret))))))),true⟩
def qt:RC:=(.seq (.seq (.region [μ 4 3,μ 5 0,ν 6 .str 5,β 7 .lss 4 6] [0,3,7]) (.cond (.t 7) .skip (.exit 0))) (.seq (.block 1 (.seq (.region [μ 10 0,μ 11 3,σ 12 (.index (.t 10) (.t 11)),σ 13 (.bin .eql (.t 12) (.c (.int .u8 (.ofNat 3))))] [0,3,13]) (.cond (.t 13) (.seq (.region [σ 2 (.mv (.c (.bool true)))] [2]) .ret) .skip))) (.region [μ 8 3,γ 9 .add 8 1,μ 3 9] [0,3])))
def rF:RC:=.loop [0,3] qt
def Bo:ak:=⟨[.t 2],(.seq (.region [σ 2 (.mv (.c (.bool false)))] [0]) (.seq (.seq (.region [η 3 0] [0,3]) (.block 0 rF)) (.seq (.region [σ 2 (.mv (.c (.bool false)))] [2]) .ret))),true⟩
def tree:TT:=(.node 141 (.node 74 (.node 51 (.node 30 (.node 21 (.node 13 (.leaf 10 (.code f10)) (.node 17 (.leaf 13 (.code f13)) (.leaf 17 (.code f17)))) (.node 27 (.node 23 (.leaf 21 (.code f21)) (.leaf 23 (.code f23))) (.node 29 (.leaf 27 (.code f27)) (.leaf 29 (.code f29))))) (.node 41 (.node 32 (.node 31 (.leaf 30 (.code f30)) (.leaf 31 (.code f31))) (.node 40 (.leaf 32 (.code f32)) (.leaf 40 (.code f40)))) (.node 43 (.node 42 (.leaf 41 (.code f41)) (.leaf 42 (.code f42))) (.node 44 (.leaf 43 (.code f43)) (.leaf 44 (.code f44)))))) (.node 63 (.node 56 (.node 54 (.leaf 51 (.code f51)) (.node 55 (.leaf 54 (.code f54)) (.leaf 55 (.code f55)))) (.node 61 (.node 57 (.leaf 56 (.code f56)) (.leaf 57 (.code f57))) (.node 62 (.leaf 61 (.code f61)) (.leaf 62 (.code f62))))) (.node 69 (.node 65 (.node 64 (.leaf 63 (.code f63)) (.leaf 64 (.eW dX))) (.node 68 (.leaf 65 (.code f65)) (.leaf 68 (.code f68)))) (.node 72 (.node 70 (.leaf 69 (.code f69)) (.leaf 70 (.code f70))) (.node 73 (.leaf 72 (.eW dT)) (.leaf 73 (.code f73))))))) (.node 126 (.node 114 (.node 108 (.node 76 (.leaf 74 (.code f74)) (.node 106 (.leaf 76 (.code f76)) (.leaf 106 (.code f106)))) (.node 110 (.node 109 (.leaf 108 (.code f108)) (.leaf 109 (.code f109))) (.node 113 (.leaf 110 (.code f110)) (.leaf 113 (.code f113))))) (.node 121 (.node 118 (.node 117 (.leaf 114 (.code f114)) (.leaf 117 (.code f117))) (.node 120 (.leaf 118 (.code f118)) (.leaf 120 (.code f120)))) (.node 123 (.node 122 (.leaf 121 (.code f121)) (.leaf 122 (.code f122))) (.node 124 (.leaf 123 (.code f123)) (.leaf 124 (.code f124)))))) (.node 133 (.node 129 (.node 127 (.leaf 126 (.code f126)) (.node 128 (.leaf 127 (.code f127)) (.leaf 128 (.code f128)))) (.node 131 (.node 130 (.leaf 129 (.code f129)) (.leaf 130 (.code f130))) (.node 132 (.leaf 131 (.code f131)) (.leaf 132 (.code f132))))) (.node 137 (.node 135 (.node 134 (.leaf 133 (.code f133)) (.leaf 134 (.code f134))) (.node 136 (.leaf 135 (.code f135)) (.leaf 136 (.code f136)))) (.node 139 (.node 138 (.leaf 137 (.code f137)) (.leaf 138 (.code f138))) (.node 140 (.leaf 139 (.code f139)) (.leaf 140 (.code f140)))))))) (.node 384 (.node 322 (.node 162 (.node 146 (.node 142 (.leaf 141 (.code f141)) (.node 145 (.leaf 142 (.code f142)) (.leaf 145 (.code f145)))) (.node 154 (.node 153 (.leaf 146 (.code f146)) (.leaf 153 (.code f153))) (.node 155 (.leaf 154 (.code f154)) (.leaf 155 (.code f155))))) (.node 307 (.node 234 (.node 211 (.leaf 162 (.code f162)) (.leaf 211 (.code f211))) (.node 293 (.leaf 234 (.code vm)) (.leaf 293 (.code Je)))) (.node 320 (.node 319 (.leaf 307 (.code yF)) (.leaf 319 (.code A0))) (.node 321 (.leaf 320 (.code CN)) (.leaf 321 (.code Bg)))))) (.node 346 (.node 332 (.node 330 (.leaf 322 (.code yO)) (.node 331 (.leaf 330 (.code B1)) (.leaf 331 (.code Cj)))) (.node 344 (.node 343 (.leaf 332 (.code Jj)) (.leaf 343 (.code BW))) (.node 345 (.leaf 344 (.code Al)) (.leaf 345 (.code yY))))) (.node 379 (.node 377 (.node 374 (.leaf 346 (.code BP)) (.leaf 374 (.code IG))) (.node 378 (.leaf 377 (.code Kn)) (.leaf 378 (.code Jn)))) (.node 381 (.node 380 (.leaf 379 (.code JH)) (.leaf 380 (.code J7))) (.node 383 (.leaf 381 (.code HZ)) (.leaf 383 (.code IL))))))) (.node 446 (.node 438 (.node 414 (.node 395 (.leaf 384 (.code JN)) (.node 413 (.leaf 395 (.code Iv)) (.leaf 413 (.code Lj)))) (.node 416 (.node 415 (.leaf 414 (.code At)) (.leaf 415 (.code Hb))) (.node 417 (.leaf 416 (.code rG)) (.leaf 417 (.code J6))))) (.node 442 (.node 440 (.node 439 (.leaf 438 (.code yr)) (.leaf 439 (.code AZ))) (.node 441 (.leaf 440 (.code oo)) (.leaf 441 (.code CT)))) (.node 444 (.node 443 (.leaf 442 (.code Cg)) (.leaf 443 (.code zK))) (.node 445 (.leaf 444 (.code I1)) (.leaf 445 (.code AR)))))) (.node 473 (.node 465 (.node 463 (.leaf 446 (.code xR)) (.node 464 (.leaf 463 (.code Ax)) (.leaf 464 (.code yU)))) (.node 467 (.node 466 (.leaf 465 (.code AF)) (.leaf 466 (.code uf))) (.node 472 (.leaf 467 (.code Dd)) (.leaf 472 (.code zJ))))) (.node 479 (.node 475 (.node 474 (.leaf 473 (.code uj)) (.leaf 474 (.code xy))) (.node 478 (.leaf 475 (.code Dm)) (.leaf 478 (.eW gE)))) (.node 643 (.node 480 (.leaf 479 (.code B5)) (.leaf 480 (.code x4))) (.node 644 (.leaf 643 (.code pN)) (.leaf 644 (.code Bo)))))))))
def fms:List (Nat×FuncId):=[(10,60),(13,38),(17,98),(21,122),(23,97),(27,53),(29,91),(30,92),(31,93),(32,94),(293,112),(40,54),(41,55),(42,56),(43,57),(44,58),(307,19),(51,130),(54,84),(55,85),(56,121),(57,123),(61,86),(62,87),(319,27),(63,88),(64,89),(320,29),(321,30),(65,90),(322,32),(68,116),(69,117),(70,118),(72,119),(73,120),(74,144),(330,42),(331,43),(75,145),(332,46),(76,146),(77,147),(343,70),(344,71),(345,72),(346,73),(106,28),(108,45),(109,74),(110,132),(113,44),(114,31),(117,40),(374,22),(118,41),(120,100),(121,47),(377,34),(122,131),(378,50),(123,48),(379,80),(124,154),(380,81),(381,82),(382,83),(126,39),(127,75),(383,111),(128,76),(384,113),(129,77),(130,78),(643,4),(131,61),(644,10),(132,62),(133,63),(134,64),(135,65),(136,66),(137,67),(138,68),(139,167),(395,3),(140,59),(141,101),(142,102),(143,95),(144,96),(145,181),(146,182),(153,188),(154,189),(155,138),(413,5),(414,6),(415,7),(416,8),(417,9),(162,159),(438,11),(439,12),(440,13),(441,14),(442,15),(443,16),(444,17),(445,18),(446,20),(463,21),(464,23),(465,24),(466,25),(467,26),(211,69),(472,33),(473,35),(218,79),(474,36),(475,37),(478,49),(479,51),(480,52),(234,99)]
def env:List (Nat×IntKind×List Nat):=[(2,.u8,iX),(0,.u64,nm)]
end Go.D.Tab
end
section
namespace Go.D.Tab
open Go.Proofs
def ah (n:Nat) (e:Def):Prop:=∀ f,jF fms env n=some f→dr Tryz.prog (jF fms env) tree.get e f
theorem ma {n:Nat} {i:FuncId} {e:Def} (hi:jF fms env n=some i) (h:dr Tryz.prog (jF fms env) tree.get e i):ah n e:=by
 intro f hf;rw[hi] at hf;cases hf;exact h
theorem ab {n:Nat} {i:FuncId} {F:ak} {fn:Func} (hi:jF fms env n=some i) (hg:Tryz.prog.funcs[i]? = some fn) (h:zd Tryz.prog (jF fms env) (ai tree.get) F fn=true):ah n (.code F):=ma hi (zS hg h)
theorem Ng:ah 10 (.code f10):=ab (by kernel_rfl) Tryz.func60 (by kernel_rfl)
theorem MG:ah 13 (.code f13):=ab (by kernel_rfl) Tryz.func38 (by kernel_rfl)
theorem L7:ah 17 (.code f17):=ab (by kernel_rfl) Tryz.func98 (by kernel_rfl)
theorem Mr:ah 21 (.code f21):=ab (by kernel_rfl) Tryz.func122 (by kernel_rfl)
theorem Nb:ah 23 (.code f23):=ab (by kernel_rfl) Tryz.func97 (by kernel_rfl)
theorem Mj:ah 27 (.code f27):=ab (by kernel_rfl) Tryz.func53 (by kernel_rfl)
theorem M1:ah 29 (.code f29):=ab (by kernel_rfl) Tryz.func91 (by kernel_rfl)
theorem LV:ah 30 (.code f30):=ab (by kernel_rfl) Tryz.func92 (by kernel_rfl)
theorem M5:ah 31 (.code f31):=ab (by kernel_rfl) Tryz.func93 (by kernel_rfl)
theorem Mc:ah 32 (.code f32):=ab (by kernel_rfl) Tryz.func94 (by kernel_rfl)
theorem My:ah 40 (.code f40):=ab (by kernel_rfl) Tryz.func54 (by kernel_rfl)
theorem MY:ah 41 (.code f41):=ab (by kernel_rfl) Tryz.func55 (by kernel_rfl)
theorem MV:ah 42 (.code f42):=ab (by kernel_rfl) Tryz.func56 (by kernel_rfl)
theorem M7:ah 43 (.code f43):=ab (by kernel_rfl) Tryz.func57 (by kernel_rfl)
theorem Mf:ah 44 (.code f44):=ab (by kernel_rfl) Tryz.func58 (by kernel_rfl)
theorem M3:ah 51 (.code f51):=ab (by kernel_rfl) Tryz.func130 (by kernel_rfl)
theorem Mb:ah 54 (.code f54):=ab (by kernel_rfl) Tryz.func84 (by kernel_rfl)
theorem MJ:ah 55 (.code f55):=ab (by kernel_rfl) Tryz.func85 (by kernel_rfl)
theorem L5:ah 56 (.code f56):=ab (by kernel_rfl) Tryz.func121 (by kernel_rfl)
theorem Nk:ah 57 (.code f57):=ab (by kernel_rfl) Tryz.func123 (by kernel_rfl)
theorem Mh:ah 61 (.code f61):=ab (by kernel_rfl) Tryz.func86 (by kernel_rfl)
theorem Mt:ah 62 (.code f62):=ab (by kernel_rfl) Tryz.func87 (by kernel_rfl)
theorem Nj:ah 63 (.code f63):=ab (by kernel_rfl) Tryz.func88 (by kernel_rfl)
theorem MR:ah 65 (.code f65):=ab (by kernel_rfl) Tryz.func90 (by kernel_rfl)
theorem MT:ah 68 (.code f68):=ab (by kernel_rfl) Tryz.func116 (by kernel_rfl)
theorem Nc:ah 69 (.code f69):=ab (by kernel_rfl) Tryz.func117 (by kernel_rfl)
theorem MU:ah 70 (.code f70):=ab (by kernel_rfl) Tryz.func118 (by kernel_rfl)
theorem M9:ah 73 (.code f73):=ab (by kernel_rfl) Tryz.func120 (by kernel_rfl)
theorem Mk:ah 74 (.code f74):=ab (by kernel_rfl) Tryz.func144 (by kernel_rfl)
theorem MW:ah 76 (.code f76):=ab (by kernel_rfl) Tryz.func146 (by kernel_rfl)
theorem Jb:ah 106 (.code f106):=ab (by kernel_rfl) Tryz.func28 (by kernel_rfl)
theorem JR:ah 108 (.code f108):=ab (by kernel_rfl) Tryz.func45 (by kernel_rfl)
theorem Iw:ah 109 (.code f109):=ab (by kernel_rfl) Tryz.func74 (by kernel_rfl)
theorem IT:ah 110 (.code f110):=ab (by kernel_rfl) Tryz.func132 (by kernel_rfl)
theorem Le:ah 113 (.code f113):=ab (by kernel_rfl) Tryz.func44 (by kernel_rfl)
theorem Ha:ah 114 (.code f114):=ab (by kernel_rfl) Tryz.func31 (by kernel_rfl)
theorem I4:ah 117 (.code f117):=ab (by kernel_rfl) Tryz.func40 (by kernel_rfl)
theorem K8:ah 118 (.code f118):=ab (by kernel_rfl) Tryz.func41 (by kernel_rfl)
theorem Hf:ah 120 (.code f120):=ab (by kernel_rfl) Tryz.func100 (by kernel_rfl)
theorem KZ:ah 121 (.code f121):=ab (by kernel_rfl) Tryz.func47 (by kernel_rfl)
theorem JE:ah 122 (.code f122):=ab (by kernel_rfl) Tryz.func131 (by kernel_rfl)
theorem JF:ah 123 (.code f123):=ab (by kernel_rfl) Tryz.func48 (by kernel_rfl)
theorem H7:ah 124 (.code f124):=ab (by kernel_rfl) Tryz.func154 (by kernel_rfl)
theorem Ku:ah 126 (.code f126):=ab (by kernel_rfl) Tryz.func39 (by kernel_rfl)
theorem Hv:ah 127 (.code f127):=ab (by kernel_rfl) Tryz.func75 (by kernel_rfl)
theorem H8:ah 128 (.code f128):=ab (by kernel_rfl) Tryz.func76 (by kernel_rfl)
theorem Jo:ah 129 (.code f129):=ab (by kernel_rfl) Tryz.func77 (by kernel_rfl)
theorem Lc:ah 130 (.code f130):=ab (by kernel_rfl) Tryz.func78 (by kernel_rfl)
theorem Hs:ah 131 (.code f131):=ab (by kernel_rfl) Tryz.func61 (by kernel_rfl)
theorem KL:ah 132 (.code f132):=ab (by kernel_rfl) Tryz.func62 (by kernel_rfl)
theorem Ix:ah 133 (.code f133):=ab (by kernel_rfl) Tryz.func63 (by kernel_rfl)
theorem IZ:ah 134 (.code f134):=ab (by kernel_rfl) Tryz.func64 (by kernel_rfl)
theorem Iz:ah 135 (.code f135):=ab (by kernel_rfl) Tryz.func65 (by kernel_rfl)
theorem Is:ah 136 (.code f136):=ab (by kernel_rfl) Tryz.func66 (by kernel_rfl)
theorem Hq:ah 137 (.code f137):=ab (by kernel_rfl) Tryz.func67 (by kernel_rfl)
theorem Kc:ah 138 (.code f138):=ab (by kernel_rfl) Tryz.func68 (by kernel_rfl)
theorem Km:ah 139 (.code f139):=ab (by kernel_rfl) Tryz.func167 (by kernel_rfl)
theorem JX:ah 140 (.code f140):=ab (by kernel_rfl) Tryz.func59 (by kernel_rfl)
theorem IK:ah 141 (.code f141):=ab (by kernel_rfl) Tryz.func101 (by kernel_rfl)
theorem Jk:ah 142 (.code f142):=ab (by kernel_rfl) Tryz.func102 (by kernel_rfl)
theorem Kv:ah 145 (.code f145):=ab (by kernel_rfl) Tryz.func181 (by kernel_rfl)
theorem Jg:ah 146 (.code f146):=ab (by kernel_rfl) Tryz.func182 (by kernel_rfl)
theorem Ht:ah 153 (.code f153):=ab (by kernel_rfl) Tryz.func188 (by kernel_rfl)
theorem Hi:ah 154 (.code f154):=ab (by kernel_rfl) Tryz.func189 (by kernel_rfl)
theorem IU:ah 155 (.code f155):=ab (by kernel_rfl) Tryz.func138 (by kernel_rfl)
theorem I3:ah 162 (.code f162):=ab (by kernel_rfl) Tryz.func159 (by kernel_rfl)
theorem H6:ah 211 (.code f211):=ab (by kernel_rfl) Tryz.func69 (by kernel_rfl)
theorem G8:ah 234 (.code vm):=ab (by kernel_rfl) Tryz.func99 (by kernel_rfl)
theorem HS:ah 293 (.code Je):=ab (by kernel_rfl) Tryz.func112 (by kernel_rfl)
theorem J4:ah 307 (.code yF):=ab (by kernel_rfl) Tryz.func19 (by kernel_rfl)
theorem KD:ah 319 (.code A0):=ab (by kernel_rfl) Tryz.func27 (by kernel_rfl)
theorem HL:ah 320 (.code CN):=ab (by kernel_rfl) Tryz.func29 (by kernel_rfl)
theorem Kf:ah 321 (.code Bg):=ab (by kernel_rfl) Tryz.func30 (by kernel_rfl)
theorem IS:ah 322 (.code yO):=ab (by kernel_rfl) Tryz.func32 (by kernel_rfl)
theorem IA:ah 330 (.code B1):=ab (by kernel_rfl) Tryz.func42 (by kernel_rfl)
theorem HD:ah 331 (.code Cj):=ab (by kernel_rfl) Tryz.func43 (by kernel_rfl)
theorem JW:ah 332 (.code Jj):=ab (by kernel_rfl) Tryz.func46 (by kernel_rfl)
theorem II:ah 343 (.code BW):=ab (by kernel_rfl) Tryz.func70 (by kernel_rfl)
theorem Kq:ah 344 (.code Al):=ab (by kernel_rfl) Tryz.func71 (by kernel_rfl)
theorem Ja:ah 345 (.code yY):=ab (by kernel_rfl) Tryz.func72 (by kernel_rfl)
theorem Ks:ah 346 (.code BP):=ab (by kernel_rfl) Tryz.func73 (by kernel_rfl)
theorem Lk:ah 374 (.code IG):=ab (by kernel_rfl) Tryz.func22 (by kernel_rfl)
theorem J0:ah 377 (.code Kn):=ab (by kernel_rfl) Tryz.func34 (by kernel_rfl)
theorem IX:ah 378 (.code Jn):=ab (by kernel_rfl) Tryz.func50 (by kernel_rfl)
theorem Hm:ah 379 (.code JH):=ab (by kernel_rfl) Tryz.func80 (by kernel_rfl)
theorem Hn:ah 380 (.code J7):=ab (by kernel_rfl) Tryz.func81 (by kernel_rfl)
theorem I2:ah 381 (.code HZ):=ab (by kernel_rfl) Tryz.func82 (by kernel_rfl)
theorem KS:ah 383 (.code IL):=ab (by kernel_rfl) Tryz.func111 (by kernel_rfl)
theorem GZ:ah 384 (.code JN):=ab (by kernel_rfl) Tryz.func113 (by kernel_rfl)
theorem H0:ah 395 (.code Iv):=ab (by kernel_rfl) Tryz.func3 (by kernel_rfl)
theorem Kw:ah 413 (.code Lj):=ab (by kernel_rfl) Tryz.func5 (by kernel_rfl)
theorem Lf:ah 414 (.code At):=ab (by kernel_rfl) Tryz.func6 (by kernel_rfl)
theorem KB:ah 415 (.code Hb):=ab (by kernel_rfl) Tryz.func7 (by kernel_rfl)
theorem Hz:ah 416 (.code rG):=ab (by kernel_rfl) Tryz.func8 (by kernel_rfl)
theorem Iy:ah 417 (.code J6):=ab (by kernel_rfl) Tryz.func9 (by kernel_rfl)
theorem Kl:ah 438 (.code yr):=ab (by kernel_rfl) Tryz.func11 (by kernel_rfl)
theorem HT:ah 439 (.code AZ):=ab (by kernel_rfl) Tryz.func12 (by kernel_rfl)
theorem Kh:ah 440 (.code oo):=ab (by kernel_rfl) Tryz.func13 (by kernel_rfl)
theorem Im:ah 441 (.code CT):=ab (by kernel_rfl) Tryz.func14 (by kernel_rfl)
theorem JC:ah 442 (.code Cg):=ab (by kernel_rfl) Tryz.func15 (by kernel_rfl)
theorem K4:ah 443 (.code zK):=ab (by kernel_rfl) Tryz.func16 (by kernel_rfl)
theorem JS:ah 444 (.code I1):=ab (by kernel_rfl) Tryz.func17 (by kernel_rfl)
theorem I7:ah 445 (.code AR):=ab (by kernel_rfl) Tryz.func18 (by kernel_rfl)
theorem JU:ah 446 (.code xR):=ab (by kernel_rfl) Tryz.func20 (by kernel_rfl)
theorem HB:ah 463 (.code Ax):=ab (by kernel_rfl) Tryz.func21 (by kernel_rfl)
theorem K7:ah 464 (.code yU):=ab (by kernel_rfl) Tryz.func23 (by kernel_rfl)
theorem JP:ah 465 (.code AF):=ab (by kernel_rfl) Tryz.func24 (by kernel_rfl)
theorem J5:ah 466 (.code uf):=ab (by kernel_rfl) Tryz.func25 (by kernel_rfl)
theorem I5:ah 467 (.code Dd):=ab (by kernel_rfl) Tryz.func26 (by kernel_rfl)
theorem Jt:ah 472 (.code zJ):=ab (by kernel_rfl) Tryz.func33 (by kernel_rfl)
theorem Ho:ah 473 (.code uj):=ab (by kernel_rfl) Tryz.func35 (by kernel_rfl)
theorem Jr:ah 474 (.code xy):=ab (by kernel_rfl) Tryz.func36 (by kernel_rfl)
theorem Jl:ah 475 (.code Dm):=ab (by kernel_rfl) Tryz.func37 (by kernel_rfl)
theorem Io:ah 479 (.code B5):=ab (by kernel_rfl) Tryz.func51 (by kernel_rfl)
theorem HX:ah 480 (.code x4):=ab (by kernel_rfl) Tryz.func52 (by kernel_rfl)
theorem IF:ah 643 (.code pN):=ab (by kernel_rfl) Tryz.func4 (by kernel_rfl)
theorem Kt:ah 644 (.code Bo):=ab (by kernel_rfl) Tryz.func10 (by kernel_rfl)
theorem Hu:ah 478 (.eW gE):=ma (i:=49) (by kernel_rfl) (oB Tryz.func49 (by kernel_rfl) (by kernel_rfl) (by kernel_rfl) (by kernel_rfl))
theorem LS:ah 72 (.eW dT):=ma (i:=119) (by kernel_rfl) (mH Tryz.func119 (by kernel_rfl) (by kernel_rfl) (by kernel_rfl) (by kernel_rfl))
theorem Md:ah 64 (.eW dX):=ma (i:=89) (by kernel_rfl) (mY Tryz.func89 (by kernel_rfl) (by kernel_rfl) (by kernel_rfl) (by kernel_rfl))
theorem Ig:cH Tryz.prog (jF fms env) tree.get:=sM (t:=tree) ⟨⟨⟨⟨⟨⟨Ng,⟨MG,L7⟩⟩,⟨⟨Mr,Nb⟩,⟨Mj,M1⟩⟩⟩,⟨⟨⟨LV,M5⟩,⟨Mc,My⟩⟩,⟨⟨MY,MV⟩,⟨M7,Mf⟩⟩⟩⟩,⟨⟨⟨M3,⟨Mb,MJ⟩⟩,⟨⟨L5,Nk⟩,⟨Mh,Mt⟩⟩⟩,⟨⟨⟨Nj,Md⟩,⟨MR,MT⟩⟩,⟨⟨Nc,MU⟩,⟨LS,M9⟩⟩⟩⟩⟩,⟨⟨⟨⟨Mk,⟨MW,Jb⟩⟩,⟨⟨JR,Iw⟩,⟨IT,Le⟩⟩⟩,⟨⟨⟨Ha,I4⟩,⟨K8,Hf⟩⟩,⟨⟨KZ,JE⟩,⟨JF,H7⟩⟩⟩⟩,⟨⟨⟨Ku,⟨Hv,H8⟩⟩,⟨⟨Jo,Lc⟩,⟨Hs,KL⟩⟩⟩,⟨⟨⟨Ix,IZ⟩,⟨Iz,Is⟩⟩,⟨⟨Hq,Kc⟩,⟨Km,JX⟩⟩⟩⟩⟩⟩,⟨⟨⟨⟨⟨IK,⟨Jk,Kv⟩⟩,⟨⟨Jg,Ht⟩,⟨Hi,IU⟩⟩⟩,⟨⟨⟨I3,H6⟩,⟨G8,HS⟩⟩,⟨⟨J4,KD⟩,⟨HL,Kf⟩⟩⟩⟩,⟨⟨⟨IS,⟨IA,HD⟩⟩,⟨⟨JW,II⟩,⟨Kq,Ja⟩⟩⟩,⟨⟨⟨Ks,Lk⟩,⟨J0,IX⟩⟩,⟨⟨Hm,Hn⟩,⟨I2,KS⟩⟩⟩⟩⟩,⟨⟨⟨⟨GZ,⟨H0,Kw⟩⟩,⟨⟨Lf,KB⟩,⟨Hz,Iy⟩⟩⟩,⟨⟨⟨Kl,HT⟩,⟨Kh,Im⟩⟩,⟨⟨JC,K4⟩,⟨JS,I7⟩⟩⟩⟩,⟨⟨⟨JU,⟨HB,K7⟩⟩,⟨⟨JP,J5⟩,⟨I5,Jt⟩⟩⟩,⟨⟨⟨Ho,Jr⟩,⟨Jl,Hu⟩⟩,⟨⟨Io,HX⟩,⟨IF,Kt⟩⟩⟩⟩⟩⟩⟩
end Go.D.Tab
end
section
namespace Go.D
structure Rec where
 C:RC→Fr→St→Option (Ex×Fr×St)
 O:List af→Fr→St→Option (Fr×St)
 S:List af→Fr→St→List St→Option (Fr×List St)
 N:af→Fr→St→Option (DV×St)
 A:Fr→List af→List St→List (Nat×List Nat)→Bool
 K:Fr→af→List St→List Nat→Bool
 F:Nat→List DV→St→Option (DV×St)
 V:DV→List DV→St→Option (DV×St)
def b7 (T:Tab) (R:Rec):RC→Fr→St→Option (Ex×Fr×St)
 | c,fr,st=>
   match c with
   | .skip=>some (.normal,fr,st)
   | .region ops live=>match R.O ops fr st with | some (fr',st')=>some (.normal,fr'.bl live,st') | none=>none
   | .av ops hs chk live=>
     match fg fr hs st ops with
     | some (st1,ops2)=>
       match R.S ops2 fr st1 [st1] with
       | some (fr',sts)=>if R.A fr' ops2 sts.reverse chk then (match sts with | st'::_=>some (.normal,fr'.bl live,st') | []=>none) else none
       | none=>none
     | none=>none
   | .seq a b=>
     match R.C a fr st with
     | some (.normal,fr',st')=>R.C b fr' st'
     | r=>r
   | .cond x a b=>match x.ev fr with | .bool true=>R.C a fr st | .bool false=>R.C b fr st | _=>none
   | .block id a=>
     match R.C a fr st with
     | some (.exit id',fr',st')=>if id'=id then some (.normal,fr',st') else some (.exit id',fr',st')
     | r=>r
   | .loop live a=>
     match R.C a (fr.bl live) st with
     | some (.normal,fr',st')=>R.C (.loop live a) fr' st'
     | r=>r
   | .exit id=>some (.exit id,fr,st)
   | .ret=>some (.ret,fr,st)
   | .stuck=>none
   | .eZ f params assign body live=>
     let l:=st.heap.length
     let fr0:=fr.bl live
     match f.ev fr0 with
     | .fn g first captured=>
       if du T g then
        match R.F g (first++[.yield l]++captured) (st.push (.loop ⟨fr0,params,assign,body,0,none⟩)) with
        | some (_,st')=>
          match st'.heap[l]? with
          | some (.loop lo)=>
            if lo.state=1 then none else
            match lo.pending with
            | none=>some (.normal,fr0,{ st' with heap:=st'.heap.set l (.loop { lo with state:=3 }) })
            | some e=>some (e,fr0,{ st' with heap:=st'.heap.set l (.loop { lo with state:=3 }) })
          | _=>none
        | none=>none
       else none
     | _=>none
def ir (_T:Tab) (R:Rec):List af→Fr→St→Option (Fr×St)
 | [],fr,st=>some (fr,st)
 | o::r,fr,st=>
   match R.N o fr st with
   | some (v,st')=>R.O r (fr.put o.dst v) st'
   | none=>none
def eB (T:Tab) (R:Rec):List af→Fr→St→List St→Option (Fr×List St)
 | [],fr,_,sts=>some (fr,sts)
 | o::r,fr,st,sts=>
   match R.N o fr st with
   | some (v,st')=>if aP (ai T) o.op then R.S r (fr.put o.dst v) st' (st'::sts) else R.S r (fr.put o.dst v) st sts
   | none=>none
def di (T:Tab) (R:Rec):af→Fr→St→Option (DV×St)
 | o,fr,st=>
   match dh fr o.guard with
   | none=>none
   | some false=>some (.tuple [],st)
   | some true=>
     match o.op with
     | .call g args=>R.F g (args.map (X.ev fr)) st
     | .bd f args=>R.V (f.ev fr) (args.map (X.ev fr)) st
     | .cI f args=>
       match f.ev fr with
       | .fn g first captured=>if ai T g then R.F g (first++args.map (X.ev fr)++captured) st else none
       | _=>none
     | op=>aq st fr op
def gX (_T:Tab) (R:Rec):Fr→List af→List St→List (Nat×List Nat)→Bool
 | _,_,_,[]=>true
 | fr,ops,sts,(i,vs)::r=>
   (match ops[i]? with
    | some o=>R.K fr o sts vs
    | none=>false)&&R.A fr ops sts r
def gU (_T:Tab) (R:Rec):Fr→af→List St→List Nat→Bool
 | _,_,_,[]=>true
 | fr,o,sts,j::r=>
   (match sts[j]? with
    | some st=>(match R.N o fr st,o.dst with | some (v,_),some d=>DV.beq v (fr.get d) | _,_=>false)
    | none=>false)&&R.K fr o sts r
def cS (T:Tab) (R:Rec):Nat→List DV→St→Option (DV×St)
 | g,args,st=>
   match T g with
   | none=>none
   | some (.eW p)=>p args st
   | some (.dx p)=>(p args).map fun v=>(v,st)
   | some (.code f)=>
     if f.ez then
      match R.C f.body (aX args 0) st.enter with
      | some (.exit _,_,_)=>none
      | some (_,fr,st')=>
        match dG st' fr f.results with
        | some v=>(bj st st' v).map fun v'=>(v',st)
        | none=>none
      | none=>none
     else
      match R.C f.body (aX args 0) st with
      | some (.exit _,_,_)=>none
      | some (_,fr,st')=>(dG st' fr f.results).map fun v=>(v,st')
      | none=>none
def hM (_T:Tab) (R:Rec):DV→List DV→St→Option (DV×St)
 | f,args,st=>
   match f with
   | .fn g first captured=>R.F g (first++args++captured) st
   | .yield l=>
     match st.heap[l]? with
     | some (.loop lo)=>
       if st.base≤l∧args.length=lo.params.length then
        match R.C lo.assign (cl lo.fr lo.params args) st with
        | some (.normal,fr1,st1)=>
          match st1.heap[l]? with
          | some (.loop lo1)=>
            if lo1.state=0 then
             match R.C lo.body fr1 { st1 with heap:=st1.heap.set l (.loop { lo1 with state:=1 }) } with
             | some (e,_,st2)=>
               match st2.heap[l]? with
               | some (.loop lo2)=>
                 match e with
                 | .normal=>some (.bool true,{ st2 with heap:=st2.heap.set l (.loop { lo2 with state:=0,pending:=none }) })
                 | e=>some (.bool false,{ st2 with heap:=st2.heap.set l (.loop { lo2 with state:=2,pending:=some e }) })
               | _=>none
             | none=>none
            else none
          | _=>none
        | _=>none
       else none
     | _=>none
   | _=>none
def sr:Rec:=⟨fun _ _ _=>none,fun _ _ _=>none,fun _ _ _ _=>none,fun _ _ _=>none,fun _ _ _ _=>false,fun _ _ _ _=>false,fun _ _ _=>none,fun _ _ _=>none⟩
def c6 (T:Tab) (R:Rec):Rec:=⟨b7 T R,ir T R,eB T R,di T R,gX T R,gU T R,cS T R,hM T R⟩
def cK (T:Tab):Nat→Rec
 | 0=>sr
 | n+1=>c6 T (cK T n)
def oQ (T:Tab) (n:Nat):Rec:=⟨c5 T n,fa T n,cV T n,bU T n,gh T n,gg T n,dE T n,iM T n⟩
theorem Bu (T:Tab):oQ T 0=sr:=by
 unfold oQ sr;rw[Rec.mk.injEq];refine⟨?_,?_,?_,?_,?_,?_,?_,?_⟩
 · funext c fr st;cases c<;>simp[c5]
 · funext a b c;simp[fa]
 · funext a b c d;simp[cV]
 · funext a b c;simp[bU]
 · funext a b c d;simp[gh]
 · funext a b c d;simp[gg]
 · funext a b c;simp[dE]
 · funext a b c;simp[iM]
theorem AE (T:Tab) (n:Nat):oQ T (n+1)=c6 T (oQ T n):=by
 unfold oQ c6;rw[Rec.mk.injEq];refine⟨?_,?_,?_,?_,?_,?_,?_,?_⟩
 · funext c fr st;cases c<;>first | rfl | (simp only[c5,b7];done) | (simp only[c5,b7];rfl)
 · funext a b c;cases a<;>first | rfl | (simp only[fa,ir];done) | (simp only[fa,ir];rfl)
 · funext a b c d;cases a<;>first | rfl | (simp only[cV,eB];done) | (simp only[cV,eB];rfl)
 · funext a b c;first | rfl | (simp only[bU,di];done) | (simp only[bU,di];rfl)
 · funext a b c d;cases d<;>first | rfl | (simp only[gh,gX];done) | (simp only[gh,gX];rfl)
 · funext a b c d;cases d<;>first | rfl | (simp only[gg,gU];done) | (simp only[gg,gU];rfl)
 · funext a b c;first | rfl | (simp only[dE,cS];done) | (simp only[dE,cS];rfl)
 · funext a b c;first | rfl | (simp only[iM,hM];done) | (simp only[iM,hM];rfl)
theorem l9 (T:Tab):∀ n,cK T n=oQ T n
 | 0=>(Bu T).symm
 | n+1=>by rw[AE,← l9 T n];rfl
theorem mq {T:Tab} {n g:Nat} {args:List DV} {st:St} {r:Option (DV×St)} (h:(cK T n).F g args st=r):dE T n g args st=r:=by
 rw[l9] at h;exact h
end Go.D
end
