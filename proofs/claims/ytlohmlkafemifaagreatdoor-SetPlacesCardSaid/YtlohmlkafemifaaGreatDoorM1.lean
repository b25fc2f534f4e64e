import Derived.Laws.IdiomStrings
import Derived.Laws.MakeOwn
import Derived.Lib.Builder
import Derived.Lib.UnsafeStr
import Derived.Lib.FrozenHead
import Derived.Lib.MakeNoZero
import Derived.Lib.Bytealg
import Derived.Test.YtlohmlkafemifaaGreatDoorM0
/-! Texts 1 of this claim, joined. -/
set_option linter.unnecessarySimpa false
set_option linter.unusedSimpArgs false
set_option linter.unusedVariables false
open _root_.Array renaming getD_eq_getD_getElem? → aaj, getElem?_append_left → abt, getElem?_eq_getElem → abv, length_toList → abh
open _root_.Bool renaming and_eq_true → aac, eq_iff_iff → aaQ, false_eq_true → aao, false_or → abJ, not_eq_true → abw, or_eq_true → aa6
open _root_.List renaming all_eq_true → aae, any_eq_true → abf, append_assoc → aau, eq_nil_of_length_eq_zero → aaX, getD_eq_getElem?_getD → aaf, getElem?_append_left → aak, getElem?_append_right → aaz, getElem?_cons_succ → abd, getElem?_cons_zero → aav, getElem?_eq_getElem → aaa, getElem?_eq_some_iff → aad, getElem?_map → aaG, getElem?_set_ne → aam, getElem?_set_self → aaq, getElem_append_left → abi, getElem_append_right → abg, getElem_mem → aaN, getElem_of_mem → aa1, length_append → aag, length_cons → aaJ, length_drop → aa2, length_map → aaP, length_nil → abp, map_cons → aaH, map_nil → abD, mem_append → aaA, mem_map → aay, mem_of_getElem? → aat, mem_of_mem_drop → aaD, mem_of_mem_take → aa5, mem_range → abF, range → aan, take_of_length_le → aa7
open _root_.Nat renaming add_assoc → abE, add_mul → aaV, add_zero → abe, beq → aaT, eq_of_beq_eq_true → aba, le_of_ble_eq_true → aaL, le_refl → aai, le_trans → abl, lt_irrefl → abc, lt_of_lt_of_le → abj, mul_le_mul_right → aaK, zero_add → aar, zero_le → abB
open _root_.Option renaming isSome_iff_exists → abL, map_eq_some_iff → aah, map_some → abo, some → aab
section
namespace Go.D
open Go.RowKit
variable {P:Program} {fm:FM}
theorem u7 {t e:TypeId} {n len:Nat} {i:TypeInfo} {x j:X} {xo jo:Operand} {o:Oper} (ho:o.op=.indexAddr t xo jo) (ht:P.underlying t=some (.array len e)) (hi:P.info? e=some i) (hn:i.size=n) (hx:bP fm x xo) (hj:bP fm j jo):aP P fm (.gv n len x j) o:=by
 refine bh fun CR G w0 st w fr a v st' hs hf hrun=>?_;simp only[aA] at hrun;have hxv:=hx.ev (a:=a) hf;have hjv:=hj.ev (a:=a) hf;generalize hx0:a.eval xo=x0 at hxv;generalize hj0:a.eval jo=j0 at hjv;have hsz:(sizeOf e).run P w=.ok n w:=by unfold sizeOf typeInfo;simp[hi,hn]
 split at hrun
 · rename_i b off k q hb hq;rw[hb] at hxv;rw[hq] at hjv;split at hrun
   · rename_i hc;obtain⟨hc1,hc2⟩:=hc;simp only[aab.injEq,Prod.mk.injEq] at hrun;obtain⟨rfl,rfl⟩:=hrun;cases hjv
     cases hxv with
     | ptr _ _ r hm=>
       refine⟨rfl,.pointer (some ⟨r,off+q.toNat*n,none⟩),?_,.ptr b (off+q.toNat*n) r hm⟩;unfold execOp;simp only[ho,hx0,hj0];refine an ?_;unfold Instr.indexAt;simp[asIntOf,run_underlying ht,hc1,hc2,hsz,Addr.add_lit,Instr.sureAddr]
   · cases hrun
 · rename_i cs k q hb hq;rw[hb] at hxv;rw[hq] at hjv;split at hrun
   · rename_i hc;obtain⟨hc1,hc2,hc3⟩:=hc;simp only[aab.injEq,Prod.mk.injEq] at hrun;obtain⟨rfl,rfl⟩:=hrun;cases hjv
     cases hxv with
     | cm _ r off f hr hcc hp=>
       refine⟨rfl,.pointer (some ⟨r,off+q.toNat*n,none⟩),?_,.cm _ r (off+q.toNat*n) (fun i=>f (q.toNat*n+i)) (fun i hi=>?_) (fun i hi=>?_) ?_⟩
       · unfold execOp;simp only[ho,hx0,hj0];refine an ?_;unfold Instr.indexAt;simp[asIntOf,run_underlying ht,hc1,hc2,hsz,Addr.add_lit,Instr.sureAddr]
       · simp only[aa2] at hi;rw[abE];exact hr _ (by omega)
       · simp only[aa2] at hi;rw[List.getElem_drop];exact hcc _ (by omega)
       · rw[aae] at hp ⊢;exact fun y hy=>hp y (aaD hy)
   · cases hrun
 · cases hrun
theorem wF {t e:TypeId} {n len:Nat} {ag:Bool} {x j:X} {xo jo:Operand} {o:Oper} (ho:o.op=.index t xo jo) (ht:P.underlying t=some (.array len e)) (hty:ju P e n ag) (hx:bP fm x xo) (hj:bP fm j jo):aP P fm (.kE n ag len x j) o:=by
 refine bh fun CR G w0 st w fr a v st' hs hf hrun=>?_;simp only[aA] at hrun;have hxv:=hx.ev (a:=a) hf;have hjv:=hj.ev (a:=a) hf;generalize hx0:a.eval xo=x0 at hxv;generalize hj0:a.eval jo=j0 at hjv;split at hrun
 · rename_i vs k q hb hq;rw[hb] at hxv;rw[hq] at hjv;split at hrun
   · rename_i hc;obtain⟨hc1,hc2⟩:=hc;simp only[aah] at hrun;obtain⟨u,hu,hrun⟩:=hrun;cases hrun;cases hjv
     cases hxv with
     | agg _ cs hl hcc=>
       obtain⟨y,g1,g2⟩:=p7 (P:=P) (w:=w) hl hcc hu hty;refine⟨rfl,y,?_,g2⟩;unfold execOp;simp only[ho,hx0,hj0];refine an ?_;obtain⟨⟨d,hd,hag⟩,⟨i,hi,hsz⟩,h1⟩:=hty;have hsz:(sizeOf e).run P w=.ok n w:=by unfold sizeOf typeInfo;simp[hi,hsz]
       unfold Instr.index;simp[asIntOf,run_underlying ht,hc1,hc2,hsz,g1]
   · cases hrun
 · cases hrun
theorem ij {w:World} {r off q:Nat} (f:Nat→Value) (h:∀ i,i<q→w.cell? ⟨r,off+i,none⟩=some (f i)):(loadCells ⟨r,off,none⟩ q).run P w=.ok ((aan q).map f).toArray w:=
 run_loadCells (P:=P) w ⟨r,off,none⟩ q f (fun j hj=>by rw[Addr.add_lit];exact h j hj)
structure Dj (P:Program) (fm:FM) (G:Gh) (w:World) (n m:Nat) (news:List DV) (x:Value):Prop where
 len:(Builtin.lenOf x).run P w=.ok m w
 length:news.length=m*n
 bH:news.all DV.bH=true
 cells:∀ k w',k≤m→Below w.heap.size w w'→∃ vs,(Builtin.firstCells n k x).run P w'=.ok vs w'∧vs.size=k*n∧(∀ i (h:i<news.length),i<k*n→Rel fm G (news[i]) (vs.getD i undef))
theorem fO {CR:Nat→RC→Code→Prop} {G:Gh} {w0 w:World} {st:St} (hs:Sim fm CR G w0 st w) {n m:Nat} {news:List DV} {v:DV} {x:Value} (hv:Rel fm G v x) (h:bU st n v=some (m,news)):Dj P fm G w n m news x:=by
 unfold bU at h;split at h
 · rename_i tag n' tk nn xs;split at h
   · rename_i hnn;subst hnn;simp only[aab.injEq,Prod.mk.injEq] at h;obtain⟨rfl,rfl⟩:=h;cases hv;refine⟨rfl,by simp,rfl,fun k w' hk _=>⟨#[],rfl,by have h0:k=0:=Nat.le_zero.1 hk;subst h0;simp,fun i hi=>by simp at hi⟩⟩
   · rename_i hnn;split at h
     · rename_i hn';subst hn';simp only[aab.injEq,Prod.mk.injEq] at h;obtain⟨rfl,rfl⟩:=h
       cases hv with
       | iJ=>simp at hnn
       | list _ _ _ _ r off cap f hr hc hp hk hl hn=>
         have hfl:=fe xs n' hn;refine⟨rfl,hfl,dq hp,fun k w' hk hb=>?_⟩;have hkn:k*n'≤(flat xs).length:=by rw[hfl];exact aaK _ hk
         have hcell:∀ i,i<k*n'→w'.cell? ⟨r,off+i,none⟩=some (f i):=by
          intro i hi;obtain⟨cs,t,fz,h1,h2⟩:=hs.ro r (off+i) (f i) (hr i (by omega));rw[cell?_cells ((hb.block r (get?_lt h1)).trans h1)];exact h2
         refine⟨_,ij f hcell,by simp,fun i hi hik=>?_⟩;rw[ja f _ i hik];exact hc i (by omega)
     · cases h
 · rename_i s;split at h
   · rename_i hn;subst hn;simp only[aab.injEq,Prod.mk.injEq] at h;obtain⟨rfl,rfl⟩:=h
     cases hv with
     | str _ ba hba=>
       subst hba;have hsz:ba.data.toList.length=ba.size:=by rw[abh];rfl
       refine⟨by rw[hsz];rfl,by simp,?_,fun k w' hk _=>⟨_,rfl,?_,fun i hi hik=>?_⟩⟩
       · rw[aae];intro y hy;obtain⟨b,_,rfl⟩:=aay.1 hy;rfl
       · have:(ba.extract 0 k).data.size=k:=by
          have h1:(ba.extract 0 k).data.size=(ba.extract 0 k).size:=rfl;rw[h1,ByteArray.size_extract];omega
         rw[Array.size_map,this,Nat.mul_one]
       · have hi':i<ba.data.size:=by simpa using hi
         have hg:(ba.extract 0 k).data[i]? = some ba.data[i]:=by
          rw[ByteArray.data_extract];rw[Array.getElem?_extract];rw[if_pos (by omega),aar,abv hi']
         have:((ba.extract 0 k).data.map fun b=>Value.int .u8 b.toNat).getD i undef=.int .u8 ba.data[i].toNat:=by
          rw[aaj,Array.getElem?_map,hg];rfl
         rw[this];simp only[List.getElem_map,Array.getElem_toList];exact .int _ _
   · cases h
 · rename_i n' ag b off len cap;split at h
   · rename_i hn';subst hn';split at h
     · rename_i g vs hb;split at h
       · rename_i hle;simp only[aab.injEq,Prod.mk.injEq] at h;obtain⟨rfl,rfl⟩:=h
         cases hv with
         | hsl _ _ _ _ _ _ r c hm hcap=>
           have hbo:st.heap[b]? = some (.cells g vs):=by
            unfold St.cells at hb;split at hb
            · rename_i g' vs' e;simp only[aab.injEq,Prod.mk.injEq] at hb;obtain⟨rfl,rfl⟩:=hb;exact e
            · cases hb
           obtain⟨r',ob,h1,h2,h3,h4⟩:=hs.obj b _ hbo rfl (hs.np hm);rw[hm] at h1;cases h1
           have key:∃ cs t fz,ob=.cells cs t fz∧vs.length≤cs.size∧(∀ i (h:i<vs.length),Rel fm G (vs[i]) (cs.getD i undef))∧vs.all DV.bH=true:=by
            cases g with
            | plain=>obtain⟨cs,t,fz,e,f1,f2,f3,f4⟩:=h3;exact⟨cs,t,fz,e,by omega,f2,f4⟩
            | typed ty=>obtain⟨cs,t,fz,e,_,f1,f2,f3,f4⟩:=h3;exact⟨cs,t,fz,e,by omega,f2,f4⟩
            | frz ty=>obtain⟨cs,t,fz,e,_,f1,_,f2,f3,f4⟩:=h3;exact⟨cs,t,fz,e,f1,f2,f4⟩
            | grown=>obtain⟨cs,t,fz,e,f1,_,f2,f3,f4⟩:=h3;exact⟨cs,t,fz,e,f1,f2,f4⟩
           obtain⟨cs,t,fz,rfl,k1,k2,k3⟩:=key;refine⟨rfl,by simp;omega,?_,fun k w' hk hbw=>?_⟩
           · rw[aae] at k3 ⊢;exact fun y hy=>k3 y (aaD (aa5 hy))
           · have hkn:k*n'≤len*n':=aaK _ hk
             have hcell:∀ i,i<k*n'→w'.cell? ⟨r,off+i,none⟩=some (cs.getD (off+i) undef):=by
              intro i hi;rw[cell?_cells ((hbw.block r (get?_lt h2)).trans h2)];rw[aaj,abv (by omega)];rfl
             refine⟨_,ij _ hcell,by simp,fun i hi hik=>?_⟩;rw[ja _ _ i hik];have:=k2 (off+i) (by omega);simpa using this
       · cases h
     · cases h
   · cases h
 · cases h
theorem uS {G:Gh}:∀ (vs:List DV) (l:List UInt8) (xs:List Value),fv vs=some l→xs.length=vs.length→(∀ i (h:i<vs.length),Rel fm G (vs[i]) (xs.getD i undef))→∃ ns:List Int,xs=ns.map (Value.int .u8)∧ns.map (fun n=>UInt8.ofNat n.toNat)=l
 | [],l,xs,h,hl,_=>by
   simp only[fv,aab.injEq] at h;subst h;exact⟨[],by simpa using hl,rfl⟩
 | v::vs,l,[],_,hl,_=>by simp at hl
 | v::vs,l,x::xs,h,hl,hr=>by
   unfold fv at h;split at h
   · rename_i heq;cases heq
   · rename_i n r heq;simp only[List.cons.injEq] at heq;obtain⟨rfl,rfl⟩:=heq;simp only[aah] at h;obtain⟨l',h1,rfl⟩:=h;obtain⟨ns,e1,e2⟩:=uS vs l' xs h1 (by simpa using hl) (fun i hi=>hr (i+1) (Nat.succ_lt_succ hi));have h0:=hr 0 (by simp);simp only[List.getElem_cons_zero,List.getD_cons_zero] at h0;cases h0;exact⟨n::ns,by simp[e1],by simp[e2]⟩
   · cases h
theorem jS:∀ (ns:List Int) (r:ByteArray),ns.foldl (fun r n=>r.push (UInt8.ofNat n.toNat)) r=⟨r.data++(ns.map fun n=>UInt8.ofNat n.toNat).toArray⟩
 | [],r=>by simp
 | n::ns,r=>by
   simp only[List.foldl_cons];rw[jS ns];simp[ByteArray.push]
theorem D8 {s d e:TypeId} {x:X} {xo:Operand} {o:Oper} (ho:o.op=.convert s d xo) (hs0:P.underlying s=some (.slice e)) (he:P.underlying e=some (.int .u8)) (hd:P.underlying d=some .string) (hx:bP fm x xo):aP P fm (.b2s x) o:=by
 refine bh fun CR G w0 st w fr a v st' hs hf hrun=>?_;simp only[aA] at hrun;have hxv:=hx.ev (a:=a) hf;split at hrun
 · rename_i m vs hnews;simp only[aah] at hrun;obtain⟨l,hl,hrun⟩:=hrun;cases hrun;split at hnews
   · cases hnews
   rename_i dv hdv hns;have hnr:=fO (P:=P) hs hxv hnews;generalize hx0:a.eval xo=x0 at hxv hnr;obtain⟨cs,g1,g2,g3⟩:=hnr.cells m w (aai _) (Below.refl _ w);have hlen:=hnr.length;obtain⟨ns,e1,e2⟩:=uS (fm:=fm) (G:=G) vs l cs.toList hl (by simp[g2,hlen]) (fun i hi=>by rw[bw];exact g3 i hi (by omega));have ecs:cs=(ns.map (Value.int .u8)).toArray:=by rw[← e1]
   have hsl:∀ (p:Option Addr) (n c:Nat),x0=.slice p n c→(execOp a.eval o).run P w=.ok (.value (.string ⟨l.toArray⟩)) w:=by
    intro p n c hp;subst hp;unfold execOp;simp only[ho,hx0];refine an ?_;rw[run_convert_bytes_string w s d e p n c hs0 he hd]
    have hnm:n=m:=by
     have:=hnr.len;simp only[Builtin.lenOf,Sem.run_pure] at this;cases this;rfl
    subst hnm
    cases p with
    | none=>
      have h0:cs = #[]:=by
       simp only[Builtin.firstCells,Sem.run_pure] at g1;cases g1;rfl
      have:ns=[]:=by
       rw[h0] at e1
       cases ns with
       | nil=>rfl
       | cons _ _=>simp at e1
      subst this;simp only[abD] at e2;subst e2;rfl
    | some ad=>
      have g1':(loadCells ad n).run P w=.ok (ns.map (Value.int .u8)).toArray w:=by
       simp only[Builtin.firstCells,Nat.mul_one] at g1;rw[g1,ecs]
      rw[run_bytesToString w ad n c ns g1',jS,e2];simp
   generalize X.ev fr x=dv' at hxv hnews hns;unfold bU at hnews;split at hnews
   · cases hxv with
     | iJ=>exact⟨rfl,_,hsl _ _ _ rfl,.str _ _ rfl⟩
     | list=>exact⟨rfl,_,hsl _ _ _ rfl,.str _ _ rfl⟩
   · exact absurd rfl (hns _)
   · cases hxv with
     | hsl=>exact⟨rfl,_,hsl _ _ _ rfl,.str _ _ rfl⟩
   · cases hnews
 · cases hrun
theorem kJ (s:ByteArray) (c i:Nat) (h:i<s.data.toList.length):(bytesRow s c)[i]? = some (.int .u8 (s.data.toList[i]).toNat):=by
 have hi:i<s.data.size:=by simpa using h
 unfold bytesRow;rw[abt (by simpa using hi),Array.getElem?_map,abv hi];simp
theorem tG (s:ByteArray) (c:Nat) (h:s.size≤c):(bytesRow s c).size=c:=by
 have:s.data.size=s.size:=rfl;simp[bytesRow,this];omega
theorem kB (s:List UInt8):flat (s.map fun b=>DV.int .u8 b.toNat)=s.map fun b=>DV.int .u8 b.toNat:=by
 induction s with
 | nil=>rfl
 | cons b s ih=>
   show DV.leaves (DV.int .u8 b.toNat)++flat (s.map fun b=>DV.int .u8 b.toNat)=_;rw[ih];rfl
theorem E8 {s d e:TypeId} {x:X} {xo:Operand} {o:Oper} (ho:o.op=.convert s d xo) (hs0:P.underlying s=some .string) (hd:P.underlying d=some (.slice e)) (he:P.underlying e=some (.int .u8)) (hx:bP fm x xo):aP P fm (.s2b x) o:=by
 intro CR G w0 st w fr a v st' hs hf hrun;simp only[aA] at hrun;have hxv:=hx.ev (a:=a) hf;split at hrun
 · rename_i l hl;rw[hl] at hxv;simp only[aab.injEq,Prod.mk.injEq] at hrun;obtain⟨rfl,rfl⟩:=hrun;generalize hx0:a.eval xo=x0 at hxv
   cases hxv with
   | str _ ba hba=>
     subst hba;have hc:=run_bytes_of_string (P:=P) w s d e ba hs0 hd he;generalize hcap:grownCap w ba.size 0 e=cap at hc;have hge:ba.size≤cap:=by rw[← hcap];exact grownCap_ge _ _ _ _
     have hsz:ba.data.toList.length=ba.size:=by rw[abh];rfl
     have hb:Below w.heap.size w (w.drew.alloc (.cells (bytesRow ba cap) e ((bytesRow ba cap).size,(bytesRow ba cap).size+1))):=(Below.refl _ w).drew.alloc (aai _) _;have hnew:(w.drew.alloc (.cells (bytesRow ba cap) e ((bytesRow ba cap).size,(bytesRow ba cap).size+1))).heap[w.heap.size]? = some (.cells (bytesRow ba cap) e ((bytesRow ba cap).size,(bytesRow ba cap).size+1)):=World.alloc_heap_new w.drew _;have hs':=hs.jr hb hnew ba.size;have hle:=Gh.q0 hs (bytesRow ba cap) ba.size;have hlist:=Rel.list (fm:=fm) (G:=G.jr w.heap.size (bytesRow ba cap) ba.size) st.cur 1 .no (ba.data.toList.map fun b=>DV.int .u8 b.toNat) w.heap.size 0 cap (fun i=>(bytesRow ba cap).getD i undef) ?_ ?_ ?_ trivial ?_ ?_
     · have e1:(ba.data.toList.map fun b=>DV.int .u8 b.toNat).length=ba.size:=by simp
       rw[e1] at hlist;refine⟨_,_,.slice (some ⟨w.heap.size,0,none⟩) ba.size cap,_,?_,.inl rfl,hle,hs',hlist⟩;unfold execOp;simp only[ho,hx0];exact an hc
     · intro i hi;rw[kB] at hi;have hi':i<ba.data.toList.length:=by simpa using hi
       have hlt:i<ba.size:=by omega
       simp[Gh.jr,hlt,kJ ba cap i hi',aaj]
     · intro i hi;have hi0:=hi;rw[kB] at hi;have hi':i<ba.data.toList.length:=by simpa using hi
       have e1:(flat (ba.data.toList.map fun b=>DV.int .u8 b.toNat))[i]=.int .u8 (ba.data.toList[i]).toNat:=by
        apply aab.inj;rw[← aaa hi0,kB];rw[aaG,aaa hi'];rfl
       rw[e1,aaj,kJ ba cap i hi'];exact .int _ _
     · rw[kB,aae];intro y hy;obtain⟨b,_,rfl⟩:=aay.1 hy;rfl
     · simpa[hsz] using hge
     · intro y hy;obtain⟨b,_,rfl⟩:=aay.1 hy;rfl
 · cases hrun
theorem Es {s d e:TypeId} {x:X} {xo:Operand} {o:Oper} (ho:o.op=.convert s d xo) (hs0:P.underlying s=some .string) (hd:P.underlying d=some (.slice e)) (he:P.underlying e=some (.int .u8)) (hx:bP fm x xo):aP P fm (.s2h x) o:=by
 intro CR G w0 st w fr a v st' hs hf hrun;simp only[aA] at hrun;have hxv:=hx.ev (a:=a) hf;split at hrun
 · rename_i l hl;rw[hl] at hxv;simp only[aab.injEq,Prod.mk.injEq] at hrun;obtain⟨rfl,rfl⟩:=hrun;generalize hx0:a.eval xo=x0 at hxv
   cases hxv with
   | str _ ba hba=>
     subst hba;have hc:=run_bytes_of_string (P:=P) w s d e ba hs0 hd he;generalize hcap:grownCap w ba.size 0 e=cap at hc;have hge:ba.size≤cap:=by rw[← hcap];exact grownCap_ge _ _ _ _
     have hsz:ba.data.toList.length=ba.size:=by rw[abh];rfl
     have hss:=tG ba cap hge
     have hs':=hs.drew.push (o:=.cells .grown (ba.data.toList.map fun b=>DV.int .u8 b.toNat)) (ob:=.cells (bytesRow ba cap) e ((bytesRow ba cap).size,(bytesRow ba cap).size+1)) cap
      ⟨bytesRow ba cap,e,_,rfl,by simpa[hss,hsz] using hge,by simp[Gh.push,hss],fun i hi=>by
       have hi':i<ba.data.toList.length:=by simpa using hi
       rw[aaj,kJ ba cap i hi'];simp only[List.getElem_map]
       exact .int _ _,fun i hi=>by omega,by
       rw[aae];intro y hy;obtain⟨b,_,rfl⟩:=aay.1 hy
       rfl⟩ rfl
     have hle:G.le (G.push st.heap.length w.heap.size cap):=Gh.cf hs.cV;refine⟨_,_,.slice (some ⟨w.heap.size,0,none⟩) ba.size cap,_,?_,.inl rfl,hle,hs',?_⟩
     · unfold execOp;simp only[ho,hx0];exact an hc
     · rw[hsz];exact .hsl _ _ _ _ _ _ _ _ (by simp[Gh.push]) ⟨hge,by simp[Gh.push]⟩
 · cases hrun
end Go.D
end
section
namespace Go.D
open Go.RowKit
variable {P:Program} {fm:FM}
theorem tT {t e:TypeId} {n bytes:Nat} {ag:Bool} {zs:List DV} {i:TypeInfo} {l c:X} {lo co:Operand} {o:Oper} (ho:o.op=.makeSlice t lo co) (ht:P.underlying t=some (.slice e)) (hi:P.info? e=some i) (hn:i.size=n) (hby:i.bytes=bytes) (hz:bI P e=some zs) (hzl:zs.length=n)
 (hl:bP fm l lo) (hc:bP fm c co):aP P fm (.cl n ag bytes zs l c) o:=by
 intro CR G w0 st w fr a v st' hs hf hrun;simp only[aA] at hrun;have hlv:=hl.ev (a:=a) hf;have hcv:=hc.ev (a:=a) hf;split at hrun
 · rename_i lv cv el ec;rw[el] at hlv;rw[ec] at hcv;split at hrun
   · rename_i hcond;obtain⟨c1,c2,c3,c4⟩:=hcond;simp only[aab.injEq,Prod.mk.injEq] at hrun;obtain⟨rfl,rfl⟩:=hrun;generalize hl0:a.eval lo=l0 at hlv;generalize hc0:a.eval co=c0 at hcv;cases hlv;cases hcv;obtain⟨i',z,hi',hzz,hcc⟩:=bX hz;rw[hi] at hi';cases hi';obtain⟨zl,zr⟩:=cI (fm:=fm) hcc;have hle:G.le (G.push st.heap.length w.heap.size 0):=Gh.cf hs.cV;have hrd:(aB:Int)=140737488355328:=rfl;rw[hrd] at c3 c4;have hrun:=run_make (P:=P) w t e i z ht hi hzz .i64 .i64 lv cv c1 c2 (by rw[hby,Int.mul_comm];omega) (by omega);obtain⟨s1,s2⟩:=pQ (fm:=fm) (G:=G.push st.heap.length w.heap.size 0) (zs:=zs) (z:=z.cells) (by simpa using zl) (fun i hi=>zr _ i hi) cv.toNat
     have hscal:(aO zs cv.toNat).all DV.bH=true:=by
      rw[aae];intro x hx;obtain⟨j,hj,rfl⟩:=aa1 hx;have hj':=hj;rw[dY] at hj';have:=getElem?_repl zs cv.toNat j hj';rw[aaa hj] at this;exact aae.1 (dq (eh hcc)) _ (aat this.symm)
     have hmade:madeCells z.cells (cv.toNat*i.size)=(Array.range (cv.toNat*zs.length)).map (z.cells[· % z.cells.size]!):=by rw[hn,hzl];rfl
     rw[← hmade] at s1 s2;have hs':=hs.push (o:=.cells .plain (aO zs cv.toNat)) (ob:=.cells (madeCells z.cells (cv.toNat*i.size)) e) 0 ⟨_,e,(0,0),rfl,s1,s2,fun i hi=>by simp,hscal⟩ rfl;refine⟨_,_,.slice (some ⟨w.heap.size,0,none⟩) lv.toNat cv.toNat,_,?_,.inl rfl,hle,hs',.hsl _ _ _ _ _ _ _ _ (by simp[Gh.push]) ⟨rfl,by omega⟩⟩;unfold execOp;simp only[ho,hl0,hc0];exact an hrun
   · cases hrun
 · cases hrun
theorem tD {e:TypeId} {zs:List DV} {o:Oper} (ho:o.op=.alloc e) (hz:bI P e=some zs):kx P fm (.alloc zs) o:=by
 obtain⟨i,z,hi,hzz,hc⟩:=bX hz;intro CR G w0 st w fr a b v ob hs hf hfree;simp only[jv,aab.injEq,Prod.mk.injEq] at hfree;obtain⟨rfl,rfl⟩:=hfree;obtain⟨hl,hr⟩:=cI (fm:=fm) hc;refine⟨rfl,.cells z.cells e,.pointer (some ⟨w.heap.size,0,none⟩),_,?_,.inl rfl,fun G' hG'=>⟨⟨z.cells,e,(0,0),rfl,by simpa using hl,fun i hi=>by rw[← bw];exact hr _ i hi,fun i hi=>by simp,dq (eh hc)⟩,.ptr _ _ _ hG'⟩⟩;unfold execOp;simp only[ho];refine an ?_;unfold Instr.alloc;simp only[Sem.run_bind,oH hi hzz,Result.andThen_ok];rfl
theorem tH {t:TypeId} {o:Oper} (ho:o.op=.makeMap t none):kx P fm .iQ o:=by
 intro CR G w0 st w fr a b v ob hs hf hfree;simp only[jv,aab.injEq,Prod.mk.injEq] at hfree;obtain⟨rfl,rfl⟩:=hfree;refine⟨rfl,.map #[] 0,.map (some w.heap.size),_,?_,.inl rfl,fun G' hG'=>⟨⟨#[],0,rfl,rfl,fun i k v hi=>by simp at hi⟩,.map _ _ hG'⟩⟩;unfold execOp;simp only[ho,Option.map_none];exact an (by simp[Instr.makeMap])
theorem qz {t e:TypeId} {n bytes:Nat} {ag:Bool} {zs:List DV} {i:TypeInfo} {l c:X} {lo co:Operand} {o:Oper} (ho:o.op=.makeSlice t lo co) (ht:P.underlying t=some (.slice e)) (hi:P.info? e=some i) (hn:i.size=n) (hby:i.bytes=bytes) (hz:bI P e=some zs) (hzl:zs.length=n)
 (hl:bP fm l lo) (hc:bP fm c co):kx P fm (.cl n ag bytes zs l c) o:=by
 intro CR G w0 st w fr a b v ob hs hf hfree;simp only[jv] at hfree;have hlv:=hl.ev (a:=a) hf;have hcv:=hc.ev (a:=a) hf;split at hfree
 · rename_i lv cv el ec;rw[el] at hlv;rw[ec] at hcv;split at hfree
   · rename_i hcond;obtain⟨c1,c2,c3,c4⟩:=hcond;simp only[aab.injEq,Prod.mk.injEq] at hfree;obtain⟨rfl,rfl⟩:=hfree;generalize hl0:a.eval lo=l0 at hlv;generalize hc0:a.eval co=c0 at hcv;cases hlv;cases hcv;obtain⟨i',z,hi',hzz,hcc⟩:=bX hz;rw[hi] at hi';cases hi';obtain⟨zl,zr⟩:=cI (fm:=fm) hcc;have hrd:(aB:Int)=140737488355328:=rfl;rw[hrd] at c3 c4;have hrun:=run_make (P:=P) w t e i z ht hi hzz .i64 .i64 lv cv c1 c2 (by rw[hby,Int.mul_comm];omega) (by omega)
     have hscal:(aO zs cv.toNat).all DV.bH=true:=by
      rw[aae];intro x hx;obtain⟨j,hj,rfl⟩:=aa1 hx;have hj':=hj;rw[dY] at hj';have:=getElem?_repl zs cv.toNat j hj';rw[aaa hj] at this;exact aae.1 (dq (eh hcc)) _ (aat this.symm)
     have hmade:madeCells z.cells (cv.toNat*i.size)=(Array.range (cv.toNat*zs.length)).map (z.cells[· % z.cells.size]!):=by rw[hn,hzl];rfl
     refine⟨rfl,.cells (madeCells z.cells (cv.toNat*i.size)) e,.slice (some ⟨w.heap.size,0,none⟩) lv.toNat cv.toNat,_,?_,.inl rfl,fun G' hG'=>?_⟩
     · unfold execOp;simp only[ho,hl0,hc0];exact an hrun
     · obtain⟨s1,s2⟩:=pQ (fm:=fm) (G:=G') (zs:=zs) (z:=z.cells) (by simpa using zl) (fun i hi=>zr _ i hi) cv.toNat;rw[← hmade] at s1 s2;exact⟨⟨_,e,(0,0),rfl,s1,s2,fun i hi=>by simp,hscal⟩,.hsl _ _ _ _ _ _ _ _ hG' ⟨rfl,by omega⟩⟩
   · cases hfree
 · cases hfree
def Gh.ew (G:Gh) (t s r len cap n:Nat):Gh:={ G with bN:=fun t' s'=>if t'=t∧s'=s then some (r,len,cap,n) else G.bN t' s' }
theorem Sim.Iq {CR:Nat→RC→Code→Prop} {G:Gh} {w0 w:World} {st:St} (hs:Sim fm CR G w0 st w) {t s:Nat} (h:∀ s',st.bt[t]? = some s'→s'<s):G.bN t s=none:=by
 cases e:G.bN t s with
 | none=>rfl
 | some x=>
   obtain⟨s',h1,h2⟩:=hs.bN t s x e;have:=h s' h1;omega
theorem Gh.l3 {CR:Nat→RC→Code→Prop} {G:Gh} {w0 w:World} {st:St} (hs:Sim fm CR G w0 st w) {t s:Nat} (h:∀ s',st.bt[t]? = some s'→s'<s) (r len cap n:Nat):G.le (G.ew t s r len cap n):=by
 have hn:=hs.Iq h;refine⟨⟨fun _ _ _ x=>x,fun _ _ x=>x,fun t' s' x hx=>?_,fun _ _ _=>rfl⟩,fun _ x=>x,fun _ x=>x,rfl,fun _ _ _=>rfl,rfl,rfl,rfl⟩;simp only[Gh.ew];rw[if_neg]
 · exact hx
 · rintro⟨rfl,rfl⟩;rw[hn] at hx;cases hx
theorem get?_append_cases {α:Type} {l:List α} {x y:α} {t:Nat} (h:(l++[x])[t]? = some y):(t<l.length∧l[t]? = some y)∨(t=l.length∧y=x):=by
 rcases getElem?_push_cases _ _ _ _ h with h|h
 · exact .inr h
 · exact .inl h
theorem Sim.z0 {CR:Nat→RC→Code→Prop} {G:Gh} {w0 w:World} {st:St} (hs:Sim fm CR G w0 st w) {t s r len cap n:Nat} {bt:List Nat} {cs:Array Value} {ty:TypeId}
 (hold:∀ s',st.bt[t]? = some s'→s'<s) (hnew:bt[t]? = some s) (hoth:∀ u x,u≠t→(bt[u]? = some x↔st.bt[u]? = some x))
 (hn:0<n) (hlc:len≤cap) (hrow:w.heap[r]? = some (.cells cs ty (0,0))) (hsz:cs.size=cap*n) (hro:∀ i,len*n≤i→G.ro r i=none)
 (hobj:∀ b o,st.heap[b]? = some o→o.cQ=false→G.mu b≠some r) (hfl:st.bm≤t→G.floor≤r)
 (hdis:∀ u x y,u≠t→st.bt[u]? = some x→G.bN u x=some y→y.1≠r) :
 Sim fm CR (G.ew t s r len cap n) w0 { st with bt:=bt } w:=by
 have hle:=(Gh.l3 hs hold r len cap n).toSub;have hh:∀ u x,u≠t→(G.ew t s r len cap n).bN u x=G.bN u x:=fun u x hu=>by simp only[Gh.ew];rw[if_neg (fun h=>hu h.1)]
 have hh':(G.ew t s r len cap n).bN t s=some (r,len,cap,n):=by simp[Gh.ew]
 refine { cu:=hs.cu,cd:=hs.cd,obj:=?_,ro:=hs.ro,dR:=hs.dR,tok:=?_,bL:=?_,bN:=?_,dfr:=hs.dfr,lps:=hs.lps,aQ:=hs.aQ,below:=hs.below,base:=hs.base,bm:=hs.bm,bT:=hs.bT,bD:=hs.bD,env:=hs.env }
 · intro b o ho hg hpd;obtain⟨r',ob,h1,h2,h3,h4⟩:=hs.obj b o ho hg hpd;exact⟨r',ob,h1,h2,h3.sub hle h1,h4⟩
 · intro u x hu;by_cases e:u=t
   · subst e;rw[hnew] at hu;cases hu;exact⟨r,len,cap,n,cs,ty,hh',hn,hlc,hrow,hsz,hro,hobj,hfl⟩
   · obtain⟨r',len',cap',n',cs',ty',h1,h2⟩:=hs.tok u x ((hoth u x e).1 hu);exact⟨r',len',cap',n',cs',ty',by rw[hh u x e];exact h1,h2⟩
 · intro u u' x x' y y' hu hu' hy hy' hyy;by_cases e:u=t<;>by_cases e':u'=t
   · rw[e,e']
   · subst e;rw[hnew] at hu;cases hu;rw[hh'] at hy;cases hy;rw[hh u' x' e'] at hy';exact absurd hyy.symm (hdis u' x' y' e' ((hoth u' x' e').1 hu') hy')
   · subst e';rw[hnew] at hu';cases hu';rw[hh'] at hy';cases hy';rw[hh u x e] at hy;exact absurd hyy (hdis u x y e ((hoth u x e).1 hu) hy)
   · rw[hh u x e] at hy;rw[hh u' x' e'] at hy';exact hs.bL u u' x x' y y' ((hoth u x e).1 hu) ((hoth u' x' e').1 hu') hy hy' hyy
 · intro u x y hy;by_cases e:u=t
   · subst e;by_cases e2:x=s
     · subst e2;exact⟨x,hnew,aai _⟩
     · have:G.bN u x=some y:=by
        simp only[Gh.ew] at hy
        rwa [if_neg (fun h=>e2 h.2)] at hy
       obtain⟨s',h1,h2⟩:=hs.bN u x y this;exact⟨s,hnew,by have:=hold s' h1;omega⟩
   · rw[hh u x e] at hy;obtain⟨s',h1,h2⟩:=hs.bN u x y hy;exact⟨s',(hoth u s' e).2 h1,h2⟩
theorem Sim.eM {CR:Nat→RC→Code→Prop} {G:Gh} {w0 w:World} {st:St} (hs:Sim fm CR G w0 st w):∀ b o,st.heap[b]? = some o→o.cQ=false→G.mu b≠some w.heap.size:=by
 intro b o ho hg e;obtain⟨r,ob,h1,h2,_⟩:=hs.obj b o ho hg (hs.np e);rw[e] at h1;cases h1;exact absurd (get?_lt h2) (abc _)
theorem Sim.An {CR:Nat→RC→Code→Prop} {G:Gh} {w0 w:World} {st:St} (hs:Sim fm CR G w0 st w):∀ u x y,st.bt[u]? = some x→G.bN u x=some y→y.1≠w.heap.size:=by
 intro u x y hu hy e;obtain⟨r,len,cap,n,cs,ty,h1,h2,h3,h4,h5⟩:=hs.tok u x hu;rw[hy] at h1;cases h1;simp only at e;rw[e] at h4;exact absurd (get?_lt h4) (abc _)
theorem Sim.Gm {CR:Nat→RC→Code→Prop} {G:Gh} {w0 w:World} {st:St} (hs:Sim fm CR G w0 st w) (i:Nat):G.ro w.heap.size i=none:=by
 cases e:G.ro w.heap.size i with
 | none=>rfl
 | some v=>exact absurd (hs.B4 e) (abc _)
theorem xn {t e:TypeId} {n bytes:Nat} {zs:List DV} {i:TypeInfo} {l c:X} {lo co:Operand} {o:Oper} (ho:o.op=.makeSlice t lo co) (ht:P.underlying t=some (.slice e)) (hi:P.info? e=some i) (hn:i.size=n) (hby:i.bytes=bytes) (hz:bI P e=some zs)
 (hl:bP fm l lo) (hc:bP fm c co):aP P fm (.kM n bytes l c) o:=by
 intro CR G w0 st w fr a v st' hs hf hrun;simp only[aA] at hrun;have hlv:=hl.ev (a:=a) hf;have hcv:=hc.ev (a:=a) hf;split at hrun
 · rename_i lv cv el ec;rw[el] at hlv;rw[ec] at hcv;split at hrun
   · rename_i hcond;obtain⟨rfl,c2,c3,c4,c5⟩:=hcond;simp only[aab.injEq,Prod.mk.injEq] at hrun;obtain⟨rfl,rfl⟩:=hrun;generalize hl0:a.eval lo=l0 at hlv;generalize hc0:a.eval co=c0 at hcv;cases hlv;cases hcv;obtain⟨i',z,hi',hzz,hcc⟩:=bX hz;rw[hi] at hi';cases hi';have hrd:(aB:Int)=140737488355328:=rfl;rw[hrd] at c3 c4;have hrun:=run_make (P:=P) w t e i z ht hi hzz .i64 .i64 0 cv (Int.le_refl _) c2 (by rw[hby,Int.mul_comm];omega) (by omega);have hold:∀ s',st.bt[st.bt.length]? = some s'→s'<0:=fun s' h=>by simp at h
     have hal:=hs.alloc (.cells (madeCells z.cells (cv.toNat*i.size)) e)
     have hs':=hal.z0 (t:=st.bt.length) (s:=0) (r:=w.heap.size) (len:=0) (cap:=cv.toNat) (n:=n) (bt:=st.bt++[0]) (cs:=madeCells z.cells (cv.toNat*i.size)) (ty:=e)
      hold (by simp) (fun u x hu=>by
       constructor
       · intro h;rcases get?_append_cases h with h | h;exact h.2;exact absurd h.1 hu
       · intro h;rw[aak (aad.1 h).1];exact h)
      c5 (abB _) (World.alloc_heap_new w _) (by rw[size_madeCells,hn]) (fun i _=>hs.Gm i) hs.eM (fun _=>hs.aQ)
      (fun u x y _ hx hy=>hs.An u x y hx hy)
     refine⟨_,_,.slice (some ⟨w.heap.size,0,none⟩) 0 cv.toNat,_,?_,.inl rfl,Gh.l3 hs hold _ _ _ _,hs',?_⟩
     · unfold execOp;simp only[ho,hl0,hc0];exact an hrun
     · exact Rel.list st.cur n (.own st.bt.length 0) [] w.heap.size 0 cv.toNat (fun _=>undef) (fun i hi=>absurd hi (by simp[flat])) (fun i hi=>absurd hi (by simp[flat])) rfl ⟨rfl,by simp[Gh.ew]⟩ (abB _) (fun x hx=>by simp at hx)
   · cases hrun
 · cases hrun
end Go.D
end
section
namespace Go.D
open Go.RowKit
variable {P:Program} {fm:FM}
def gM (P:Program) (u:TypeId):Bool:=match P.underlying u with | some (.slice _)=>true | some .string=>true | _=>false
theorem appArg {u:TypeId} (h:gM P u=true):(∃ e,P.underlying u=some (.slice e))∨P.underlying u=some .string:=by
 unfold gM at h;split at h
 · rename_i e he;exact .inl ⟨e,he⟩
 · rename_i he;exact .inr he
 · cases h
theorem fx {w w':World} {t u ty e:TypeId} {i:TypeInfo} {a:Option Addr} {sLen sCap m:Nat} {x:Value} {news:Array Value} (ht:P.underlying t=some (.slice e)) (hi:P.info? e=some i) (hu:gM P u=true)
 (hlen:(Builtin.lenOf x).run P w=.ok m w) (hfit:sLen+m≤sCap) (hnews:(Builtin.firstCells i.size m x).run P w=.ok news w)
 (hst:(match a with | some a=>storeCells (a.add (sLen*i.size)) news.toList | none=>pure ():Sem Unit).run P w=.ok () w') :
 (Builtin.append_ #[t,u] ty #[.slice a sLen sCap,x]).run P w=.ok (.slice a (sLen+m) sCap) w':=by
 have hsize:(sizeOf e).run P w=.ok i.size w:=by unfold sizeOf typeInfo;simp[hi]
 cases a with
 | none=>
   simp only[Sem.run_pure] at hst;cases hst;rcases appArg hu with ⟨e',hd⟩ | hd<;>simp[Builtin.append_,run_underlying ht,run_underlying hd,hsize,hlen,hfit,hnews]
 | some a=>
   simp only at hst;rcases appArg hu with ⟨e',hd⟩ | hd<;>simp[Builtin.append_,run_underlying ht,run_underlying hd,hsize,hlen,hfit,hnews,hst]
theorem dM {w:World} {t u ty e:TypeId} {i:TypeInfo} {z:Value} {a:Option Addr} {sLen sCap m:Nat} {x:Value} {olds news:Array Value} (ht:P.underlying t=some (.slice e)) (hi:P.info? e=some i) (hz:i.zero=some z) (hu:gM P u=true)
 (hlen:(Builtin.lenOf x).run P w=.ok m w) (hg:sCap<sLen+m) (hb:(sLen+m)*i.bytes≤140737488355328) (h63:sLen+m≤140737488355328)
 (holds:(Builtin.firstCells i.size sLen (.slice a sLen sCap)).run P w.drew=.ok olds w.drew) (hnews:(Builtin.firstCells i.size m x).run P w.drew=.ok news w.drew) :
 (Builtin.append_ #[t,u] ty #[.slice a sLen sCap,x]).run P w =
  .ok (.slice (some ⟨w.heap.size,0,none⟩) (sLen+m) (grownCap w (sLen+m) sCap e)) (w.drew.alloc (.cells (olds++news++Builtin.zeroCells z.cells (grownCap w (sLen+m) sCap e-(sLen+m))) e)):=by
 have hsize:(sizeOf e).run P w=.ok i.size w:=by unfold sizeOf typeInfo;simp[hi]
 have hn:¬ (sLen+m≤sCap):=by omega
 have h63':¬ (9223372036854775807<((sLen:Int)+(m:Int))):=by omega
 have h48':¬ (281474976710656<Builtin.nextslicecap (sLen+m) sCap*i.bytes):=by
  have:=growslice_fits (bytes:=i.bytes) hg hb;omega
 rcases appArg hu with ⟨e',hd⟩ | hd<;>simp[Builtin.append_,run_underlying ht,run_underlying hd,sizeOf,hlen,hn,h63',h48',Question.forced,typeInfo,zeroValue,hi,hz,holds,hnews,newRow,grownCap]
section
variable {CR:Nat→RC→Code→Prop} {G:Gh} {w0 w:World} {st:St}
def Gh.dV (G:Gh) (r:Nat) (arr:Array Value) (lo hi:Nat):Gh:={ G with ro:=fun r' i=>if r'=r∧lo≤i∧i<hi then arr[i]? else G.ro r' i }
theorem Gh.mO (G:Gh) (r:Nat) (arr:Array Value) (lo hi:Nat) (hn:∀ i,lo≤i→i<hi→G.ro r i=none) (hr:G.floor≤r):G.le (G.dV r arr lo hi):=by
 refine⟨⟨fun r' i v hv=>?_,fun _ _ x=>x,fun _ _ _ x=>x,fun _ _ _=>rfl⟩,fun _ x=>x,fun _ x=>x,rfl,fun r' i hv=>?_,rfl,rfl,rfl⟩
 · simp only[Gh.dV];rw[if_neg]
   · exact hv
   · rintro⟨rfl,h1,h2⟩;rw[hn i h1 h2] at hv;cases hv
 · simp only[Gh.dV];rw[if_neg];rintro⟨rfl,_⟩;omega
theorem Sim.dV (h:Sim fm CR G w0 st w) {r:Nat} {arr:Array Value} {ty:TypeId} {fz:Nat×Nat} (lo hi:Nat) (hn:∀ i,lo≤i→i<hi→G.ro r i=none) (hr:G.floor≤r) (hrow:w.heap[r]? = some (.cells arr ty fz))
 (hobj:∀ b o,st.heap[b]? = some o→o.cQ=false→G.mu b≠some r)
 (htok:∀ u x y,st.bt[u]? = some x→G.bN u x=some y→y.1=r→hi≤y.2.1*y.2.2.2):Sim fm CR (G.dV r arr lo hi) w0 st w:=by
 have hle:=(Gh.mO G r arr lo hi hn hr).toSub;refine { cu:=h.cu,cd:=h.cd,obj:=?_,ro:=?_,dR:=?_,tok:=?_,bL:=h.bL,bN:=h.bN,dfr:=h.dfr,lps:=h.lps,aQ:=h.aQ,below:=h.below,base:=h.base,bm:=h.bm,bT:=h.bT,bD:=h.bD,env:=h.env }
 · intro b o ho hg hpd;obtain⟨r',ob,h1,h2,h3,h4⟩:=h.obj b o ho hg hpd;exact⟨r',ob,h1,h2,h3.sub hle h1,h4⟩
 · intro r' i v hv;simp only[Gh.dV] at hv;split at hv
   · rename_i e1;obtain⟨rfl,_,_⟩:=e1;exact⟨arr,ty,fz,hrow,hv⟩
   · exact h.ro r' i v hv
 · intro r' i v b o hv ho hg hm;simp only[Gh.dV] at hv;split at hv
   · rename_i e1;obtain⟨rfl,_,_⟩:=e1;exact hobj b o ho hg hm
   · exact h.dR r' i v b o hv ho hg hm
 · intro u x hu;obtain⟨r',len,cap,n,cs,ty',h1,h2,h3,h4,h5,h6,h7,h8⟩:=h.tok u x hu;refine⟨r',len,cap,n,cs,ty',h1,h2,h3,h4,h5,fun i hi'=>?_,h7,h8⟩;simp only[Gh.dV];rw[if_neg]
   · exact h6 i hi'
   · rintro⟨rfl,e1,e2⟩;have:=htok u x _ hu h1 rfl;simp only at this;omega
theorem Sim.FI (h:Sim fm CR G w0 st w) {r:Nat} {cs cs':Array Value} {ty:TypeId} {fz:Nat×Nat} (hrow:w.heap[r]? = some (.cells cs ty fz)) (hr:G.floor≤r)
 (hobj:∀ b o,st.heap[b]? = some o→o.cQ=false→G.mu b≠some r) (hsz:cs'.size=cs.size) (hsame:∀ i v,G.ro r i=some v→cs'[i]? = cs[i]?):Sim fm CR G w0 st (w.putObj r (.cells cs' ty fz)):=by
 have hlt:=get?_lt hrow;have hp:=fun k=>gH w r k (.cells cs' ty fz) hlt;refine { cu:=h.cu,cd:=h.cd,obj:=?_,ro:=?_,dR:=h.dR,tok:=?_,bL:=h.bL,bN:=h.bN,dfr:=?_,lps:=?_,aQ:=?_,below:=?_,base:=h.base,bm:=h.bm,bT:=h.bT,bD:=h.bD,env:=h.env }
 · intro b o ho hg hpd;obtain⟨r',ob,h1,h2,h3,h4⟩:=h.obj b o ho hg hpd;refine⟨r',ob,h1,?_,h3,h4⟩;rw[hp,if_neg]
   · exact h2
   · rintro rfl;exact hobj b o ho hg h1
 · intro r' i v hv;obtain⟨c,t,f,g1,g2⟩:=h.ro r' i v hv;by_cases e:r'=r
   · subst e;rw[hrow] at g1;cases g1;exact⟨cs',ty,fz,by rw[hp];simp,by rw[hsame i v hv];exact g2⟩
   · exact⟨c,t,f,by rw[hp,if_neg e];exact g1,g2⟩
 · intro u x hu;obtain⟨r',len,cap,n,c,t,h1,h2,h3,h4,h5,h6,h7,h8⟩:=h.tok u x hu;by_cases e:r'=r
   · subst e;rw[hrow] at h4;cases h4;exact⟨r',len,cap,n,cs',ty,h1,h2,h3,by rw[hp];simp,by rw[hsz];exact h5,h6,h7,h8⟩
   · exact⟨r',len,cap,n,c,t,h1,h2,h3,by rw[hp,if_neg e];exact h4,h5,h6,h7,h8⟩
 · intro r' hd;have:=h.dfr r' hd;rw[hp,if_neg]
   · exact this
   · rintro rfl;rw[hrow] at this;cases this
 · intro r' hd;obtain⟨l,hl⟩:=h.lps r' hd;refine⟨l,?_⟩;rw[hp,if_neg]
   · exact hl
   · rintro rfl;rw[hrow] at hl;cases hl
 · simpa[World.putObj] using h.aQ
 · exact h.below.trans (kn _ _ _ hr)
theorem Sim.NY (h:Sim fm CR G w0 st w) (b:Nat) (hnp:G.bD b=none):Sim fm CR G w0 { st with heap:=st.heap.set b .gone } w:=by
 have old:∀ k o,(st.heap.set b .gone)[k]? = some o→o.cQ=false→k≠b∧st.heap[k]? = some o:=by
  intro k o hk hg;rcases getElem?_set_cases _ _ _ _ _ hk with ⟨rfl,rfl,_⟩ | h
  · cases hg
  · exact h
 refine { cu:=?_,cd:=?_,obj:=?_,ro:=h.ro,dR:=?_,tok:=?_,bL:=h.bL,bN:=h.bN,dfr:=h.dfr,lps:=h.lps,aQ:=h.aQ,below:=h.below,base:=h.base,bm:=h.bm,bT:=by simpa using h.bT,bD:=?_,env:=h.env }
 · intro k x hk;simpa using h.cu k x hk
 · intro k k' x x' y hk hk' gx gx';exact h.cd k k' x x' y (old k x hk gx).2 (old k' x' hk' gx').2 gx gx'
 · intro k o hk hg hpd;exact h.obj k o (old k o hk hg).2 hg hpd
 · intro r i v k o hv hk hg;exact h.dR r i v k o hv (old k o hk hg).2 hg
 · intro u x hu;obtain⟨r',len,cap,n,c,t,h1,h2,h3,h4,h5,h6,h7,h8⟩:=h.tok u x hu;exact⟨r',len,cap,n,c,t,h1,h2,h3,h4,h5,h6,fun k o hk hg=>h7 k o (old k o hk hg).2 hg,h8⟩
 · intro k o hk;obtain⟨p1,p2⟩:=h.bD k o hk;have:b≠k:=by rintro rfl;rw[hnp] at hk;cases hk
   exact⟨by rw[aam this];exact p1,p2⟩
theorem Sim.Ri (h:Sim fm CR G w0 st w) {r:Nat} {o:HO} {ob:Obj} (size:Nat) (hrow:w.heap[r]? = some ob) (hr0:G.floor≤r) (hobj:∀ b o,st.heap[b]? = some o→o.cQ=false→G.mu b≠some r)
 (hro:∀ i,G.ro r i=none) (htok:∀ u x y,st.bt[u]? = some x→G.bN u x=some y→y.1≠r)
 (hr:dr fm CR (G.push st.heap.length r size) st.heap.length o ob) (hg:o.cQ=false):Sim fm CR (G.push st.heap.length r size) w0 (st.push o) w:=by
 have hn:=h.cV;have hle:G.le (G.push st.heap.length r size):=Gh.cf hn;have muOld:∀ k,k<st.heap.length→(G.push st.heap.length r size).mu k=G.mu k:=fun k hk=>by simp[Gh.push,Nat.ne_of_lt hk]
 have eM:(G.push st.heap.length r size).mu st.heap.length=some r:=by simp[Gh.push]
 refine { cu:=?_,cd:=?_,obj:=?_,ro:=h.ro,dR:=?_,tok:=?_,bL:=h.bL,bN:=h.bN,dfr:=h.dfr,lps:=h.lps,aQ:=h.aQ,below:=h.below,base:=h.base,bm:=h.bm,bT:=by have:=h.bT;simp only[St.push,aag];omega,bD:=?_,env:=h.env }
 · intro k x hk;simp only[St.push,aag,aaJ,abp];by_cases e:k=st.heap.length
   · omega
   · have:G.mu k=some x:=by simpa[Gh.push,e] using hk
     have:=h.cu _ _ this;omega
 · intro k k' x x' y hk hk' gx gx' mk mk';rcases getElem?_push_cases _ _ _ _ hk with ⟨rfl,rfl⟩ | ⟨e,hk1⟩<;>rcases getElem?_push_cases _ _ _ _ hk' with ⟨rfl,rfl⟩ | ⟨e',hk1'⟩
   · rfl
   · rw[eM] at mk;rw[muOld _ e'] at mk';cases mk;exact absurd mk' (hobj _ _ hk1' gx')
   · rw[eM] at mk';rw[muOld _ e] at mk;cases mk';exact absurd mk (hobj _ _ hk1 gx)
   · rw[muOld _ e] at mk;rw[muOld _ e'] at mk';exact h.cd _ _ _ _ _ hk1 hk1' gx gx' mk mk'
 · intro k x hk gx hpd;rcases getElem?_push_cases _ _ _ _ hk with ⟨rfl,rfl⟩ | ⟨e,hk⟩
   · exact⟨_,_,eM,hrow,hr,fun _=>hr0⟩
   · obtain⟨r2,ob2,m2,g2,o2,f2⟩:=h.obj _ _ hk gx hpd;exact⟨r2,ob2,by rw[muOld _ e];exact m2,g2,o2.le hle m2,f2⟩
 · intro r' i v k x hv hk gx mk;rcases getElem?_push_cases _ _ _ _ hk with ⟨rfl,rfl⟩ | ⟨e,hk⟩
   · rw[eM] at mk;cases mk;have:G.ro r i=some v:=hv;rw[hro i] at this;cases this
   · rw[muOld _ e] at mk;exact h.dR _ _ _ _ _ hv hk gx mk
 · intro t s ht;obtain⟨r2,len,cap,n,cs,ty,a1,a2,a3,a4,a5,a6,a7,a8⟩:=h.tok t s ht;refine⟨r2,len,cap,n,cs,ty,a1,a2,a3,a4,a5,a6,?_,a8⟩;intro k x hk gx;rcases getElem?_push_cases _ _ _ _ hk with ⟨rfl,rfl⟩ | ⟨e,hk⟩
   · rw[eM];intro e;cases e;exact htok t s _ ht a1 rfl
   · rw[muOld _ e];exact a7 _ _ hk gx
 · intro k x hk;obtain⟨p1,p2⟩:=h.bD k x hk;have hlt:=(aad.1 p1).1;exact⟨by simp only[St.push];rw[aak hlt];exact p1,(muOld k hlt).trans p2⟩
end
end Go.D
end
section
namespace Go.D
open Go.RowKit
variable {P:Program} {fm:FM}
section
variable {CR:Nat→RC→Code→Prop} {G:Gh} {w0 w:World} {st:St}
theorem ER (hs:Sim fm CR G w0 st w) {t s n len cap:Nat} {bt:List Nat} {arr:Array Value} {e:TypeId}
 (hold:∀ s',st.bt[t]? = some s'→s'<s) (hnew:bt[t]? = some s) (hoth:∀ u x,u≠t→(bt[u]? = some x↔st.bt[u]? = some x))
 (hn:0<n) (hlc:len≤cap) (hsz:arr.size=cap*n) :
 ∃ G',G.le G'∧Sim fm CR G' w0 { st with bt:=bt } (w.drew.alloc (.cells arr e))∧(∀ i,i<len*n→G'.ro w.heap.size i=some (arr.getD i undef))∧G'.bN t s=some (w.heap.size,len,cap,n):=by
 have h1:=hs.drew.alloc (.cells arr e);have hrow:(w.drew.alloc (.cells arr e)).heap[w.heap.size]? = some (.cells arr e (0,0)):=World.alloc_heap_new w.drew _;have h2:=h1.z0 (t:=t) (s:=s) (r:=w.heap.size) (len:=len) (cap:=cap) (n:=n) (bt:=bt) (cs:=arr) (ty:=e) hold hnew hoth hn hlc hrow hsz (fun i _=>hs.Gm i) hs.eM (fun _=>hs.aQ) (fun u x y _ hx hy=>hs.An u x y hx hy);have hro:∀ i,0≤i→i<len*n→(G.ew t s w.heap.size len cap n).ro w.heap.size i=none:=fun i _ _=>hs.Gm i
 have h3:=h2.dV 0 (len*n) hro hs.aQ hrow hs.eM (fun u x y hu hy hr=>by
  by_cases e:u=t
  · subst e;have hu':bt[u]? = some x:=hu;rw[hnew] at hu';cases hu';have:y=(w.heap.size,len,cap,n):=by simpa[Gh.ew] using hy.symm
    subst this;exact aai _
  · have hy':G.bN u x=some y:=by
     simp only[Gh.ew] at hy
     rwa [if_neg (fun h=>e h.1)] at hy
    exact absurd hr (hs.An u x y ((hoth u x e).1 hu) hy'))
 refine⟨_,(Gh.l3 hs hold _ _ _ _).trans (Gh.mO _ _ _ _ _ hro hs.aQ),h3,fun i hi=>?_,by simp[Gh.dV,Gh.ew]⟩;have hlt:i<arr.size:=by rw[hsz];exact abj hi (aaK _ hlc)
 simp[Gh.dV,hi,hlt,Array.getD]
theorem xO (hs:Sim fm CR G w0 st w) {t s n r len cap m:Nat} {N:List Value} (ht:st.bt[t]? = some s) (htb:st.bm≤t) (hh:G.bN t s=some (r,len,cap,n)) (hfit:len+m≤cap) (hN:N.length=m*n) (h1:∀ u∈N,u.oneCell'=true) :
 ∃ G' w',(storeCells ⟨r,len*n,none⟩ N).run P w=.ok () w'∧G.le G'∧Sim fm CR G' w0 { st with bt:=st.bt.set t (s+1) } w'∧(∀ i,i<m*n→G'.ro r (len*n+i)=some (N.getD i undef))∧G'.bN t (s+1)=some (r,len+m,cap,n):=by
 obtain⟨r',len',cap',n',cs,ty,a1,a2,a3,a4,a5,a6,a7,a8⟩:=hs.tok t s ht;rw[hh] at a1;cases a1;have hfl:=a8 htb;have hmul:len*n+m*n≤cs.size:=by rw[a5,← aaV];exact aaK _ hfit
 have hst:=dI (P:=P) (off:=len*n) N 0 cs w a4 (by omega) (fun i hi=>by simp) h1;rw[abe,jR a4] at hst;have hssz:=ir (cur:=cs) (k:=len*n) (vs:=N) (by omega)
 have hget:∀ i,i<len*n→(bE cs (len*n) N)[i]? = cs[i]?:=by
  intro i hi;unfold bE;rw[List.getElem?_toArray,aau,aak (by simp;omega),List.getElem?_take];simp[hi]
 have h2:=hs.FI (cs':=bE cs (len*n) N) a4 hfl a7 hssz (fun i v hv=>by
  apply hget;rcases Nat.lt_or_ge i (len*n) with h | h
  · exact h
  · rw[a6 i h] at hv;cases hv)
 have hrow:(w.putObj r (.cells (bE cs (len*n) N) ty (0,0))).heap[r]? = some (.cells (bE cs (len*n) N) ty (0,0)):=by rw[gH w r r _ (get?_lt a4)];simp
 have hlt:t<st.bt.length:=(aad.1 ht).1;have hoth:∀ u x,u≠t→((st.bt.set t (s+1))[u]? = some x↔st.bt[u]? = some x):=fun u x hu=>by rw[aam (fun e=>hu e.symm)]
 have hold:∀ s',st.bt[t]? = some s'→s'<s+1:=fun s' h=>by rw[ht] at h;cases h;omega
 have hdis:∀ u x y,u≠t→st.bt[u]? = some x→G.bN u x=some y→y.1≠r:=fun u x y hu hx hy e=>hu (hs.bL u t x s y _ hx ht hy hh e);have hrange:∀ i,(len+m)*n≤i→len*n≤i:=fun i hi=>by rw[aaV] at hi;omega
 have h3:=h2.z0 (t:=t) (s:=s+1) (r:=r) (len:=len+m) (cap:=cap) (n:=n) (bt:=st.bt.set t (s+1)) (cs:=bE cs (len*n) N) (ty:=ty)
  hold (by simp[hlt]) hoth a2 hfit hrow (by rw[hssz,a5]) (fun i hi=>a6 i (hrange i hi)) a7 a8 hdis
 have hro:∀ i,len*n≤i→i<(len+m)*n→(G.ew t (s+1) r (len+m) cap n).ro r i=none:=fun i hi _=>a6 i hi
 have h4:=h3.dV (len*n) ((len+m)*n) hro hfl hrow a7 (fun u x y hu hy hr=>by
  by_cases e:u=t
  · subst e;have hu':(st.bt.set u (s+1))[u]? = some x:=hu;simp only[aaq hlt,aab.injEq] at hu';subst hu';have:y=(r,len+m,cap,n):=by simpa[Gh.ew] using hy.symm
    subst this;exact aai _
  · have hy':G.bN u x=some y:=by
     simp only[Gh.ew] at hy
     rwa [if_neg (fun h=>e h.1)] at hy
    exact absurd hr (hdis u x y e ((hoth u x e).1 hu) hy'))
 refine⟨_,_,hst,(Gh.l3 hs hold _ _ _ _).trans (Gh.mO _ _ _ _ _ hro hfl),h4,fun i hi=>?_,by simp[Gh.dV,Gh.ew]⟩;have e1:len*n+i<(len+m)*n:=by rw[aaV];omega
 have e2:(bE cs (len*n) N)[len*n+i]? = some (N.getD i undef):=by
  unfold bE;have hiN:i<N.length:=by omega
  rw[List.getElem?_toArray,aau,aaz (by simp;omega)];have e3:len*n+i-(cs.toList.take (len*n)).length=i:=by simp;omega
  rw[e3,aak hiN,aaf,aaa hiN];rfl
 simp[Gh.dV,e1,e2]
end
theorem lH {G:Gh} {olds news:List DV} {O N Z:Array Value} (hO:O.size=olds.length) (hN:N.size=news.length) (rO:∀ i (h:i<olds.length),Rel fm G (olds[i]) (O.getD i undef)) (rN:∀ i (h:i<news.length),Rel fm G (news[i]) (N.getD i undef)) :
 ∀ i (h:i<(olds++news).length),Rel fm G ((olds++news)[i]) ((O++N++Z).getD i undef):=by
 intro i h;have hi:i<olds.length+news.length:=by simpa using h
 have e0:(O++N++Z).getD i undef=(O++N).getD i undef:=by
  rw[aaj,aaj,abt (by simp;omega)]
 rw[e0];by_cases e:i<olds.length
 · rw[abi e]
   have:(O++N).getD i undef=O.getD i undef:=by
    rw[aaj,aaj,abt (by omega)]
   rw[this];exact rO i e
 · rw[abg (by omega)]
   have:(O++N).getD i undef=N.getD (i-olds.length) undef:=by
    rw[aaj,aaj,Array.getElem?_append_right (by omega),hO]
   rw[this];exact rN _ (by omega)
theorem lG (news:List DV) (i:Nat) (h:i<(news.map DV.bg).length):(news.map DV.bg)[i]=(news[i]'(by simpa using h)).bg:=by simp
end Go.D
end
section
namespace Go.D
open Go.RowKit
variable {P:Program} {fm:FM}
theorem tt {G:Gh} {tag n r len cap:Nat} {tk:Tk} {ys:List DV} (f:Nat→Value) (hlen:ys.length=len) (hn:∀ y∈ys,y.leaves.length=n) (hp:(flat ys).all DV.pure=true) (hr:∀ i,i<len*n→G.ro r i=some (f i))
 (hc:∀ i (h:i<(flat ys).length),Rel fm G ((flat ys)[i]) (f i)) (hk:Ea G n tk r 0 len cap) (hl:len≤cap):Rel fm G (.list tag n tk true ys) (.slice (some ⟨r,0,none⟩) len cap):=by
 subst hlen;refine .list tag n tk ys r 0 cap f (fun i hi=>?_) hc hp hk hl hn;rw[aar];exact hr i (by rw[← fe ys n hn];exact hi)
theorem wL {G:Gh} {news:List DV} {N:Array Value} (hN:N.size=news.length) (rN:∀ i (h:i<news.length),Rel fm G (news[i]) (N.getD i undef)) (hsc:news.all DV.bH=true):∀ u∈N.toList,u.oneCell'=true:=by
 intro u hu;obtain⟨j,hj,rfl⟩:=aa1 hu;have hj':j<news.length:=by rw[← hN];simpa using hj
 have h1:=rN j hj';rw[← bw,aaf,aaa hj] at h1;exact yn h1 (aae.1 hsc _ (aaN hj'))
theorem ox {t u e:TypeId} {n bytes:Nat} {ag:Bool} {zs:List DV} {i:TypeInfo} {x y:X} {xo yo:Operand} {o:Oper} (ho:builtinCall .append [xo,yo] [t,u] o.op) (ht:P.underlying t=some (.slice e)) (hu:gM P u=true)
 (hi:P.info? e=some i) (hn:i.size=n) (hby:i.bytes=bytes) (hz:bI P e=some zs) (hzl:zs.length=n) (hag:ag=true∨n=1) (hx:bP fm x xo) (hy:bP fm y yo):aP P fm (.append n ag bytes x y) o:=by
 intro CR G w0 st w fr a v st' hs hf hrun;simp only[aA,aZ] at hrun;have hxv:=hx.ev (a:=a) hf;have hyv:=hy.ev (a:=a) hf;split at hrun
 · cases hrun
 rename_i m news hnews;have hnr:=fO (P:=P) hs hyv hnews;generalize hx0:a.eval xo=x0 at hxv;generalize hy0:a.eval yo=y0 at hyv hnr;obtain⟨N,n1,n2,n3⟩:=hnr.cells m w (aai _) (Below.refl _ w);obtain⟨N',d1,d2,d3⟩:=hnr.cells m w.drew (aai _) ((Below.refl _ w).drew);have hnl:=hnr.length;obtain⟨i',z,hi',hzz,hcc⟩:=bX hz;rw[hi] at hi';cases hi';obtain⟨zl,zr⟩:=cI (fm:=fm) hcc;have hzsz:z.cells.size=n:=by rw[← hzl,← zl];simp
 have fin:∀ (r:Value) (w':World),(Builtin.append_ #[t,u] o.type #[x0,y0]).run P w=.ok r w'→(execOp a.eval o).run P w=.ok (.value r) w':=by
  intro r w' h;obtain⟨consts,he⟩:=ey ho a.eval;rw[he];simp only[aaH,abD,hx0,hy0];unfold builtin;exact an h
 have none0:∀ (p:Option Addr) (l c:Nat),m=0→x0=.slice p l c→l≤c→(Builtin.append_ #[t,u] o.type #[x0,y0]).run P w=.ok x0 w:=by
  intro p l c hm hp hlc;subst hm;have hN0:N = #[]:=by simpa using n2
  rw[hp];rw[← hn] at n1;have:=fx (P:=P) (w:=w) (w':=w) (ty:=o.type) (a:=p) (sLen:=l) (sCap:=c) (m:=0) (x:=y0) (news:=N) ht hi hu hnr.len (by omega) n1 (by subst hN0;cases p<;>rfl);simpa using this
 generalize X.ev fr x=xv at hxv hrun;split at hrun
 ·
  rename_i tag n' tk nn xs
  have hshape:∃ p cap,x0=.slice p xs.length cap∧xs.length≤cap:=by
   cases hxv with
   | iJ=>exact⟨none,0,rfl,aai _⟩
   | list _ _ _ _ r off cap f hr hc hp hk hl hnn=>exact⟨_,cap,rfl,hl⟩
  obtain⟨p,cap,hxe,hlc⟩:=hshape;split at hrun
  · rename_i hm;simp only[aab.injEq,Prod.mk.injEq] at hrun;obtain⟨rfl,rfl⟩:=hrun;exact⟨G,w,x0,_,fin _ _ (none0 p _ _ hm hxe hlc),.inl rfl,Gh.le.refl G,hs,hxv⟩
  rename_i hm;split at hrun
  · cases hrun
  rename_i hcond;simp only[not_or,abw,Bool.not_eq_false'] at hcond;obtain⟨hn0,hnn',hb1,hb2,hpure⟩:=hcond;have hpure:(news.map DV.bg).all DV.pure=true:=by simpa using hpure
  have hn0:0<n:=by omega
  have hb1:(xs.length+m)*bytes≤140737488355328:=by simpa[aB] using hb1
  have hb2:xs.length+m≤140737488355328:=by simpa[aB] using hb2
  have hml:(news.map DV.bg).length=m*n:=by simpa using hnl
  have hold:Dj P fm G w n xs.length (flat xs) x0∧(∀ y∈xs,y.leaves.length=n)∧(flat xs).all DV.pure=true:=by
   cases hxv with
   | iJ=>exact⟨fO (P:=P) hs (.iJ tag n' tk) (by simp[bU,flat]),fun y hy=>by simp at hy,rfl⟩
   | list _ _ _ _ r off cap f hr hc hp hk hl hnn=>
     have:n'=n:=by simpa using hnn'
     subst this;exact⟨fO (P:=P) hs (.list tag n' tk xs r off cap f hr hc hp hk hl hnn) (by simp[bU]),hnn,hp⟩
  obtain⟨hor,hxn,hxp⟩:=hold;obtain⟨O,o1,o2,o3⟩:=hor.cells xs.length w.drew (aai _) ((Below.refl _ w).drew);have hfx:=fe xs n hxn;have hfc:=nt n ag hag m (news.map DV.bg) hml hpure;have hlc':=kQ n ag m (news.map DV.bg);generalize hys:xs++chunk n ag m (news.map DV.bg)=ys at hrun;have hyf:flat ys=flat xs++news.map DV.bg:=by rw[← hys,lE,hfc]
  have hyl:ys.length=xs.length+m:=by rw[← hys];simp[hlc']
  have hyn:∀ y∈ys,y.leaves.length=n:=by
   intro y hy;rw[← hys] at hy;rcases aaA.1 hy with h | h
   · exact hxn y h
   · exact ky n ag hag m _ hml hpure y h
  have hyp:(flat ys).all DV.pure=true:=by rw[hyf,List.all_append,hxp,hpure];rfl
  have grown:∀ (t0 s0:Nat) (bt:List Nat),(∀ s',st.bt[t0]? = some s'→s'<s0)→bt[t0]? = some s0→(∀ u x,u≠t0→(bt[u]? = some x↔st.bt[u]? = some x))→cap<xs.length+m →
   ∃ G' w' x nx,(execOp a.eval o).run P w=.ok nx w'∧Bc nx x∧G.le G'∧Sim fm CR G' w0 { st with bt:=bt } w'∧Rel fm G' (.list st.cur n (.own t0 s0) true ys) x:=by
   intro t0 s0 bt h1 h2 h3 hg;have hge:=grownCap_ge w (xs.length+m) cap e;have hd1:=d1;rw[← hn] at hd1;have ho1:=o1;rw[← hn,hxe] at ho1;have hr:=dM (P:=P) (w:=w) (u:=u) (ty:=o.type) (z:=z) (a:=p) (sLen:=xs.length) (sCap:=cap) (m:=m) (x:=y0) (olds:=O) (news:=N') ht hi hzz hu hnr.len hg (by rw[hby];omega) (by omega) ho1 hd1;rw[← hxe] at hr
   have hsz:(O++N'++Builtin.zeroCells z.cells (grownCap w (xs.length+m) cap e-(xs.length+m))).size=grownCap w (xs.length+m) cap e*n:=by
    simp only[Array.size_append,o2,d2,size_zeroCells,hzsz,← aaV]
    congr 1;omega
   obtain⟨G',g1,g2,g3,g4⟩:=ER hs (t:=t0) (s:=s0) (n:=n) (len:=xs.length+m) (cap:=grownCap w (xs.length+m) cap e) (bt:=bt) (arr:=O++N'++Builtin.zeroCells z.cells (grownCap w (xs.length+m) cap e-(xs.length+m))) (e:=e) h1 h2 h3 hn0 hge hsz;refine⟨G',_,_,_,fin _ _ hr,.inl rfl,g1,g2,?_⟩;refine tt _ hyl hyn hyp g3 (fun i hi=>?_) ⟨rfl,g4⟩ hge
   have:=lH (fm:=fm) (G:=G') (olds:=flat xs) (news:=news.map DV.bg) (O:=O) (N:=N') (Z:=Builtin.zeroCells z.cells (grownCap w (xs.length+m) cap e-(xs.length+m))) (by rw[o2,hfx]) (by rw[d2,hml])
    (fun i hi=>(o3 i hi (by rw[← hfx];exact hi)).le g1) (fun i hi=>by
     rw[lG];have hi':i<news.length:=by simpa using hi
     exact((d3 i hi' (by omega)).le g1).bg) i (by rw[← hyf];exact hi)
   have e1:(flat ys)[i]=(flat xs++news.map DV.bg)[i]'(by rw[← hyf];exact hi):=by congr 1
   rw[e1];exact this
  split at hrun
  ·
   simp only[aab.injEq,Prod.mk.injEq] at hrun;obtain⟨rfl,rfl⟩:=hrun;cases hxv;simp only[Value.slice.injEq] at hxe;obtain⟨rfl,_,rfl⟩:=hxe
   exact grown st.bt.length 0 (st.bt++[0]) (fun s' h=>by simp at h) (by simp) (fun u x hu=>by
    constructor
    · intro h;rcases get?_append_cases h with h | h;exact h.2;exact absurd h.1 hu
    · intro h;rw[aak (aad.1 h).1];exact h) (by simp;omega)
  ·
   simp only[aab.injEq,Prod.mk.injEq] at hrun;obtain⟨rfl,rfl⟩:=hrun
   have hcap:cap=xs.length:=by
    cases hxv with
    | list _ _ _ _ r off cap' f hr hc hp hk hl hnn=>
      simp only[Value.slice.injEq] at hxe;rw[← hxe.2.2];exact hk
   exact grown st.bt.length 0 (st.bt++[0]) (fun s' h=>by simp at h) (by simp) (fun u x hu=>by
    constructor
    · intro h;rcases get?_append_cases h with h | h;exact h.2;exact absurd h.1 hu
    · intro h;rw[aak (aad.1 h).1];exact h) (by omega)
  ·
   rename_i t0 s0;split at hrun
   · rename_i htok;obtain⟨htb,ht0⟩:=htok;simp only[aab.injEq,Prod.mk.injEq] at hrun;obtain⟨rfl,rfl⟩:=hrun;have hlt:t0<st.bt.length:=(aad.1 ht0).1;by_cases hg:cap<xs.length+m
     · exact grown t0 (s0+1) (st.bt.set t0 (s0+1)) (fun s' h=>by rw[ht0] at h;cases h;omega) (by simp[hlt]) (fun u x hu=>by rw[aam (fun e=>hu e.symm)]) hg
     · cases hxv with
       | list _ _ _ _ r off cap' f hr hc hp hk hl hnn=>
         simp only[Value.slice.injEq] at hxe;obtain⟨hpe,_,hce⟩:=hxe;subst hce;subst hpe;obtain⟨hoff,hhist⟩:=hk;subst hoff;have:n'=n:=by simpa using hnn'
         subst this;obtain⟨G',w',g1,g2,g3,g4,g5⟩:=xO (P:=P) hs ht0 htb hhist (m:=m) (N:=N.toList) (by omega) (by simpa using n2) (wL (G:=G) (news:=news) (by rw[n2,hnl]) (fun i hi=>n3 i hi (by omega)) hnr.bH);have hn1:=n1;rw[← hn] at hn1
         have hr':=fx (P:=P) (w:=w) (w':=w') (ty:=o.type) (a:=some ⟨r,0,none⟩) (sLen:=xs.length) (sCap:=cap') (m:=m) (x:=y0) (news:=N) ht hi hu hnr.len (by omega) hn1 (by
          show (storeCells ((⟨r,0,none⟩:Addr).add (xs.length*i.size)) N.toList).run P w=.ok () w'
          rw[Addr.add_lit,aar,hn];exact g1)
         refine⟨G',w',_,_,fin _ _ hr',.inl rfl,g2,g3,?_⟩;refine tt (fun j=>if j<xs.length*n' then f j else N.getD (j-xs.length*n') undef) hyl hyn hyp (fun j hj=>?_) (fun j hj=>?_) ⟨rfl,g5⟩ (by omega)
         · by_cases ej:j<xs.length*n'
           · rw[if_pos ej];have:=hr j (by rw[hfx];exact ej);rw[aar] at this;exact g2.toSub.ro _ _ _ this
           · rw[if_neg ej];have:=g4 (j-xs.length*n') (by rw[aaV] at hj;omega);have e2:xs.length*n'+(j-xs.length*n')=j:=by omega
             rw[e2,bw] at this;exact this
         · have hj':j<(flat xs++news.map DV.bg).length:=by rw[← hyf];exact hj
           have e1:(flat ys)[j]=(flat xs++news.map DV.bg)[j]'hj':=by congr 1
           rw[e1];by_cases ej:j<xs.length*n'
           · rw[if_pos ej,abi (by rw[hfx];exact ej)];exact(hc j _).le g2
           · rw[if_neg ej,abg (by rw[hfx];omega),lG]
             have hj2:j-(flat xs).length<news.length:=by
              simp only[aag,aaP] at hj';omega
             have ek:j-xs.length*n'=j-(flat xs).length:=by rw[hfx]
             rw[ek];exact((n3 (j-(flat xs).length) hj2 (by omega)).le g2).bg
   · cases hrun
  · cases hrun
 ·
  rename_i n' ag' b off len capx
  cases hxv with
  | hsl _ _ _ _ _ _ r c hmu hcap=>
  have hlc:len≤c:=by
   cases capx with
   | none=>exact hcap.1
   | some k=>have:=hcap.2;rw[hcap.1];exact this
  split at hrun
  · rename_i hm;simp only[aab.injEq,Prod.mk.injEq] at hrun;obtain⟨rfl,rfl⟩:=hrun;exact⟨G,w,_,_,fin _ _ (none0 _ _ _ hm rfl hlc),.inl rfl,Gh.le.refl G,hs,.hsl _ _ _ _ _ _ _ _ hmu hcap⟩
  rename_i hm;split at hrun
  · rename_i hcond;obtain⟨rfl,hn0,hb1,hb2⟩:=hcond;have hb1:(len+m)*bytes≤140737488355328:=by simpa[aB] using hb1
    have hb2:len+m≤140737488355328:=by simpa[aB] using hb2
    split at hrun
    · rename_i cap0;split at hrun
      · rename_i hcond2;obtain⟨rfl,hbase⟩:=hcond2;split at hrun
        · rename_i vs hcell;split at hrun
          · rename_i hvl;simp only[aab.injEq,Prod.mk.injEq] at hrun;obtain⟨rfl,rfl⟩:=hrun
            have hbo:st.heap[b]? = some (.cells .grown vs):=by
             unfold St.cells at hcell;split at hcell
             · rename_i g' vs' e;simp only[aab.injEq,Prod.mk.injEq] at hcell;obtain⟨rfl,rfl⟩:=hcell;exact e
             · cases hcell
            obtain⟨r',ob,q1,q2,q3,q4⟩:=hs.obj b _ hbo rfl (hs.np hmu);rw[hmu] at q1;cases q1;obtain⟨cs,ty,fz,rfl,k1,k2,k3,k4,k5⟩:=q3
            have hro:∀ i,G.ro r i=none:=by
             intro i
             cases er:G.ro r i with
             | none=>rfl
             | some v=>exact absurd hmu (fun h=>hs.dR r i v b _ er hbo rfl h)
            have htk:∀ u x y,st.bt[u]? = some x→G.bN u x=some y→y.1≠r:=by
             intro u x y hu hy e;obtain⟨r',len',cap',n'',cs',ty',h1,h2,h3,h4,h5,h6,h7,h8⟩:=hs.tok u x hu;rw[hy] at h1;cases h1;simp only at e;subst e;exact h7 b _ hbo rfl hmu
            have hgone:=hs.NY b (hs.np hmu)
            have hfree:∀ b' o,(st.heap.set b .gone)[b']? = some o→o.cQ=false→G.mu b'≠some r:=by
             intro b' o hb' hg e;rcases getElem?_set_cases _ _ _ _ _ hb' with ⟨rfl,rfl,_⟩ | ⟨e1,e2⟩
             · cases hg
             · exact e1 (hs.cd _ _ _ _ _ e2 hbo hg rfl e hmu)
            have hset:(st.heap.set b .gone).length=st.heap.length:=by simp
            have hscal:(vs++news).all DV.bH=true:=by rw[List.all_append,k5,hnr.bH];rfl
            have hcapo:=hcap.2;by_cases hg:c<len+m
            ·
             have hge:=grownCap_ge w (len+m) c e
             have hor:=fO (P:=P) (n:=n') (m:=len) (news:=(vs.drop 0).take (len*n')) hs (.hsl n' ag' b 0 len none r c hmu hcap) (by
              simp only[bU,if_true,St.cells,hbo]
              rw[if_pos (by omega)])
             obtain⟨O,o1,o2,o3⟩:=hor.cells len w.drew (aai _) ((Below.refl _ w).drew);have hvs:(vs.drop 0).take (len*n')=vs:=by rw[List.drop_zero,aa7 (by omega)]
             rw[hvs] at o3;have hd1:=d1;rw[← hn] at hd1 o1;have hr:=dM (P:=P) (w:=w) (u:=u) (ty:=o.type) (z:=z) (a:=some ⟨r,0,none⟩) (sLen:=len) (sCap:=c) (m:=m) (x:=y0) (olds:=O) (news:=N') ht hi hzz hu hnr.len hg (by rw[hby];omega) (by omega) o1 hd1;generalize harr:O++N'++Builtin.zeroCells z.cells (grownCap w (len+m) c e-(len+m))=arr at hr
             have hsz:arr.size=grownCap w (len+m) c e*n':=by
              rw[← harr];simp only[Array.size_append,o2,d2,size_zeroCells,hzsz,← aaV]
              congr 1;omega
             have hpush:=hgone.drew.push (o:=.cells .grown (vs++news)) (ob:=.cells arr e) (grownCap w (len+m) c e*n') ⟨arr,e,(0,0),rfl,by
              rw[hsz,aag,← hvl,hnl,← aaV];exact aaK _ hge,by simp[Gh.push,hsz],fun i hi=>by
               have:=lH (fm:=fm) (G:=G) (olds:=vs) (news:=news) (O:=O) (N:=N') (Z:=Builtin.zeroCells z.cells (grownCap w (len+m) c e-(len+m))) (by rw[o2,hvl]) (by rw[d2,hnl])
                (fun i hi=>o3 i hi (by rw[hvl];exact hi)) (fun i hi=>d3 i hi (by omega)) i hi
               rw[harr] at this;refine this.le ?_;have:=hgone.cV
               exact Gh.cf this,fun i hi=>by simp,hscal⟩ rfl
             have hle:G.le (G.push (st.heap.set b .gone).length w.heap.size (grownCap w (len+m) c e*n')):=Gh.cf hgone.cV;refine⟨_,_,_,_,fin _ _ hr,.inl rfl,hle,hpush,?_⟩;rw[← hset];exact .hsl _ _ _ _ _ _ _ _ (by simp[Gh.push]) ⟨hge,by simp[Gh.push]⟩
            ·
             have hcn:c*n'≤cs.size:=by rw[k2];omega
             have hmul:len*n'+m*n'≤cs.size:=by
              rw[← aaV];exact abl (aaK _ (by omega)) hcn
             have hNl:N.toList.length=m*n':=by simpa using n2
             have hst:=dI (P:=P) (off:=len*n') N.toList 0 cs w q2 (by omega) k4 (wL (G:=G) (news:=news) (by rw[n2,hnl]) (fun i hi=>n3 i hi (by omega)) hnr.bH);rw[abe,jR q2] at hst;have hssz:=ir (cur:=cs) (k:=len*n') (vs:=N.toList) (by omega);have hput:=hgone.FI (cs':=bE cs (len*n') N.toList) q2 (q4 hbase) hfree hssz (fun i v hv=>by rw[hro i] at hv;cases hv);have hrow:(w.putObj r (.cells (bE cs (len*n') N.toList) ty fz)).heap[r]? = some (.cells (bE cs (len*n') N.toList) ty fz):=by rw[gH w r r _ (get?_lt q2)];simp
             have hlow:∀ i,i<vs.length→(bE cs (len*n') N.toList).getD i undef=cs.getD i undef:=by
              intro i hi;unfold bE;rw[aaj,aaj,List.getElem?_toArray,aau,aak (by simp;omega),List.getElem?_take,if_pos (by omega)];simp
             have hhigh:∀ i,i<news.length→(bE cs (len*n') N.toList).getD (vs.length+i) undef=N.getD i undef:=by
              intro i hi;unfold bE;have hiN:i<N.toList.length:=by omega
              have e3:vs.length+i-(cs.toList.take (len*n')).length=i:=by simp;omega
              rw[aaj,List.getElem?_toArray,aau,aaz (by simp;omega),e3,aak hiN,← bw,aaf]
             have hle:G.le (G.push (st.heap.set b .gone).length r cs.size):=Gh.cf hgone.cV
             have hadopt:=hput.Ri (o:=.cells .grown (vs++news)) cs.size hrow (q4 hbase) hfree hro htk ⟨_,ty,fz,rfl,by
              rw[hssz,aag,← hvl,hnl];exact hmul,by simp[Gh.push,hssz],fun i hi=>by
               by_cases ei:i<vs.length
               · rw[abi ei,hlow i ei];exact(k3 i ei).le hle
               · have hi2:i-vs.length<news.length:=by simp only[aag] at hi;omega
                 rw[abg (by omega)];have e4:vs.length+(i-vs.length)=i:=by omega
                 have:=hhigh (i-vs.length) hi2;rw[e4] at this;rw[this]
                 exact(n3 _ hi2 (by omega)).le hle,by rw[hssz];exact k4,hscal⟩ rfl
             have hn1:=n1;rw[← hn] at hn1
             have hr':=fx (P:=P) (w:=w) (w':=w.putObj r (.cells (bE cs (len*n') N.toList) ty fz)) (ty:=o.type) (a:=some ⟨r,0,none⟩) (sLen:=len) (sCap:=c) (m:=m) (x:=y0) (news:=N) ht hi hu hnr.len (by omega) hn1 (by
              show (storeCells ((⟨r,0,none⟩:Addr).add (len*i.size)) N.toList).run P w=_
              rw[Addr.add_lit,aar,hn];exact hst)
             refine⟨_,_,_,_,fin _ _ hr',.inl rfl,hle,hadopt,?_⟩;rw[← hset];exact .hsl _ _ _ _ _ _ _ _ (by simp[Gh.push]) ⟨by omega,by simp[Gh.push];omega⟩
          · cases hrun
        · cases hrun
      · cases hrun
    · rename_i k;obtain⟨hck,hlk⟩:=hcap;subst hck;split at hrun
      · rename_i g vs hcell
        have hbo:st.heap[b]? = some (.cells g vs):=by
         unfold St.cells at hcell;split at hcell
         · rename_i g' vs' e;simp only[aab.injEq,Prod.mk.injEq] at hcell;obtain⟨rfl,rfl⟩:=hcell;exact e
         · cases hcell
        split at hrun
        · rename_i hfit;split at hrun
          · rename_i hc3;obtain⟨hbase,hvl,hw⟩:=hc3;simp only[aab.injEq,Prod.mk.injEq] at hrun;obtain⟨rfl,rfl⟩:=hrun
            obtain⟨cur,ty,fz,k1,k2,k3,k4⟩:=sT (P:=P) hs hw hbo hbase (k:=off+len*n') (ns:=news) (xs:=N.toList) hvl (by simp[n2,hnl]) (fun i hi=>by rw[bw];exact n3 i hi (by omega)) hnr.bH
             (wL (G:=G) (news:=news) (by rw[n2,hnl]) (fun i hi=>n3 i hi (by omega)) hnr.bH) hmu
            have hn1:=n1;rw[← hn] at hn1
            have hr':=fx (P:=P) (w:=w) (ty:=o.type) (a:=some ⟨r,off,none⟩) (sLen:=len) (sCap:=c) (m:=m) (x:=y0) (news:=N) ht hi hu hnr.len hfit hn1 (by
             show (storeCells ((⟨r,off,none⟩:Addr).add (len*i.size)) N.toList).run P w=_
             rw[Addr.add_lit,hn];exact k3)
            exact⟨G,_,_,_,fin _ _ hr',.inl rfl,Gh.le.refl G,k4,.hsl _ _ _ _ _ _ _ _ hmu ⟨rfl,hfit⟩⟩
          · cases hrun
        · rename_i hfit;split at hrun
          · rename_i hvl;simp only[aab.injEq,Prod.mk.injEq] at hrun;obtain⟨rfl,rfl⟩:=hrun;have hge:=grownCap_ge w (len+m) c e
            have hor:=fO (P:=P) (n:=n') (m:=len) (news:=(vs.drop off).take (len*n')) hs (.hsl n' ag' b off len (some c) r c hmu ⟨rfl,hlk⟩) (by
             simp only[bU,if_true,hcell]
             rw[if_pos hvl])
            obtain⟨O,o1,o2,o3⟩:=hor.cells len w.drew (aai _) ((Below.refl _ w).drew);have hd1:=d1;rw[← hn] at hd1 o1;have hr:=dM (P:=P) (w:=w) (u:=u) (ty:=o.type) (z:=z) (a:=some ⟨r,off,none⟩) (sLen:=len) (sCap:=c) (m:=m) (x:=y0) (olds:=O) (news:=N') ht hi hzz hu hnr.len (by omega) (by rw[hby];omega) (by omega) o1 hd1;generalize harr:O++N'++Builtin.zeroCells z.cells (grownCap w (len+m) c e-(len+m))=arr at hr
            have hsz:arr.size=grownCap w (len+m) c e*n':=by
             rw[← harr];simp only[Array.size_append,o2,d2,size_zeroCells,hzsz,← aaV]
             congr 1;omega
            have hol:=hor.length
            have hpush:=hs.drew.push (o:=.cells .grown ((vs.drop off).take (len*n')++news)) (ob:=.cells arr e) (grownCap w (len+m) c e*n') ⟨arr,e,(0,0),rfl,by
             rw[hsz,aag,hol,hnl,← aaV];exact aaK _ hge,by simp[Gh.push,hsz],fun i hi=>by
              have:=lH (fm:=fm) (G:=G) (olds:=(vs.drop off).take (len*n')) (news:=news) (O:=O) (N:=N') (Z:=Builtin.zeroCells z.cells (grownCap w (len+m) c e-(len+m))) (by rw[o2,hol]) (by rw[d2,hnl])
               (fun i hi=>o3 i hi (by rw[← hol];exact hi)) (fun i hi=>d3 i hi (by omega)) i hi
              rw[harr] at this
              exact this.le (Gh.cf hs.cV),fun i hi=>by simp,by rw[List.all_append,hor.bH,hnr.bH];rfl⟩ rfl
            have hle:G.le (G.push st.heap.length w.heap.size (grownCap w (len+m) c e*n')):=Gh.cf hs.cV;refine⟨_,_,_,_,fin _ _ hr,.inl rfl,hle,hpush,?_⟩;exact .hsl _ _ _ _ _ _ _ _ (by simp[Gh.push]) ⟨hge,by simp[Gh.push]⟩
          · cases hrun
      · cases hrun
  · cases hrun
 · cases hrun
end Go.D
end
section
namespace Go.D
open Go.RowKit
variable {P:Program} {fm:FM}
def kR (P:Program) (t:TypeId) (ks:List LK):Bool:=
 match P.underlying t,ks with
 | some .bool,[.bool]=>true
 | some (.int _),[.int]=>true
 | some .string,[.str]=>true
 | _,_=>false
def mQ (fm:FM) (G:Gh) (es:List (DV×DV)) (en:List MapEntry):Prop:=
 en.length=es.length∧∀ (i:Nat) (k v:DV),es[i]? = some (k,v)→∃ e:MapEntry,en[i]? = some e∧Rel fm G k e.key∧Rel fm G v e.val
def Ec:LK→TypeDesc→Bool
 | .bool,.bool | .int,.int _ | .str,.string=>true
 | _,_=>false
theorem xP {G:Gh} {lk:LK} {a b:DV} {x y:Value} {r:Bool} (h:cA lk a b=some r) (ha:Rel fm G a x) (hb:Rel fm G b y) {d:TypeDesc} (hd:Ec lk d=true) :
 Instr.sameNow d x y=some r∧(r=true→y=x):=by
 unfold cA at h;split at h
 · cases ha;cases hb;injection h with h;subst h;cases d<;>first | (simp[Ec] at hd;done) | skip
   simp[Instr.sameNow];intro h;exact h.symm
 · rename_i k a k' b;split at h
   · rename_i hk;subst hk;cases ha;cases hb;injection h with h;subst h;cases d<;>first | (simp[Ec] at hd;done) | skip
     simp[Instr.sameNow];intro h;exact h.symm
   · cases h
 · rename_i a b
   cases ha with
   | str _ s1 e1=>
     cases hb with
     | str _ s2 e2=>
       injection h with h;subst h;cases d<;>first | (simp[Ec] at hd;done) | skip
       subst e1;subst e2
       have heq:(s1==s2)=(s1.data.toList==s2.data.toList):=by
        have h1:(s1==s2)=(s1.data==s2.data):=rfl;rw[h1,aaQ];simp only[beq_iff_eq];exact⟨fun h=>by rw[h],fun h=>Array.toList_inj.1 h⟩
       refine⟨by simp only[Instr.sameNow,heq],fun h=>?_⟩;rw[beq_iff_eq] at h;have:s1.data=s2.data:=Array.toList_inj.1 h;cases s1;cases s2;simp at this;subst this;rfl
 · cases h
theorem um {t:TypeId} {d:TypeDesc} {ks:List LK} (hd:P.underlying t=some d) (hk:kR P t ks=true):∃ lk,ks=[lk]∧Ec lk d=true:=by
 unfold kR at hk;rw[hd] at hk;split at hk
 · rename_i h;cases h;exact⟨_,rfl,rfl⟩
 · rename_i h;cases h;exact⟨_,rfl,rfl⟩
 · rename_i h;cases h;exact⟨_,rfl,rfl⟩
 · cases hk
theorem qf {G:Gh} {t:TypeId} {d:TypeDesc} {ks:List LK} (hd:P.underlying t=some d) (hk:kR P t ks=true) {k:DV} {kv:Value} (hkv:Rel fm G k kv):∀ (es:List (DV×DV)) (en:List MapEntry) (i:Nat) (r:Option (Nat×DV)),mQ fm G es en→findD ks k es i=some r →
 ∃ r',Instr.findNow d kv en i=some r'∧(match r,r' with
   | none,none=>True
   | some (j,v),some (j',v')=>j=j'∧Rel fm G v v'∧i≤j∧∃ e:MapEntry,en[j-i]? = some e∧e.key=kv
   | _,_=>False)
 | [],en,i,r,he,h=>by
   have:en=[]:=aaX (by simpa using he.1);subst this;simp only[findD,aab.injEq] at h;subst h;exact⟨none,rfl,trivial⟩
 | (a,v)::es,[],i,r,he,h=>by have:=he.1;simp at this
 | (a,v)::es,e::en,i,r,he,h=>by
   obtain⟨e',h1,h2,h3⟩:=he.2 0 a v rfl;simp only[aav,aab.injEq] at h1;subst h1;have htl:mQ fm G es en:=⟨by have:=he.1;simpa using this,fun i k v hi=>he.2 (i+1) k v hi⟩;obtain⟨lk,rfl,hlk⟩:=um hd hk;have same:∀ b,jh [lk] k a=some b→Instr.sameNow d kv e.key=some b∧(b=true→e.key=kv):=fun b hb=>xP hb hkv h2 hlk;simp only[findD] at h;split at h
   · rename_i hb;obtain⟨s1,s2⟩:=same true hb;injection h with h;subst h;exact⟨some (i,e.val),by simp[Instr.findNow,s1],rfl,h3,aai _,e,by simp,s2 rfl⟩
   · rename_i hb;obtain⟨s1,s2⟩:=same false hb;obtain⟨r',g1,g2⟩:=qf hd hk hkv es en (i+1) r htl h;refine⟨r',by simp[Instr.findNow,s1,g1],?_⟩
     match r,r',g2 with
     | none,none,_=>trivial
     | some (j,v),some (j',v'),g2=>
       obtain⟨q1,q2,q3,e0,q4,q5⟩:=g2;refine⟨q1,q2,by omega,e0,?_,q5⟩;have:j-i=(j-(i+1))+1:=by omega
       rw[this,abd];exact q4
   · cases h
theorem run_checkKey {w:World} {t:TypeId} {d:TypeDesc} {ks:List LK} (b:Bool) (n:Nat) (v:Value) (hd:P.underlying t=some d) (hk:kR P t ks=true):(Instr.checkKey b (n+1) t v).run P w=.ok () w:=by
 obtain⟨lk,rfl,hlk⟩:=um hd hk;unfold Instr.checkKey;simp only[Sem.run_bind,run_underlying hd,Result.andThen_ok];cases d<;>first|rfl | (cases lk<;>simp[Ec] at hlk)
def v8 (P:Program) (t:TypeId):Bool:=match P.underlying t with | some .bool=>true | some (.int _)=>true | some .string=>true | _=>false
def dp (P:Program) (t:TypeId) (ks:List LK):Bool:=
 (match P.underlying t with | some (.struct fs)=>fs.toList.all (fun f=>v8 P f.type&&Nat.blt f.offset ks.length) | _=>false)&&(gD P Op.maxDepth t==some ks)&&Nat.ble 2 ks.length
theorem oC {w:World} {t:TypeId} (b:Bool) (n:Nat) (v:Value) (h:v8 P t=true):(Instr.checkKey b (n+1) t v).run P w=.ok () w:=by
 unfold v8 at h;unfold Instr.checkKey;split at h<;>first | (cases h;done) | (rename_i hd;simp only[Sem.run_bind,run_underlying hd,Result.andThen_ok];rfl)
theorem vr {w:World} {β:Type} (l:List β) (F:β→PUnit→Sem (ForInStep PUnit)) (h:∀ x∈l,(F x ⟨⟩).run P w=.ok (.yield ⟨⟩) w):(forIn l PUnit.unit F).run P w=.ok ⟨⟩ w:=by
 induction l with
 | nil=>rfl
 | cons x r ih=>
   simp only[List.forIn_cons,Sem.run_bind,h x (by simp),Result.andThen_ok];exact ih fun y hy=>h y (by simp[hy])
theorem mg {w:World} {t:TypeId} {ks:List LK} (b:Bool) (n:Nat) {cs:Array Value} (hk:dp P t ks=true) (hsz:cs.size=ks.length):(Instr.checkKey b (n+2) t (.agg cs)).run P w=.ok () w:=by
 unfold dp at hk;simp only[aac] at hk;obtain⟨⟨h1,h2⟩,h3⟩:=hk;split at h1
 · rename_i fs hd;have hall:=aae.1 h1;unfold Instr.checkKey;simp only[Sem.run_bind,run_underlying hd,Result.andThen_ok];rw[← Array.forIn_toList];rw[vr]
   · rfl
   intro f hf;have hf:=hall f hf;simp only[aac] at hf;have hs:=hf.1;have hlt:f.offset<cs.size:=by rw[hsz];exact aaL hf.2
   have hpart:(part f.type cs f.offset).run P w=.ok (cs.getD f.offset undef) w:=by
    unfold v8 at hs;split at hs<;>first | (cases hs;done) | (rename_i hdd;exact iC hdd cs f.offset hlt trivial)
   by_cases hn:f.name = "_"
   · simp[hn]
   · simp only[ne_eq,hn,not_false_eq_true,if_true,Sem.run_bind,hpart,Result.andThen_ok,oC b n _ hs,Sem.run_pure]
 · cases h1
theorem pA {w:World} {t:TypeId} {ks:List LK} (hk:dp P t ks=true) {G:Gh} {vs us:List DV} {cs ds:Array Value} {b:Bool} (h1:Rel fm G (.agg vs) (.agg cs)) (h2:Rel fm G (.agg us) (.agg ds)) (hb:aU ks vs us=some b) :
 (Op.equal t (.agg cs) (.agg ds)).run P w=.ok b w:=by
 unfold dp at hk;simp only[aac,beq_iff_eq] at hk;obtain⟨⟨k1,k2⟩,k3⟩:=hk;split at k1
 · rename_i fs htd
   cases h1 with
   | agg _ _ hl hc=>
   cases h2 with
   | agg _ _ hl' hc'=>
   obtain⟨l1,l2⟩:=cH _ _ _ _ hb;obtain⟨p,q,p1,q1,r1⟩:=p9 (w:=w) Op.maxDepth t ks k2 G vs us cs ds 0 0 b ⟨by omega,fun i hi=>by rw[aar];exact hc i hi⟩ ⟨by omega,fun i hi=>by rw[aar];exact hc' i hi⟩ hb;obtain⟨i,hi,hsz⟩:=od 9999 t ks htd k2;rw[iK htd hi cs 0 trivial] at p1;rw[iK htd hi ds 0 trivial] at q1;cases p1;cases q1;have e1:cs.extract 0 (0+i.size)=cs:=by rw[aar,show i.size=cs.size by omega];exact Array.extract_size
   have e2:ds.extract 0 (0+i.size)=ds:=by rw[aar,show i.size=ds.size by omega];exact Array.extract_size
   rw[e1,e2] at r1;exact r1
 · cases k1
theorem oK:∀ (ks:List LK) (as_ bs:List DV),aU ks as_ bs=some true→∀ i (h:i<as_.length) (h':i<bs.length),∃ k,cA k (as_[i]) (bs[i])=some true
 | [],[],[],_,i,h,_=>by simp at h
 | k::ks,a::as_,c::bs,hl,i,h,h'=>by
   simp only[aU] at hl;split at hl
   · rename_i x y h1 h2;injection hl with hl;simp only[aac] at hl;obtain⟨rfl,rfl⟩:=hl
     cases i with
     | zero=>exact⟨k,h1⟩
     | succ i=>exact oK ks as_ bs h2 i (by simpa using h) (by simpa using h')
   · cases hl
 | [],_::_,_,h,_,_,_=>by simp[aU] at h
 | [],[],_::_,h,_,_,h'=>by simp[aU] at h
 | _::_,[],_,h,_,_,_=>by simp[aU] at h
 | _::_,_::_,[],h,_,_,_=>by simp[aU] at h
theorem A5 {G:Gh} {k:LK} {a b:DV} {x y:Value} (h:cA k a b=some true) (ha:Rel fm G a x) (hb:Rel fm G b y):x=y∧∀ n,Instr.sameBits n x x=true:=by
 unfold cA at h;split at h
 · cases ha;cases hb;simp only[aab.injEq,beq_iff_eq] at h;subst h;exact⟨rfl,fun n=>by simp[Instr.sameBits]⟩
 · split at h
   · rename_i hk;subst hk;cases ha;cases hb;simp only[aab.injEq,beq_iff_eq] at h;subst h;exact⟨rfl,fun n=>by simp[Instr.sameBits]⟩
   · cases h
 · cases ha with
   | str _ s1 e1=>
     cases hb with
     | str _ s2 e2=>
       simp only[aab.injEq,beq_iff_eq] at h
       have h2:s1=s2:=by
        have:s1.data=s2.data:=Array.toList_inj.1 (e1.trans (h.trans e2.symm));cases s1;cases s2;simp at this;subst this;rfl
       subst h2;refine⟨rfl,fun n=>?_⟩;have h1:(s1==s1)=(s1.data==s1.data):=rfl;simp[Instr.sameBits,h1]
 · cases h
theorem EG {G:Gh} {ks:List LK} {vs us:List DV} {cs ds:Array Value} (hb:aU ks vs us=some true) (h1:Rel fm G (.agg vs) (.agg cs)) (h2:Rel fm G (.agg us) (.agg ds)) :
 cs=ds∧Instr.sameBits 10000 (.agg cs) (.agg cs)=true:=by
 cases h1 with
 | agg _ _ hl hc=>
 cases h2 with
 | agg _ _ hl' hc'=>
 obtain⟨l1,l2⟩:=cH _ _ _ _ hb
 have key:∀ i (h:i<cs.size),∃ (h':i<ds.size),cs[i]=ds[i]∧∀ n,Instr.sameBits n cs[i] cs[i]=true:=by
  intro i h;have h':i<ds.size:=by omega
  obtain⟨k,hk⟩:=oK ks vs us hb i (by omega) (by omega);have r1:=hc i (by omega);have r2:=hc' i (by omega);rw[aaj,abv h] at r1;rw[aaj,abv h'] at r2;exact⟨h',A5 hk r1 r2⟩
 refine⟨Array.ext (by omega) fun i h h'=>(key i h).2.1,?_⟩;simp only[Instr.sameBits,aac,beq_self_eq_true,true_and,aae];intro p hp
 have:p.1=p.2∧p.1∈cs.toList:=by
  have:=List.mem_iff_getElem.1 hp;obtain⟨i,hi,rfl⟩:=this;simp
 obtain⟨e,hm⟩:=this;obtain⟨i,hi,he⟩:=List.mem_iff_getElem.1 hm;have:=(key i (by simpa using hi)).2.2 9999;rw[← e];simp at he;rw[he] at this;exact this
def qq (P:Program) (t:TypeId) (ks:List LK):Bool:=kR P t ks||dp P t ks
theorem jX {w:World} {t:TypeId} {ks:List LK} {G:Gh} {k:DV} {kv:Value} (b:Bool) (hk:qq P t ks=true) (hfit:gX ks k=true) (hkv:Rel fm G k kv):(Instr.checkKey b 10000 t kv).run P w=.ok () w:=by
 unfold qq at hk;rw[aa6] at hk;rcases hk with hk | hk
 · have hdk:∃ d,P.underlying t=some d:=by
    unfold kR at hk;split at hk<;>first | exact⟨_,by assumption⟩ | cases hk
   obtain⟨d,hd⟩:=hdk;exact run_checkKey (w:=w) (P:=P) b 9999 kv hd hk
 · have hk':=hk;unfold dp at hk';simp only[aac] at hk';have h2:=aaL hk'.2;unfold gX at hfit;split at hfit
   · simp at h2
   · split at hfit
     · rename_i xs
       cases hkv with
       | agg _ cs hl _=>
         exact mg (w:=w) b 9998 hk (by rw[hl];exact eq_of_beq hfit)
     · cases hfit
theorem lu {G:Gh} {w:World} {t:TypeId} {ks:List LK} (hk:dp P t ks=true) {k:DV} {kv:Value} (hkv:Rel fm G k kv):∀ (es:List (DV×DV)) (en:List MapEntry) (i:Nat) (r:Option (Nat×DV)),mQ fm G es en→findD ks k es i=some r →
 ∃ r',(Instr.findAsking t kv en i).run P w=.ok r' w∧(match r,r' with
   | none,none=>True
   | some (j,v),some (j',v')=>j=j'∧Rel fm G v v'∧i≤j∧∃ e:MapEntry,en[j-i]? = some e∧e.key=kv
   | _,_=>False)∧(r.isSome=true→Instr.sameBits 10000 kv kv=true)
 | [],en,i,r,he,h=>by
   have:en=[]:=aaX (by simpa using he.1);subst this;simp only[findD,aab.injEq] at h;subst h;exact⟨none,rfl,trivial,fun h=>by cases h⟩
 | (a,v)::es,[],i,r,he,h=>by have:=he.1;simp at this
 | (a,v)::es,e::en,i,r,he,h=>by
   obtain⟨e',h1,h2,h3⟩:=he.2 0 a v rfl;simp only[aav,aab.injEq] at h1;subst h1;have htl:mQ fm G es en:=⟨by have:=he.1;simpa using this,fun i k v hi=>he.2 (i+1) k v hi⟩
   have hlen:2≤ks.length:=by
    unfold dp at hk;simp only[aac] at hk;exact aaL hk.2
   have same:∀ b,jh ks k a=some b→(Op.equal t kv e.key).run P w=.ok b w∧(b=true→e.key=kv∧Instr.sameBits 10000 kv kv=true):=by
    intro b hb;unfold jh at hb;split at hb
    · simp at hlen
    · split at hb
      · rename_i xs ys;generalize e.key=ek at h2
        cases hkv with
        | agg _ cs hl hc=>
        cases h2 with
        | agg _ ds hl' hc'=>
        refine⟨pA hk (.agg _ _ hl hc) (.agg _ _ hl' hc') hb,fun hbt=>?_⟩;subst hbt;obtain⟨g1,g2⟩:=EG hb (.agg _ _ hl hc) (.agg _ _ hl' hc');exact⟨by rw[g1],g2⟩
      · cases hb
   simp only[findD] at h;split at h
   · rename_i hb;obtain⟨s1,s2⟩:=same true hb;injection h with h;subst h;refine⟨some (i,e.val),by unfold Instr.findAsking;simp[s1],⟨rfl,h3,aai _,e,by simp,(s2 rfl).1⟩,fun _=>(s2 rfl).2⟩
   · rename_i hb;obtain⟨s1,s2⟩:=same false hb;obtain⟨r',g1,g2,g3⟩:=lu (w:=w) hk hkv es en (i+1) r htl h;refine⟨r',by unfold Instr.findAsking;simp[s1,g1],?_,g3⟩
     match r,r',g2 with
     | none,none,_=>trivial
     | some (j,v),some (j',v'),g2=>
       obtain⟨q1,q2,q3,e0,q4,q5⟩:=g2;refine⟨q1,q2,by omega,e0,?_,q5⟩;have:j-i=(j-(i+1))+1:=by omega
       rw[this,abd];exact q4
   · cases h
def yP (P:Program) (t:TypeId):Option DV:=
 match P.info? t with
 | some i=>match i.zero with | some z=>Io z | none=>none
 | none=>none
theorem EI {t:TypeId} {z:DV} (h:yP P t=some z):∃ i x,P.info? t=some i∧i.zero=some x∧Io x=some z:=by
 unfold yP at h;split at h
 · rename_i i hi;split at h
   · rename_i x hx;exact⟨i,x,hi,hx,h⟩
   · cases h
 · cases h
theorem run_findKey {w:World} {t:TypeId} {d:TypeDesc} {kv:Value} {es:List MapEntry} {r:Option (Nat×Value)} (hd:P.underlying t=some d) (h:Instr.findNow d kv es 0=some r):(Instr.findKey t kv es).run P w=.ok r w:=by
 unfold Instr.findKey;simp[run_underlying hd,h]
theorem oN {d:TypeDesc} {x:Value}:∀ {en:List MapEntry} {i:Nat} {p:Nat×Value},Instr.findNow d x en i=some (some p)→∃ y,Instr.sameNow d x y=some true
 | [],i,p,h=>by simp[Instr.findNow] at h
 | e::en,i,p,h=>by
   simp only[Instr.findNow] at h;split at h
   · exact⟨_,by assumption⟩
   · exact oN h
   · cases h
theorem wR {d:TypeDesc} {x y:Value} {b:Bool} (h:Instr.sameNow d x y=some b):Instr.sameBits 10000 x x=true:=by
 unfold Instr.sameNow at h;split at h<;>first | cases h;done | skip
 · simp[Instr.sameBits]
 · rename_i s _;have h1:(s==s)=(s.data==s.data):=rfl;simp[Instr.sameBits,h1]
 · simp[Instr.sameBits]
theorem lp {G:Gh} {w:World} {t:TypeId} {ks:List LK} (hk:qq P t ks=true) {k:DV} {kv:Value} (hkv:Rel fm G k kv) {es:List (DV×DV)} {en:List MapEntry} {r:Option (Nat×DV)} (he:mQ fm G es en) (h:findD ks k es 0=some r) :
 ∃ r',(Instr.findKey t kv en).run P w=.ok r' w∧(match r,r' with
   | none,none=>True
   | some (j,v),some (j',v')=>j=j'∧Rel fm G v v'∧∃ e:MapEntry,en[j]? = some e∧e.key=kv
   | _,_=>False)∧(r.isSome=true→Instr.sameBits 10000 kv kv=true):=by
 unfold qq at hk;rw[aa6] at hk;rcases hk with hk | hk
 · have hdk:∃ d,P.underlying t=some d:=by
    unfold kR at hk;split at hk<;>first | exact⟨_,by assumption⟩ | cases hk
   obtain⟨d,hd⟩:=hdk;obtain⟨r',g1,g2⟩:=qf (fm:=fm) (G:=G) hd hk hkv es en 0 r he h;refine⟨r',run_findKey hd g1,?_,?_⟩
   · match r,r',g2 with
     | none,none,_=>trivial
     | some (j,v),some (j',v'),g2=>
       obtain⟨q1,q2,q3,e0,q4,q5⟩:=g2;exact⟨q1,q2,e0,q4,q5⟩
   · intro hsome
     match r,r',g2 with
     | some (j,v),some (j',v'),g2=>
       obtain⟨y,hy⟩:=oN g1;exact wR hy
 · obtain⟨r',g1,g2,g3⟩:=lu (w:=w) hk hkv es en 0 r he h
   have hd:∃ fs,P.underlying t=some (.struct fs):=by
    unfold dp at hk;simp only[aac] at hk;have:=hk.1.1;split at this
    · exact⟨_,by assumption⟩
    · cases this
   obtain⟨fs,hd⟩:=hd;refine⟨r',?_,?_,g3⟩
   · unfold Instr.findKey;simp only[Sem.run_bind,run_underlying hd,Result.andThen_ok]
     cases en with
     | nil=>
       have:r'=none:=by
        have:(Instr.findAsking t kv [] 0).run P w=.ok none w:=rfl;rw[this] at g1;cases g1;rfl
       subst this;rfl
     | cons e en=>
       have hn:Instr.findNow (.struct fs) kv (e::en) 0=none:=by simp[Instr.findNow,Instr.sameNow]
       rw[hn];exact g1
   · match r,r',g2 with
     | none,none,_=>trivial
     | some (j,v),some (j',v'),g2=>
       obtain⟨q1,q2,q3,e0,q4,q5⟩:=g2;exact⟨q1,q2,e0,q4,q5⟩
theorem vS {t kt et:TypeId} {ks:List LK} {zero:DV} {ok:Bool} {x j:X} {xo jo:Operand} {o:Oper} (ho:o.op=.lookup t xo jo ok) (ht:P.underlying t=some (.map kt et)) (hk:qq P kt ks=true) (hz:yP P et=some zero)
 (hx:bP fm x xo) (hj:bP fm j jo):aP P fm (.lookup ks zero x j ok) o:=by
 refine bh fun CR G w0 st w fr a v st' hs hf hrun=>?_;simp only[aA] at hrun;split at hrun
 case isFalse=>cases hrun
 rename_i hfit;simp only[aah] at hrun;obtain⟨u,hu,hrun⟩:=hrun;cases hrun;have hxv:=hx.ev (a:=a) hf;have hjv:=hj.ev (a:=a) hf;generalize hx0:a.eval xo=x0 at hxv;generalize hj0:a.eval jo=j0 at hjv;obtain⟨i,z,hi,hzz,hc⟩:=EI hz;unfold db at hu;split at hu
 · cases hu
 rename_i es hes
 have hen:∃ en:Array MapEntry,mQ fm G es en.toList∧∀ (K:Array MapEntry→Sem Value),((do
  let es ← match x0 with
   | .map none=>pure #[]
   | .map (some r)=>do
     let .map es _ ← getObj r | stuck "Lookup: map expected"
     pure es
   | _=>stuck "Lookup: map expected"
  K es):Sem Value).run P w=(K en).run P w:=by
  split at hes
  · rename_i e0;injection hes with hes;subst hes;rw[e0] at hxv;cases hxv;exact⟨#[],⟨rfl,fun i k v h=>by simp at h⟩,fun K=>by simp⟩
  · rename_i b e0;rw[e0] at hxv;split at hes
    · rename_i es' hb;injection hes with hes;subst hes
      cases hxv with
      | map _ r hm=>
        obtain⟨r',ob,h1,h2,h3,h4⟩:=hs.obj b _ hb rfl (hs.np hm);rw[hm] at h1;cases h1;obtain⟨en,ck,rfl,g1,g2⟩:=h3;refine⟨en,⟨by simpa using g1,fun i k v h=>by simpa using g2 i k v h⟩,fun K=>?_⟩;simp[getObj,Sem.run,h2]
    · cases hes
  · cases hes
 obtain⟨en,he,hK⟩:=hen;split at hu
 · cases hu
 rename_i r hfind;obtain⟨r',hfk,g2,_⟩:=lp (fm:=fm) (G:=G) (w:=w) hk hjv he hfind;have hchk:=jX (w:=w) (P:=P) en.isEmpty hk hfit hjv;have hzv:=oH (w:=w) hi hzz
 have run:∀ (y:Value×Bool),(match r' with | some (_,v)=>(pure (v,true):Sem (Value×Bool)) | none=>do pure (← zeroValue et,false)).run P w=.ok y w→(execOp a.eval o).run P w=.ok (.value (if ok then .tuple #[y.1,.bool y.2] else y.1)) w:=by
  intro y hy;unfold execOp;simp only[ho,hx0,hj0];refine an ?_;unfold Instr.lookup;simp only[Sem.run_bind,run_underlying ht,Result.andThen_ok]
  have:=hK (fun es=>do
   Instr.checkKey es.isEmpty 10000 kt j0
   let (v,there) ← match ← Instr.findKey kt j0 es.toList with
    | some (_,v)=>pure (v,true)
    | none=>pure (← zeroValue et,false)
   pure (if ok then .tuple #[v,.bool there] else v))
  simp only[Sem.run_bind,hchk,hfk,Result.andThen_ok] at this;refine this.trans ?_
  cases r' with
  | none=>
    simp only[Sem.run_bind,Sem.run_pure,hzv,Result.andThen_ok,Result.ok.injEq,and_true] at hy ⊢;subst hy;rfl
  | some p=>
    simp only[Sem.run_bind,Sem.run_pure,Result.andThen_ok,Result.ok.injEq,and_true] at hy ⊢;subst hy;rfl
 have tup:∀ (u:DV) (y:Value) (b:Bool),Rel fm G u y→Rel fm G (if ok then .tuple [u,.bool b] else u) (if ok then .tuple #[y,.bool b] else y):=by
  intro u y b h
  cases ok with
  | false=>exact h
  | true=>
    refine .tuple _ _ rfl fun i hi=>?_
    match i,hi with
    | 0,_=>exact h
    | 1,_=>exact .bool _
 simp only[aab.injEq] at hu;subst hu
 cases r with
 | none=>
   cases r' with
   | none=>exact⟨rfl,_,run (z,false) (by simp[hzv]),tup _ _ _ (zu hc G)⟩
   | some p=>exact absurd g2 (by simp)
 | some q=>
   cases r' with
   | none=>exact absurd g2 (by simp)
   | some p=>exact⟨rfl,_,run (p.2,true) rfl,tup _ _ _ g2.2.1⟩
theorem wB {t kt et:TypeId} {ks:List LK} {m k v:X} {mo ko vo:Operand} {o:Oper} (ho:o.op=.mapUpdate t mo ko vo) (ht:P.underlying t=some (.map kt et)) (hk:qq P kt ks=true)
 (hm:bP fm m mo) (hkx:bP fm k ko) (hv:bP fm v vo):aP P fm (.fk ks m k v) o:=by
 intro CR G w0 st w fr a u st' hs hf hrun;simp only[aA] at hrun;split at hrun
 case isFalse=>cases hrun
 rename_i hfit;simp only[aah] at hrun;obtain⟨st2,hu,hrun⟩:=hrun;cases hrun;have hmv:=hm.ev (a:=a) hf;have hkv:=hkx.ev (a:=a) hf;have hvv:=hv.ev (a:=a) hf;generalize hm0:a.eval mo=m0 at hmv;generalize hk0:a.eval ko=k0 at hkv;generalize hv0:a.eval vo=v0 at hvv;unfold gF at hu;split at hu
 · rename_i b e0;rw[e0] at hmv;split at hu
   · rename_i es hb;split at hu
     · rename_i hbase
       cases hmv with
       | map _ r hmu=>
         obtain⟨r1,ob,h1,h2,h3,h4⟩:=hs.obj b _ hb rfl (hs.np hmu);rw[hmu] at h1;cases h1;obtain⟨en,ck,rfl,g1,g2⟩:=h3;have he:mQ fm G es en.toList:=⟨by simpa using g1,fun i k v h=>by simpa using g2 i k v h⟩;have hchk:=jX (w:=w) (P:=P) false hk hfit hkv;have hget:=run_getObj_map (P:=P) w r en ck h2;have hset:∀ o',(setObj r o').run P w=.ok () (w.putObj r o'):=fun o'=>by simp[setObj,Sem.run,h2,World.putObj]
         have fin:∀ w',(Instr.mapUpdate t (.map (some r)) k0 v0).run P w=.ok () w'→(execOp a.eval o).run P w=.ok .skip w':=by
          intro w' h;unfold execOp;simp only[ho,hm0,hk0,hv0];exact oL h
         split at hu
         · cases hu
         · rename_i i v' hfind;injection hu with hu;subst hu;obtain⟨r',hfk,f2,f3⟩:=lp (fm:=fm) (G:=G) (w:=w) hk hkv he hfind
           cases r' with
           | none=>exact absurd f2 (by simp)
           | some p=>
             obtain⟨q1,q2,e,q4,q5⟩:=f2;have hi:i=p.1:=q1;have hsame:Instr.sameBits 10000 k0 k0=true:=f3 rfl;refine⟨G,_,undef,_,fin _ ?_,.inr ⟨rfl,rfl⟩,Gh.le.refl G,hs.put (ob':=.map (en.modify i fun e=>{ e with key:=k0,val:=v0 }) ck) hb rfl hmu hbase ⟨_,ck,rfl,by simp[g1],?_⟩ rfl (fun h=>by cases h),.undef _⟩
             · unfold Instr.mapUpdate
               have hold:((en[p.1]?).map (·.key)).getD k0=k0:=by
                rw[← hi];have:en[i]? = some e:=by simpa using q4
                simp[this,q5]
               have hkeep:(Instr.keyThatStays k0 k0).run P w=.ok k0 w:=by unfold Instr.keyThatStays;simp[hsame]
               simp[run_underlying ht,hget,hchk,hfk,hold,hkeep,hset,hi]
             · intro j kk vv hj;rw[List.getElem?_modify] at hj
               cases hes:es[j]? with
               | none=>rw[hes] at hj;cases hj
               | some x=>
                 obtain⟨e',w1,w2,w3⟩:=g2 j x.1 x.2 hes;rw[hes] at hj;rw[Array.getElem?_modify,w1];by_cases ej:i=j
                 · subst ej;simp only[if_true,Option.map_eq_map,abo,aab.injEq] at hj ⊢;cases hj;exact⟨_,rfl,hkv,hvv⟩
                 · simp only[if_neg ej,Option.map_eq_map,abo,aab.injEq] at hj ⊢;subst hj;exact⟨_,rfl,w2,w3⟩
         · rename_i hfind;injection hu with hu;subst hu;obtain⟨r',hfk,f2,_⟩:=lp (fm:=fm) (G:=G) (w:=w) hk hkv he hfind
           cases r' with
           | some p=>exact absurd f2 (by simp)
           | none=>
             refine⟨G,_,undef,_,fin _ ?_,.inr ⟨rfl,rfl⟩,Gh.le.refl G,hs.put (ob':=.map (en.push { key:=k0,val:=v0,born:=ck }) (ck+1)) hb rfl hmu hbase ⟨_,ck+1,rfl,by simp[g1],?_⟩ rfl (fun h=>by cases h),.undef _⟩
             · unfold Instr.mapUpdate;simp[run_underlying ht,hget,hchk,hfk,hset]
             · intro j kk vv hj;rcases get?_append_cases hj with ⟨e1,e2⟩ | ⟨rfl,e2⟩
               · obtain⟨e',w1,w2,w3⟩:=g2 j kk vv e2;refine⟨e',?_,w2,w3⟩;rw[Array.getElem?_push,if_neg (by omega)];exact w1
               · cases e2;exact⟨_,by rw[Array.getElem?_push,if_pos g1.symm],hkv,hvv⟩
     · cases hu
   · cases hu
 · cases hu
end Go.D
end
section
namespace Go.D
open Go.RowKit
variable {P:Program} {fm:FM}
theorem tC {t u e:TypeId} {n bytes:Nat} {ag:Bool} {zs:List DV} {i:TypeInfo} {x y:X} {xo yo:Operand} {o:Oper} (ho:builtinCall .append [xo,yo] [t,u] o.op) (ht:P.underlying t=some (.slice e)) (hu:gM P u=true)
 (hi:P.info? e=some i) (hn:i.size=n) (hby:i.bytes=bytes) (hz:bI P e=some zs) (hzl:zs.length=n) (hag:ag=true∨n=1) (hx:bP fm x xo) (hy:bP fm y yo):aP P fm (.ft n ag bytes x y) o:=by
 intro CR G w0 st w fr a v st' hs hf hrun;have hall:=ox (P:=P) (fm:=fm) ho ht hu hi hn hby hz hzl hag hx hy CR G w0 st w fr a v st' hs hf;simp only[aA,lC] at hrun hall;have hxv:=hx.ev (a:=a) hf;have hyv:=hy.ev (a:=a) hf;split at hrun
 · rename_i tag n' tk hxe;rw[hxe] at hxv;split at hrun
   · rename_i m news hnews;split at hrun
     · rename_i hm0;refine hall ?_;rw[hxe];simp only[aZ,hnews,hm0,if_true];rw[hxe] at hrun;exact hrun
     split at hrun
     · rename_i hm00 hcond;obtain⟨hn0,hb1,hb2⟩:=hcond;have hm0:0<m:=by omega
       simp only[aab.injEq,Prod.mk.injEq] at hrun;obtain⟨rfl,rfl⟩:=hrun;have hb1:m*bytes≤140737488355328:=by simpa[aB] using hb1
       have hb2:m≤140737488355328:=by simpa[aB] using hb2
       have hnr:=fO (P:=P) hs hyv hnews;generalize hx0:a.eval xo=x0 at hxv;generalize hy0:a.eval yo=y0 at hyv hnr;cases hxv;obtain⟨N',d1,d2,d3⟩:=hnr.cells m w.drew (aai _) ((Below.refl _ w).drew);have hnl:=hnr.length;obtain⟨i',z,hi',hzz,hcc⟩:=bX hz;rw[hi] at hi';cases hi';obtain⟨zl,zr⟩:=cI (fm:=fm) hcc;have hzsz:z.cells.size=n:=by rw[← hzl,← zl];simp
       have hd1:=d1;rw[← hn] at hd1;have hge:=grownCap_ge w (0+m) 0 e;have hr:=dM (P:=P) (w:=w) (u:=u) (ty:=o.type) (z:=z) (a:=none) (sLen:=0) (sCap:=0) (m:=m) (x:=y0) (olds:=#[]) (news:=N') ht hi hzz hu hnr.len (by omega) (by rw[hby,aar];omega) (by omega) rfl hd1;generalize harr:(#[]:Array Value)++N'++Builtin.zeroCells z.cells (grownCap w (0+m) 0 e-(0+m))=arr at hr
       have hsz:arr.size=grownCap w (0+m) 0 e*n:=by
        rw[← harr];simp only[Array.size_append,d2,size_zeroCells,hzsz,Array.size_empty];rw[aar,← aaV]
        congr 1;omega
       have hpush:=hs.drew.push (o:=.cells .grown news) (ob:=.cells arr e) (grownCap w (0+m) 0 e*n) ⟨arr,e,(0,0),rfl,by
        rw[hsz,hnl];exact aaK _ (by omega),by simp[Gh.push,hsz],fun i hi=>by
         have:=lH (fm:=fm) (G:=G) (olds:=[]) (news:=news) (O:=#[]) (N:=N') (Z:=Builtin.zeroCells z.cells (grownCap w (0+m) 0 e-(0+m))) rfl (by rw[d2,hnl])
          (fun i hi=>by simp at hi) (fun i hi=>d3 i hi (by omega)) i (by simpa using hi)
         rw[harr] at this
         exact this.le (Gh.cf hs.cV),fun i hi=>by simp,hnr.bH⟩ rfl
       have hle:G.le (G.push st.heap.length w.heap.size (grownCap w (0+m) 0 e*n)):=Gh.cf hs.cV;refine⟨_,_,.slice (some ⟨w.heap.size,0,none⟩) (0+m) (grownCap w (0+m) 0 e),_,?_,.inl rfl,hle,hpush,?_⟩
       · obtain⟨consts,he⟩:=ey ho a.eval;rw[he];simp only[aaH,abD,hx0,hy0];unfold builtin;exact an hr
       · rw[show 0+m=m by omega] at hge ⊢;exact .hsl _ _ _ _ _ _ _ _ (by simp[Gh.push]) ⟨hge,by simp[Gh.push]⟩
     · cases hrun
   · cases hrun
 · rename_i tag n' hxe;rw[hxe] at hxv;split at hrun
   · rename_i m news hnews;split at hrun
     · rename_i hm0;refine hall ?_;rw[hxe];simp only[aZ,hnews,hm0,if_true];rw[hxe] at hrun;exact hrun
     split at hrun
     · rename_i hm00 hcond;obtain⟨⟨hn0,hnn'⟩,hb1,hb2⟩:=hcond;have hnn2:=hnn'.symm;subst hnn2;have hm0:0<m:=by omega
       simp only[aab.injEq,Prod.mk.injEq] at hrun;obtain⟨rfl,rfl⟩:=hrun;have hb1:m*bytes≤140737488355328:=by simpa[aB] using hb1
       have hb2:m≤140737488355328:=by simpa[aB] using hb2
       have hnr:=fO (P:=P) hs hyv hnews;generalize hx0:a.eval xo=x0 at hxv;generalize hy0:a.eval yo=y0 at hyv hnr
       cases hxv with
       | list _ _ _ _ r off cap f hr0 hc0 hp0 hk0 hl0 hnn0=>
       have hkc:cap=0:=hk0;subst hkc;obtain⟨O,ho1,ho2,ho3⟩:=(fO (P:=P) (n:=n) (m:=0) (news:=[]) hs (.list tag n .tight [] r off 0 f hr0 hc0 hp0 hk0 hl0 hnn0) (by simp[bU,flat])).cells 0 w.drew (aai _) ((Below.refl _ w).drew);obtain rfl:O = #[]:=by simpa using ho2
       rw[← hn] at ho1;simp only[abp] at ho1;simp only[abp] at hx0;obtain⟨N',d1,d2,d3⟩:=hnr.cells m w.drew (aai _) ((Below.refl _ w).drew);have hnl:=hnr.length;obtain⟨i',z,hi',hzz,hcc⟩:=bX hz;rw[hi] at hi';cases hi';obtain⟨zl,zr⟩:=cI (fm:=fm) hcc;have hzsz:z.cells.size=n:=by rw[← hzl,← zl];simp
       have hd1:=d1;rw[← hn] at hd1;have hge:=grownCap_ge w (0+m) 0 e;have hr:=dM (P:=P) (w:=w) (u:=u) (ty:=o.type) (z:=z) (a:=some ⟨r,off,none⟩) (sLen:=0) (sCap:=0) (m:=m) (x:=y0) (olds:=#[]) (news:=N') ht hi hzz hu hnr.len (by omega) (by rw[hby,aar];omega) (by omega) ho1 hd1;generalize harr:(#[]:Array Value)++N'++Builtin.zeroCells z.cells (grownCap w (0+m) 0 e-(0+m))=arr at hr
       have hsz:arr.size=grownCap w (0+m) 0 e*n:=by
        rw[← harr];simp only[Array.size_append,d2,size_zeroCells,hzsz,Array.size_empty];rw[aar,← aaV]
        congr 1;omega
       have hpush:=hs.drew.push (o:=.cells .grown news) (ob:=.cells arr e) (grownCap w (0+m) 0 e*n) ⟨arr,e,(0,0),rfl,by
        rw[hsz,hnl];exact aaK _ (by omega),by simp[Gh.push,hsz],fun i hi=>by
         have:=lH (fm:=fm) (G:=G) (olds:=[]) (news:=news) (O:=#[]) (N:=N') (Z:=Builtin.zeroCells z.cells (grownCap w (0+m) 0 e-(0+m))) rfl (by rw[d2,hnl])
          (fun i hi=>by simp at hi) (fun i hi=>d3 i hi (by omega)) i (by simpa using hi)
         rw[harr] at this
         exact this.le (Gh.cf hs.cV),fun i hi=>by simp,hnr.bH⟩ rfl
       have hle:G.le (G.push st.heap.length w.heap.size (grownCap w (0+m) 0 e*n)):=Gh.cf hs.cV;refine⟨_,_,.slice (some ⟨w.heap.size,0,none⟩) (0+m) (grownCap w (0+m) 0 e),_,?_,.inl rfl,hle,hpush,?_⟩
       · obtain⟨consts,he⟩:=ey ho a.eval;rw[he];simp only[aaH,abD,hx0,hy0];unfold builtin;exact an hr
       · rw[show 0+m=m by omega] at hge ⊢;exact .hsl _ _ _ _ _ _ _ _ (by simp[Gh.push]) ⟨hge,by simp[Gh.push]⟩
     · cases hrun
   · cases hrun
 · rename_i hxe;exact hall hrun
 · cases hrun
end Go.D
end
section
namespace Go.D
open Go.RowKit
variable {P:Program} {fm:FM}
end Go.D
end
section
namespace Go.D
open Go.RowKit
variable {P:Program} {fm:FM}
def mP (fm:FM) (g:Nat):List DV→Nat→Bool
 | [],_=>true
 | d::ds,i=>(match fm.env g i with | some v=>(match p5 v with | some u=>DV.beq u d | none=>false) | none=>false)&&mP fm g ds (i+1)
theorem BK {g:Nat}:∀ {ds:List DV} {k:Nat},mP fm g ds k=true→∀ i (h:i<ds.length),∃ v,fm.env g (k+i)=some v∧p5 v=some ds[i]
 | [],_,_,i,h=>by simp at h
 | d::ds,k,hb,i,h=>by
   simp only[mP,aac] at hb;obtain⟨h1,h2⟩:=hb
   cases i with
   | zero=>
     split at h1
     · rename_i v hv;split at h1
       · rename_i u hu;have:=DV.beq_eq _ _ h1;subst this;exact⟨v,hv,hu⟩
       · cases h1
     · cases h1
   | succ i=>
     obtain⟨v,g1,g2⟩:=BK h2 i (by simpa using h);exact⟨v,by rwa [show k+(i+1)=k+1+i by omega],by simpa using g2⟩
theorem Jw {g:Nat} {ds:List DV} (h:mP fm g ds 0=true) (G:Gh):Rel fm G (.cm ds) (.pointer (some ⟨g,0,none⟩)):=by
 have key:=BK h;refine .cm ds g 0 (fun i=>(fm.env g i).getD undef) (fun i hi=>?_) (fun i hi=>?_) ?_
 · obtain⟨v,h1,h2⟩:=key i hi;rw[aar] at h1 ⊢;exact .inr (by rw[h1];rfl)
 · obtain⟨v,h1,h2⟩:=key i hi;rw[aar] at h1;simp only[h1,Option.getD_some];exact o6 h2 G
 · rw[aae];intro x hx;obtain⟨i,hi,rfl⟩:=aa1 hx;obtain⟨v,h1,h2⟩:=key i hi;exact rX h2
def xB (fm:FM):X→Operand→Bool
 | .t n,.tmp m=>n==m
 | .c v,.const x=>(match Io x with | some u=>DV.beq u v | none=>false)
 | .f g,.func f=>(match fm g with | some f'=>f'==f | none=>false)
 | .c (.cm cs),.global g=>mP fm g cs 0
 | _,_=>false
theorem bB {x:X} {o:Operand} (h:xB fm x o=true):bP fm x o:=by
 unfold xB at h;split at h
 · exact eq_of_beq h
 · split at h
   · rename_i u hu;have:=DV.beq_eq _ _ h;subst this;exact fun G=>zu hu G
   · cases h
 · split at h
   · rename_i f' hf;have:=eq_of_beq h;subst this;exact hf
   · cases h
 · exact fun G=>Jw h G
 · cases h
def xsB (fm:FM):List X→List Operand→Bool
 | [],[]=>true
 | x::xs,o::os=>xB fm x o&&xsB fm xs os
 | _,_=>false
theorem lW:∀ {xs:List X} {os:List Operand},xsB fm xs os=true→mw fm xs os
 | [],[],_=>⟨rfl,fun i x o h=>by simp at h⟩
 | x::xs,o::os,h=>by
   simp only[xsB,aac] at h;obtain⟨h1,h2⟩:=lW h.2;refine⟨by simp[h1],fun i y z hy hz=>?_⟩
   cases i with
   | zero=>simp only[aav,aab.injEq] at hy hz;subst hy;subst hz;exact bB h.1
   | succ i=>exact h2 i y z (by simpa using hy) (by simpa using hz)
 | [],_::_,h=>by simp[xsB] at h
 | _::_,[],h=>by simp[xsB] at h
def xoB (fm:FM):Option X→Option Operand→Bool
 | none,none=>true
 | some x,some o=>xB fm x o
 | _,_=>false
theorem sH {x:Option X} {o:Option Operand} (h:xoB fm x o=true):iu fm x o:=by
 unfold xoB at h;split at h
 · trivial
 · exact bB h
 · cases h
def Mr:TypeDesc→Bool
 | .struct _ | .array _ _=>true
 | _=>false
def j9 (P:Program) (t:TypeId) (n:Nat) (ag:Bool):Bool:=
 (match P.underlying t with | some d=>Mr d==ag | none=>false)&&(match P.info? t with | some i=>i.size==n | none=>false)&&(ag||n==1)
theorem jC {t:TypeId} {n:Nat} {ag:Bool} (h:j9 P t n ag=true):ju P t n ag:=by
 unfold j9 at h;simp only[aac,aa6] at h;obtain⟨⟨h1,h2⟩,h3⟩:=h;refine⟨?_,?_,?_⟩
 · split at h1
   · rename_i d hd;refine⟨d,hd,?_⟩;rw[← eq_of_beq h1];cases d<;>rfl
   · cases h1
 · split at h2
   · rename_i i hi;exact⟨i,hi,eq_of_beq h2⟩
   · cases h2
 · intro hag;rcases h3 with h3 | h3
   · rw[hag] at h3;cases h3
   · exact eq_of_beq h3
def m8 (P:Program) (t:TypeId) (zs:List DV):Bool:=match bI P t with | some u=>DV.n5 u zs | none=>false
theorem gf {t:TypeId} {zs:List DV} (h:m8 P t zs=true):bI P t=some zs:=by
 unfold m8 at h;split at h
 · rename_i u hu;rw[hu,DV.kK _ _ h]
 · cases h
def HQ (P:Program) (t:TypeId) (z:DV):Bool:=match yP P t with | some u=>DV.beq u z | none=>false
theorem Ik {t:TypeId} {z:DV} (h:HQ P t z=true):yP P t=some z:=by
 unfold HQ at h;split at h
 · rename_i u hu;rw[hu,DV.beq_eq _ _ h]
 · cases h
def pO (P:Program) (fm:FM) (t:TypeId):List (Nat×Nat×X)→List (Nat×Operand)→Bool
 | [],[]=>true
 | (off,n,x)::xs,(i,o)::os=>(match placeOf P t i with | some (a,b)=>a==off&&b==n | none=>false)&&xB fm x o&&pO P fm t xs os
 | _,_=>false
theorem uL {t:TypeId}:∀ {xs:List (Nat×Nat×X)} {os:List (Nat×Operand)},pO P fm t xs os=true→yV fm (placeOf P t) xs os
 | [],[],_=>⟨rfl,fun k off n x i o h=>by simp at h⟩
 | (off,n,x)::xs,(i,o)::os,h=>by
   simp only[pO,aac] at h;obtain⟨⟨h0,h1⟩,h2⟩:=h;obtain⟨g1,g2⟩:=uL h2;refine⟨by simp[g1],fun k off' n' y i' o' hy hz=>?_⟩
   cases k with
   | zero=>
     simp only[aav,aab.injEq,Prod.mk.injEq] at hy hz;obtain⟨rfl,rfl,rfl⟩:=hy;obtain⟨rfl,rfl⟩:=hz;refine⟨?_,bB h1⟩;split at h0
     · rename_i a b hab;simp only[aac] at h0;rw[hab,eq_of_beq h0.1,eq_of_beq h0.2]
     · cases h0
   | succ k=>exact g2 k off' n' y i' o' (by simpa using hy) (by simpa using hz)
 | [],_::_,h=>by simp[pO] at h
 | _::_,[],h=>by simp[pO] at h
def sn (fm:FM):List (Nat×X)→List (Nat×Operand)→Bool
 | [],[]=>true
 | (j,x)::xs,(i,o)::os=>j==i&&xB fm x o&&sn fm xs os
 | _,_=>false
theorem sF:∀ {xs:List (Nat×X)} {os:List (Nat×Operand)},sn fm xs os=true→os.length=xs.length∧∀ (k j j':Nat) (x:X) (o:Operand),xs[k]? = some (j,x)→os[k]? = some (j',o)→j=j'∧bP fm x o
 | [],[],_=>⟨rfl,fun k off n x i h=>by simp at h⟩
 | (j,x)::xs,(i,o)::os,h=>by
   simp only[sn,aac] at h;obtain⟨⟨h0,h1⟩,h2⟩:=h;obtain⟨g1,g2⟩:=sF h2;refine⟨by simp[g1],fun k j1 j2 y o' hy hz=>?_⟩
   cases k with
   | zero=>
     simp only[aav,aab.injEq,Prod.mk.injEq] at hy hz;obtain⟨rfl,rfl⟩:=hy;obtain⟨rfl,rfl⟩:=hz;exact⟨eq_of_beq h0,bB h1⟩
   | succ k=>exact g2 k j1 j2 y o' (by simpa using hy) (by simpa using hz)
 | [],_::_,h=>by simp[sn] at h
 | _::_,[],h=>by simp[sn] at h
def opB (P:Program) (fm:FM) (r:ROp) (o:Op):Bool:=
 match r with
 | .mv x=>(match o with | .move xo=>xB fm x xo | .assign xo=>xB fm x xo | _=>false)
 | .pick c a b=>(match o with | .pick co ao bo=>xB fm c co&&xB fm a ao&&xB fm b bo | _=>false)
 | .alloc zs=>(match o with | .alloc e=>m8 P e zs | _=>false)
 | .box _ x=>(match o with | .box _ xo=>xB fm x xo | _=>false)
 | .build zs parts=>(match o with | .build t ps=>m8 P t zs&&pM P t&&pO P fm t parts ps.toList | _=>false)
 | .lit n ag zs len parts=>(match o with
   | .buildSlice t l ps=>l==len&&(match P.underlying t with
     | some (.slice e)=>(match P.info? e with | some i=>i.size==n | none=>false)&&m8 P e zs&&zs.length==n&&(ag||n==1)&&Nat.ble (len*n) 16777216&&sn fm parts ps.toList
     | _=>false)
   | _=>false)
 | .mi n _ zs len parts=>(match o with
   | .buildSlice t l ps=>l==len&&(match P.underlying t with
     | some (.slice e)=>(match P.info? e with | some i=>i.size==n | none=>false)&&m8 P e zs&&zs.length==n&&Nat.ble (len*n) 16777216&&sn fm parts ps.toList
     | _=>false)
   | _=>false)
 | .load n ag x=>(match o with | .load t xo=>j9 P t n ag&&xB fm x xo | _=>false)
 | .store n x v=>(match o with | .store t xo vo=>(match P.info? t with | some i=>i.size==n | none=>false)&&xB fm x xo&&xB fm v vo | _=>false)
 | .bc x=>(match o with | .nilCheck xo=>xB fm x xo | _=>false)
 | .bin op x y=>(match o with | .binOp op' _ xo yo _=>decide (op=op')&&xB fm x xo&&xB fm y yo | _=>false)
 | .eq k neg x y=>(match o with | .binOp op' t xo yo _=>decide (op'=if neg then .neq else .eql)&&Be P t k&&xB fm x xo&&xB fm y yo | _=>false)
 | .un op x=>(match o with | .unOp op' _ xo=>decide (op=op')&&xB fm x xo | _=>false)
 | .i2i k x=>(match o with | .convert s d xo=>(P.underlying s).isSome&&(match P.underlying d with | some (.int k')=>decide (k=k') | _=>false)&&xB fm x xo | _=>false)
 | .i2s .. => false
 | .same .. => false
 | .s2b x | .s2h x=>(match o with
   | .convert s d xo=>(match P.underlying s with | some .string=>true | _=>false)&&(match P.underlying d with | some (.slice e)=>(match P.underlying e with | some (.int k)=>decide (k=.u8) | _=>false) | _=>false)&&xB fm x xo
   | _=>false)
 | .b2s x=>(match o with
   | .convert s d xo=>(match P.underlying d with | some .string=>true | _=>false)&&(match P.underlying s with | some (.slice e)=>(match P.underlying e with | some (.int k)=>decide (k=.u8) | _=>false) | _=>false)&&xB fm x xo
   | _=>false)
 | .kW g fs cs=>(match o with | .makeFunc (.func f) fo co=>(match fm g with | some f'=>f'==f | none=>false)&&xsB fm fs fo.toList&&xsB fm cs co.toList | _=>false)
 | .iQ=>(match o with | .makeMap _ none=>true | _=>false)
 | .cl n _ bytes zs l c=>(match o with
   | .makeSlice t lo co=>(match P.underlying t with
     | some (.slice e)=>(match P.info? e with | some i=>i.size==n&&i.bytes==bytes | none=>false)&&m8 P e zs&&zs.length==n&&xB fm l lo&&xB fm c co
     | _=>false)
   | _=>false)
 | .kM n bytes l c=>(match o with
   | .makeSlice t lo co=>(match P.underlying t with
     | some (.slice e)=>(match P.info? e with | some i=>i.size==n&&i.bytes==bytes | none=>false)&&(bI P e).isSome&&xB fm l lo&&xB fm c co
     | _=>false)
   | _=>false)
 | .slice true _ x lo hi mx=>(match o with | .slice t xo lo' hi' none=>(match P.underlying t with | some .string=>true | _=>false)&&mx.isNone&&xB fm x xo&&xoB fm lo lo'&&xoB fm hi hi' | _=>false)
 | .slice false n x lo hi mx=>(match o with
   | .slice t xo lo' hi' mx'=>(match P.underlying t with | some (.slice e)=>(match P.info? e with | some i=>i.size==n | none=>false) | _=>false)&&xB fm x xo&&xoB fm lo lo'&&xoB fm hi hi'&&xoB fm mx mx'
   | _=>false)
 | .fU off x=>(match o with
   | .fieldAddr s xo k=>(match P.underlying s with | some (.struct fs)=>(match fs[k]? with | some f=>(match P.info? f.type with | some i => !(i.size==0) | none=>false)&&f.offset==off | none=>false) | _=>false)&&xB fm x xo
   | _=>false)
 | .field n ag off x=>(match o with
   | .field s xo k=>(match P.underlying s with | some (.struct fs)=>(match fs[k]? with | some f=>j9 P f.type n ag&&f.offset==off | none=>false) | _=>false)&&xB fm x xo
   | _=>false)
 | .bC n x j=>(match o with
   | .indexAddr t xo jo=>(match P.underlying t with | some (.slice e)=>(match P.info? e with | some i=>i.size==n | none=>false) | _=>false)&&xB fm x xo&&xB fm j jo
   | _=>false)
 | .gv n len x j=>(match o with
   | .indexAddr t xo jo=>(match P.underlying t with | some (.array l e)=>l==len&&(match P.info? e with | some i=>i.size==n | none=>false) | _=>false)&&xB fm x xo&&xB fm j jo
   | _=>false)
 | .index x j=>(match o with | .index t xo jo=>(match P.underlying t with | some .string=>true | _=>false)&&xB fm x xo&&xB fm j jo | _=>false)
 | .kE n ag len x j=>(match o with
   | .index t xo jo=>(match P.underlying t with | some (.array l e)=>l==len&&j9 P e n ag | _=>false)&&xB fm x xo&&xB fm j jo
   | _=>false)
 | .lookup ks zero x j ok=>(match o with
   | .lookup t xo jo ok'=>(ok==ok')&&(match P.underlying t with | some (.map k e)=>qq P k ks&&HQ P e zero | _=>false)&&xB fm x xo&&xB fm j jo
   | _=>false)
 | .fk ks m k v=>(match o with
   | .mapUpdate t mo ko vo=>(match P.underlying t with | some (.map kt _)=>qq P kt ks | _=>false)&&xB fm m mo&&xB fm k ko&&xB fm v vo
   | _=>false)
 | .extract x i=>(match o with | .extract xo j=>i==j&&xB fm x xo | _=>false)
 | .iface .. => false
 | .len k x=>(match o with | .call c=>(match c.callee,c.args.toList,c.argTypes.toList with | .builtin .len,[xo],[t]=>wT P t k&&xB fm x xo | _,_,_=>false) | _=>false)
 | .Ap .. => false
 | .cap .. => false
 | .append n ag bytes x y=>(match o with
   | .call c=>(match c.callee,c.args.toList,c.argTypes.toList with
     | .builtin .append,[xo,yo],[t,u]=>(match P.underlying t with
       | some (.slice e)=>(match P.info? e with | some i=>i.size==n&&i.bytes==bytes | none=>false)&&(match bI P e with | some zs=>zs.length==n | none=>false)&&(ag||n==1)&&gM P u&&xB fm x xo&&xB fm y yo
       | _=>false)
     | _,_,_=>false)
   | _=>false)
 | .ft n ag bytes x y=>(match o with
   | .call c=>(match c.callee,c.args.toList,c.argTypes.toList with
     | .builtin .append,[xo,yo],[t,u]=>(match P.underlying t with
       | some (.slice e)=>(match P.info? e with | some i=>i.size==n&&i.bytes==bytes | none=>false)&&(match bI P e with | some zs=>zs.length==n | none=>false)&&(ag||n==1)&&gM P u&&xB fm x xo&&xB fm y yo
       | _=>false)
     | _,_,_=>false)
   | _=>false)
 | .clear .. => false
 | .copy .. => false
 | .max args=>(match o with | .call c=>(match c.callee with | .builtin .max=>xsB fm args c.args.toList | _=>false) | _=>false)
 | .min args=>(match o with | .call c=>(match c.callee with | .builtin .min=>xsB fm args c.args.toList | _=>false) | _=>false)
 | .call .. | .bO .. | .dS .. => false
 | .kA .. => false
 | .conv .. => false
 | .ik .. => false
 | .kl .. => false
 | .xa .. => false
 | .sliceB .. => false
 | .mU .. => false
 | .got .. => false
 | .fail=>(match o with | .defer _=>false | _=>true)
end Go.D
end
section
namespace Go.D
open Go.RowKit
variable {P:Program} {fm:FM}
theorem nW {b:Builtin} {c:Call} {as_:List Operand} {ts:List TypeId} {op:Op} (ho:op=.call c) (h1:c.callee=.builtin b) (h2:c.args.toList=as_) (h3:c.argTypes.toList=ts):builtinCall b as_ ts op:=⟨c,ho,h1,h2,h3⟩
theorem zq {e:TypeId} {n:Nat} (h:(match P.info? e with | some i=>i.size==n | none=>false)=true):∃ i,P.info? e=some i∧i.size=n:=by
 split at h
 · rename_i i hi;exact⟨i,hi,eq_of_beq h⟩
 · cases h
theorem sP {e:TypeId} {n b:Nat} (h:(match P.info? e with | some i=>i.size==n&&i.bytes==b | none=>false)=true):∃ i,P.info? e=some i∧i.size=n∧i.bytes=b:=by
 split at h
 · rename_i i hi;simp only[aac] at h;exact⟨i,hi,eq_of_beq h.1,eq_of_beq h.2⟩
 · cases h
theorem LA {α:Type} {o:Option α} (h:o.isSome=true):∃ x,o=some x:=abL.1 h
theorem HJ {t:TypeId} (h:(match P.underlying t with | some .string=>true | _=>false)=true):P.underlying t=some .string:=by
 split at h
 · assumption
 · cases h
theorem zM {t:TypeId} (h:(match P.underlying t with | some (.slice e)=>(match P.underlying e with | some (.int k)=>decide (k=.u8) | _=>false) | _=>false)=true):∃ e,P.underlying t=some (.slice e)∧P.underlying e=some (.int .u8):=by
 split at h
 · rename_i e he;split at h
   · rename_i k hk;have:=of_decide_eq_true h;subst this;exact⟨e,he,hk⟩
   · cases h
 · cases h
theorem slB {t:TypeId} {n:Nat} (h:(match P.underlying t with | some (.slice e)=>(match P.info? e with | some i=>i.size==n | none=>false) | _=>false)=true):∃ e i,P.underlying t=some (.slice e)∧P.info? e=some i∧i.size=n:=by
 split at h
 · rename_i e he;obtain⟨i,h1,h2⟩:=zq h;exact⟨e,i,he,h1,h2⟩
 · cases h
theorem orB {ag:Bool} {n:Nat} (h:(ag||n==1)=true):ag=true∨n=1:=by
 simp only[aa6] at h;rcases h with h | h
 · exact .inl h
 · exact .inr (eq_of_beq h)
theorem Oq {r:ROp} {o:Oper} (h:opB P fm r o.op=true):aP P fm r o:=by
 cases r with
 | mv x=>
   simp only[opB] at h;split at h
   · exact yB (.inl (by assumption)) (bB h)
   · exact yB (.inr (by assumption)) (bB h)
   · cases h
 | pick c a b=>
   simp only[opB] at h;split at h
   · simp only[aac] at h;exact A4 (by assumption) (bB h.1.1) (bB h.1.2) (bB h.2)
   · cases h
 | alloc zs=>
   simp only[opB] at h;split at h
   · exact xK (by assumption) (gf h)
   · cases h
 | box n x=>
   simp only[opB] at h;split at h
   · exact E4 (by assumption) (bB h)
   · cases h
 | build zs parts=>
   simp only[opB] at h;split at h
   · simp only[aac] at h;exact zE (by assumption) (gf h.1.1) h.1.2 (uL h.2)
   · cases h
 | lit n ag zs len parts=>
   simp only[opB] at h;split at h
   · rename_i ho;simp only[aac] at h;have hl:=eq_of_beq h.1;subst hl;have h:=h.2;split at h
     · rename_i e he;simp only[aac] at h;obtain⟨⟨⟨⟨⟨h1,h2⟩,h3⟩,h4⟩,h5⟩,h6⟩:=h;obtain⟨i,hi,hn⟩:=zq h1;exact Ed ho he hi hn (gf h2) (eq_of_beq h3) (orB h4) (aaL h5) (sF h6)
     · cases h
   · cases h
 | mi n ag zs len parts=>
   simp only[opB] at h;split at h
   · rename_i ho;simp only[aac] at h;have hl:=eq_of_beq h.1;subst hl;have h:=h.2;split at h
     · rename_i e he;simp only[aac] at h;obtain⟨⟨⟨⟨h1,h2⟩,h3⟩,h5⟩,h6⟩:=h;obtain⟨i,hi,hn⟩:=zq h1;exact Af ho he hi hn (gf h2) (eq_of_beq h3) (aaL h5) (sF h6)
     · cases h
   · cases h
 | load n ag x=>
   simp only[opB] at h;split at h
   · simp only[aac] at h;exact Ba (by assumption) (jC h.1) (bB h.2)
   · cases h
 | store n x v=>
   simp only[opB] at h;split at h
   · simp only[aac] at h;obtain⟨i,hi,hn⟩:=zq h.1.1;exact x6 (by assumption) hi hn (bB h.1.2) (bB h.2)
   · cases h
 | bc x=>
   simp only[opB] at h;split at h
   · exact wA (by assumption) (bB h)
   · cases h
 | bin op x y=>
   simp only[opB] at h;split at h
   · rename_i ho;simp only[aac] at h;have:=of_decide_eq_true h.1.1;subst this;exact DP ho (bB h.1.2) (bB h.2)
   · cases h
 | eq k neg x y=>
   simp only[opB] at h;split at h
   · rename_i ho;simp only[aac] at h;have:=of_decide_eq_true h.1.1.1;subst this;exact Gr ho h.1.1.2 (bB h.1.2) (bB h.2)
   · cases h
 | un op x=>
   simp only[opB] at h;split at h
   · rename_i ho;simp only[aac] at h;have:=of_decide_eq_true h.1;subst this;exact GV ho (bB h.2)
   · cases h
 | i2i k x=>
   simp only[opB] at h;split at h
   · rename_i ho;simp only[aac] at h;obtain⟨⟨h1,h2⟩,h3⟩:=h;obtain⟨e,he⟩:=LA h1;split at h2
     · rename_i k' hk;have:=of_decide_eq_true h2;subst this;exact Ek ho he hk (bB h3)
     · cases h2
   · cases h
 | i2s x=>simp[opB] at h
 | same x=>simp[opB] at h
 | s2b x=>
   simp only[opB] at h;split at h
   · rename_i ho;simp only[aac] at h;obtain⟨⟨h1,h2⟩,h3⟩:=h;obtain⟨e,he,hu⟩:=zM h2;exact E8 ho (HJ h1) he hu (bB h3)
   · cases h
 | s2h x=>
   simp only[opB] at h;split at h
   · rename_i ho;simp only[aac] at h;obtain⟨⟨h1,h2⟩,h3⟩:=h;obtain⟨e,he,hu⟩:=zM h2;exact Es ho (HJ h1) he hu (bB h3)
   · cases h
 | b2s x=>
   simp only[opB] at h;split at h
   · rename_i ho;simp only[aac] at h;obtain⟨⟨h1,h2⟩,h3⟩:=h;obtain⟨e,he,hu⟩:=zM h2;exact D8 ho he hu (HJ h1) (bB h3)
   · cases h
 | kW g fs cs=>
   simp only[opB] at h;split at h
   · rename_i ho;simp only[aac] at h;obtain⟨⟨h1,h2⟩,h3⟩:=h;split at h1
     · rename_i f' hf;have:=eq_of_beq h1;subst this;exact AU ho hf (lW h2) (lW h3)
     · cases h1
   · cases h
 | iQ=>
   simp only[opB] at h;split at h
   · exact zb (by assumption)
   · cases h
 | cl n ag bytes zs l c=>
   simp only[opB] at h;split at h
   · rename_i ho;split at h
     · rename_i e he;simp only[aac] at h;obtain⟨⟨⟨⟨h1,h2⟩,h3⟩,h4⟩,h5⟩:=h
       obtain⟨i,hi,hn,hb⟩:=sP (P:=P) (e:=e) (n:=n) (b:=bytes) (by
        split
        · rename_i i hi;rw[hi] at h1;simpa using h1
        · rename_i hi;rw[hi] at h1;cases h1)
       exact tT ho he hi hn hb (gf h2) (eq_of_beq h3) (bB h4) (bB h5)
     · cases h
   · cases h
 | kM n bytes l c=>
   simp only[opB] at h;split at h
   · rename_i ho;split at h
     · rename_i e he;simp only[aac] at h;obtain⟨⟨⟨h1,h2⟩,h4⟩,h5⟩:=h
       obtain⟨i,hi,hn,hb⟩:=sP (P:=P) (e:=e) (n:=n) (b:=bytes) (by
        split
        · rename_i i hi;rw[hi] at h1;simpa using h1
        · rename_i hi;rw[hi] at h1;cases h1)
       obtain⟨zs,hz⟩:=LA h2;exact xn ho he hi hn hb hz (bB h4) (bB h5)
     · cases h
   · cases h
 | slice str n x lo hi mx=>
   cases str with
   | true=>
     simp only[opB] at h;split at h
     · rename_i ho;simp only[aac] at h;obtain⟨⟨⟨⟨h1,h2⟩,h3⟩,h4⟩,h5⟩:=h;have:mx=none:=Option.isNone_iff_eq_none.1 h2;subst this;exact qA ho (HJ h1) (bB h3) (sH h4) (sH h5)
     · cases h
   | false=>
     simp only[opB] at h;split at h
     · rename_i ho;simp only[aac] at h;obtain⟨⟨⟨⟨h1,h2⟩,h3⟩,h4⟩,h5⟩:=h;obtain⟨e,i,he,hi,hn⟩:=slB h1;exact xN ho he hi hn (bB h2) (sH h3) (sH h4) (sH h5)
     · cases h
 | fU off x=>
   simp only[opB] at h;split at h
   · rename_i ho;simp only[aac] at h;obtain⟨h1,h2⟩:=h;split at h1
     · rename_i fs hfs;split at h1
       · rename_i f hf;simp only[aac] at h1;obtain⟨h3,h4⟩:=h1;split at h3
         · rename_i i hi;exact zx ho hfs hf hi (by intro e;rw[e] at h3;simp at h3) (eq_of_beq h4) (bB h2)
         · cases h3
       · cases h1
     · cases h1
   · cases h
 | field n ag off x=>
   simp only[opB] at h;split at h
   · rename_i ho;simp only[aac] at h;obtain⟨h1,h2⟩:=h;split at h1
     · rename_i fs hfs;split at h1
       · rename_i f hf;simp only[aac] at h1;exact zk ho hfs hf (jC h1.1) (eq_of_beq h1.2) (bB h2)
       · cases h1
     · cases h1
   · cases h
 | bC n x j=>
   simp only[opB] at h;split at h
   · rename_i ho;simp only[aac] at h;obtain⟨⟨h1,h2⟩,h3⟩:=h;obtain⟨e,i,he,hi,hn⟩:=slB h1;exact yN ho he hi hn (bB h2) (bB h3)
   · cases h
 | gv n len x j=>
   simp only[opB] at h;split at h
   · rename_i ho;simp only[aac] at h;obtain⟨⟨h1,h2⟩,h3⟩:=h;split at h1
     · rename_i l e he;simp only[aac] at h1
       obtain⟨i,hi,hn⟩:=zq (P:=P) (e:=e) (n:=n) (by
        have h1:=h1.2;split
        · rename_i i hi;rw[hi] at h1;simpa using h1
        · rename_i hi;rw[hi] at h1;cases h1)
       have:=eq_of_beq h1.1;subst this;exact u7 ho he hi hn (bB h2) (bB h3)
     · cases h1
   · cases h
 | index x j=>
   simp only[opB] at h;split at h
   · rename_i ho;simp only[aac] at h;exact x9 ho (HJ h.1.1) (bB h.1.2) (bB h.2)
   · cases h
 | kE n ag len x j=>
   simp only[opB] at h;split at h
   · rename_i ho;simp only[aac] at h;obtain⟨⟨h1,h2⟩,h3⟩:=h;split at h1
     · rename_i l e he;simp only[aac] at h1;have:=eq_of_beq h1.1;subst this;exact wF ho he (jC h1.2) (bB h2) (bB h3)
     · cases h1
   · cases h
 | lookup ks zero x j ok=>
   simp only[opB] at h;split at h
   · rename_i ho;simp only[aac] at h;obtain⟨⟨⟨h0,h1⟩,h2⟩,h3⟩:=h;split at h1
     · rename_i k e he;simp only[aac] at h1;have:=eq_of_beq h0;subst this;exact vS ho he h1.1 (Ik h1.2) (bB h2) (bB h3)
     · cases h1
   · cases h
 | fk ks m k v=>
   simp only[opB] at h;split at h
   · rename_i ho;simp only[aac] at h;obtain⟨⟨⟨h1,h2⟩,h3⟩,h4⟩:=h;split at h1
     · rename_i kt e he;exact wB ho he h1 (bB h2) (bB h3) (bB h4)
     · cases h1
   · cases h
 | extract x i=>
   simp only[opB] at h;split at h
   · rename_i ho;simp only[aac] at h;have:=eq_of_beq h.1;subst this;exact tL ho (bB h.2)
   · cases h
 | iface t x=>simp[opB] at h
 | len k x=>
   simp only[opB] at h;split at h
   · rename_i c ho;split at h
     · rename_i h1 h2 h3;simp only[aac] at h;exact Ef (nW ho h1 h2 h3) h.1 (bB h.2)
     · cases h
   · cases h
 | Ap n=>simp[opB] at h
 | cap x=>simp[opB] at h
 | append n ag bytes x y=>
   simp only[opB] at h;split at h
   · rename_i c ho;split at h
     · rename_i h1 h2 h3;split at h
       · rename_i e he;simp only[aac] at h;obtain⟨⟨⟨⟨⟨g1,g2⟩,g3⟩,g4⟩,g5⟩,g6⟩:=h
         obtain⟨i,hi,hn,hb⟩:=sP (P:=P) (e:=e) (n:=n) (b:=bytes) (by
          split
          · rename_i i hi;rw[hi] at g1;simpa using g1
          · rename_i hi;rw[hi] at g1;cases g1)
         split at g2
         · rename_i zs hz;exact ox (nW ho h1 h2 h3) he g4 hi hn hb hz (eq_of_beq g2) (orB g3) (bB g5) (bB g6)
         · cases g2
       · cases h
     · cases h
   · cases h
 | ft n ag bytes x y=>
   simp only[opB] at h;split at h
   · rename_i c ho;split at h
     · rename_i h1 h2 h3;split at h
       · rename_i e he;simp only[aac] at h;obtain⟨⟨⟨⟨⟨g1,g2⟩,g3⟩,g4⟩,g5⟩,g6⟩:=h
         obtain⟨i,hi,hn,hb⟩:=sP (P:=P) (e:=e) (n:=n) (b:=bytes) (by
          split
          · rename_i i hi;rw[hi] at g1;simpa using g1
          · rename_i hi;rw[hi] at g1;cases g1)
         split at g2
         · rename_i zs hz;exact tC (nW ho h1 h2 h3) he g4 hi hn hb hz (eq_of_beq g2) (orB g3) (bB g5) (bB g6)
         · cases g2
       · cases h
     · cases h
   · cases h
 | clear n zs x=>simp[opB] at h
 | copy n x y=>simp[opB] at h
 | max args=>
   simp only[opB] at h;split at h
   · rename_i c ho;split at h
     · rename_i h1;exact Ey (nW ho h1 rfl rfl) (lW h)
     · cases h
   · cases h
 | min args=>
   simp only[opB] at h;split at h
   · rename_i c ho;split at h
     · rename_i h1;exact DL (nW ho h1 rfl rfl) (lW h)
     · cases h
   · cases h
 | call g args=>simp[opB] at h
 | bO f args=>simp[opB] at h
 | dS f args=>simp[opB] at h
 | kA ty zs=>simp[opB] at h
 | conv ty n x=>simp[opB] at h
 | ik ty bytes x y=>simp[opB] at h
 | kl x=>simp[opB] at h
 | xa ty x l=>simp[opB] at h
 | sliceB n ag len x lo hi mx=>simp[opB] at h
 | mU n ag len x=>simp[opB] at h
 | got v xs=>simp only[opB] at h;cases h
 | fail=>
   intro CR G w0 st w fr a v st' hs hf hrun;simp[aA] at hrun
def rM:ROp→Bool
 | .alloc _ | .iQ | .cl .. => true
 | _=>false
theorem FW {r:ROp} {o:Oper} (h:opB P fm r o.op=true) (hf:rM r=true):kx P fm r o:=by
 cases r<;>simp only[rM,aao] at hf
 case alloc zs=>
  simp only[opB] at h;split at h
  · exact tD (by assumption) (gf h)
  · cases h
 case iQ=>
  simp only[opB] at h;split at h
  · exact tH (by assumption)
  · cases h
 case cl n ag bytes zs l c=>
  simp only[opB] at h;split at h
  · rename_i ho;split at h
    · rename_i e he;simp only[aac] at h;obtain⟨⟨⟨⟨h1,h2⟩,h3⟩,h4⟩,h5⟩:=h
      obtain⟨i,hi,hn,hb⟩:=sP (P:=P) (e:=e) (n:=n) (b:=bytes) (by
       split
       · rename_i i hi;rw[hi] at h1;simpa using h1
       · rename_i hi;rw[hi] at h1;cases h1)
      exact qz ho he hi hn hb (gf h2) (eq_of_beq h3) (bB h4) (bB h5)
    · cases h
  · cases h
end Go.D
end
section
namespace Go.D
open Go.RowKit
variable {P:Program} {fm:FM} {T:Tab}
def Ag (ops:Array Oper):Option (Nat×Bool)→Option (Nat×Bool)→Bool
 | none,none=>true
 | some (t,want),some (j,want')=>want==want'&&(match ops[j]? with | some o=>(match o.dst with | some u=>u==t | none=>false) | none=>false)
 | _,_=>false
theorem DS {ops:Array Oper} {g g':Option (Nat×Bool)} (h:Ag ops g g'=true):lh ops g g':=by
 unfold Ag at h;split at h
 · trivial
 · rename_i t want j want';simp only[aac] at h;obtain⟨h1,h2⟩:=h;refine⟨eq_of_beq h1,?_⟩;split at h2
   · rename_i o ho;split at h2
     · rename_i u hu;rw[ho];simp[hu,eq_of_beq h2]
     · cases h2
   · cases h2
 · cases h
def L8 (N:Nat):Option Nat→Option Nat→Bool
 | none,none=>true
 | some a,some b=>a==b&&Nat.blt b N
 | _,_=>false
theorem Kc {N:Nat} {a b:Option Nat} (h:L8 N a b=true):a=b∧∀ t,b=some t→t<N:=by
 unfold L8 at h;split at h
 · exact⟨rfl,fun t h=>by cases h⟩
 · rename_i a b;simp only[aac] at h;have h2:=h.2;refine⟨by rw[eq_of_beq h.1],fun t ht=>?_⟩;cases ht;exact aaL h2
 · cases h
def xC (fm:FM):ROp→Op→Bool
 | .call g args,.call c=>(match c.callee with | .value (.func f)=>(match fm g with | some f'=>f'==f | none=>false)&&xsB fm args c.args.toList | _=>false)
 | .bO f args,.call c=>(match c.callee with | .value fo=>xB fm f fo&&xsB fm args c.args.toList | _=>false)
 | .dS f args,.call c=>(match c.callee with | .value fo=>xB fm f fo&&xsB fm args c.args.toList | _=>false)
 | _,_=>false
def xL (P:Program) (fm:FM) (N:Nat) (ops:Array Oper) (r:au) (o:Oper):Bool:=
 L8 N r.dst o.dst&&Ag ops r.guard o.guard&&(if pD r.op then xC fm r.op o.op else opB P fm r.op o.op)
theorem Gc {N:Nat} {ops:Array Oper} {r:au} {o:Oper} (h:xL P fm N ops r o=true):n7 P fm N ops r o:=by
 unfold xL at h;simp only[aac] at h;obtain⟨⟨h1,h2⟩,h3⟩:=h;obtain⟨g1,g2⟩:=Kc h1;have g3:=DS h2
 have nd:∀ c,o.op≠.defer c:=by
  intro c e;split at h3
  · unfold xC at h3;rw[e] at h3;split at h3<;>first | (cases h3;done) | (rename_i heq;cases heq)
  · unfold opB at h3;rw[e] at h3;split at h3<;>first | (cases h3;done) | (simp at h3;done)
 refine⟨g1,g2,g3,nd,?_⟩
 cases hr:r.op with
 | call g args=>
   rw[hr] at h3;simp only[pD,if_true] at h3;unfold xC at h3;split at h3
   · rename_i c heq ho;cases heq;split at h3
     · rename_i f hc;simp only[aac] at h3;obtain⟨h4,h5⟩:=h3;split at h4
       · rename_i f' hf;have:=eq_of_beq h4;subst this;exact⟨c,f',ho,hc,hf,lW h5⟩
       · cases h4
     · cases h3
   all_goals first | (rename_i heq _;cases heq;done) | cases h3
 | bO f args=>
   rw[hr] at h3;simp only[pD,if_true] at h3;unfold xC at h3;split at h3
   · rename_i heq _;cases heq
   · rename_i c heq ho;cases heq;split at h3
     · rename_i fo hc;simp only[aac] at h3;exact⟨c,fo,ho,hc,bB h3.1,lW h3.2⟩
     · cases h3
   · rename_i heq _;cases heq
   · cases h3
 | dS f args=>
   rw[hr] at h3;simp only[pD,if_true] at h3;unfold xC at h3;split at h3
   · rename_i heq _;cases heq
   · rename_i heq _;cases heq
   · rename_i c heq ho;cases heq;split at h3
     · rename_i fo hc;simp only[aac] at h3;exact⟨c,fo,ho,hc,bB h3.1,lW h3.2⟩
     · cases h3
   · cases h3
 | _=>
   rw[hr] at h3;simp only[pD,if_false,aao] at h3;exact Oq h3
def mC (P:Program) (fm:FM) (N:Nat) (ops:Array Oper):List au→List Oper→Bool
 | [],[]=>true
 | r::rs,o::os=>xL P fm N ops r o&&mC P fm N ops rs os
 | _,_=>false
theorem yZ {N:Nat} {ops:Array Oper}:∀ {rs:List au} {os:List Oper},mC P fm N ops rs os=true→rs.length=os.length∧∀ (i:Nat) (r:au),rs[i]? = some r→∃ o,os[i]? = some o∧n7 P fm N ops r o
 | [],[],_=>⟨rfl,fun i r h=>by simp at h⟩
 | r::rs,o::os,h=>by
   simp only[mC,aac] at h;obtain⟨h1,h2⟩:=yZ h.2;refine⟨by simp[h1],fun i r' hr=>?_⟩
   cases i with
   | zero=>simp only[aav,aab.injEq] at hr;subst hr;exact⟨o,rfl,Gc h.1⟩
   | succ i=>simpa using h2 i r' (by simpa using hr)
 | [],_::_,h=>by simp[mC] at h
 | _::_,[],h=>by simp[mC] at h
def MA (P:Program) (fm:FM) (N:Nat) (rs:List au) (ops:Array Oper):Bool:=mC P fm N ops rs ops.toList
theorem B0 {N:Nat} {rs:List au} {ops:Array Oper} (h:MA P fm N rs ops=true):vW P fm N rs ops:=by
 obtain⟨h1,h2⟩:=yZ h;exact⟨by simpa using h1,fun i r hr=>by simpa using h2 i r hr⟩
theorem zP {N:Nat} {ops:Array Oper} {r:au} {o:Oper} (h:xL P fm N ops r o=true) (hf:rM r.op=true):kx P fm r.op o:=by
 unfold xL at h;simp only[aac] at h;obtain⟨⟨h1,h2⟩,h3⟩:=h;have hc:pD r.op=false:=by cases hr:r.op<;>rw[hr] at hf<;>first | rfl | cases hf
 rw[hc] at h3;simp only[if_false,aao] at h3;exact FW h3 hf
theorem qZ {N:Nat} {ops:Array Oper}:∀ {rs:List au} {os:List Oper},mC P fm N ops rs os=true→∀ (i:Nat) (r:au) (o:Oper),rs[i]? = some r→os[i]? = some o→rM r.op=true→kx P fm r.op o
 | [],[],_=>fun i r o h=>by simp at h
 | r::rs,o::os,h=>by
   simp only[mC,aac] at h;intro i r' o' hr ho hf
   cases i with
   | zero=>
     simp only[aav,aab.injEq] at hr ho;subst hr;subst ho;exact zP h.1 hf
   | succ i=>exact qZ h.2 i r' o' (by simpa using hr) (by simpa using ho) hf
 | [],_::_,h=>by simp[mC] at h
 | _::_,[],h=>by simp[mC] at h
end Go.D
end
section
namespace Go.D
open Go.RowKit
variable {P:Program} {fm:FM} {T:Tab}
def Kp (A:List (List Nat)) (o:Oper):List (List Nat):=
 A++[(o.after.toList.foldl (fun (s:List Nat) e=>if Region.binds .any e then s++(e.on::A.getD e.on []).filter (fun i => !s.contains i) else s) [])]
def I0 (ops:List Oper):List (List Nat):=ops.foldl Kp []
def je {α:Type} (p:Nat→α→Bool):List α→Nat→Bool
 | [],_=>true
 | x::xs,i=>p i x&&je p xs (i+1)
theorem ya {α:Type} {p:Nat→α→Bool}:∀ {l:List α} {k:Nat},je p l k=true→∀ i x,l[i]? = some x→p (k+i) x=true
 | [],_,_,i,x,h=>by simp at h
 | y::ys,k,h,i,x,hx=>by
   simp only[je,aac] at h
   cases i with
   | zero=>simp only[aav,aab.injEq] at hx;subst hx;exact h.1
   | succ i=>
     have:=ya h.2 i x (by simpa using hx)
     rwa [show k+1+i=k+(i+1) by omega] at this
theorem jT {α:Type} {p:Nat→α→Bool} {l:List α} (h:je p l 0=true) (i:Nat) (x:α) (hx:l[i]? = some x):p i x=true:=by
 have:=ya h i x hx
 rwa [aar] at this
def FY (r:au) (t:Nat):Bool:=match r.dst with | some u=>u==t | none=>false
theorem Iw {r:au} {t:Nat} (h:r.dst=some t):FY r t=true:=by unfold FY;rw[h];simp
def CB (A:List (List Nat)) (j:Nat) (o:Oper):Bool:=
 (A.getD j []).all (fun i=>Nat.blt i j&&o.after.toList.any (fun e=>Region.binds .any e&&(e.on==i||(Nat.blt e.on j&&(A.getD e.on []).contains i)))) &&
 o.after.toList.all (fun e => !Region.binds .any e||Nat.blt e.on j)
def xT (pf:Nat→Bool) (A:List (List Nat)) (i:Nat) (r:au) (j:Nat) (r':au):Bool:=
 (!(Nat.blt i j) || !(aR pf r.op) || !(aR pf r'.op)||(A.getD j []).contains i) &&
 (match r.dst with
  | none=>true
  | some t=>(i==j || !FY r' t)&&(!(r'.reads.contains t)||(!(i==j)&&(!(Nat.blt i j)||(A.getD j []).contains i)&&(!(Nat.blt j i)||(A.getD i []).contains j))))
def uQ (rs:List au) (chk:List (Nat×List Nat)):Bool:=
 chk.all fun (j,_)=>match rs[j]? with
  | none=>true
  | some r=>je (fun i r'=>match r'.dst with | none=>true | some t => !(r.reads.contains t)||Nat.blt i j) rs 0
def Hu (pf:Nat→Bool) (A:List (List Nat)) (rs:List au) (chk:List (Nat×List Nat)) (j:Nat) (r:au):Bool:=
 aR pf r.op||cU r.op||(aan (az pf rs rs.length+1)).all fun v=>
  !(je (fun i r' => !(aR pf r'.op) || !((A.getD j []).contains i)||Nat.blt (az pf rs i) v) rs 0) ||
  !(je (fun i r' => !(aR pf r'.op) || !((A.getD i []).contains j)||Nat.ble v (az pf rs i)) rs 0) ||
  v==az pf rs j||(r.dst.isSome&&chk.any fun (j',vs)=>j'==j&&vs.contains v)
def G4 (pf:Nat→Bool) (rs:List au) (chk:List (Nat×List Nat)) (ops:Array Oper) (A:List (List Nat)):Bool:=
 je (CB A) ops.toList 0&&uQ rs chk&&je (fun i r=>je (fun j r'=>xT pf A i r j r') rs 0) rs 0&&je (Hu pf A rs chk) rs 0
def GJ (rs:List au) (j:Nat):Bool:=match rs[j]? with | some r=>rM r.op | none=>true
def Ix (P:Program) (fm:FM) (pf:Nat→Bool) (N:Nat) (rs:List au) (hs:List Nat) (chk:List (Nat×List Nat)) (ops:Array Oper) (A:List (List Nat)):Bool:=
 MA P fm N rs ops&&G4 pf (nX hs 0 rs) chk ops A&&hs.all (GJ rs)
theorem q8 {a b:Nat} (h:Nat.blt a b=true):a<b:=aaL h
theorem u5 {a b:Nat} (h:a<b):Nat.blt a b=true:=Nat.ble_eq_true_of_le h
theorem contains_of {l:List Nat} {i:Nat} (h:l.contains i=true):i∈l:=List.contains_iff_mem.1 h
theorem qt {l:List Nat} {i:Nat} (h:i∈l):l.contains i=true:=List.contains_iff_mem.2 h
theorem yR {a b:Bool} (h:(!a||b)=true) (ha:a=true):b=true:=by subst ha;simpa using h
theorem sS {α:Type} {p:Nat→α→Bool}:∀ {l:List α} {k:Nat},(∀ i x,l[i]? = some x→p (k+i) x=true)→je p l k=true
 | [],_,_=>rfl
 | y::ys,k,h=>by
   simp only[je,aac];refine⟨h 0 y rfl,sS fun i x hx=>?_⟩;have:=h (i+1) x (by simpa using hx)
   rwa [show k+1+i=k+(i+1) by omega]
theorem G0 {rs:List au} {chk:List (Nat×List Nat)} {ops:Array Oper} {A:List (List Nat)} (h:G4 (aw T) rs chk ops A=true):pX T rs chk ops (fun j=>A.getD j []):=by
 unfold G4 at h;simp only[aac] at h;obtain⟨⟨⟨h2,h3⟩,h4⟩,h5⟩:=h;have hj:∀ (j:Nat) (o:Oper),ops[j]? = some o→CB A j o=true:=fun j o ho=>jT h2 j o (by simpa using ho);have hp:∀ (i j:Nat) (r r':au),rs[i]? = some r→rs[j]? = some r'→xT (aw T) A i r j r'=true:=fun i j r r' hr hr'=>jT (jT h4 i r hr) j r' hr';refine { Eb:=?_,ui:=?_,kb:=?_,vK:=?_,iD:=?_,l9:=?_,cover:=?_ }
 · intro j o ho i hi;have:=hj j o ho;unfold CB at this;simp only[aac] at this;have:=aae.1 this.1 i hi;simp only[aac] at this;refine⟨q8 this.1,?_⟩;obtain⟨e,he,hb⟩:=abf.1 this.2;simp only[aac,aa6] at hb;refine⟨e,he,hb.1,?_⟩;rcases hb.2 with h | h
   · exact .inl (eq_of_beq h)
   · exact .inr ⟨q8 h.1,contains_of h.2⟩
 · intro j o ho e he hb;have:=hj j o ho;unfold CB at this;simp only[aac] at this;exact q8 (yR (aae.1 this.2 e he) hb)
 · intro j vs r hc hr i t r' hr' hd ht;unfold uQ at h3;have:=aae.1 h3 _ hc;simp only[hr] at this;have:=jT this i r' hr';simp only[hd] at this;exact q8 (yR this (qt ht))
 · intro i j r r' hij hr hr' hl hl';have:=hp i j r r' hr hr';unfold xT at this;simp only[aac] at this;have:=this.1;rw[u5 hij,hl,hl'] at this;exact contains_of (by simpa using this)
 · intro i j t r r' hij hr hr' hd hd';have:=hp i j r r' hr hr';unfold xT at this;simp only[aac,hd] at this;have:=this.2.1;rw[Iw hd'] at this;simp at this;exact hij this
 · intro i j t r r' hr hr' hd ht;have:=hp i j r r' hr hr';unfold xT at this;simp only[aac,hd] at this;have:=yR this.2.2 (qt ht);simp only[aac] at this;refine⟨by rintro rfl;have:=this.1.1;simp at this,fun h=>contains_of (yR this.1.2 (u5 h)),fun h=>contains_of (yR this.2 (u5 h))⟩
 · intro j v r hr hl hsl hlow hup hv;have:=jT h5 j r hr;unfold Hu at this;rw[hl,hsl] at this;simp only[abJ] at this;have:=aae.1 this v (abF.2 (by omega))
   have e1:je (fun i r' => !(aR (aw T) r'.op) || !((A.getD j []).contains i)||Nat.blt (az (aw T) rs i) v) rs 0=true:=by
    refine sS fun i x hx=>?_;rw[aar]
    cases hlx:aR (aw T) x.op with
    | false=>rfl
    | true=>
      cases hcx:(A.getD j []).contains i with
      | false=>rfl
      | true=>simpa using u5 (hlow i x hx hlx (contains_of hcx))
   have e2:je (fun i r' => !(aR (aw T) r'.op) || !((A.getD i []).contains j)||Nat.ble v (az (aw T) rs i)) rs 0=true:=by
    refine sS fun i x hx=>?_;rw[aar]
    cases hlx:aR (aw T) x.op with
    | false=>rfl
    | true=>
      cases hcx:(A.getD i []).contains j with
      | false=>rfl
      | true=>simpa using Nat.ble_eq_true_of_le (hup i x hx hlx (contains_of hcx))
   rw[e1,e2] at this;simp only[Bool.not_true,abJ,aa6,aac] at this;rcases this with h | h
   · exact .inl (eq_of_beq h)
   · obtain⟨q,hq,hqq⟩:=abf.1 h.2;obtain⟨j',vs⟩:=q;simp only[aac] at hqq;have:=eq_of_beq hqq.1;subst this;exact .inr ⟨vs,hq,contains_of hqq.2,h.1⟩
theorem HN {N:Nat} {rs:List au} {hs:List Nat} {chk:List (Nat×List Nat)} {ops:Array Oper} {A:List (List Nat)} (h:Ix P fm (aw T) N rs hs chk ops A=true):MV P fm T N rs hs chk ops (fun j=>A.getD j []):=by
 unfold Ix at h;simp only[aac] at h;obtain⟨⟨h1,h2⟩,h3⟩:=h;refine⟨B0 h1,fun j r o hj hr ho=>?_,G0 h2⟩;have:=aae.1 h3 j hj;unfold GJ at this;rw[hr] at this;exact qZ h1 j r o hr (by simpa using ho) this
def fg (P:Program) (fm:FM) (pf:Nat→Bool) (N:Nat):RC→Code→Bool
 | .skip,c=>(match c with | .skip=>true | .label _=>true | _=>false)
 | .region ops _,c=>(match c with | .region _ oops false=>MA P fm N ops oops | _=>false)
 | .aG ops hs chk _,c=>(match c with | .region _ oops true=>Ix P fm pf N ops hs chk oops (I0 oops.toList) | _=>false)
 | .seq a b,c=>(match c with | .seq x y=>fg P fm pf N a x&&fg P fm pf N b y | _=>false)
 | .cond x a b,c=>(match c with | .cond o y z=>xB fm x o&&fg P fm pf N a y&&fg P fm pf N b z | _=>false)
 | .block id a,c=>(match c with | .block i x=>i==id&&fg P fm pf N a x | _=>false)
 | .loop _ a,c=>(match c with | .loop x=>fg P fm pf N a x | _=>false)
 | .exit id,c=>(match c with | .exit i=>i==id | _=>false)
 | .ret,c=>(match c with | .ret=>true | _=>false)
 | .stuck,_=>true
 | .gQ f ps as_ bo _,c=>(match c with | .rangeFunc o qs x y=>xB fm f o&&decide (qs.toList=ps)&&ps.all (fun p=>Nat.blt p N)&&fg P fm pf N as_ x&&fg P fm pf N bo y | _=>false)
theorem fH {N:Nat}:∀ (rc:RC) (c:Code),fg P fm (aw T) N rc c=true→jl P fm T N rc c
 | .skip,c,h=>by
   unfold fg at h;split at h
   · exact .inl rfl
   · exact .inr ⟨_,rfl⟩
   · cases h
 | .region ops l,c,h=>by
   unfold fg at h;split at h
   · exact⟨_,_,rfl,B0 h⟩
   · cases h
 | .aG ops hs chk l,c,h=>by
   unfold fg at h;split at h
   · exact⟨_,_,_,rfl,HN h⟩
   · cases h
 | .seq a b,c,h=>by
   unfold fg at h;split at h
   · simp only[aac] at h;exact⟨_,_,rfl,fH a _ h.1,fH b _ h.2⟩
   · cases h
 | .cond x a b,c,h=>by
   unfold fg at h;split at h
   · simp only[aac] at h;exact⟨_,_,_,rfl,bB h.1.1,fH a _ h.1.2,fH b _ h.2⟩
   · cases h
 | .block id a,c,h=>by
   unfold fg at h;split at h
   · simp only[aac] at h;have:=eq_of_beq h.1;subst this;exact⟨_,rfl,fH a _ h.2⟩
   · cases h
 | .loop l a,c,h=>by
   unfold fg at h;split at h
   · exact⟨_,rfl,fH a _ h⟩
   · cases h
 | .exit id,c,h=>by
   unfold fg at h;split at h
   · have:=eq_of_beq h;subst this;rfl
   · cases h
 | .stuck,_,_=>trivial
 | .ret,c,h=>by
   unfold fg at h;split at h
   · rfl
   · cases h
 | .gQ f ps as_ bo l,c,h=>by
   unfold fg at h;split at h
   · simp only[aac] at h;obtain⟨⟨⟨⟨h1,h2⟩,h3⟩,h4⟩,h5⟩:=h;exact⟨_,_,_,_,rfl,bB h1,of_decide_eq_true h2,fun p hp=>q8 (aae.1 h3 p hp),fH as_ _ h4,fH bo _ h5⟩
   · cases h
def Mo (P:Program):fP→ResultVar→Bool
 | .t n,.tmp m=>n==m
 | .cell a n ag,.cell b ty=>a==b&&j9 P ty n ag
 | _,_=>false
theorem JD {a:fP} {b:ResultVar} (h:Mo P a b=true):nw P a b:=by
 unfold Mo at h;split at h
 · exact eq_of_beq h
 · simp only[aac] at h;exact⟨eq_of_beq h.1,jC h.2⟩
 · cases h
def uF (P:Program):List fP→List ResultVar→Bool
 | [],[]=>true
 | a::as_,b::bs=>Mo P a b&&uF P as_ bs
 | _,_=>false
theorem ye:∀ {as_:List fP} {bs:List ResultVar},uF P as_ bs=true→bs.length=as_.length∧∀ (i:Nat) (a:fP) (b:ResultVar),as_[i]? = some a→bs[i]? = some b→nw P a b
 | [],[],_=>⟨rfl,fun i a b h=>by simp at h⟩
 | a::as_,b::bs,h=>by
   simp only[uF,aac] at h;obtain⟨h1,h2⟩:=ye h.2;refine⟨by simp[h1],fun i x y hx hy=>?_⟩
   cases i with
   | zero=>simp only[aav,aab.injEq] at hx hy;subst hx;subst hy;exact JD h.1
   | succ i=>exact h2 i x y (by simpa using hx) (by simpa using hy)
 | [],_::_,h=>by simp[uF] at h
 | _::_,[],h=>by simp[uF] at h
def GU (P:Program) (fm:FM) (pf:Nat→Bool) (F:ar) (fn:Func):Bool:=
 !(fn.name == "runtime.NumGoroutine")&&(match fn.body with | some c=>fg P fm pf fn.ntmps F.body c | none=>false)&&uF P F.results fn.results.toList
theorem FE {F:ar} {f:FuncId} {fn:Func} (hf:P.funcs[f]? = some fn) (h:GU P fm (aw T) F fn=true):fu P fm T (.code F) f:=by
 unfold GU at h;simp only[aac] at h;obtain⟨⟨h1,h2⟩,h3⟩:=h;split at h2
 · rename_i c hc;obtain⟨g1,g2⟩:=ye h3;refine⟨fn,c,fun args w=>?_,hf,hc,fH _ _ h2,g1,g2⟩
   have hname:fn.name ≠ "runtime.NumGoroutine":=by simpa using h1
   simp[callFunc,hf,hname,hc]
 · cases h2
theorem H5 {f:FuncId} {F:ar} (h:fu P fm T (.code F) f):∀ (args:Array Value) (w:World),(callFunc f args).run P w=.ok (.enter f args) w:=by
 obtain⟨fn,c,h1,_⟩:=h;exact h1
end Go.D
end
section
namespace Go.D
open Go.RowKit
variable {P:Program} {fm:FM}
inductive TT where
 | nil
 | leaf (g:Nat) (d:Def)
 | node (k:Nat) (l r:TT)
def TT.get:TT→Nat→Option Def
 | .nil,_=>none
 | .leaf g d,h=>bif aaT h g then some d else none
 | .node k l r,h=>bif Nat.blt h k then l.get h else r.get h
def TT.ok (P:Program) (fm:FM) (T:Tab):TT→Prop
 | .nil=>True
 | .leaf g d=>∀ f,fm g=some f→fu P fm T d f
 | .node _ l r=>l.ok P fm T∧r.ok P fm T
theorem TT.z7 {T:Tab}:∀ (t:TT),t.ok P fm T→∀ g d f,t.get g=some d→fm g=some f→fu P fm T d f
 | .nil,_,g,d,f,h,_=>by simp[TT.get] at h
 | .leaf g0 d0,h0,g,d,f,h,hf=>by
   simp only[TT.get] at h
   cases hb:aaT g g0 with
   | false=>rw[hb] at h;simp at h
   | true=>
     rw[hb] at h;simp only[cond_true,aab.injEq] at h;subst h;have:=aba hb;subst this;exact h0 f hf
 | .node k l r,h0,g,d,f,h,hf=>by
   simp only[TT.get] at h
   cases hb:Nat.blt g k with
   | true=>rw[hb] at h;exact l.z7 h0.1 g d f h hf
   | false=>rw[hb] at h;exact r.z7 h0.2 g d f h hf
theorem yj {t:TT} (h:t.ok P fm t.get):eH P fm t.get:=fun g d f hg hf=>t.z7 h g d f hg hf
def Ii:List (Nat×FuncId)→Nat→Option FuncId
 | [],_=>none
 | (g,f)::r,h=>bif aaT h g then some f else Ii r h
def Fg:List (Nat×IntKind×List Nat)→Nat→Nat→Option Value
 | [],_,_=>none
 | (g,k,l)::r,b,i=>bif aaT b g then (l[i]?).map (fun n=>.int k (Int.ofNat n)) else Fg r b i
def lS (l:List (Nat×FuncId)) (env:List (Nat×IntKind×List Nat)):FM:=⟨Ii l,Fg env⟩
def sr (fm:FM) (w:World):Prop:=∀ r i v,fm.env r i=some v→r<w.heap.size∧∃ cs t fz,w.heap[r]? = some (.cells cs t fz)∧cs[i]? = some v
def st0:St:={ heap:=[],bt:=[],cur:=0,base:=0,bm:=0 }
def gh0 (w:World):Gh:={ ro:=fun _ _=>none,mu:=fun _=>none,bN:=fun _ _=>none,gsz:=fun _=>0,dfr:=fun _=>False,lps:=fun _=>False,bD:=fun _=>none,floor:=w.heap.size,base:=0,bm:=0 }
end Go.D
end
section
namespace Go.D
open Go.RowKit
variable {P:Program} {fm:FM} {T:Tab}
theorem uw {G:Gh} {a b:DV} {args:Array Value} (h:dx fm G [a,b] args):∃ x y,args = #[x,y]∧Rel fm G a x∧Rel fm G b y:=by
 obtain⟨h1,h2⟩:=h
 match args,h1 with
 | ⟨[x,y]⟩,_=>exact⟨x,y,rfl,h2 0 (by simp),h2 1 (by simp)⟩
theorem pW {p:List DV→St→Option (DV×St)} {f:FuncId} {fn:Func} {e:Array Value→Sem Value} (hf:P.funcs[f]? = some fn) (hname:(fn.name == "runtime.NumGoroutine")=false) (hb:fn.body.isNone=true) (hn:Extern.findNext fn=none)
 (he:Extern.find fn=some e) (h:∀ (G:Gh) (w:World) (st:St) (args:List DV) (args':Array Value) (v:DV) (st':St),dx fm G args args'→p args st=some (v,st')→st'=st∧∃ x,(e args').run P w=.ok x w∧Rel fm G v x):jt P fm T p f:=by
 intro G w0 st w args args' v st' hs ha hp;obtain⟨rfl,x,h1,h2⟩:=h G w st args args' v st' ha hp;refine .inr ⟨x,w,?_,G,Gh.le.refl G,hs,h2⟩;rw[run_callFunc_extern hf hname hb hn he,h1];rfl
def gn:List DV→St→Option (DV×St)
 | [.str s,.int .u8 c],st=>some (.int .i64 (Lib.indexByte s c.toNat.toUInt8),st)
 | _,_=>none
theorem rP {f:FuncId} {fn:Func} (hf:P.funcs[f]? = some fn) (hname:(fn.name == "runtime.NumGoroutine")=false) (hb:fn.body.isNone=true) (hn:Extern.findNext fn=none)
 (he:Extern.find fn=some Extern.BytealgIndexByte.indexByte):jt P fm T gn f:=by
 refine pW hf hname hb hn he fun G w st args args' v st' ha hp=>?_;unfold gn at hp;split at hp
 · simp only[aab.injEq,Prod.mk.injEq] at hp;obtain⟨rfl,rfl⟩:=hp;obtain⟨x,y,rfl,hx,hy⟩:=uw ha;cases hy
   cases hx with
   | str _ b hb=>subst hb;exact⟨rfl,_,Lib.run_indexByteString b _ w,.int _ _⟩
 · cases hp
def gp:List DV→St→Option (DV×St)
 | [.str s,.int .u8 c],st=>some (.int .i64 (Lib.countByte s c.toNat.toUInt8:Nat),st)
 | _,_=>none
theorem rb {f:FuncId} {fn:Func} (hf:P.funcs[f]? = some fn) (hname:(fn.name == "runtime.NumGoroutine")=false) (hb:fn.body.isNone=true) (hn:Extern.findNext fn=none)
 (he:Extern.find fn=some Extern.BytealgCount.count):jt P fm T gp f:=by
 refine pW hf hname hb hn he fun G w st args args' v st' ha hp=>?_;unfold gp at hp;split at hp
 · simp only[aab.injEq,Prod.mk.injEq] at hp;obtain⟨rfl,rfl⟩:=hp;obtain⟨x,y,rfl,hx,hy⟩:=uw ha;cases hy
   cases hx with
   | str _ b hb=>subst hb;exact⟨rfl,_,Lib.run_countString b _ w,.int _ _⟩
 · cases hp
def jy:List Nat:=[0,0,0,0,0,0,0,0,0,1,1,1,1,1,0,0,0,0,0,0,0,0,0,0,0,0,0,0,0,0,0,0,1,0,0,0,0,0,0,0,0,0,0,0,0,0,0,0,0,0,0,0,0,0,0,0,0,0,0,0,0,0,0,0,0,0,0,0,0,0,0,0,0,0,0,0,0,0,0,0,0,0,0,0,0,0,0,0,0,0,0,0,0,0,0,0,0,0,0,0,0,0,0,0,0,0,0,0,0,0,0,0,0,0,0,0,0,0,0,0,0,0,0,0,0,0,0,0,0,0,0,0,0,0,0,0,0,0,0,0,0,0,0,0,0,0,0,0,0,0,0,0,0,0,0,0,0,0,0,0,0,0,0,0,0,0,0,0,0,0,0,0,0,0,0,0,0,0,0,0,0,0,0,0,0,0,0,0,0,0,0,0,0,0,0,0,0,0,0,0,0,0,0,0,0,0,0,0,0,0,0,0,0,0,0,0,0,0,0,0,0,0,0,0,0,0,0,0,0,0,0,0,0,0,0,0,0,0,0,0,0,0,0,0,0,0,0,0,0,0,0,0,0,0,0,0]
def jq:DV:=.cm (jy.map fun n=>.int .u8 (Int.ofNat n))
theorem Bf {l:List (Nat×FuncId)} (w:World):sr (lS l []) w:=fun r i v h=>by cases h
theorem Bk {l:List (Nat×FuncId)} {g:Nat} {k:IntKind} {t:List Nat} {env:List (Nat×IntKind×List Nat)} {w:World} (h:∀ i (h:i<t.length),w.cell? ⟨g,i,none⟩=some (.int k (Int.ofNat t[i]))) (hr:sr (lS l env) w):sr (lS l ((g,k,t)::env)) w:=by
 intro r i v hv;simp only[lS,Fg] at hv
 cases hb:aaT r g with
 | false=>rw[hb] at hv;exact hr r i v hv
 | true=>
   rw[hb] at hv;simp only[cond_true,aah] at hv;obtain⟨n,hn,rfl⟩:=hv;have:=aba hb;subst this;obtain⟨hi,rfl⟩:=aad.1 hn;have hc:=h i hi;simp only[World.cell?] at hc;split at hc
   · rename_i cs t' fz hcs;exact⟨get?_lt hcs,cs,t',fz,hcs,by simpa using hc⟩
   all_goals first | (cases hc;done) | skip
end Go.D
end
section
namespace Go.D.Tab
@[simp] def σ (d:Nat) (x:ROp):au:=⟨some d,x,none⟩
@[simp] def τ (d:Nat) (x:ROp) (a:Nat) (b:Bool):au:=⟨some d,x,some (a,b)⟩
@[simp] def κ (n:Nat):D.X:=.c (.int .i64 (.ofNat n))
@[simp] def μ (d a:Nat):au:=⟨some d,.mv (.t a),none⟩
@[simp] def η (d a:Nat):au:=⟨some d,.mv (.c (.int .i64 (.ofNat a))),none⟩
@[simp] def φ (d k a:Nat):au:=⟨some d,.fU k (.t a),none⟩
@[simp] def ρ (d a:Nat):au:=⟨some d,.load 1 false (.t a),none⟩
@[simp] def Λ (d n a:Nat):au:=⟨some d,.load n true (.t a),none⟩
@[simp] def β (d:Nat) (o:BinOp) (a b:Nat):au:=⟨some d,.bin o (.t a) (.t b),none⟩
@[simp] def γ (d:Nat) (o:BinOp) (a b:Nat):au:=⟨some d,.bin o (.t a) (.c (.int .i64 (.ofNat b))),none⟩
@[simp] def ε (d a i:Nat):au:=⟨some d,.extract (.t a) i,none⟩
@[simp] def ν (d:Nat) (k:zU) (a:Nat):au:=⟨some d,.len k (.t a),none⟩
@[simp] def ξ (d a b:Nat):au:=⟨some d,.pick (.t a) (.t b) (.c (.bool false)),none⟩
@[simp] def ζ (d a b:Nat):au:=⟨some d,.pick (.t a) (.c (.bool true)) (.t b),none⟩
@[simp] def ι (d n a b:Nat):au:=⟨some d,.bC n (.t a) (.t b),none⟩
@[simp] def ω (n a b:Nat):au:=⟨none,.store n (.t a) (.t b),none⟩
@[simp] def Μ (d a g:Nat) (b:Bool):au:=⟨some d,.mv (.t a),some (g,b)⟩
@[simp] def Φ (d k a g:Nat) (b:Bool):au:=⟨some d,.fU k (.t a),some (g,b)⟩
@[simp] def Ρ (d a g:Nat) (b:Bool):au:=⟨some d,.load 1 false (.t a),some (g,b)⟩
@[simp] def δ:DV:=.int .i64 (.ofNat 0)
@[simp] def θ:DV:=.list 0 0 .no false []
abbrev Ω:=List au
@[simp] def Γ (a:Ω) (b:List Nat):RC:=.region a b
@[simp] def Ψ (a b:RC):RC:=.seq a b
@[simp] def Ξ (n:Nat) (a b:RC):RC:=.cond (.t n) a b
def f9:ar:=⟨[.cell 2 21 true],(Ψ (Γ [σ 1 (.box 21 (.t 0)),σ 2 (.alloc [(.str []),θ,δ,δ,δ,δ,δ,δ,δ,δ,δ,δ,δ,δ,δ,δ,δ,δ,δ,(.str []),θ])] [1,2]) (Ψ (Γ [Λ 4 21 1,σ 3 (.alloc [(.str []),θ,δ,δ,δ,δ,δ,δ,δ,δ,δ,δ,δ,δ,δ,δ,δ,δ,δ,(.str []),θ]),ω 21 3 4] [1,2,3]) (Ψ (Γ [σ 5 (.lit 4 true [δ,δ,δ,δ] 0 []),φ 6 1 1,ρ 7 6,σ 8 (.append 4 true 32 (.t 5) (.t 7)),φ 9 1 3,ω 1 9 8] [1,2,3]) (Ψ (Γ [σ 10 (.lit 1 false [(.str [])] 0 []),φ 11 20 1,ρ 12 11,σ 13 (.append 1 false 16 (.t 10) (.t 12)),φ 14 20 3,ω 1 14 13] [2,3]) (Ψ (Γ [Λ 15 21 3,ω 21 2 15] [2]) .ret))))),true⟩
def uX:RC:=.block 2 (Ψ (Γ [μ 74 17,μ 75 74,Φ 76 2 13 75 false,Ρ 77 76 75 false,τ 78 (.bin .eql (.t 77) (κ 3)) 75 false,ζ 79 75 78,μ 73 79] [1,7,8,9,10,11,13,14,15,16,17,34,35,36,73]) (Ξ 73 (.aG [μ 80 16,φ 81 3 15,ρ 82 81,σ 83 (.call 30 [.t 80,.t 82]),φ 84 1 14,ρ 85 84,β 86 .add 83 85,φ 87 4 15,ω 1 87 86] [] [] [1,7,8,9,10,11,14,15,16,17,34,35,36]) (Ψ (Γ [φ 89 2 13,ρ 90 89,γ 91 .eql 90 7,μ 88 91] [1,7,8,9,10,11,14,15,16,17,34,35,36,88]) (Ξ 88 (Ψ (.aG [μ 92 8,σ 93 (.bC 1 (.t 92) (κ 0)),ρ 94 93,φ 95 3 15,ρ 96 95,σ 97 (.call 31 [.t 94,.t 96]),φ 98 4 15,ω 1 98 97] [] [] [1,7,8,9,10,11,14,15,16,17,34,35,36]) (Γ [μ 99 8,σ 100 (.slice false 1 (.t 99) (some (κ 1)) none none),μ 8 100] [1,7,8,9,10,11,14,15,16,17,34,35,36])) .skip))))
def eN:RC:=(Ψ (Γ [β 37 .lss 36 35] [1,7,8,9,10,11,34,35,36,37]) (Ψ (Ξ 37 .skip (.exit 0)) (Ψ (.block 1 (Ψ (Γ [ι 38 3 34 36,Λ 39 3 38,σ 13 (.alloc [δ,δ,δ]),ω 3 13 39] [1,7,8,9,10,11,13,34,35,36]) (Ψ (Γ [μ 40 7,φ 41 0 13,ρ 42 41,σ 43 (.bO (.t 40) [.t 42]),σ 14 (.alloc [δ,δ,δ]),ω 3 14 43] [1,7,8,9,10,11,13,14,34,35,36]) (Ψ (Γ [φ 44 0 13,ρ 45 44,φ 46 1 13,ρ 47 46,φ 48 2 13,ρ 49 48,φ 50 0 14,ρ 51 50,σ 52 (.build [δ,δ,δ,δ,δ,δ] [(0,1,(.t 45)),(1,1,(.t 47)),(2,1,(.t 49)),(3,1,(.t 51))]),σ 15 (.alloc [δ,δ,δ,δ,δ,δ]),ω 6 15 52] [1,7,8,9,10,11,13,14,15,34,35,36]) (Ψ (Ψ (Γ [φ 53 3 15,ρ 54 53,γ 55 .eql 54 0] [1,7,8,9,10,11,13,14,15,34,35,36,55]) (Ξ 55 (Γ [φ 56 2 1,φ 57 0 56,ρ 58 57,φ 59 3 15,ω 1 59 58] [1,7,8,9,10,11,13,14,15,34,35,36]) .skip)) (Ψ (Γ [φ 60 0 1,ρ 61 60,φ 62 0 13,ρ 63 62,σ 64 (.index (.t 61) (.t 63)),μ 16 64] [1,7,8,9,10,11,13,14,15,16,34,35,36]) (Ψ (Γ [φ 65 2 13,ρ 66 65,γ 67 .eql 66 1,μ 68 67,Φ 69 2 13 68 false,Ρ 70 69 68 false,τ 71 (.bin .eql (.t 70) (κ 2)) 68 false,ζ 72 68 71,μ 17 72] [1,7,8,9,10,11,13,14,15,16,17,34,35,36]) (Ψ uX (Ψ (Ψ (.aG [μ 101 17,μ 102 101,Φ 103 2 14 102 true,Ρ 104 103 102 true,τ 105 (.bin .eql (.t 104) (κ 1)) 102 true,ξ 106 102 105,μ 107 106,Μ 108 10 107 true,ξ 109 107 108,μ 110 109,Μ 111 9 110 true,Μ 112 9 110 true,τ 113 (.len .slice (.t 112)) 110 true,τ 114 (.bin .sub (.t 113) (κ 1)) 110 true,τ 115 (.bC 6 (.t 111) (.t 114)) 110 true,Φ 116 3 115 110 true,Ρ 117 116 110 true,Φ 118 3 15 110 true,Ρ 119 118 110 true,τ 120 (.bin .eql (.t 117) (.t 119)) 110 true,ξ 121 110 120] [] [] [1,7,8,9,11,14,15,16,17,34,35,36,121]) (Ξ 121 (Γ [μ 122 11,μ 123 16,φ 124 3 15,ρ 125 124,σ 126 (.call 32 [.t 122,.t 123,.t 125]),φ 127 5 15,ω 1 127 126] [1,7,8,9,14,15,16,17,34,35,36]) .skip)) (Ψ (Γ [μ 128 17,μ 129 128,Φ 130 2 14 129 true,Ρ 131 130 129 true,τ 132 (.bin .eql (.t 131) (κ 1)) 129 true,ξ 133 129 132,μ 134 16,μ 10 133,μ 11 134] [1,7,8,9,10,11,15,34,35,36]) (Γ [μ 135 9,Λ 136 6 15,σ 137 (.lit 6 true [δ,δ,δ,δ,δ,δ] 1 [(0,(.t 136))]),σ 138 (.append 6 true 48 (.t 135) (.t 137)),μ 9 138] [1,7,8,9,10,11,34,35,36]))))))))))) (Γ [γ 139 .add 36 1,μ 36 139] [1,7,8,9,10,11,34,35,36]))))
def xR:RC:=.loop [1,7,8,9,10,11,34,35,36] eN
def f10:ar:=⟨[.t 2,.t 3],(Ψ (Γ [σ 1 (.box 21 (.t 0)),σ 2 (.mv (.c θ)),η 3 0] [1]) (Ψ (Ψ (Γ [Λ 18 21 1,σ 19 (.call 13 [.t 18]),μ 4 19] [1,4]) (Ψ (Γ [μ 20 4,γ 21 .neq 20 0] [1,4,21]) (Ξ 21 (Ψ (Γ [μ 22 4,σ 2 (.mv (.c θ)),μ 3 22] [2,3]) .ret) .skip))) (Ψ (Γ [φ 24 0 1,ρ 25 24,σ 26 (.call 27 [.t 25]),μ 23 26,ε 27 23 0,ε 28 23 1,μ 5 27,μ 6 28] [1,5]) (Ψ (Γ [φ 29 1 1,ρ 30 29,σ 31 (.call 29 [.t 30]),μ 7 31] [1,5,7]) (Ψ (Γ [φ 32 20 1,ρ 33 32,μ 8 33] [1,5,7,8]) (Ψ (Γ [σ 9 (.mv (.c θ))] [1,5,7,8,9]) (Ψ (Γ [σ 10 (.mv (.c (.bool false))),σ 11 (.mv (.c (.int .u8 (.ofNat 0))))] [1,5,7,8,9,10,11]) (Ψ (Ψ (Γ [μ 34 5,ν 35 .slice 34,η 36 0] [1,7,8,9,10,11,34,35,36]) (.block 0 xR)) (Ψ (Γ [μ 140 9,μ 2 140,η 3 0] [2,3]) .ret))))))))),true⟩
def jA:RC:=(Ψ (Ψ (Γ [μ 24 9,μ 25 5,ν 26 .slice 25,β 27 .lss 24 26] [1,5,7,8,9,27]) (Ξ 27 .skip (.exit 0))) (Ψ (.block 1 (Ψ (Γ [μ 30 5,μ 31 9,ι 32 3 30 31,Λ 33 3 32,σ 10 (.alloc [δ,δ,δ]),ω 3 10 33] [1,5,7,8,9,10]) (Ψ (.aG [φ 34 0 10,ρ 35 34,φ 36 1 10,ρ 37 36,φ 38 2 10,ρ 39 38,Λ 40 21 1,φ 41 0 10,ρ 42 41,σ 43 (.call 34 [.t 40,.t 42]),σ 44 (.build [δ,δ,δ,δ,δ,δ] [(0,1,(.t 35)),(1,1,(.t 37)),(2,1,(.t 39)),(3,1,(.t 43))]),σ 11 (.alloc [δ,δ,δ,δ,δ,δ]),ω 6 11 44] [] [(1,[1]),(3,[1]),(5,[1]),(6,[1]),(8,[1]),(9,[1])] [1,5,7,8,9,10,11]) (Ψ (Γ [Λ 45 21 1,φ 46 0 10,ρ 47 46,σ 48 (.call 35 [.t 45,.t 47]),σ 12 (.alloc [δ,δ,δ]),ω 3 12 48] [1,5,7,8,9,10,11,12]) (Ψ (Ψ (Γ [φ 49 2 10,ρ 50 49,σ 51 (.call 36 [.t 50]),μ 52 51,Φ 53 2 10 52 false,Ρ 54 53 52 false,τ 55 (.bin .eql (.t 54) (κ 3)) 52 false,ζ 56 52 55] [1,5,7,8,9,10,11,12,56]) (Ξ 56 (.aG [φ 57 0 1,ρ 58 57,φ 59 0 10,ρ 60 59,σ 61 (.index (.t 58) (.t 60)),φ 62 3 11,ρ 63 62,σ 64 (.call 37 [.t 61,.t 63]),φ 65 1 12,ρ 66 65,β 67 .add 64 66,φ 68 4 11,ω 1 68 67] [] [] [1,5,7,8,9,10,11,12]) .skip)) (Ψ (Ψ (Γ [φ 69 2 10,ρ 70 69,γ 71 .eql 70 7] [1,5,7,8,9,10,11,12,71]) (Ξ 71 (Ψ (.aG [φ 72 20 1,ρ 73 72,μ 74 8,ι 75 1 73 74,ρ 76 75,φ 77 3 11,ρ 78 77,σ 79 (.call 38 [.t 76,.t 78]),φ 80 4 11,ω 1 80 79] [] [] [1,5,7,8,9,10,11,12]) (Γ [μ 81 8,γ 82 .add 81 1,μ 8 82] [1,5,7,8,9,10,11,12])) .skip)) (Ψ (Ψ (.aG [μ 83 9,γ 84 .gtr 83 0,μ 85 84,Φ 86 2 10 85 true,Ρ 87 86 85 true,τ 88 (.call 36 [.t 87]) 85 true,ξ 89 85 88,μ 90 89,Μ 91 5 90 true,Μ 92 9 90 true,τ 93 (.bin .sub (.t 92) (κ 1)) 90 true,τ 94 (.bC 3 (.t 91) (.t 93)) 90 true,Φ 95 2 94 90 true,Ρ 96 95 90 true,τ 97 (.call 36 [.t 96]) 90 true,ξ 98 90 97,μ 99 98,Φ 100 2 12 99 true,Ρ 101 100 99 true,τ 102 (.bin .eql (.t 101) (κ 1)) 99 true,ξ 103 99 102,μ 104 103,τ 105 (.load 21 true (.t 1)) 104 true,Μ 106 5 104 true,Μ 107 9 104 true,τ 108 (.bin .sub (.t 107) (κ 1)) 104 true,τ 109 (.bC 3 (.t 106) (.t 108)) 104 true,Φ 110 0 109 104 true,Ρ 111 110 104 true,τ 112 (.call 35 [.t 105,.t 111]) 104 true,τ 113 (.field 1 false 2 (.t 112)) 104 true,τ 114 (.bin .eql (.t 113) (κ 1)) 104 true,ξ 115 104 114,μ 116 115,Μ 117 7 116 true,Μ 118 9 116 true,τ 119 (.bin .sub (.t 118) (κ 1)) 116 true,τ 120 (.bC 6 (.t 117) (.t 119)) 116 true,Φ 121 3 120 116 true,Ρ 122 121 116 true,Φ 123 3 11 116 true,Ρ 124 123 116 true,τ 125 (.bin .eql (.t 122) (.t 124)) 116 true,ξ 126 116 125] [] [] [1,5,7,8,9,10,11,126]) (Ξ 126 (.aG [φ 127 0 1,ρ 128 127,μ 129 5,μ 130 9,γ 131 .sub 130 1,ι 132 3 129 131,φ 133 0 132,ρ 134 133,σ 135 (.index (.t 128) (.t 134)),φ 136 0 1,ρ 137 136,φ 138 0 10,ρ 139 138,σ 140 (.index (.t 137) (.t 139)),φ 141 3 11,ρ 142 141,σ 143 (.call 39 [.t 135,.t 140,.t 142]),φ 144 5 11,ω 1 144 143] [] [] [1,5,7,8,9,11]) .skip)) (Γ [μ 145 7,Λ 146 6 11,σ 147 (.lit 6 true [δ,δ,δ,δ,δ,δ] 1 [(0,(.t 146))]),σ 148 (.append 6 true 48 (.t 145) (.t 147)),μ 7 148] [1,5,7,8,9])))))))) (Γ [μ 28 9,γ 29 .add 28 1,μ 9 29] [1,5,7,8,9])))
def BR:RC:=.loop [1,5,7,8,9] jA
def f11:ar:=⟨[.t 2,.t 3],(Ψ (Γ [σ 1 (.box 21 (.t 0)),σ 2 (.mv (.c θ)),η 3 0] [1]) (Ψ (Γ [Λ 13 21 1,σ 14 (.call 14 [.t 13]),μ 4 14] [1,4]) (Ψ (Ψ (Γ [μ 15 4,γ 16 .neq 15 0] [1,4,16]) (Ξ 16 (Ψ (Γ [μ 17 4,σ 2 (.mv (.c θ)),μ 3 17] [2,3]) .ret) .skip)) (Ψ (Γ [φ 19 0 1,ρ 20 19,σ 21 (.call 33 [.t 20]),μ 18 21,ε 22 18 0,ε 23 18 1,μ 5 22,μ 6 23] [1,5]) (Ψ (Γ [σ 7 (.mv (.c θ))] [1,5,7]) (Ψ (Γ [η 8 0] [1,5,7,8]) (Ψ (Ψ (Γ [η 9 0] [1,5,7,8,9]) (.block 0 BR)) (Ψ (Γ [μ 149 7,μ 2 149,η 3 0] [2,3]) .ret)))))))),true⟩
def xM:RC:=(Ψ (Γ [β 52 .lss 51 50] [49,50,51,52]) (Ψ (Ξ 52 .skip (.exit 0)) (Ψ (.block 1 (Ψ (Γ [ι 53 1 49 51,ρ 54 53,μ 6 54] [6,49,50,51]) (Ψ (Γ [μ 55 6,σ 56 (.bin .eql (.t 55) (.c (.str []))),μ 57 56,Μ 58 6 57 false,τ 59 (.call 43 [.t 58,(κ 8)]) 57 false,τ 60 (.un .not (.t 59)) 57 false,ζ 61 57 60] [49,50,51,61]) (Ξ 61 (Ψ (Γ [η 2 2] [2]) .ret) .skip)))) (Γ [γ 62 .add 51 1,μ 51 62] [49,50,51]))))
def Bu:RC:=.loop [49,50,51] xM
def f13:ar:=⟨[.t 2],(Ψ (Γ [σ 1 (.box 21 (.t 0)),η 2 0] [1]) (Ψ (Ψ (Γ [φ 8 0 1,ρ 9 8,σ 10 (.call 27 [.t 9]),μ 7 10,ε 11 7 0,ε 12 7 1,μ 3 11,μ 4 12] [1,4]) (Ψ (Γ [μ 13 4,γ 14 .neq 13 0] [1,4,14]) (Ξ 14 (Ψ (Γ [μ 15 4,μ 2 15] [2]) .ret) .skip))) (Ψ (Ψ (Γ [φ 16 0 1,ρ 17 16,σ 18 (.call 40 [.t 17,(.c (.int .u8 (.ofNat 3)))]),γ 19 .geq 18 0] [1,19]) (Ξ 19 (Ψ (Γ [η 2 4] [2]) .ret) .skip)) (Ψ (Ψ (.aG [φ 20 1 1,ρ 21 20,φ 22 0 1,ρ 23 22,ν 24 .str 23,σ 25 (.call 41 [.t 21,.t 24]),σ 26 (.un .not (.t 25)),μ 27 26,Φ 28 2 1 27 false,τ 29 (.load 17 true (.t 28)) 27 false,τ 30 (.call 42 [.t 29]) 27 false,τ 31 (.un .not (.t 30)) 27 false,ζ 32 27 31,μ 33 32,Φ 34 19 1 33 false,Ρ 35 34 33 false,τ 36 (.call 43 [.t 35,(κ 16)]) 33 false,τ 37 (.un .not (.t 36)) 33 false,ζ 38 33 37,μ 39 38,Φ 40 20 1 39 false,Ρ 41 40 39 false,τ 42 (.len .slice (.t 41)) 39 false,Φ 43 0 1 39 false,Ρ 44 43 39 false,τ 45 (.call 44 [.t 44,(.c (.str [2]))]) 39 false,τ 46 (.bin .neq (.t 42) (.t 45)) 39 false,ζ 47 39 46] [] [] [1,47]) (Ξ 47 (Ψ (Γ [η 2 2] [2]) .ret) .skip)) (Ψ (Ψ (Γ [φ 48 20 1,ρ 49 48,ν 50 .slice 49,η 51 0] [49,50,51]) (.block 0 Bu)) (Ψ (Γ [η 2 0] [2]) .ret)))))),true⟩
def zo:RC:=(Ψ (Ψ (Γ [μ 16 5,φ 17 0 1,ρ 18 17,ν 19 .str 18,β 20 .lss 16 19] [1,4,5,20]) (Ξ 20 .skip (.exit 0))) (Ψ (.block 1 (Ψ (Ψ (Γ [φ 23 0 1,ρ 24 23,μ 25 5,σ 26 (.index (.t 24) (.t 25)),σ 27 (.bin .eql (.t 26) (.c (.int .u8 (.ofNat 3))))] [1,4,5,27]) (Ξ 27 (Ψ (Γ [η 2 4] [2]) .ret) .skip)) (Ψ (Γ [φ 28 0 1,ρ 29 28,μ 30 5,σ 31 (.index (.t 29) (.t 30)),σ 32 (.bin .eql (.t 31) (.c (.int .u8 (.ofNat 2))))] [1,4,5,32]) (Ξ 32 (Γ [μ 33 4,γ 34 .add 33 1,μ 4 34] [1,4,5]) .skip)))) (Γ [μ 21 5,γ 22 .add 21 1,μ 5 22] [1,4,5])))
def Cz:RC:=.loop [1,4,5] zo
def ub:RC:=(Ψ (Ψ (Γ [μ 38 7,φ 39 1 1,ρ 40 39,ν 41 .slice 40,β 42 .lss 38 41] [1,4,6,7,42]) (Ξ 42 .skip (.exit 2))) (Ψ (.block 3 (Ψ (Γ [φ 45 1 1,ρ 46 45,μ 47 7,ι 48 4 46 47,Λ 49 4 48,σ 8 (.alloc [δ,δ,δ,δ]),ω 4 8 49] [1,4,6,7,8]) (Ψ (Ψ (Γ [φ 50 0 8,ρ 51 50,γ 52 .lss 51 1,μ 53 52,Φ 54 0 8 53 false,Ρ 55 54 53 false,Μ 56 6 53 false,τ 57 (.bin .gtr (.t 55) (.t 56)) 53 false,ζ 58 53 57,μ 59 58,Φ 60 1 8 59 false,τ 61 (.load 3 true (.t 60)) 59 false,τ 62 (.call 46 [.t 61]) 59 false,τ 63 (.un .not (.t 62)) 59 false,ζ 64 59 63] [1,4,6,7,8,64]) (Ξ 64 (Ψ (Γ [η 2 2] [2]) .ret) .skip)) (Γ [μ 65 6,φ 66 0 8,ρ 67 66,β 68 .sub 65 67,μ 6 68] [1,4,6,7])))) (Γ [μ 43 7,γ 44 .add 43 1,μ 7 44] [1,4,6,7])))
def r7:RC:=.loop [1,4,6,7] ub
def x8:RC:=(Ψ (Ψ (Γ [μ 90 9,φ 91 20 1,ρ 92 91,ν 93 .slice 92,β 94 .lss 90 93] [1,9,94]) (Ξ 94 .skip (.exit 4))) (Ψ (.block 5 (Ψ (Γ [φ 97 20 1,ρ 98 97,μ 99 9,ι 100 1 98 99,ρ 101 100,σ 102 (.bin .eql (.t 101) (.c (.str []))),μ 103 102,Φ 104 20 1 103 false,Ρ 105 104 103 false,Μ 106 9 103 false,τ 107 (.bC 1 (.t 105) (.t 106)) 103 false,Ρ 108 107 103 false,τ 109 (.call 48 [.t 108,(κ 8)]) 103 false,τ 110 (.un .not (.t 109)) 103 false,ζ 111 103 110] [1,9,111]) (Ξ 111 (Ψ (Γ [η 2 2] [2]) .ret) .skip))) (Γ [μ 95 9,γ 96 .add 95 1,μ 9 96] [1,9])))
def BF:RC:=.loop [1,9] x8
def f14:ar:=⟨[.t 2],(Ψ (Γ [σ 1 (.box 21 (.t 0)),η 2 0] [1]) (Ψ (Γ [φ 10 0 1,ρ 11 10,σ 12 (.call 45 [.t 11]),μ 3 12] [1,3]) (Ψ (Ψ (Γ [μ 13 3,γ 14 .neq 13 0] [1,3,14]) (Ξ 14 (Ψ (Γ [μ 15 3,μ 2 15] [2]) .ret) .skip)) (Ψ (Γ [η 4 0] [1,4]) (Ψ (Ψ (Γ [η 5 0] [1,4,5]) (.block 0 Cz)) (Ψ (Γ [φ 35 0 1,ρ 36 35,ν 37 .str 36,μ 6 37] [1,4,6]) (Ψ (Ψ (Γ [η 7 0] [1,4,6,7]) (.block 2 r7)) (Ψ (Ψ (Γ [μ 69 6,γ 70 .gtr 69 0,μ 71 70,Φ 72 2 1 71 false,τ 73 (.load 17 true (.t 72)) 71 false,τ 74 (.call 47 [.t 73]) 71 false,τ 75 (.un .not (.t 74)) 71 false,ζ 76 71 75,μ 77 76,Φ 78 19 1 77 false,Ρ 79 78 77 false,τ 80 (.call 48 [.t 79,(κ 16)]) 77 false,τ 81 (.un .not (.t 80)) 77 false,ζ 82 77 81,μ 83 82,Φ 84 20 1 83 false,Ρ 85 84 83 false,τ 86 (.len .slice (.t 85)) 83 false,Μ 87 4 83 false,τ 88 (.bin .neq (.t 86) (.t 87)) 83 false,ζ 89 83 88] [1,89]) (Ξ 89 (Ψ (Γ [η 2 2] [2]) .ret) .skip)) (Ψ (Ψ (Γ [η 9 0] [1,9]) (.block 4 BF)) (Ψ (Γ [η 2 0] [2]) .ret)))))))))),true⟩
def f15:ar:=⟨[.t 4],(Ψ (Γ [σ 2 (.box 21 (.t 0)),σ 3 (.box 21 (.t 1)),σ 4 (.mv (.c (.bool false)))] [2,3]) (Ψ (Γ [φ 5 0 2,ρ 6 5,φ 7 0 3,ρ 8 7,β 9 .eql 6 8,μ 10 9,Φ 11 1 2 10 true,Ρ 12 11 10 true,Φ 13 1 3 10 true,Ρ 14 13 10 true,τ 15 (.call 49 [.t 12,.t 14]) 10 true,ξ 16 10 15,μ 17 16,Φ 18 2 2 17 true,τ 19 (.load 17 true (.t 18)) 17 true,Φ 20 2 3 17 true,τ 21 (.load 17 true (.t 20)) 17 true,τ 22 (.eq (.agg [.int,.int,.int,.int,.int,.int,.int,.int,.int,.int,.int,.int,.int,.int,.int,.int,.int]) false (.t 19) (.t 21)) 17 true,ξ 23 17 22,μ 24 23,Φ 25 19 2 24 true,Ρ 26 25 24 true,Φ 27 19 3 24 true,Ρ 28 27 24 true,τ 29 (.bin .eql (.t 26) (.t 28)) 24 true,ξ 30 24 29,μ 31 30,Φ 32 20 2 31 true,Ρ 33 32 31 true,Φ 34 20 3 31 true,Ρ 35 34 31 true,τ 36 (.call 50 [.t 33,.t 35]) 31 true,ξ 37 31 36,μ 4 37] [4]) .ret)),true⟩
def f17:ar:=⟨[.t 4,.t 5],(Ψ (Γ [η 4 0,η 5 0] [0,1]) (Ψ (Ψ (Γ [μ 6 1,σ 7 (.call 51 [.t 6]),σ 8 (.un .not (.t 7))] [0,1,8]) (Ξ 8 (Ψ (Γ [η 4 0,η 5 5] [4,5]) .ret) .skip)) (Ψ (Ψ (Γ [μ 9 0,ν 10 .str 9,γ 11 .gtr 10 4096] [0,1,11]) (Ξ 11 (Ψ (Γ [η 4 0,η 5 3] [4,5]) .ret) .skip)) (Ψ (Γ [μ 12 0,μ 13 1,σ 14 (.call 31 [.t 12,.t 13]),μ 4 14,η 5 0] [4,5]) .ret)))),true⟩
def f21:ar:=⟨[.t 2],(Ψ (Γ [η 2 0] [0]) (Ψ (.block 0 (Ψ (Γ [μ 4 0,σ 5 (.call 40 [(.c (.str [105,106,108,39,46,44,58,59,33,124])),.t 4]),γ 6 .geq 5 0,μ 3 6] [0,3]) (Ξ 3 (Ψ (Γ [η 2 2] [2]) .ret) (Ψ (Γ [μ 8 0,σ 9 (.call 40 [(.c (.str [102,116,114,40,41,91,93,123,125,45,34,94,95,126,96,73,32])),.t 8]),γ 10 .geq 9 0,μ 7 10] [0,7]) (Ξ 7 (Ψ (Γ [η 2 3] [2]) .ret) (Ψ (Γ [μ 12 0,σ 13 (.bin .eql (.t 12) (.c (.int .u8 (.ofNat 109)))),μ 14 13,Μ 15 0 14 false,τ 16 (.bin .eql (.t 15) (.c (.int .u8 (.ofNat 119)))) 14 false,ζ 17 14 16,μ 11 17] [0,11]) (Ξ 11 (Ψ (Γ [η 2 7] [2]) .ret) (Ψ (Γ [μ 19 0,σ 20 (.bin .eql (.t 19) (.c (.int .u8 (.ofNat 77)))),μ 21 20,Μ 22 0 21 false,τ 23 (.bin .eql (.t 22) (.c (.int .u8 (.ofNat 87)))) 21 false,ζ 24 21 23,μ 18 24] [0,18]) (Ξ 18 (Ψ (Γ [η 2 8] [2]) .ret) (Ψ (Γ [μ 26 0,σ 27 (.bin .geq (.t 26) (.c (.int .u8 (.ofNat 65)))),μ 28 27,Μ 29 0 28 true,τ 30 (.bin .leq (.t 29) (.c (.int .u8 (.ofNat 90)))) 28 true,ξ 31 28 30,μ 25 31] [0,25]) (Ξ 25 (Ψ (Γ [η 2 6] [2]) .ret) (Ψ (Γ [μ 33 0,σ 34 (.bin .geq (.t 33) (.c (.int .u8 (.ofNat 97)))),μ 35 34,Μ 36 0 35 true,τ 37 (.bin .leq (.t 36) (.c (.int .u8 (.ofNat 122)))) 35 true,ξ 38 35 37,μ 39 38,Μ 40 0 39 false,τ 41 (.bin .geq (.t 40) (.c (.int .u8 (.ofNat 48)))) 39 false,Μ 42 41 39 false,Μ 43 0 42 true,τ 44 (.bin .leq (.t 43) (.c (.int .u8 (.ofNat 57)))) 42 true,τ 45 (.pick (.t 42) (.t 44) (.c (.bool false))) 39 false,ζ 46 39 45,μ 32 46] [0,32]) (Ξ 32 (Ψ (Γ [η 2 5] [2]) .ret) (Ψ (Γ [μ 48 0,σ 49 (.bin .gtr (.t 48) (.c (.int .u8 (.ofNat 32)))),μ 50 49,Μ 51 0 50 true,τ 52 (.bin .leq (.t 51) (.c (.int .u8 (.ofNat 126)))) 50 true,ξ 53 50 52,μ 47 53] [47]) (Ξ 47 (Ψ (Γ [η 2 6] [2]) .ret) .skip))))))))))))))) (Ψ (Γ [η 2 0] [2]) .ret))),true⟩
def f22:ar:=⟨[.t 2],(Ψ (Γ [η 2 0] [0]) (Ψ (.block 0 (Ψ (Γ [μ 4 0,σ 5 (.call 52 [.t 4,(.c (.str [105,106,108,39,46,44,58,59,33,124]))]),μ 3 5] [0,3]) (Ξ 3 (Ψ (Γ [η 2 2] [2]) .ret) (Ψ (Γ [μ 7 0,σ 8 (.call 52 [.t 7,(.c (.str [102,116,114,40,41,91,93,123,125,45,34,94,95,126,32,73]))]),μ 9 8,Μ 10 0 9 false,τ 11 (.bin .eql (.t 10) (.c (.int .u8 (.ofNat 96)))) 9 false,ζ 12 9 11,μ 6 12] [0,6]) (Ξ 6 (Ψ (Γ [η 2 3] [2]) .ret) (Ψ (Γ [μ 14 0,σ 15 (.bin .eql (.t 14) (.c (.int .u8 (.ofNat 109)))),μ 16 15,Μ 17 0 16 false,τ 18 (.bin .eql (.t 17) (.c (.int .u8 (.ofNat 119)))) 16 false,ζ 19 16 18,μ 13 19] [0,13]) (Ξ 13 (Ψ (Γ [η 2 7] [2]) .ret) (Ψ (Γ [μ 21 0,σ 22 (.bin .eql (.t 21) (.c (.int .u8 (.ofNat 77)))),μ 23 22,Μ 24 0 23 false,τ 25 (.bin .eql (.t 24) (.c (.int .u8 (.ofNat 87)))) 23 false,ζ 26 23 25,μ 20 26] [0,20]) (Ξ 20 (Ψ (Γ [η 2 8] [2]) .ret) (Ψ (Γ [μ 28 0,σ 29 (.bin .geq (.t 28) (.c (.int .u8 (.ofNat 65)))),μ 30 29,Μ 31 0 30 true,τ 32 (.bin .leq (.t 31) (.c (.int .u8 (.ofNat 90)))) 30 true,ξ 33 30 32,μ 27 33] [0,27]) (Ξ 27 (Ψ (Γ [η 2 6] [2]) .ret) (Ψ (Γ [μ 35 0,σ 36 (.bin .geq (.t 35) (.c (.int .u8 (.ofNat 97)))),μ 37 36,Μ 38 0 37 true,τ 39 (.bin .leq (.t 38) (.c (.int .u8 (.ofNat 122)))) 37 true,ξ 40 37 39,μ 41 40,Μ 42 0 41 false,τ 43 (.bin .geq (.t 42) (.c (.int .u8 (.ofNat 48)))) 41 false,Μ 44 43 41 false,Μ 45 0 44 true,τ 46 (.bin .leq (.t 45) (.c (.int .u8 (.ofNat 57)))) 44 true,τ 47 (.pick (.t 44) (.t 46) (.c (.bool false))) 41 false,ζ 48 41 47,μ 34 48] [0,34]) (Ξ 34 (Ψ (Γ [η 2 5] [2]) .ret) (Ψ (Γ [μ 50 0,σ 51 (.bin .gtr (.t 50) (.c (.int .u8 (.ofNat 32)))),μ 52 51,Μ 53 0 52 true,τ 54 (.bin .lss (.t 53) (.c (.int .u8 (.ofNat 127)))) 52 true,ξ 55 52 54,μ 49 55] [49]) (Ξ 49 (Ψ (Γ [η 2 6] [2]) .ret) .skip))))))))))))))) (Ψ (Γ [η 2 0] [2]) .ret))),true⟩
def sU:RC:=(Ψ (Γ [β 19 .lss 18 17] [0,1,2,16,17,18,19]) (Ψ (Ξ 19 .skip (.exit 0)) (Ψ (.block 1 (Ψ (Γ [ι 20 6 16 18,Λ 21 6 20,σ 9 (.alloc [δ,δ,δ,δ,δ,δ]),ω 6 9 21] [0,1,2,9,16,17,18]) (Ψ (Γ [φ 22 4 9,ρ 23 22,γ 24 .lss 23 0,μ 25 24,Φ 26 4 9 25 false,Ρ 27 26 25 false,τ 28 (.bin .gtr (.t 27) (κ 4095)) 25 false,ζ 29 25 28,μ 30 29,Φ 31 5 9 30 false,Ρ 32 31 30 false,τ 33 (.bin .lss (.t 32) (.c (.int .i64 (.negSucc 63)))) 30 false,ζ 34 30 33,μ 35 34,Φ 36 5 9 35 false,Ρ 37 36 35 false,τ 38 (.bin .gtr (.t 37) (κ 0)) 35 false,ζ 39 35 38] [0,1,2,16,17,18,39]) (Ξ 39 (Ψ (Γ [η 6 0,η 7 2] [6,7]) .ret) .skip)))) (Γ [γ 40 .add 18 1,μ 18 40] [0,1,2,16,17,18]))))
def xJ:RC:=.loop [0,1,2,16,17,18] sU
def Ct:RC:=(Ψ (Γ [β 60 .lss 59 58] [10,57,58,59,60]) (Ψ (Ξ 60 .skip (.exit 2)) (Ψ (.block 3 (Ψ (Γ [μ 61 59,ι 62 6 57 59,Λ 63 6 62,σ 12 (.alloc [δ,δ,δ,δ,δ,δ]),μ 11 61,ω 6 12 63] [10,11,12,57,58,59]) (Ψ (Γ [μ 64 10,φ 65 4 12,ρ 66 65,β 67 .add 64 66,μ 10 67] [10,11,12,57,58,59]) (Ψ (Γ [μ 68 11,γ 69 .gtr 68 0] [10,12,57,58,59,69]) (Ξ 69 (Γ [μ 70 10,φ 71 5 12,ρ 72 71,β 73 .add 70 72,μ 10 73] [10,57,58,59]) .skip))))) (Γ [γ 74 .add 59 1,μ 59 74] [10,57,58,59]))))
def BH:RC:=.loop [10,57,58,59] Ct
def f23:ar:=⟨[.t 6,.t 7],(Ψ (Γ [η 6 0,η 7 0] [0,1,2]) (Ψ (Ψ (Γ [μ 13 0,ν 14 .slice 13,γ 15 .gtr 14 4096] [0,1,2,15]) (Ξ 15 (Ψ (Γ [η 6 0,η 7 3] [6,7]) .ret) .skip)) (Ψ (Ψ (Γ [μ 16 0,ν 17 .slice 16,η 18 0] [0,1,2,16,17,18]) (.block 0 xJ)) (Ψ (Ψ (Γ [μ 41 1,γ 42 .lss 41 0,μ 43 42,Μ 44 2 43 false,Μ 45 1 43 false,τ 46 (.bin .lss (.t 44) (.t 45)) 43 false,ζ 47 43 46,μ 48 47,Μ 49 2 48 false,Μ 50 0 48 false,τ 51 (.len .slice (.t 50)) 48 false,τ 52 (.bin .gtr (.t 49) (.t 51)) 48 false,ζ 53 48 52] [0,1,2,53]) (Ξ 53 (Ψ (Γ [η 6 0,η 7 5] [6,7]) .ret) .skip)) (Ψ (Γ [η 10 0] [0,1,2,10]) (Ψ (Ψ (Γ [μ 54 0,μ 55 1,μ 56 2,σ 57 (.slice false 6 (.t 54) (some (.t 55)) (some (.t 56)) none),ν 58 .slice 57,η 59 0] [10,57,58,59]) (.block 2 BH)) (Ψ (Γ [μ 75 10,μ 6 75,η 7 0] [6,7]) .ret))))))),true⟩
def f26:ar:=⟨[.cell 2 17 true],(Ψ (Γ [σ 2 (.alloc [δ,δ,δ,δ,δ,δ,δ,δ,δ,δ,δ,δ,δ,δ,δ,δ,δ])] [0,2]) (Ψ (Γ [μ 3 0,σ 4 (.build [δ,δ,δ,δ,δ,δ,δ,δ,δ,δ,δ,δ,δ,δ,δ,δ,δ] [(0,1,(.t 3)),(1,1,(κ 12)),(10,1,(κ 1)),(11,1,(κ 1))]),ω 17 2 4] [2]) .ret)),true⟩
@[simp] def IC:Ω:=[σ 6 (.alloc [δ,δ,δ]),ω 3 6 14]
@[simp] def GL:Ω:=[ρ 15 5,Λ 16 3 6,σ 17 (.lit 3 true [δ,δ,δ] 1 [(0,(.t 16))]),σ 18 (.append 3 true 24 (.t 15) (.t 17)),ω 1 5 18]
def f27:ar:=⟨[.t 2,.t 3],(Ψ (Γ [σ 2 (.mv (.c θ)),η 3 0] [0]) (Ψ (Ψ (Γ [μ 7 0,σ 8 (.call 54 [.t 7]),μ 4 8] [0,4]) (Ψ (Γ [μ 9 4,γ 10 .neq 9 0] [0,4,10]) (Ξ 10 (Ψ (Γ [μ 11 4,σ 2 (.mv (.c θ)),μ 3 11] [2,3]) .ret) .skip))) (Ψ (Γ [σ 5 (.alloc [θ])] [0,5]) (Ψ (Ψ (Γ [μ 12 0,σ 13 (.call 55 [.t 12])] [5,13]) (.block 0 (.gQ (.t 13) [14] (Γ IC [5,6]) (.block 1 (Γ GL [])) [5,13]))) (Ψ (Γ [ρ 19 5,μ 2 19,η 3 0] [2,3]) .ret))))),true⟩
def f29:ar:=⟨[.t 2],(Ψ (Γ [σ 1 (.box 1 (.t 0)),σ 2 (.mv (.c .bJ))] [1]) (Ψ (Γ [σ 3 (.alloc [δ]),⟨none,.store 1 (.t 3) (κ 0),none⟩] [1,3]) (Ψ (Ψ (Γ [ρ 4 1,ν 5 .slice 4,γ 6 .gtr 5 0] [1,3,6]) (Ξ 6 (Γ [ρ 7 1,σ 8 (.bC 4 (.t 7) (κ 0)),φ 9 0 8,ρ 10 9,ω 1 3 10] [1,3]) .skip)) (Ψ (Γ [σ 11 (.kW 56 [] [.t 1,.t 3]),μ 2 11] [2]) .ret)))),false⟩
def f30:ar:=⟨[.t 4],(Ψ (Γ [η 4 0] [0,1]) (Ψ (Γ [μ 5 0,σ 6 (.call 21 [.t 5]),μ 7 1,β 8 .mul 6 7,γ 9 .quo 8 8,μ 4 9] [4]) .ret)),true⟩
def HR:RC:=(Ψ (Γ [β 12 .lss 11 10] [1,5,9,10,11,12]) (Ψ (Ξ 12 .skip (.exit 0)) (Ψ (.block 1 (Ψ (Γ [ι 13 1 9 11,ρ 14 13,μ 7 14] [1,5,7,9,10,11]) (Γ [μ 15 5,μ 16 7,μ 17 1,σ 18 (.call 30 [.t 16,.t 17]),β 19 .add 15 18,μ 5 19] [1,5,9,10,11]))) (Γ [γ 20 .add 11 1,μ 11 20] [1,5,9,10,11]))))
def Cm:RC:=.loop [1,5,9,10,11] HR
def f31:ar:=⟨[.t 4],(Ψ (Γ [η 4 0] [0,1]) (Ψ (Γ [η 5 0] [0,1,5]) (Ψ (Ψ (Γ [μ 8 0,σ 9 (.s2b (.t 8)),ν 10 .slice 9,η 11 0] [1,5,9,10,11]) (.block 0 Cm)) (Ψ (Γ [μ 21 5,μ 4 21] [4]) .ret)))),true⟩
def f32:ar:=⟨[.t 6],(Ψ (Γ [η 6 0] [0,1,2]) (Ψ (Γ [η 7 0] [0,1,2,7]) (Ψ (Ψ (Γ [μ 8 0,μ 9 1,σ 10 (.call 57 [(.c (.str [65,84,32,65,86,32,65,87,32,65,89,32,84,65,32,86,65,32,87,65,32,89,65,32,76,84,32,76,86,32,76,89,32,80,65,32,84,111,32,84,97,32,84,101,32,86,111,32,86,97,32,89,111,32,89,97,32])),.t 8,.t 9])] [0,1,2,7,10]) (Ξ 10 (Γ [η 7 2] [0,1,2,7]) .skip)) (Ψ (Ψ (Γ [μ 11 0,μ 12 1,σ 13 (.call 57 [(.c (.str [114,46,32,114,44,32,102,46,32,102,44,32,118,46,32,121,46,32,65,118,32,65,121,32,111,118,32,118,111,32])),.t 11,.t 12])] [2,7,13]) (Ξ 13 (Γ [η 7 1] [2,7]) .skip)) (Ψ (Γ [μ 14 7,μ 15 2,β 16 .mul 14 15,γ 17 .quo 16 16,σ 18 (.un .neg (.t 17)),μ 6 18] [6]) .ret))))),true⟩
def qg:RC:=(Ψ (Ψ (Γ [φ 25 2 7,ρ 26 25,γ 27 .eql 26 1,μ 28 27,Φ 29 1 7 28 true,Ρ 30 29 28 true,Μ 31 0 28 true,τ 32 (.len .str (.t 31)) 28 true,τ 33 (.bin .lss (.t 30) (.t 32)) 28 true,ξ 34 28 33,μ 35 34,Φ 36 1 7 35 true,Ρ 37 36 35 true,Μ 38 6 35 true,τ 39 (.bin .add (.t 38) (κ 3)) 35 true,τ 40 (.bin .lss (.t 37) (.t 39)) 35 true,ξ 41 35 40,μ 42 41,Μ 43 0 42 true,Φ 44 1 7 42 true,Ρ 45 44 42 true,τ 46 (.index (.t 43) (.t 45)) 42 true,τ 47 (.call 59 [.t 46]) 42 true,ξ 48 42 47] [0,5,6,7,48]) (Ξ 48 .skip (.exit 2))) (.block 3 (Γ [φ 49 1 7,ρ 50 49,γ 51 .add 50 1,φ 52 1 7,ω 1 52 51] [0,5,6,7])))
def Cr:RC:=.loop [0,5,6,7] qg
def BC:RC:=(Ψ (Ψ (Γ [μ 13 6,μ 14 0,ν 15 .str 14,β 16 .lss 13 15] [0,5,6,16]) (Ξ 16 .skip (.exit 0))) (.block 1 (Ψ (Γ [μ 17 6,μ 18 6,γ 19 .add 18 1,μ 20 0,μ 21 6,σ 22 (.index (.t 20) (.t 21)),σ 23 (.call 58 [.t 22]),σ 24 (.build [δ,δ,δ] [(0,1,(.t 17)),(1,1,(.t 19)),(2,1,(.t 23))]),σ 7 (.alloc [δ,δ,δ]),ω 3 7 24] [0,5,6,7]) (Ψ (.block 2 Cr) (Ψ (Γ [μ 53 5,Λ 54 3 7,σ 55 (.lit 3 true [δ,δ,δ] 1 [(0,(.t 54))]),σ 56 (.append 3 true 24 (.t 53) (.t 55)),μ 5 56] [0,5,7]) (Γ [φ 57 1 7,ρ 58 57,μ 6 58] [0,5,6]))))))
def x5:RC:=.loop [0,5,6] BC
def f33:ar:=⟨[.t 2,.t 3],(Ψ (Γ [σ 2 (.mv (.c θ)),η 3 0] [0]) (Ψ (Γ [μ 8 0,σ 9 (.call 45 [.t 8]),μ 4 9] [0,4]) (Ψ (Ψ (Γ [μ 10 4,γ 11 .neq 10 0] [0,4,11]) (Ξ 11 (Ψ (Γ [μ 12 4,σ 2 (.mv (.c θ)),μ 3 12] [2,3]) .ret) .skip)) (Ψ (Γ [σ 5 (.mv (.c θ))] [0,5]) (Ψ (Γ [η 6 0] [0,5,6]) (Ψ (.block 0 x5) (Ψ (Γ [μ 59 5,μ 2 59,η 3 0] [2,3]) .ret))))))),true⟩
def f34:ar:=⟨[.t 4],(Ψ (Γ [σ 2 (.box 21 (.t 0)),η 4 0] [1,2]) (Ψ (Γ [Λ 6 21 2,μ 7 1,σ 8 (.call 35 [.t 6,.t 7]),σ 9 (.field 1 false 0 (.t 8)),μ 5 9] [2,5]) (Ψ (Ψ (Γ [μ 10 5,γ 11 .eql 10 0] [2,5,11]) (Ξ 11 (Ψ (Γ [φ 12 2 2,φ 13 0 12,ρ 14 13,μ 4 14] [4]) .ret) .skip)) (Ψ (Γ [μ 15 5,μ 4 15] [4]) .ret)))),true⟩
def C9:RC:=(Ψ (Ψ (Γ [μ 7 6,φ 8 1 2,ρ 9 8,ν 10 .slice 9,β 11 .lss 7 10] [1,2,4,5,6,11]) (Ξ 11 .skip (.exit 0))) (Ψ (.block 1 (Ψ (Γ [μ 14 5,φ 15 1 2,ρ 16 15,μ 17 6,ι 18 4 16 17,φ 19 0 18,ρ 20 19,β 21 .add 14 20,μ 5 21] [1,2,4,5,6]) (Ψ (Γ [μ 22 1,μ 23 5,β 24 .lss 22 23] [1,2,4,5,6,24]) (Ξ 24 (Ψ (Γ [φ 25 1 2,ρ 26 25,μ 27 6,ι 28 4 26 27,φ 29 1 28,Λ 30 3 29,ω 3 4 30] [4]) .ret) .skip)))) (Γ [μ 12 6,γ 13 .add 12 1,μ 6 13] [1,2,4,5,6])))
def CO:RC:=.loop [1,2,4,5,6] C9
def f35:ar:=⟨[.cell 4 3 true],(Ψ (Γ [σ 2 (.box 21 (.t 0)),σ 4 (.alloc [δ,δ,δ])] [1,2,4]) (Ψ (Γ [η 5 0] [1,2,4,5]) (Ψ (Ψ (Γ [η 6 0] [1,2,4,5,6]) (.block 0 CO)) (Ψ (Γ [σ 31 (.build [δ,δ,δ] []),ω 3 4 31] [4]) .ret)))),true⟩
def f36:ar:=⟨[.t 2],(Ψ (Γ [σ 2 (.mv (.c (.bool false)))] [0]) (Ψ (Γ [μ 3 0,γ 4 .eql 3 1,μ 5 4,Μ 6 0 5 false,τ 7 (.bin .eql (.t 6) (κ 2)) 5 false,ζ 8 5 7,μ 2 8] [2]) .ret)),true⟩
def f37:ar:=⟨[.t 4],(Ψ (Γ [η 4 0] [0,1]) (Ψ (Γ [μ 5 0,σ 6 (.call 22 [.t 5]),μ 7 1,β 8 .mul 6 7,γ 9 .quo 8 8,μ 4 9] [4]) .ret)),true⟩
def H8:RC:=(Ψ (Ψ (Γ [μ 7 6,μ 8 0,ν 9 .str 8,β 10 .lss 7 9] [0,1,5,6,10]) (Ξ 10 .skip (.exit 0))) (Ψ (.block 1 (Γ [μ 13 5,μ 14 0,μ 15 6,σ 16 (.index (.t 14) (.t 15)),μ 17 1,σ 18 (.call 37 [.t 16,.t 17]),β 19 .add 13 18,μ 5 19] [0,1,5,6])) (Γ [μ 11 6,γ 12 .add 11 1,μ 6 12] [0,1,5,6])))
def BA:RC:=.loop [0,1,5,6] H8
def f38:ar:=⟨[.t 4],(Ψ (Γ [η 4 0] [0,1]) (Ψ (Γ [η 5 0] [0,1,5]) (Ψ (Ψ (Γ [η 6 0] [0,1,5,6]) (.block 0 BA)) (Ψ (Γ [μ 20 5,μ 4 20] [4]) .ret)))),true⟩
def f39:ar:=⟨[.t 6],(Ψ (Γ [η 6 0] [0,1,2]) (Ψ (Γ [μ 8 0,μ 9 1,σ 10 (.lit 1 false [(.int .u8 (.ofNat 0))] 2 [(0,(.t 8)),(1,(.t 9))]),σ 11 (.b2s (.t 10)),μ 7 11] [2,7]) (Ψ (Ψ (Γ [σ 12 (.lit 1 false [(.str [])] 19 [(0,(.c (.str [65,84]))),(1,(.c (.str [65,86]))),(2,(.c (.str [65,87]))),(3,(.c (.str [65,89]))),(4,(.c (.str [84,65]))),(5,(.c (.str [86,65]))),(6,(.c (.str [87,65]))),(7,(.c (.str [89,65]))),(8,(.c (.str [76,84]))),(9,(.c (.str [76,86]))),(10,(.c (.str [76,89]))),(11,(.c (.str [80,65]))),(12,(.c (.str [84,111]))),(13,(.c (.str [84,97]))),(14,(.c (.str [84,101]))),(15,(.c (.str [86,111]))),(16,(.c (.str [86,97]))),(17,(.c (.str [89,111]))),(18,(.c (.str [89,97])))]),μ 13 7,σ 14 (.call 60 [.t 12,.t 13])] [2,7,14]) (Ξ 14 (Ψ (Γ [μ 15 2,σ 16 (.bin .mul (κ 2) (.t 15)),γ 17 .quo 16 16,σ 18 (.un .neg (.t 17)),μ 6 18] [6]) .ret) .skip)) (Ψ (Ψ (Γ [σ 19 (.lit 1 false [(.str [])] 10 [(0,(.c (.str [114,46]))),(1,(.c (.str [114,44]))),(2,(.c (.str [102,46]))),(3,(.c (.str [102,44]))),(4,(.c (.str [118,46]))),(5,(.c (.str [121,46]))),(6,(.c (.str [65,118]))),(7,(.c (.str [65,121]))),(8,(.c (.str [111,118]))),(9,(.c (.str [118,111])))]),μ 20 7,σ 21 (.call 60 [.t 19,.t 20])] [2,21]) (Ξ 21 (Ψ (Γ [μ 22 2,γ 23 .quo 22 16,σ 24 (.un .neg (.t 23)),μ 6 24] [6]) .ret) .skip)) (Ψ (Γ [η 6 0] [6]) .ret))))),true⟩
def f40:ar:=⟨[.t 4],(Ψ (Γ [η 4 0] [0,1]) (Ψ (Γ [μ 5 0,μ 6 1,σ 7 (.call 61 [.t 5,.t 6]),μ 4 7] [4]) .ret)),true⟩
def ua:RC:=(Ψ (Γ [β 10 .lss 9 8] [1,7,8,9,10]) (Ψ (Ξ 10 .skip (.exit 0)) (Ψ (.block 1 (Ψ (Γ [ι 11 4 7 9,Λ 12 4 11,σ 6 (.alloc [δ,δ,δ,δ]),ω 4 6 12] [1,6,7,8,9]) (Ψ (Ψ (Γ [φ 13 0 6,ρ 14 13,γ 15 .lss 14 1,μ 16 15,Φ 17 0 6 16 false,Ρ 18 17 16 false,Μ 19 1 16 false,τ 20 (.bin .gtr (.t 18) (.t 19)) 16 false,ζ 21 16 20,μ 22 21,Φ 23 1 6 22 false,τ 24 (.load 3 true (.t 23)) 22 false,τ 25 (.call 62 [.t 24]) 22 false,τ 26 (.un .not (.t 25)) 22 false,ζ 27 22 26] [1,6,7,8,9,27]) (Ξ 27 (Ψ (Γ [σ 4 (.mv (.c (.bool false)))] [4]) .ret) .skip)) (Γ [μ 28 1,φ 29 0 6,ρ 30 29,β 31 .sub 28 30,μ 1 31] [1,7,8,9])))) (Γ [γ 32 .add 9 1,μ 9 32] [1,7,8,9]))))
def rH:RC:=.loop [1,7,8,9] ua
def f41:ar:=⟨[.t 4],(Ψ (Γ [σ 4 (.mv (.c (.bool false)))] [0,1]) (Ψ (Ψ (Γ [μ 7 0,ν 8 .slice 7,η 9 0] [1,7,8,9]) (.block 0 rH)) (Ψ (Γ [μ 33 1,γ 34 .eql 33 0,μ 4 34] [4]) .ret))),true⟩
def yy:RC:=(Ψ (Γ [γ 58 .lss 57 17] [56,57,58]) (Ψ (Ξ 58 .skip (.exit 0)) (Ψ (.block 1 (Ψ (Γ [σ 59 (.kE 3 true 17 (.t 56) (.t 57)),σ 4 (.alloc [δ,δ,δ]),ω 3 4 59] [4,56,57]) (Ψ (Γ [φ 60 0 4,ρ 61 60,φ 62 1 4,ρ 63 62,β 64 .lss 61 63,μ 65 64,Φ 66 0 4 65 false,Ρ 67 66 65 false,Φ 68 2 4 65 false,Ρ 69 68 65 false,τ 70 (.bin .gtr (.t 67) (.t 69)) 65 false,ζ 71 65 70] [56,57,71]) (Ξ 71 (Ψ (Γ [σ 2 (.mv (.c (.bool false)))] [2]) .ret) .skip)))) (Γ [γ 72 .add 57 1,μ 57 72] [56,57]))))
def ug:RC:=.loop [56,57] yy
def f42:ar:=⟨[.t 2],(Ψ (Γ [σ 1 (.box 17 (.t 0)),σ 2 (.mv (.c (.bool false)))] [1]) (Ψ (Ψ (Γ [φ 5 0 1,ρ 6 5,σ 7 (.build [δ,δ,δ] [(0,1,(.t 6)),(1,1,(κ 1)),(2,1,(κ 64))]),φ 8 1 1,ρ 9 8,σ 10 (.build [δ,δ,δ] [(0,1,(.t 9)),(1,1,(κ 1)),(2,1,(κ 255))]),φ 11 2 1,ρ 12 11,σ 13 (.build [δ,δ,δ] [(0,1,(.t 12)),(1,1,(κ 0)),(2,1,(κ 3))]),φ 14 3 1,ρ 15 14,σ 16 (.build [δ,δ,δ] [(0,1,(.t 15)),(1,1,(κ 0)),(2,1,(κ 255))]),φ 17 4 1,ρ 18 17,σ 19 (.build [δ,δ,δ] [(0,1,(.t 18)),(1,1,(κ 0)),(2,1,(κ 255))]),φ 20 5 1,ρ 21 20,σ 22 (.build [δ,δ,δ] [(0,1,(.t 21)),(1,1,(κ 0)),(2,1,(κ 255))]),φ 23 6 1,ρ 24 23,σ 25 (.build [δ,δ,δ] [(0,1,(.t 24)),(1,1,(κ 0)),(2,1,(κ 255))]),φ 26 7 1,ρ 27 26,σ 28 (.build [δ,δ,δ] [(0,1,(.t 27)),(1,1,(κ 0)),(2,1,(κ 255))]),φ 29 8 1,ρ 30 29,σ 31 (.build [δ,δ,δ] [(0,1,(.t 30)),(1,1,(κ 0)),(2,1,(κ 1))]),φ 32 9 1,ρ 33 32,σ 34 (.build [δ,δ,δ] [(0,1,(.t 33)),(1,1,(κ 0)),(2,1,(κ 1))]),φ 35 10 1,ρ 36 35,σ 37 (.build [δ,δ,δ] [(0,1,(.t 36)),(1,1,(κ 1)),(2,1,(κ 4))]),φ 38 11 1,ρ 39 38,σ 40 (.build [δ,δ,δ] [(0,1,(.t 39)),(1,1,(κ 1)),(2,1,(κ 4))]),φ 41 12 1,ρ 42 41,σ 43 (.build [δ,δ,δ] [(0,1,(.t 42)),(1,1,(κ 0)),(2,1,(κ 1))]),φ 44 13 1,ρ 45 44,σ 46 (.build [δ,δ,δ] [(0,1,(.t 45)),(1,1,(κ 0)),(2,1,(κ 1))]),φ 47 14 1,ρ 48 47,σ 49 (.build [δ,δ,δ] [(0,1,(.t 48)),(1,1,(κ 0)),(2,1,(κ 4))]),φ 50 15 1,ρ 51 50,σ 52 (.build [δ,δ,δ] [(0,1,(.t 51)),(1,1,(κ 0)),(2,1,(κ 8))]),φ 53 16 1,ρ 54 53,σ 55 (.build [δ,δ,δ] [(0,1,(.t 54)),(1,1,(κ 0)),(2,1,(κ 3))]),σ 56 (.build [δ,δ,δ,δ,δ,δ,δ,δ,δ,δ,δ,δ,δ,δ,δ,δ,δ,δ,δ,δ,δ,δ,δ,δ,δ,δ,δ,δ,δ,δ,δ,δ,δ,δ,δ,δ,δ,δ,δ,δ,δ,δ,δ,δ,δ,δ,δ,δ,δ,δ,δ] [(0,3,(.t 7)),(3,3,(.t 10)),(6,3,(.t 13)),(9,3,(.t 16)),(12,3,(.t 19)),(15,3,(.t 22)),(18,3,(.t 25)),(21,3,(.t 28)),(24,3,(.t 31)),(27,3,(.t 34)),(30,3,(.t 37)),(33,3,(.t 40)),(36,3,(.t 43)),(39,3,(.t 46)),(42,3,(.t 49)),(45,3,(.t 52)),(48,3,(.t 55))]),η 57 0] [56,57]) (.block 0 ug)) (Ψ (Γ [σ 2 (.mv (.c (.bool true)))] [2]) .ret))),true⟩
def yL:RC:=(Ψ (Γ [β 11 .lss 10 9] [0,1,8,9,10,11]) (Ψ (Ξ 11 .skip (.exit 0)) (Ψ (.block 1 (Ψ (Γ [ι 12 1 8 10,ρ 13 12,μ 6 13] [0,1,6,8,9,10]) (Ψ (Γ [μ 14 6,σ 15 (.bin .leq (.t 14) (.c (.int .u8 (.ofNat 32)))),μ 16 15,Μ 17 6 16 false,τ 18 (.bin .gtr (.t 17) (.c (.int .u8 (.ofNat 126)))) 16 false,ζ 19 16 18] [0,1,8,9,10,19]) (Ξ 19 (Ψ (Γ [σ 4 (.mv (.c (.bool false)))] [4]) .ret) .skip)))) (Γ [γ 20 .add 10 1,μ 10 20] [0,1,8,9,10]))))
def Dl:RC:=.loop [0,1,8,9,10] yL
def f43:ar:=⟨[.t 4],(Ψ (Γ [σ 4 (.mv (.c (.bool false)))] [0,1]) (Ψ (Ψ (Γ [μ 7 0,σ 8 (.s2b (.t 7)),ν 9 .slice 8,η 10 0] [0,1,8,9,10]) (.block 0 Dl)) (Ψ (Γ [μ 21 0,ν 22 .str 21,μ 23 1,β 24 .leq 22 23,μ 4 24] [4]) .ret))),true⟩
def Sx:RC:=(.block 1 (Ψ (Γ [μ 20 0,μ 21 1,σ 22 (.call 65 [.t 20,.t 21]),μ 6 22] [0,1,5,6]) (Ψ (Ψ (Γ [μ 23 6,σ 24 (.bin .eql (.t 23) (.c (.int .i64 (.negSucc 0))))] [0,1,5,6,24]) (Ξ 24 (Ψ (Γ [μ 25 5,μ 4 25] [4]) .ret) .skip)) (Ψ (Γ [μ 26 5,γ 27 .add 26 1,μ 5 27] [0,1,5,6]) (Γ [μ 28 0,μ 29 6,μ 30 1,ν 31 .str 30,β 32 .add 29 31,σ 33 (.slice true 1 (.t 28) (some (.t 32)) none none),μ 0 33] [0,1,5])))))
def Qb:RC:=.loop [0,1,5] Sx
def f44:ar:=⟨[.t 4],(Ψ (Γ [η 4 0] [0,1]) (Ψ (Ψ (Γ [μ 7 1,ν 8 .str 7,γ 9 .eql 8 0] [0,1,9]) (Ξ 9 (Ψ (Γ [μ 10 0,σ 11 (.call 63 [.t 10]),γ 12 .add 11 1,μ 4 12] [4]) .ret) .skip)) (Ψ (Ψ (Γ [μ 13 1,ν 14 .str 13,γ 15 .eql 14 1] [0,1,15]) (Ξ 15 (Ψ (Γ [μ 16 0,μ 17 1,σ 18 (.index (.t 17) (κ 0)),σ 19 (.call 64 [.t 16,.t 18]),μ 4 19] [4]) .ret) .skip)) (Ψ (Γ [η 5 0] [0,1,5]) (.block 0 Qb))))),true⟩
def BL:RC:=(Ψ (Ψ (Γ [μ 7 3,μ 8 0,ν 9 .str 8,β 10 .lss 7 9] [0,3,10]) (Ξ 10 .skip (.exit 0))) (Ψ (.block 1 (Ψ (Γ [μ 13 0,μ 14 3,σ 15 (.index (.t 13) (.t 14)),σ 16 (.call 58 [.t 15]),γ 17 .eql 16 0] [0,3,17]) (Ξ 17 (Ψ (Γ [η 2 4] [2]) .ret) .skip))) (Γ [μ 11 3,γ 12 .add 11 1,μ 3 12] [0,3])))
def BU:RC:=.loop [0,3] BL
def f45:ar:=⟨[.t 2],(Ψ (Γ [η 2 0] [0]) (Ψ (Ψ (Γ [μ 4 0,ν 5 .str 4,γ 6 .gtr 5 4096] [0,6]) (Ξ 6 (Ψ (Γ [η 2 3] [2]) .ret) .skip)) (Ψ (Ψ (Γ [η 3 0] [0,3]) (.block 0 BU)) (Ψ (Γ [η 2 0] [2]) .ret)))),true⟩
def f46:ar:=⟨[.t 2],(Ψ (Γ [σ 1 (.box 3 (.t 0)),σ 2 (.mv (.c (.bool false)))] [1]) (Ψ (Γ [φ 3 0 1,ρ 4 3,σ 5 (.call 66 [.t 4,(κ 0),(κ 64)]),μ 6 5,Φ 7 1 1 6 true,Ρ 8 7 6 true,τ 9 (.call 66 [.t 8,(κ 0),(κ 15)]) 6 true,ξ 10 6 9,μ 11 10,Φ 12 2 1 11 true,Ρ 13 12 11 true,τ 14 (.call 67 [.t 13]) 11 true,ξ 15 11 14,μ 2 15] [2]) .ret)),true⟩
@[simp] def F3:Ω:=[σ 1 (.box 17 (.t 0)),σ 2 (.mv (.c (.bool false)))]
@[simp] def GA:Ω:=[φ 6 0 1,ρ 7 6,σ 8 (.call 66 [.t 7,(κ 1),(κ 64)]),μ 9 8,Φ 10 1 1 9 true,Ρ 11 10 9 true,τ 12 (.call 66 [.t 11,(κ 1),(κ 255)]) 9 true,ξ 13 9 12,μ 14 13,Φ 15 2 1 14 true,Ρ 16 15 14 true,τ 17 (.call 66 [.t 16,(κ 0),(κ 3)]) 14 true,ξ 18 14 17,μ 3 18]
@[simp] def Hn:Ω:=[φ 19 3 1,ρ 20 19,σ 21 (.call 66 [.t 20,(κ 0),(κ 255)]),μ 22 21,Φ 23 4 1 22 true,Ρ 24 23 22 true,τ 25 (.call 66 [.t 24,(κ 0),(κ 255)]) 22 true,ξ 26 22 25,μ 27 26,Φ 28 5 1 27 true,Ρ 29 28 27 true,τ 30 (.call 66 [.t 29,(κ 0),(κ 255)]) 27 true,ξ 31 27 30,μ 32 31,Φ 33 6 1 32 true,Ρ 34 33 32 true,τ 35 (.call 66 [.t 34,(κ 0),(κ 255)]) 32 true,ξ 36 32 35,μ 37 36,Φ 38 7 1 37 true,Ρ 39 38 37 true,τ 40 (.call 66 [.t 39,(κ 0),(κ 255)]) 37 true,ξ 41 37 40,μ 4 41]
@[simp] def HD:Ω:=[φ 42 8 1,ρ 43 42,σ 44 (.call 67 [.t 43]),μ 45 44,Φ 46 9 1 45 true,Ρ 47 46 45 true,τ 48 (.call 67 [.t 47]) 45 true,ξ 49 45 48,μ 50 49,Φ 51 12 1 50 true,Ρ 52 51 50 true,τ 53 (.call 67 [.t 52]) 50 true,ξ 54 50 53,μ 55 54,Φ 56 13 1 55 true,Ρ 57 56 55 true,τ 58 (.call 67 [.t 57]) 55 true,ξ 59 55 58,μ 5 59]
@[simp] def GD:Ω:=[μ 60 3,μ 61 60,Μ 62 4 61 true,ξ 63 61 62,μ 64 63,Μ 65 5 64 true,ξ 66 64 65,μ 67 66,Φ 68 10 1 67 true,Ρ 69 68 67 true,τ 70 (.call 66 [.t 69,(κ 1),(κ 4)]) 67 true,ξ 71 67 70,μ 72 71,Φ 73 11 1 72 true,Ρ 74 73 72 true,τ 75 (.call 66 [.t 74,(κ 1),(κ 4)]) 72 true,ξ 76 72 75,μ 77 76,Φ 78 14 1 77 true,Ρ 79 78 77 true,τ 80 (.call 66 [.t 79,(κ 0),(κ 4)]) 77 true,ξ 81 77 80,μ 82 81,Φ 83 15 1 82 true,Ρ 84 83 82 true,τ 85 (.call 66 [.t 84,(κ 0),(κ 8)]) 82 true,ξ 86 82 85,μ 87 86,Φ 88 16 1 87 true,Ρ 89 88 87 true,τ 90 (.call 66 [.t 89,(κ 0),(κ 3)]) 87 true,ξ 91 87 90,μ 2 91]
def f47:ar:=⟨[.t 2],(Ψ (Γ F3 [1]) (Ψ (Γ GA [1,3]) (Ψ (Γ Hn [1,3,4]) (Ψ (Γ HD [1,3,4,5]) (Ψ (Γ GD [2]) .ret))))),true⟩
def yS:RC:=(Ψ (Ψ (Γ [μ 6 5,μ 7 0,ν 8 .str 7,β 9 .lss 6 8] [0,1,5,9]) (Ξ 9 .skip (.exit 0))) (Ψ (.block 1 (Ψ (Γ [μ 12 0,μ 13 5,σ 14 (.index (.t 12) (.t 13)),σ 15 (.bin .lss (.t 14) (.c (.int .u8 (.ofNat 33)))),μ 16 15,Μ 17 0 16 false,Μ 18 5 16 false,τ 19 (.index (.t 17) (.t 18)) 16 false,τ 20 (.bin .gtr (.t 19) (.c (.int .u8 (.ofNat 126)))) 16 false,ζ 21 16 20] [0,1,5,21]) (Ξ 21 (Ψ (Γ [σ 4 (.mv (.c (.bool false)))] [4]) .ret) .skip))) (Γ [μ 10 5,γ 11 .add 10 1,μ 5 11] [0,1,5])))
def Cv:RC:=.loop [0,1,5] yS
def f48:ar:=⟨[.t 4],(Ψ (Γ [σ 4 (.mv (.c (.bool false)))] [0,1]) (Ψ (Ψ (Γ [η 5 0] [0,1,5]) (.block 0 Cv)) (Ψ (Γ [μ 22 0,ν 23 .str 22,μ 24 1,β 25 .leq 23 24,μ 4 25] [4]) .ret))),true⟩
def G9:RC:=(Ψ (Ψ (Γ [μ 11 5,μ 12 0,ν 13 .slice 12,β 14 .lss 11 13] [0,1,5,14]) (Ξ 14 .skip (.exit 0))) (Ψ (.block 1 (Ψ (.aG [μ 17 0,μ 18 5,ι 19 4 17 18,Λ 20 4 19,μ 21 1,μ 22 5,ι 23 4 21 22,Λ 24 4 23,σ 25 (.eq (.agg [.int,.int,.int,.int]) true (.t 20) (.t 24))] [] [] [0,1,5,25]) (Ξ 25 (Ψ (Γ [σ 4 (.mv (.c (.bool false)))] [4]) .ret) .skip))) (Γ [μ 15 5,γ 16 .add 15 1,μ 5 16] [0,1,5])))
def B7:RC:=.loop [0,1,5] G9
def f49:ar:=⟨[.t 4],(Ψ (Γ [σ 4 (.mv (.c (.bool false)))] [0,1]) (Ψ (Ψ (Γ [μ 6 0,ν 7 .slice 6,μ 8 1,ν 9 .slice 8,β 10 .neq 7 9] [0,1,10]) (Ξ 10 (Ψ (Γ [σ 4 (.mv (.c (.bool false)))] [4]) .ret) .skip)) (Ψ (Ψ (Γ [η 5 0] [0,1,5]) (.block 0 B7)) (Ψ (Γ [σ 4 (.mv (.c (.bool true)))] [4]) .ret)))),true⟩
def Gt:RC:=(Ψ (Ψ (Γ [μ 11 5,μ 12 0,ν 13 .slice 12,β 14 .lss 11 13] [0,1,5,14]) (Ξ 14 .skip (.exit 0))) (Ψ (.block 1 (Ψ (.aG [μ 17 0,μ 18 5,ι 19 1 17 18,ρ 20 19,μ 21 1,μ 22 5,ι 23 1 21 22,ρ 24 23,β 25 .neq 20 24] [] [] [0,1,5,25]) (Ξ 25 (Ψ (Γ [σ 4 (.mv (.c (.bool false)))] [4]) .ret) .skip))) (Γ [μ 15 5,γ 16 .add 15 1,μ 5 16] [0,1,5])))
def De:RC:=.loop [0,1,5] Gt
def f50:ar:=⟨[.t 4],(Ψ (Γ [σ 4 (.mv (.c (.bool false)))] [0,1]) (Ψ (Ψ (Γ [μ 6 0,ν 7 .slice 6,μ 8 1,ν 9 .slice 8,β 10 .neq 7 9] [0,1,10]) (Ξ 10 (Ψ (Γ [σ 4 (.mv (.c (.bool false)))] [4]) .ret) .skip)) (Ψ (Ψ (Γ [η 5 0] [0,1,5]) (.block 0 De)) (Ψ (Γ [σ 4 (.mv (.c (.bool true)))] [4]) .ret)))),true⟩
def f51:ar:=⟨[.t 2],(Ψ (Γ [σ 2 (.mv (.c (.bool false)))] [0]) (Ψ (Γ [μ 3 0,γ 4 .geq 3 1,μ 5 4,Μ 6 0 5 true,τ 7 (.bin .leq (.t 6) (κ 64)) 5 true,ξ 8 5 7,μ 2 8] [2]) .ret)),true⟩
def PQ:RC:=(Ψ (Ψ (Γ [μ 6 5,μ 7 1,ν 8 .str 7,β 9 .lss 6 8] [0,1,5,9]) (Ξ 9 .skip (.exit 0))) (Ψ (.block 1 (Ψ (Γ [μ 12 1,μ 13 5,σ 14 (.index (.t 12) (.t 13)),μ 15 0,β 16 .eql 14 15] [0,1,5,16]) (Ξ 16 (Ψ (Γ [σ 4 (.mv (.c (.bool true)))] [4]) .ret) .skip))) (Γ [μ 10 5,γ 11 .add 10 1,μ 5 11] [0,1,5])))
def Q9:RC:=.loop [0,1,5] PQ
def f52:ar:=⟨[.t 4],(Ψ (Γ [σ 4 (.mv (.c (.bool false)))] [0,1]) (Ψ (Ψ (Γ [η 5 0] [0,1,5]) (.block 0 Q9)) (Ψ (Γ [σ 4 (.mv (.c (.bool false)))] [4]) .ret))),true⟩
def B5:RC:=(Ψ (Ψ (Γ [μ 10 8,μ 11 2,β 12 .lss 10 11] [0,1,2,7,8,12]) (Ξ 12 .skip (.exit 0))) (Ψ (.block 1 (Ψ (Γ [μ 15 7,μ 16 0,μ 17 8,ι 18 6 16 17,φ 19 4 18,ρ 20 19,β 21 .add 15 20,μ 7 21] [0,1,2,7,8]) (Ψ (Γ [μ 22 8,μ 23 1,β 24 .gtr 22 23] [0,1,2,7,8,24]) (Ξ 24 (Γ [μ 25 7,μ 26 0,μ 27 8,ι 28 6 26 27,φ 29 5 28,ρ 30 29,β 31 .add 25 30,μ 7 31] [0,1,2,7,8]) .skip)))) (Γ [μ 13 8,γ 14 .add 13 1,μ 8 14] [0,1,2,7,8])))
def Dc:RC:=.loop [0,1,2,7,8] B5
def f53:ar:=⟨[.t 6],(Ψ (Γ [η 6 0] [0,1,2]) (Ψ (Γ [η 7 0] [0,1,2,7]) (Ψ (Ψ (Γ [μ 9 1,μ 8 9] [0,1,2,7,8]) (.block 0 Dc)) (Ψ (Γ [μ 32 7,μ 6 32] [6]) .ret)))),true⟩
def BJ:RC:=(Ψ (Γ [β 12 .lss 11 10] [9,10,11,12]) (Ψ (Ξ 12 .skip (.exit 0)) (Ψ (.block 1 (Ψ (Γ [ι 13 1 9 11,ρ 14 13,μ 4 14] [4,9,10,11]) (Ψ (Γ [μ 15 4,σ 16 (.call 68 [.t 15]),γ 17 .eql 16 0] [9,10,11,17]) (Ξ 17 (Ψ (Γ [η 2 4] [2]) .ret) .skip)))) (Γ [γ 18 .add 11 1,μ 11 18] [9,10,11]))))
def B2:RC:=.loop [9,10,11] BJ
def f54:ar:=⟨[.t 2],(Ψ (Γ [η 2 0] [0]) (Ψ (Ψ (Γ [μ 5 0,ν 6 .str 5,γ 7 .gtr 6 4096] [0,7]) (Ξ 7 (Ψ (Γ [η 2 3] [2]) .ret) .skip)) (Ψ (Ψ (Γ [μ 8 0,σ 9 (.s2b (.t 8)),ν 10 .slice 9,η 11 0] [9,10,11]) (.block 0 B2)) (Ψ (Γ [η 2 0] [2]) .ret)))),true⟩
def f55:ar:=⟨[.t 2],(Ψ (Γ [σ 1 (.box 1 (.t 0)),σ 2 (.mv (.c .bJ))] [1]) (Ψ (Γ [σ 3 (.kW 69 [] [.t 1]),μ 2 3] [2]) .ret)),false⟩
def C5:RC:=(Ψ (Ψ (Γ [ρ 5 1,ν 6 .slice 5,γ 7 .gtr 6 1,μ 8 7,Μ 9 0 8 true,Ρ 10 2 8 true,τ 11 (.bin .geq (.t 9) (.t 10)) 8 true,ξ 12 8 11] [0,1,2,4,12]) (Ξ 12 .skip (.exit 0))) (.block 1 (Ψ (Γ [ρ 13 1,σ 14 (.slice false 4 (.t 13) (some (κ 1)) none none),ω 1 1 14] [0,1,2,4]) (.aG [ρ 15 2,ρ 16 1,σ 17 (.bC 4 (.t 16) (κ 0)),φ 18 0 17,ρ 19 18,β 20 .add 15 19,ω 1 2 20] [] [] [0,1,2,4]))))
def zc:RC:=.loop [0,1,2,4] C5
def f56:ar:=⟨[.cell 4 3 true],(Ψ (Γ [σ 4 (.alloc [δ,δ,δ])] [0,1,2,4]) (Ψ (.block 0 zc) (Ψ (Γ [ρ 21 1,σ 22 (.bC 4 (.t 21) (κ 0)),φ 23 1 22,Λ 24 3 23,ω 3 4 24] [4]) .ret))),false⟩
def yC:RC:=(Ψ (Ψ (Γ [μ 8 7,γ 9 .add 8 1,μ 10 0,ν 11 .str 10,β 12 .lss 9 11] [0,1,2,7,12]) (Ξ 12 .skip (.exit 0))) (Ψ (.block 1 (Ψ (Γ [μ 15 0,μ 16 7,σ 17 (.index (.t 15) (.t 16)),μ 18 1,β 19 .eql 17 18,μ 20 19,Μ 21 0 20 true,Μ 22 7 20 true,τ 23 (.bin .add (.t 22) (κ 1)) 20 true,τ 24 (.index (.t 21) (.t 23)) 20 true,Μ 25 2 20 true,τ 26 (.bin .eql (.t 24) (.t 25)) 20 true,ξ 27 20 26] [0,1,2,7,27]) (Ξ 27 (Ψ (Γ [σ 6 (.mv (.c (.bool true)))] [6]) .ret) .skip))) (Γ [μ 13 7,γ 14 .add 13 3,μ 7 14] [0,1,2,7])))
def Df:RC:=.loop [0,1,2,7] yC
def f57:ar:=⟨[.t 6],(Ψ (Γ [σ 6 (.mv (.c (.bool false)))] [0,1,2]) (Ψ (Ψ (Γ [η 7 0] [0,1,2,7]) (.block 0 Df)) (Ψ (Γ [σ 6 (.mv (.c (.bool false)))] [6]) .ret))),true⟩
def f58:ar:=⟨[.t 2],(Ψ (Γ [η 2 0] [0]) (Ψ (.block 0 (Ψ (Γ [μ 4 0,σ 5 (.bin .eql (.t 4) (.c (.int .u8 (.ofNat 32)))),μ 3 5] [0,3]) (Ξ 3 (Ψ (Γ [η 2 3] [2]) .ret) (Ψ (Γ [μ 7 0,σ 8 (.bin .eql (.t 7) (.c (.int .u8 (.ofNat 9)))),μ 6 8] [0,6]) (Ξ 6 (Ψ (Γ [η 2 4] [2]) .ret) (Ψ (Γ [μ 10 0,σ 11 (.bin .eql (.t 10) (.c (.int .u8 (.ofNat 31)))),μ 9 11] [0,9]) (Ξ 9 (Ψ (Γ [η 2 5] [2]) .ret) (Ψ (Γ [μ 13 0,σ 14 (.bin .eql (.t 13) (.c (.int .u8 (.ofNat 1)))),μ 12 14] [0,12]) (Ξ 12 (Ψ (Γ [η 2 6] [2]) .ret) (Ψ (Γ [μ 16 0,σ 17 (.bin .eql (.t 16) (.c (.int .u8 (.ofNat 2)))),μ 15 17] [0,15]) (Ξ 15 (Ψ (Γ [η 2 7] [2]) .ret) (Ψ (Γ [μ 19 0,σ 20 (.bin .eql (.t 19) (.c (.int .u8 (.ofNat 3)))),μ 18 20] [0,18]) (Ξ 18 (Ψ (Γ [η 2 8] [2]) .ret) (Ψ (Γ [μ 22 0,σ 23 (.call 71 [.t 22]),μ 21 23] [0,21]) (Ξ 21 (Ψ (Γ [η 2 1] [2]) .ret) (Ψ (Γ [μ 25 0,σ 26 (.bin .gtr (.t 25) (.c (.int .u8 (.ofNat 32)))),μ 27 26,Μ 28 0 27 true,τ 29 (.bin .lss (.t 28) (.c (.int .u8 (.ofNat 127)))) 27 true,ξ 30 27 29,μ 24 30] [24]) (Ξ 24 (Ψ (Γ [η 2 2] [2]) .ret) .skip))))))))))))))))) (Ψ (Γ [η 2 0] [2]) .ret))),true⟩
def f59:ar:=⟨[.t 2],(Ψ (Γ [σ 2 (.mv (.c (.bool false)))] [0]) (Ψ (Γ [μ 3 0,σ 4 (.bin .eql (.t 3) (.c (.int .u8 (.ofNat 94)))),μ 5 4,Μ 6 0 5 false,τ 7 (.bin .eql (.t 6) (.c (.int .u8 (.ofNat 96)))) 5 false,ζ 8 5 7,μ 9 8,Μ 10 0 9 false,τ 11 (.bin .eql (.t 10) (.c (.int .u8 (.ofNat 126)))) 9 false,ζ 12 9 11,μ 2 12] [2]) .ret)),true⟩
def CW:RC:=(Ψ (Ψ (Γ [μ 6 5,μ 7 0,ν 8 .slice 7,β 9 .lss 6 8] [0,1,5,9]) (Ξ 9 .skip (.exit 0))) (Ψ (.block 1 (Ψ (Γ [μ 12 0,μ 13 5,ι 14 1 12 13,ρ 15 14,μ 16 1,β 17 .eql 15 16] [0,1,5,17]) (Ξ 17 (Ψ (Γ [σ 4 (.mv (.c (.bool true)))] [4]) .ret) .skip))) (Γ [μ 10 5,γ 11 .add 10 1,μ 5 11] [0,1,5])))
def By:RC:=.loop [0,1,5] CW
def f60:ar:=⟨[.t 4],(Ψ (Γ [σ 4 (.mv (.c (.bool false)))] [0,1]) (Ψ (Ψ (Γ [η 5 0] [0,1,5]) (.block 0 By)) (Ψ (Γ [σ 4 (.mv (.c (.bool false)))] [4]) .ret))),true⟩
def f61:ar:=⟨[.t 4],(Ψ (Γ [η 4 0] [0,1]) (Ψ (Γ [μ 5 0,μ 6 1,σ 7 (.call 72 [.t 5,.t 6]),μ 4 7] [4]) .ret)),true⟩
def f62:ar:=⟨[.t 2],(Ψ (Γ [σ 1 (.box 3 (.t 0)),σ 2 (.mv (.c (.bool false)))] [1]) (Ψ (Γ [φ 3 0 1,ρ 4 3,γ 5 .geq 4 0,μ 6 5,Φ 7 0 1 6 true,Ρ 8 7 6 true,τ 9 (.bin .leq (.t 8) (κ 64)) 6 true,ξ 10 6 9,μ 11 10,Φ 12 1 1 11 true,Ρ 13 12 11 true,τ 14 (.bin .geq (.t 13) (κ 0)) 11 true,ξ 15 11 14,μ 16 15,Φ 17 1 1 16 true,Ρ 18 17 16 true,τ 19 (.bin .leq (.t 18) (κ 15)) 16 true,ξ 20 16 19,μ 21 20,Φ 22 2 1 21 true,Ρ 23 22 21 true,τ 24 (.bin .eql (.t 23) (κ 0)) 21 true,Μ 25 24 21 true,Φ 26 2 1 25 false,Ρ 27 26 25 false,τ 28 (.bin .eql (.t 27) (κ 1)) 25 false,τ 29 (.pick (.t 25) (.c (.bool true)) (.t 28)) 21 true,ξ 30 21 29,μ 2 30] [2]) .ret)),true⟩
def Tl:RC:=(Ψ (Γ [σ 5 .fail,ε 6 5 0] [2,6]) (Ψ (Ξ 6 .skip (.exit 0)) (.block 1 (Γ [μ 7 2,γ 8 .add 7 1,μ 2 8] [2]))))
def Qi:RC:=.loop [2] Tl
def f63:ar:=⟨[.t 2],(Ψ (Γ [η 2 0] [0,2]) (Ψ (Ψ (Γ [μ 3 0,σ 4 .fail] [2]) (.block 0 Qi)) (Ψ (Γ [μ 9 2,μ 2 9] [2]) .ret))),true⟩
def f65:ar:=⟨[.t 4],(Ψ (Γ [η 4 0] [0,1]) (Ψ (Γ [μ 5 0,μ 6 1,σ 7 (.call 73 [.t 5,.t 6]),μ 4 7] [4]) .ret)),true⟩
def f66:ar:=⟨[.t 6],(Ψ (Γ [σ 6 (.mv (.c (.bool false)))] [0,1,2]) (Ψ (Γ [μ 7 0,μ 8 1,β 9 .geq 7 8,μ 10 9,Μ 11 0 10 true,Μ 12 2 10 true,τ 13 (.bin .leq (.t 11) (.t 12)) 10 true,ξ 14 10 13,μ 6 14] [6]) .ret)),true⟩
def f67:ar:=⟨[.t 2],(Ψ (Γ [σ 2 (.mv (.c (.bool false)))] [0]) (Ψ (Γ [μ 3 0,γ 4 .eql 3 0,μ 5 4,Μ 6 0 5 false,τ 7 (.bin .eql (.t 6) (κ 1)) 5 false,ζ 8 5 7,μ 2 8] [2]) .ret)),true⟩
def f68:ar:=⟨[.t 2],(Ψ (Γ [η 2 0] [0]) (Ψ (.block 0 (Ψ (Γ [μ 4 0,σ 5 (.call 74 [.t 4]),μ 3 5] [0,3]) (Ξ 3 (Ψ (Γ [η 2 1] [2]) .ret) (Ψ (Γ [μ 7 0,σ 8 (.bin .eql (.t 7) (.c (.int .u8 (.ofNat 32)))),μ 6 8] [0,6]) (Ξ 6 (Ψ (Γ [η 2 3] [2]) .ret) (Ψ (Γ [μ 10 0,σ 11 (.bin .eql (.t 10) (.c (.int .u8 (.ofNat 9)))),μ 9 11] [0,9]) (Ξ 9 (Ψ (Γ [η 2 4] [2]) .ret) (Ψ (Γ [μ 13 0,σ 14 (.bin .eql (.t 13) (.c (.int .u8 (.ofNat 31)))),μ 12 14] [0,12]) (Ξ 12 (Ψ (Γ [η 2 5] [2]) .ret) (Ψ (Γ [μ 16 0,σ 17 (.bin .eql (.t 16) (.c (.int .u8 (.ofNat 1)))),μ 15 17] [0,15]) (Ξ 15 (Ψ (Γ [η 2 6] [2]) .ret) (Ψ (Γ [μ 19 0,σ 20 (.bin .eql (.t 19) (.c (.int .u8 (.ofNat 2)))),μ 18 20] [0,18]) (Ξ 18 (Ψ (Γ [η 2 7] [2]) .ret) (Ψ (Γ [μ 22 0,σ 23 (.bin .eql (.t 22) (.c (.int .u8 (.ofNat 3)))),μ 21 23] [0,21]) (Ξ 21 (Ψ (Γ [η 2 8] [2]) .ret) (Ψ (Γ [μ 25 0,σ 26 (.bin .gtr (.t 25) (.c (.int .u8 (.ofNat 32)))),μ 27 26,Μ 28 0 27 true,τ 29 (.bin .leq (.t 28) (.c (.int .u8 (.ofNat 126)))) 27 true,ξ 30 27 29,μ 24 30] [24]) (Ξ 24 (Ψ (Γ [η 2 2] [2]) .ret) .skip))))))))))))))))) (Ψ (Γ [η 2 0] [2]) .ret))),true⟩
def jb:RC:=(Ψ (Ψ (Γ [φ 17 2 4,ρ 18 17,γ 19 .eql 18 1,μ 20 19,Φ 21 1 4 20 true,Ρ 22 21 20 true,Ρ 23 1 20 true,τ 24 (.len .str (.t 23)) 20 true,τ 25 (.bin .lss (.t 22) (.t 24)) 20 true,ξ 26 20 25,μ 27 26,Φ 28 1 4 27 true,Ρ 29 28 27 true,Μ 30 3 27 true,τ 31 (.bin .add (.t 30) (κ 3)) 27 true,τ 32 (.bin .lss (.t 29) (.t 31)) 27 true,ξ 33 27 32,μ 34 33,Ρ 35 1 34 true,Φ 36 1 4 34 true,Ρ 37 36 34 true,τ 38 (.index (.t 35) (.t 37)) 34 true,τ 39 (.call 70 [.t 38]) 34 true,ξ 40 34 39] [0,1,3,4,40]) (Ξ 40 .skip (.exit 2))) (.block 3 (Γ [φ 41 1 4,ρ 42 41,γ 43 .add 42 1,φ 44 1 4,ω 1 44 43] [0,1,3,4])))
def qY:RC:=.loop [0,1,3,4] jb
def p4:RC:=(Ψ (Ψ (Γ [μ 5 3,ρ 6 1,ν 7 .str 6,β 8 .lss 5 7] [0,1,3,8]) (Ξ 8 .skip (.exit 0))) (.block 1 (Ψ (Γ [μ 9 3,μ 10 3,γ 11 .add 10 1,ρ 12 1,μ 13 3,σ 14 (.index (.t 12) (.t 13)),σ 15 (.call 68 [.t 14]),σ 16 (.build [δ,δ,δ] [(0,1,(.t 9)),(1,1,(.t 11)),(2,1,(.t 15))]),σ 4 (.alloc [δ,δ,δ]),ω 3 4 16] [0,1,3,4]) (Ψ (.block 2 qY) (Ψ (Ψ (Γ [μ 45 0,Λ 46 3 4,σ 47 (.bO (.t 45) [.t 46]),σ 48 (.un .not (.t 47))] [0,1,4,48]) (Ξ 48 .ret .skip)) (Γ [φ 49 1 4,ρ 50 49,μ 3 50] [0,1,3]))))))
def mF:RC:=.loop [0,1,3] p4
def f69:ar:=⟨[],(Ψ (Γ [η 3 0] [0,1,3]) (.block 0 mF)),false⟩
def f70:ar:=⟨[.t 2],(Ψ (Γ [σ 2 (.mv (.c (.bool false)))] [0]) (Ψ (Γ [μ 3 0,σ 4 (.bin .eql (.t 3) (.c (.int .u8 (.ofNat 94)))),μ 5 4,Μ 6 0 5 false,τ 7 (.bin .eql (.t 6) (.c (.int .u8 (.ofNat 96)))) 5 false,ζ 8 5 7,μ 9 8,Μ 10 0 9 false,τ 11 (.bin .eql (.t 10) (.c (.int .u8 (.ofNat 126)))) 9 false,ζ 12 9 11,μ 2 12] [2]) .ret)),true⟩
def f71:ar:=⟨[.t 2],(Ψ (Γ [σ 2 (.mv (.c (.bool false)))] [0]) (Ψ (Γ [μ 3 0,σ 4 (.bin .geq (.t 3) (.c (.int .u8 (.ofNat 97)))),μ 5 4,Μ 6 0 5 true,τ 7 (.bin .leq (.t 6) (.c (.int .u8 (.ofNat 122)))) 5 true,ξ 8 5 7,μ 9 8,Μ 10 0 9 false,τ 11 (.bin .geq (.t 10) (.c (.int .u8 (.ofNat 65)))) 9 false,Μ 12 11 9 false,Μ 13 0 12 true,τ 14 (.bin .leq (.t 13) (.c (.int .u8 (.ofNat 90)))) 12 true,τ 15 (.pick (.t 12) (.t 14) (.c (.bool false))) 9 false,ζ 16 9 15,μ 2 16] [2]) .ret)),true⟩
def Tr:RC:=(Ψ (Ψ (Γ [μ 57 8,μ 58 9,β 59 .lss 57 58] [0,1,5,6,7,8,9,10,59]) (Ξ 59 .skip (.exit 1))) (.block 2 (Ψ (Ψ (Γ [μ 60 0,μ 61 8,σ 62 (.index (.t 60) (.t 61)),μ 63 6,β 64 .neq 62 63] [0,1,5,6,7,8,9,10,64]) (Ξ 64 (Ψ (Γ [μ 65 0,μ 66 8,γ 67 .add 66 1,μ 68 9,σ 69 (.slice true 1 (.t 65) (some (.t 67)) (some (.t 68)) none),μ 70 6,σ 71 (.call 61 [.t 69,.t 70]),μ 11 71] [0,1,5,6,7,8,9,10,11]) (Ψ (Ψ (Γ [μ 72 11,γ 73 .lss 72 0] [0,1,5,6,7,8,9,10,11,73]) (Ξ 73 (Ψ (Γ [σ 4 (.mv (.c (.int .i64 (.negSucc 0))))] [4]) .ret) .skip)) (Γ [μ 74 8,μ 75 11,γ 76 .add 75 1,β 77 .add 74 76,μ 8 77] [0,1,5,6,7,8,9,10]))) .skip)) (Ψ (Ψ (Γ [μ 78 0,μ 79 8,γ 80 .add 79 1,σ 81 (.index (.t 78) (.t 80)),μ 82 7,β 83 .eql 81 82,μ 84 83,Μ 85 0 84 true,Μ 86 8 84 true,Μ 87 8 84 true,Μ 88 5 84 true,τ 89 (.bin .add (.t 87) (.t 88)) 84 true,τ 90 (.slice true 1 (.t 85) (some (.t 86)) (some (.t 89)) none) 84 true,Μ 91 1 84 true,τ 92 (.bin .eql (.t 90) (.t 91)) 84 true,ξ 93 84 92] [0,1,5,6,7,8,9,10,93]) (Ξ 93 (Ψ (Γ [μ 94 8,μ 4 94] [4]) .ret) .skip)) (Ψ (Γ [μ 95 8,γ 96 .add 95 1,μ 8 96] [0,1,5,6,7,8,9,10]) (Ψ (Γ [μ 97 10,γ 98 .add 97 1,μ 10 98] [0,1,5,6,7,8,9,10]) (Ψ (Γ [μ 99 5,σ 100 .fail,β 101 .leq 99 100,μ 102 101,Μ 103 10 102 true,Μ 104 8 102 true,τ 105 (.call 76 [.t 104]) 102 true,τ 106 (.bin .gtr (.t 103) (.t 105)) 102 true,ξ 107 102 106] [0,1,5,6,7,8,9,10,107]) (Ξ 107 (Ψ (Γ [μ 108 0,μ 109 8,σ 110 (.slice true 1 (.t 108) (some (.t 109)) none none),μ 111 1,σ 112 (.call 75 [.t 110,.t 111]),μ 12 112] [8,12]) (Ψ (Ψ (Γ [μ 113 12,γ 114 .geq 113 0] [8,12,114]) (Ξ 114 (Ψ (Γ [μ 115 12,μ 116 8,β 117 .add 115 116,μ 4 117] [4]) .ret) .skip)) (Ψ (Γ [σ 4 (.mv (.c (.int .i64 (.negSucc 0))))] [4]) .ret))) (Ψ (Γ [μ 118 5,σ 119 .fail,β 120 .gtr 118 119,μ 121 120,Μ 122 10 121 true,Μ 123 8 121 true,τ 124 (.bin .shr (.t 123) (.c (.int .u64 (.ofNat 4)))) 121 true,τ 125 (.bin .add (κ 4) (.t 124)) 121 true,τ 126 (.bin .geq (.t 122) (.t 125)) 121 true,ξ 127 121 126,μ 128 127,Μ 129 8 128 true,Μ 130 9 128 true,τ 131 (.bin .lss (.t 129) (.t 130)) 128 true,ξ 132 128 131] [0,1,5,6,7,8,9,10,132]) (Ξ 132 (Ψ (Γ [μ 133 0,μ 134 8,σ 135 (.slice true 1 (.t 133) (some (.t 134)) none none),μ 136 1,σ 137 (.call 77 [.t 135,.t 136]),μ 13 137] [8,13]) (Ψ (Ψ (Γ [μ 138 13,γ 139 .lss 138 0] [8,13,139]) (Ξ 139 (Ψ (Γ [σ 4 (.mv (.c (.int .i64 (.negSucc 0))))] [4]) .ret) .skip)) (Ψ (Γ [μ 140 8,μ 141 13,β 142 .add 140 141,μ 4 142] [4]) .ret))) .skip))))))))))
def O9:RC:=.loop [0,1,5,6,7,8,9,10] Tr
def f73:ar:=⟨[.t 4],(Ψ (Γ [η 4 0] [0,1]) (Ψ (Γ [μ 14 1,ν 15 .str 14,μ 5 15] [0,1,5]) (Ψ (.block 0 (Ψ (Γ [μ 17 5,γ 18 .eql 17 0,μ 19 18,Μ 20 1 19 false,Μ 21 0 19 false,τ 22 (.bin .eql (.t 20) (.t 21)) 19 false,ζ 23 19 22,μ 16 23] [0,1,5,16]) (Ξ 16 (Ψ (Γ [η 4 0] [4]) .ret) (Ψ (Γ [μ 25 5,γ 26 .eql 25 1,μ 24 26] [0,1,5,24]) (Ξ 24 (Ψ (Γ [μ 27 0,μ 28 1,σ 29 (.index (.t 28) (κ 0)),σ 30 (.call 61 [.t 27,.t 29]),μ 4 30] [4]) .ret) (Ψ (Γ [μ 32 5,μ 33 0,ν 34 .str 33,β 35 .geq 32 34,μ 31 35] [0,1,5,31]) (Ξ 31 (Ψ (Γ [σ 4 (.mv (.c (.int .i64 (.negSucc 0))))] [4]) .ret) (Ψ (Γ [μ 37 5,σ 38 .fail,β 39 .leq 37 38,μ 40 39,Μ 41 0 40 true,τ 42 (.len .str (.t 41)) 40 true,τ 43 (.bin .leq (.t 42) (κ 64)) 40 true,ξ 44 40 43,μ 36 44] [0,1,5,36]) (Ξ 36 (Ψ (Γ [μ 45 0,μ 46 1,σ 47 (.call 75 [.t 45,.t 46]),μ 4 47] [4]) .ret) .skip))))))))) (Ψ (Γ [μ 48 1,σ 49 (.index (.t 48) (κ 0)),μ 6 49] [0,1,5,6]) (Ψ (Γ [μ 50 1,σ 51 (.index (.t 50) (κ 1)),μ 7 51] [0,1,5,6,7]) (Ψ (Γ [η 8 0] [0,1,5,6,7,8]) (Ψ (Γ [μ 52 0,ν 53 .str 52,μ 54 5,β 55 .sub 53 54,γ 56 .add 55 1,μ 9 56] [0,1,5,6,7,8,9]) (Ψ (Γ [η 10 0] [0,1,5,6,7,8,9,10]) (Ψ (.block 1 O9) (Ψ (Γ [σ 4 (.mv (.c (.int .i64 (.negSucc 0))))] [4]) .ret)))))))))),true⟩
def f74:ar:=⟨[.t 2],(Ψ (Γ [σ 2 (.mv (.c (.bool false)))] [0]) (Ψ (Γ [μ 3 0,σ 4 (.bin .geq (.t 3) (.c (.int .u8 (.ofNat 97)))),μ 5 4,Μ 6 0 5 true,τ 7 (.bin .leq (.t 6) (.c (.int .u8 (.ofNat 122)))) 5 true,ξ 8 5 7,μ 9 8,Μ 10 0 9 false,τ 11 (.bin .geq (.t 10) (.c (.int .u8 (.ofNat 65)))) 9 false,Μ 12 11 9 false,Μ 13 0 12 true,τ 14 (.bin .leq (.t 13) (.c (.int .u8 (.ofNat 90)))) 12 true,τ 15 (.pick (.t 12) (.t 14) (.c (.bool false))) 9 false,ζ 16 9 15,μ 2 16] [2]) .ret)),true⟩
def f76:ar:=⟨[.t 2],(Ψ (Γ [η 2 0] [0]) (Ψ (Γ [μ 3 0,γ 4 .add 3 16,γ 5 .quo 4 8,μ 2 5] [2]) .ret)),true⟩
def Qu:RC:=(Ψ (Ψ (Γ [μ 18 9,μ 19 7,β 20 .lss 18 19] [0,1,5,6,7,8,9,20]) (Ξ 20 .skip (.exit 0))) (Ψ (.block 1 (Γ [μ 23 8,σ 24 (.bin .mul (.t 23) (.c (.int .u32 (.ofNat 16777619)))),μ 25 0,μ 26 9,σ 27 (.index (.t 25) (.t 26)),σ 28 (.i2i .u32 (.t 27)),β 29 .add 24 28,μ 8 29] [0,1,5,6,7,8,9])) (Γ [μ 21 9,γ 22 .add 21 1,μ 9 22] [0,1,5,6,7,8,9])))
def Qs:RC:=.loop [0,1,5,6,7,8,9] Qu
def RN:RC:=(Ψ (Ψ (Γ [μ 41 10,μ 42 0,ν 43 .str 42,β 44 .lss 41 43] [0,1,5,6,7,8,10,44]) (Ξ 44 .skip (.exit 2))) (.block 3 (Ψ (Γ [μ 45 8,σ 46 (.bin .mul (.t 45) (.c (.int .u32 (.ofNat 16777619)))),μ 8 46] [0,1,5,6,7,8,10]) (Ψ (Γ [μ 47 8,μ 48 0,μ 49 10,σ 50 (.index (.t 48) (.t 49)),σ 51 (.i2i .u32 (.t 50)),β 52 .add 47 51,μ 8 52] [0,1,5,6,7,8,10]) (Ψ (Γ [μ 53 8,μ 54 6,μ 55 0,μ 56 10,μ 57 7,β 58 .sub 56 57,σ 59 (.index (.t 55) (.t 58)),σ 60 (.i2i .u32 (.t 59)),β 61 .mul 54 60,β 62 .sub 53 61,μ 8 62] [0,1,5,6,7,8,10]) (Ψ (Γ [μ 63 10,γ 64 .add 63 1,μ 10 64] [0,1,5,6,7,8,10]) (Ψ (Γ [μ 65 8,μ 66 5,β 67 .eql 65 66,μ 68 67,Μ 69 0 68 true,Μ 70 10 68 true,Μ 71 7 68 true,τ 72 (.bin .sub (.t 70) (.t 71)) 68 true,Μ 73 10 68 true,τ 74 (.slice true 1 (.t 69) (some (.t 72)) (some (.t 73)) none) 68 true,Μ 75 1 68 true,τ 76 (.bin .eql (.t 74) (.t 75)) 68 true,ξ 77 68 76] [0,1,5,6,7,8,10,77]) (Ξ 77 (Ψ (Γ [μ 78 10,μ 79 7,β 80 .sub 78 79,μ 4 80] [4]) .ret) .skip))))))))
def Ra:RC:=.loop [0,1,5,6,7,8,10] RN
def f77:ar:=⟨[.t 4],(Ψ (Γ [η 4 0] [0,1]) (Ψ (Γ [μ 12 1,σ 13 (.call 78 [.t 12]),μ 11 13,ε 14 11 0,ε 15 11 1,μ 5 14,μ 6 15] [0,1,5,6]) (Ψ (Γ [μ 16 1,ν 17 .str 16,μ 7 17] [0,1,5,6,7]) (Ψ (Γ [σ 8 (.mv (.c (.int .u32 (.ofNat 0))))] [0,1,5,6,7,8]) (Ψ (Ψ (Γ [η 9 0] [0,1,5,6,7,8,9]) (.block 0 Qs)) (Ψ (Ψ (Γ [μ 30 8,μ 31 5,β 32 .eql 30 31,μ 33 32,Μ 34 0 33 true,Μ 35 7 33 true,τ 36 (.slice true 1 (.t 34) none (some (.t 35)) none) 33 true,Μ 37 1 33 true,τ 38 (.bin .eql (.t 36) (.t 37)) 33 true,ξ 39 33 38] [0,1,5,6,7,8,39]) (Ξ 39 (Ψ (Γ [η 4 0] [4]) .ret) .skip)) (Ψ (Ψ (Γ [μ 40 7,μ 10 40] [0,1,5,6,7,8,10]) (.block 2 Ra)) (Ψ (Γ [σ 4 (.mv (.c (.int .i64 (.negSucc 0))))] [4]) .ret)))))))),true⟩
def Pe:RC:=(Ψ (Ψ (Γ [μ 9 5,μ 10 0,ν 11 .str 10,β 12 .lss 9 11] [0,4,5,12]) (Ξ 12 .skip (.exit 0))) (Ψ (.block 1 (Γ [μ 15 4,σ 16 (.bin .mul (.t 15) (.c (.int .u32 (.ofNat 16777619)))),μ 17 0,μ 18 5,σ 19 (.index (.t 17) (.t 18)),σ 20 (.i2i .u32 (.t 19)),β 21 .add 16 20,μ 4 21] [0,4,5])) (Γ [μ 13 5,γ 14 .add 13 1,μ 5 14] [0,4,5])))
def PN:RC:=.loop [0,4,5] Pe
def PD:RC:=(Ψ (Ψ (Γ [μ 24 8,γ 25 .gtr 24 0] [4,6,7,8,25]) (Ξ 25 .skip (.exit 2))) (Ψ (.block 3 (Ψ (Ψ (Γ [μ 28 8,γ 29 .and 28 1,γ 30 .neq 29 0] [4,6,7,8,30]) (Ξ 30 (Γ [μ 31 6,μ 32 7,β 33 .mul 31 32,μ 6 33] [4,6,7,8]) .skip)) (Γ [μ 34 7,μ 35 7,β 36 .mul 34 35,μ 7 36] [4,6,7,8]))) (Γ [μ 26 8,σ 27 (.bin .shr (.t 26) (.c (.int .u64 (.ofNat 1)))),μ 8 27] [4,6,7,8])))
def PK:RC:=.loop [4,6,7,8] PD
def f78:ar:=⟨[.t 2,.t 3],(Ψ (Γ [σ 2 (.mv (.c (.int .u32 (.ofNat 0)))),σ 3 (.mv (.c (.int .u32 (.ofNat 0))))] [0]) (Ψ (Γ [σ 4 (.mv (.c (.int .u32 (.ofNat 0))))] [0,4]) (Ψ (Ψ (Γ [η 5 0] [0,4,5]) (.block 0 PN)) (Ψ (Γ [σ 6 (.mv (.c (.int .u32 (.ofNat 1)))),σ 7 (.mv (.c (.int .u32 (.ofNat 16777619))))] [0,4,6,7]) (Ψ (Ψ (Γ [μ 22 0,ν 23 .str 22,μ 8 23] [4,6,7,8]) (.block 2 PK)) (Ψ (Γ [μ 37 4,μ 38 6,μ 2 37,μ 3 38] [2,3]) .ret)))))),true⟩
def f105:ar:=⟨[.cell 2 21 true],(Ψ (Γ [σ 2 (.alloc [(.str []),θ,δ,δ,δ,δ,δ,δ,δ,δ,δ,δ,δ,δ,δ,δ,δ,δ,δ,(.str []),θ])] [0,2]) (Ψ (Γ [μ 4 0,σ 5 (.call 26 [(κ 8)]),σ 6 (.build [(.str []),θ,δ,δ,δ,δ,δ,δ,δ,δ,δ,δ,δ,δ,δ,δ,δ,δ,δ,(.str []),θ] [(0,1,(.t 4)),(2,17,(.t 5))]),σ 3 (.alloc [(.str []),θ,δ,δ,δ,δ,δ,δ,δ,δ,δ,δ,δ,δ,δ,δ,δ,δ,δ,(.str []),θ]),ω 21 3 6] [0,2,3]) (Ψ (Ψ (Γ [μ 7 0,ν 8 .str 7,γ 9 .gtr 8 0] [0,2,3,9]) (Ξ 9 (Γ [μ 10 0,ν 11 .str 10,σ 12 (.build [δ,δ,δ,δ] [(0,1,(.t 11))]),σ 13 (.lit 4 true [δ,δ,δ,δ] 1 [(0,(.t 12))]),φ 14 1 3,ω 1 14 13] [2,3]) .skip)) (Ψ (Γ [Λ 15 21 3,ω 21 2 15] [2]) .ret)))),true⟩
@[simp] def wj:Ω:=[σ 7 (.alloc [δ,δ,δ,δ,δ,δ,δ,(.bool false)]),ω 8 7 19]
@[simp] def vc:Ω:=[ρ 20 6,Λ 21 8 7,σ 22 (.lit 8 true [δ,δ,δ,δ,δ,δ,δ,(.bool false)] 1 [(0,(.t 21))]),σ 23 (.append 8 true 64 (.t 20) (.t 22)),ω 1 6 23]
def f106:ar:=⟨[.t 2,.t 3],(Ψ (Γ [σ 1 (.box 21 (.t 0)),σ 2 (.mv (.c θ)),η 3 0] [1]) (Ψ (Γ [Λ 9 21 1,σ 10 (.call 117 [.t 9]),μ 8 10,ε 11 8 0,ε 12 8 1,μ 4 11,μ 5 12] [1,4,5]) (Ψ (Ψ (Γ [μ 13 5,γ 14 .neq 13 0] [1,4,5,14]) (Ξ 14 (Ψ (Γ [μ 15 5,σ 2 (.mv (.c θ)),μ 3 15] [2,3]) .ret) .skip)) (Ψ (Γ [σ 6 (.alloc [θ])] [1,4,6]) (Ψ (Ψ (Γ [Λ 16 21 1,μ 17 4,σ 18 (.call 118 [.t 16,.t 17])] [6,18]) (.block 0 (.gQ (.t 18) [19] (Γ wj [6,7]) (.block 1 (Γ vc [])) [6,18]))) (Ψ (Γ [ρ 24 6,μ 2 24,η 3 0] [2,3]) .ret)))))),true⟩
def f117:ar:=⟨[.t 2,.t 3],(Ψ (Γ [σ 1 (.box 21 (.t 0)),σ 2 (.mv (.c θ)),η 3 0] [1]) (Ψ (Γ [Λ 7 21 1,σ 8 (.call 10 [.t 7]),μ 6 8,ε 9 6 0,ε 10 6 1,μ 4 9,μ 5 10] [1,4,5]) (Ψ (Ψ (Γ [μ 11 5,γ 12 .eql 11 0,μ 13 12,Φ 14 2 1 13 true,Φ 15 14 14 13 true,Ρ 16 15 13 true,τ 17 (.bin .geq (.t 16) (κ 2)) 13 true,ξ 18 13 17,μ 19 18,Μ 20 4 19 true,τ 21 (.len .slice (.t 20)) 19 true,τ 22 (.bin .gtr (.t 21) (κ 0)) 19 true,ξ 23 19 22,μ 24 23,Μ 25 4 24 true,τ 26 (.bC 6 (.t 25) (κ 0)) 24 true,Φ 27 2 26 24 true,Ρ 28 27 24 true,τ 29 (.bin .eql (.t 28) (κ 1)) 24 true,ξ 30 24 29] [4,5,30]) (Ξ 30 (Γ [μ 31 4,σ 32 (.slice false 6 (.t 31) (some (κ 1)) none none),μ 4 32] [4,5]) .skip)) (Ψ (Γ [μ 33 4,μ 34 5,μ 2 33,μ 3 34] [2,3]) .ret)))),true⟩
def f118:ar:=⟨[.t 4],(Ψ (Γ [σ 2 (.box 21 (.t 0)),σ 3 (.box 1 (.t 1)),σ 4 (.mv (.c .bJ))] [2,3]) (Ψ (Γ [σ 5 (.kW 131 [] [.t 2,.t 3]),μ 4 5] [4]) .ret)),false⟩
def kG:RC:=(Ψ (Γ [β 20 .lss 19 18] [2,3,4,5,6,7,8,17,18,19,20]) (Ψ (Ξ 20 .skip (.exit 0)) (Ψ (.block 1 (Ψ (Γ [μ 21 19,ι 22 6 17 19,Λ 23 6 22,σ 10 (.alloc [δ,δ,δ,δ,δ,δ]),μ 9 21,ω 6 10 23] [2,3,4,5,6,7,8,9,10,17,18,19]) (Ψ (Ψ (Γ [Λ 24 6 10,σ 25 (.call 136 [.t 24]),σ 26 (.un .not (.t 25))] [2,3,4,5,6,7,8,9,10,17,18,19,26]) (Ξ 26 (Ψ (Ψ (.aG [μ 27 8,μ 28 9,σ 29 (.bO (.t 27) [.t 28]),σ 30 (.un .not (.t 29)),μ 31 30,Ρ 32 3 31 false,τ 33 (.load 6 true (.t 10)) 31 false,τ 34 (.call 137 [.t 33]) 31 false,τ 35 (.bO (.t 32) [.t 34]) 31 false,τ 36 (.un .not (.t 35)) 31 false,ζ 37 31 36] [] [] [2,3,4,5,7,8,9,17,18,19,37]) (Ξ 37 .ret .skip)) (Ψ (Γ [μ 38 9,γ 39 .add 38 1,μ 40 9,γ 41 .add 40 1,μ 6 39,ω 1 7 41] [2,3,4,5,6,7,8,17,18,19]) (.exit 1))) .skip)) (Ψ (Ψ (Γ [μ 42 9,ρ 43 7,β 44 .eql 42 43] [2,3,4,5,6,7,8,9,10,17,18,19,44]) (Ξ 44 (.exit 1) .skip)) (Ψ (Γ [φ 45 0 10,ρ 46 45,φ 47 0 10,ρ 48 47,σ 49 (.build [δ,δ,δ,δ,δ,δ,δ,(.bool false)] [(0,1,(κ 3)),(1,1,(.t 46)),(2,1,(.t 48))]),σ 11 (.alloc [δ,δ,δ,δ,δ,δ,δ,(.bool false)]),ω 8 11 49] [2,3,4,5,6,7,8,9,10,11,17,18,19]) (Ψ (.block 2 (Ψ (Γ [μ 51 4,μ 52 9,ι 53 1 51 52,ρ 54 53,μ 50 54] [2,3,4,5,6,7,8,9,10,11,17,18,19,50]) (Ξ 50 (Γ [φ 55 3 10,ρ 56 55,σ 57 (.call 138 [.t 56]),φ 58 6 11,⟨none,.store 1 (.t 58) (κ 100),none⟩,φ 59 7 11,⟨none,.store 1 (.t 59) (.c (.bool true)),none⟩,φ 60 3 11,ω 1 60 57] [2,3,4,5,6,7,8,9,11,17,18,19]) (Ψ (Γ [μ 62 5,μ 63 9,γ 64 .sub 63 1,σ 65 (.bO (.t 62) [.t 64]),μ 66 65,Μ 67 5 66 true,Μ 68 9 66 true,τ 69 (.bO (.t 67) [.t 68]) 66 true,τ 70 (.un .not (.t 69)) 66 true,ξ 71 66 70,μ 72 71,Μ 73 9 72 true,τ 74 (.bin .sub (.t 73) (κ 1)) 72 true,Μ 75 6 72 true,τ 76 (.bin .gtr (.t 74) (.t 75)) 72 true,ξ 77 72 76,μ 61 77] [2,3,4,5,6,7,8,9,11,17,18,19,61]) (Ξ 61 (Γ [φ 78 6 11,⟨none,.store 1 (.t 78) (κ 50),none⟩] [2,3,4,5,6,7,8,9,11,17,18,19]) (.exit 1)))))) (Ψ (Ψ (Γ [μ 79 8,μ 80 9,σ 81 (.bO (.t 79) [.t 80]),σ 82 (.un .not (.t 81)),μ 83 82,Ρ 84 3 83 false,τ 85 (.load 8 true (.t 11)) 83 false,τ 86 (.bO (.t 84) [.t 85]) 83 false,τ 87 (.un .not (.t 86)) 83 false,ζ 88 83 87] [2,3,4,5,6,7,8,9,17,18,19,88]) (Ξ 88 .ret .skip)) (Γ [μ 89 9,ω 1 7 89] [2,3,4,5,6,7,8,17,18,19])))))))) (Γ [γ 90 .add 19 1,μ 19 90] [2,3,4,5,6,7,8,17,18,19]))))
def iW:RC:=.loop [2,3,4,5,6,7,8,17,18,19] kG
def f131:ar:=⟨[],(Ψ (Γ [σ 3 (.box 1 (.t 0))] [1,2,3]) (Ψ (Γ [Λ 12 21 1,ρ 13 2,σ 14 (.call 132 [.t 12,.t 13]),μ 4 14] [1,2,3,4]) (Ψ (Γ [σ 15 (.kW 133 [] [.t 2,.t 1]),μ 5 15] [2,3,4,5]) (Ψ (Γ [σ 7 (.alloc [δ]),η 6 0,⟨none,.store 1 (.t 7) (κ 0),none⟩] [2,3,4,5,6,7]) (Ψ (Γ [σ 16 (.kW 134 [] [.t 7,.t 3,.t 2]),μ 8 16] [2,3,4,5,6,7,8]) (Ψ (Ψ (Γ [ρ 17 2,ν 18 .slice 17,η 19 0] [2,3,4,5,6,7,8,17,18,19]) (.block 0 iW)) (Γ [μ 91 8,ρ 92 2,ν 93 .slice 92,σ 94 (.bO (.t 91) [.t 93])] []))))))),false⟩
def pg:RC:=(Ψ (Ψ (.aG [μ 37 8,μ 38 1,ν 39 .slice 38,β 40 .lss 37 39,μ 41 40,Μ 42 1 41 true,Μ 43 8 41 true,τ 44 (.bC 6 (.t 42) (.t 43)) 41 true,Φ 45 2 44 41 true,Ρ 46 45 41 true,τ 47 (.bin .eql (.t 46) (κ 1)) 41 true,ξ 48 41 47,μ 49 48,Μ 50 1 49 true,Μ 51 8 49 true,τ 52 (.bC 6 (.t 50) (.t 51)) 49 true,Φ 53 3 52 49 true,Ρ 54 53 49 true,Μ 55 1 49 true,Μ 56 7 49 true,τ 57 (.bC 6 (.t 55) (.t 56)) 49 true,Φ 58 3 57 49 true,Ρ 59 58 49 true,τ 60 (.bin .eql (.t 54) (.t 59)) 49 true,ξ 61 49 60] [] [] [1,2,5,6,7,8,9,61]) (Ξ 61 .skip (.exit 2))) (.block 3 (Ψ (.aG [μ 62 9,φ 63 0 2,ρ 64 63,μ 65 1,μ 66 8,ι 67 6 65 66,φ 68 0 67,ρ 69 68,σ 70 (.index (.t 64) (.t 69)),σ 71 (.lit 1 false [(.int .u8 (.ofNat 0))] 1 [(0,(.t 70))]),σ 72 (.append 1 false 1 (.t 62) (.t 71)),μ 9 72] [] [] [1,2,5,6,7,8,9]) (Γ [μ 73 8,γ 74 .add 73 1,μ 8 74] [1,2,5,6,7,8,9]))))
def nr:RC:=.loop [1,2,5,6,7,8,9] pg
def Bl:RC:=(Ψ (Γ [β 85 .lss 84 83] [1,2,5,6,7,8,82,83,84,85]) (Ψ (Ξ 85 .skip (.exit 4)) (Ψ (.block 5 (Ψ (Γ [ι 86 1 82 84,ρ 87 86,μ 13 87] [1,2,5,6,7,8,13,82,83,84]) (Γ [μ 88 5,μ 89 7,μ 90 13,β 91 .add 89 90,ι 92 1 88 91,⟨none,.store 1 (.t 92) (.c (.bool true)),none⟩] [1,2,5,6,7,8,82,83,84]))) (Γ [γ 93 .add 84 1,μ 84 93] [1,2,5,6,7,8,82,83,84]))))
def xl:RC:=.loop [1,2,5,6,7,8,82,83,84] Bl
def wi:RC:=(Ψ (Ψ (Γ [μ 24 7,μ 25 1,ν 26 .slice 25,β 27 .lss 24 26] [1,2,5,6,7,27]) (Ξ 27 .skip (.exit 0))) (.block 1 (Ψ (Ψ (Γ [μ 28 1,μ 29 7,ι 30 6 28 29,φ 31 2 30,ρ 32 31,γ 33 .neq 32 1] [1,2,5,6,7,33]) (Ξ 33 (Ψ (Γ [μ 34 7,γ 35 .add 34 1,μ 7 35] [1,2,5,6,7]) (.exit 1)) .skip)) (Ψ (Γ [μ 36 7,μ 8 36] [1,2,5,6,7,8]) (Ψ (Γ [σ 9 (.mv (.c θ))] [1,2,5,6,7,8,9]) (Ψ (.block 2 nr) (Ψ (Γ [μ 76 6,μ 77 9,σ 78 (.b2s (.t 77)),σ 79 (.call 144 [.t 76,.t 78]),μ 75 79,ε 80 75 0,ε 81 75 1,μ 10 80,μ 11 81] [1,2,5,6,7,8,10]) (Ψ (Ψ (Γ [μ 82 10,ν 83 .slice 82,η 84 0] [1,2,5,6,7,8,82,83,84]) (.block 4 xl)) (Γ [μ 94 8,μ 7 94] [1,2,5,6,7])))))))))
def qV:RC:=.loop [1,2,5,6,7] wi
def f132:ar:=⟨[.t 4],(Ψ (Γ [σ 2 (.box 21 (.t 0)),σ 4 (.mv (.c θ))] [1,2]) (Ψ (Γ [μ 14 1,ν 15 .slice 14,γ 16 .add 15 1,σ 17 (.cl 1 false 1 [(.bool false)] (.t 16) (.t 16)),μ 5 17] [1,2,5]) (Ψ (Ψ (Γ [φ 18 2 2,φ 19 12 18,ρ 20 19,γ 21 .eql 20 0] [1,2,5,21]) (Ξ 21 (Ψ (Γ [μ 22 5,μ 4 22] [4]) .ret) .skip)) (Ψ (Γ [σ 23 (.call 143 []),μ 6 23] [1,2,5,6]) (Ψ (Ψ (Γ [η 7 0] [1,2,5,6,7]) (.block 0 qV)) (Ψ (Γ [μ 95 5,μ 4 95] [4]) .ret)))))),true⟩
def f133:ar:=⟨[.t 4],(Ψ (Γ [σ 4 (.mv (.c (.bool false)))] [0,1,2]) (Ψ (.aG [ρ 5 1,μ 6 0,ι 7 6 5 6,φ 8 2 7,ρ 9 8,γ 10 .eql 9 2,μ 11 10,Φ 12 0 2 11 true,Ρ 13 12 11 true,Ρ 14 1 11 true,Μ 15 0 11 true,τ 16 (.bC 6 (.t 14) (.t 15)) 11 true,Φ 17 0 16 11 true,Ρ 18 17 11 true,τ 19 (.index (.t 13) (.t 18)) 11 true,τ 20 (.bin .eql (.t 19) (.c (.int .u8 (.ofNat 45)))) 11 true,ξ 21 11 20,μ 4 21] [] [] [4]) .ret)),false⟩
def f134:ar:=⟨[.t 5],(Ψ (Γ [σ 5 (.mv (.c (.bool false)))] [0,1,2,3]) (Ψ (.aG [ρ 6 1,μ 7 0,β 8 .geq 6 7,μ 9 8,Ρ 10 2 9 false,Ρ 11 3 9 false,Ρ 12 1 9 false,Μ 13 0 9 false,τ 14 (.call 135 [.t 11,.t 12,.t 13]) 9 false,τ 15 (.bO (.t 10) [.t 14]) 9 false,ζ 16 9 15,μ 5 16] [] [] [5]) .ret)),false⟩
def f135:ar:=⟨[.cell 6 8 true],(Ψ (Γ [σ 6 (.alloc [δ,δ,δ,δ,δ,δ,δ,(.bool false)])] [0,1,2,6]) (Ψ (Γ [μ 10 0,μ 11 1,μ 12 2,σ 13 (.call 23 [.t 10,.t 11,.t 12]),μ 9 13,ε 14 9 0,ε 15 9 1,μ 7 14,μ 8 15] [0,1,2,6,7]) (Ψ (.aG [μ 16 0,μ 17 1,ι 18 6 16 17,φ 19 0 18,ρ 20 19,μ 21 0,μ 22 2,γ 23 .sub 22 1,ι 24 6 21 23,φ 25 1 24,ρ 26 25,μ 27 7,σ 28 (.build [δ,δ,δ,δ,δ,δ,δ,(.bool false)] [(0,1,(κ 1)),(1,1,(.t 20)),(2,1,(.t 26)),(3,1,(.t 27))]),ω 8 6 28] [] [] [6]) .ret))),true⟩
def f136:ar:=⟨[.t 2],(Ψ (Γ [σ 1 (.box 6 (.t 0)),σ 2 (.mv (.c (.bool false)))] [1]) (Ψ (Γ [φ 3 2 1,ρ 4 3,γ 5 .neq 4 3,μ 6 5,Φ 7 2 1 6 true,Ρ 8 7 6 true,τ 9 (.bin .neq (.t 8) (κ 4)) 6 true,ξ 10 6 9,μ 11 10,Φ 12 2 1 11 true,Ρ 13 12 11 true,τ 14 (.bin .neq (.t 13) (κ 5)) 11 true,ξ 15 11 14,μ 2 15] [2]) .ret)),true⟩
def f137:ar:=⟨[.cell 2 8 true],(Ψ (Γ [σ 1 (.box 6 (.t 0)),σ 2 (.alloc [δ,δ,δ,δ,δ,δ,δ,(.bool false)])] [1,2]) (Ψ (Ψ (Γ [φ 3 2 1,ρ 4 3] [1,2,4]) (.block 0 (Ψ (Γ [γ 6 .eql 4 3,μ 5 6] [1,2,4,5]) (Ξ 5 (Ψ (Γ [φ 7 0 1,ρ 8 7,φ 9 1 1,ρ 10 9,φ 11 4 1,ρ 12 11,φ 13 4 1,ρ 14 13,γ 15 .quo 14 2,φ 16 4 1,ρ 17 16,γ 18 .quo 17 3,σ 19 (.build [δ,δ,δ,δ,δ,δ,δ,(.bool false)] [(0,1,(κ 2)),(1,1,(.t 8)),(2,1,(.t 10)),(3,1,(.t 12)),(4,1,(.t 15)),(5,1,(.t 18))]),ω 8 2 19] [2]) .ret) (Ψ (Γ [γ 21 .eql 4 4,μ 20 21] [1,2,20]) (Ξ 20 (Ψ (Γ [φ 22 0 1,ρ 23 22,φ 24 1 1,ρ 25 24,σ 26 (.build [δ,δ,δ,δ,δ,δ,δ,(.bool false)] [(0,1,(κ 4)),(1,1,(.t 23)),(2,1,(.t 25))]),ω 8 2 26] [2]) .ret) .skip)))))) (Ψ (.aG [φ 27 0 1,ρ 28 27,φ 29 1 1,ρ 30 29,φ 31 3 1,ρ 32 31,σ 33 (.call 138 [.t 32]),σ 34 (.build [δ,δ,δ,δ,δ,δ,δ,(.bool false)] [(0,1,(κ 3)),(1,1,(.t 28)),(2,1,(.t 30)),(3,1,(.t 33)),(6,1,(κ 50)),(7,1,(.c (.bool true)))]),ω 8 2 34] [] [] [2]) .ret))),true⟩
def f138:ar:=⟨[.t 2],(Ψ (Γ [η 2 0] [0]) (Ψ (Γ [μ 6 0,σ 7 (.call 17 [(.c (.str [45])),.t 6]),μ 5 7,ε 8 5 0,ε 9 5 1,μ 3 8,μ 4 9] [3]) (Ψ (Γ [μ 10 3,μ 2 10] [2]) .ret))),true⟩
def f139:ar:=⟨[.cell 4 2 true,.t 5],(Ψ (Γ [σ 4 (.alloc [δ,δ]),η 5 0] [0,1,4]) (Ψ (Ψ (Γ [μ 7 0,σ 8 (.call 145 [.t 7]),μ 6 8] [0,1,4,6]) (Ψ (Γ [μ 9 6,γ 10 .neq 9 0] [0,1,4,6,10]) (Ξ 10 (Ψ (Γ [σ 11 (.build [δ,δ] []),μ 12 6,ω 2 4 11,μ 5 12] [4,5]) .ret) .skip))) (Ψ (Ψ (Γ [μ 13 1,γ 14 .lss 13 0,μ 15 14,Μ 16 1 15 false,τ 17 (.bin .gtr (.t 16) (κ 8190)) 15 false,ζ 18 15 17] [0,1,4,18]) (Ξ 18 (Ψ (Γ [σ 19 (.build [δ,δ] []),ω 2 4 19,η 5 5] [4,5]) .ret) .skip)) (Ψ (Γ [μ 20 0,μ 21 1,σ 22 (.call 146 [.t 20,.t 21]),ω 2 4 22,η 5 0] [4,5]) .ret)))),true⟩
def f143:ar:=⟨[.t 0],(Ψ (Γ [σ 0 (.mv (.c .bp))] []) (Ψ (Γ [σ 4 (.call 148 [(.c (.str [49,116,97,32,49,116,101,32,49,116,105,32,49,116,111,32,49,110,97,32,49,110,101,32,49,110,105,32,49,108,97,32,49,108,101,32,49,108,105,32,49,114,97,32,49,114,101,32,49,109,97,32,49,109,101,32,49,112,97,32,49,112,101,32,49,99,97,32,49,99,111,32,49,100,101,32,49,115,97,32,49,103,101,32,49,98,108,32,116,50,116,101,32,108,50,108,101,32,110,50,110,101,32,114,50,114,101,32,50,98,108,101,46,32,52,108,101,46,32,46,114,101,51,97,32,49,112,104,101]))]),σ 5 (.lit 1 false [(.str [])] 3 [(0,(.c (.str [116,97,45,98,108,101]))),(1,(.c (.str [112,114,111,45,106,101,99,116]))),(2,(.c (.str [104,121,45,112,104,101,110,45,97,45,116,105,111,110])))]),σ 6 (.call 147 [.t 4,.t 5]),μ 3 6,ε 7 3 0,ε 8 3 1,μ 1 7,μ 2 8] [1]) (Ψ (Γ [μ 9 1,μ 0 9] [0]) .ret))),false⟩
def vJ:RC:=(Ψ (Ψ (Γ [μ 52 12,μ 53 6,ν 54 .str 53,γ 55 .sub 54 3,β 56 .leq 52 55] [6,10,11,12,56]) (Ξ 56 .skip (.exit 0))) (Ψ (.block 1 (Ψ (Γ [μ 59 10,μ 60 12,γ 61 .add 60 1,ι 62 1 59 61,ρ 63 62,σ 64 (.bin .rem (.t 63) (.c (.int .u8 (.ofNat 2)))),σ 65 (.bin .eql (.t 64) (.c (.int .u8 (.ofNat 1))))] [6,10,11,12,65]) (Ξ 65 (Γ [μ 66 11,μ 67 12,σ 68 (.lit 1 false [δ] 1 [(0,(.t 67))]),σ 69 (.append 1 false 8 (.t 66) (.t 68)),μ 11 69] [6,10,11,12]) .skip))) (Γ [μ 57 12,γ 58 .add 57 1,μ 12 58] [6,10,11,12])))
def sv:RC:=.loop [6,10,11,12] vJ
def f144:ar:=⟨[.t 4,.t 5],(Ψ (Γ [σ 4 (.mv (.c θ)),η 5 0] [0,1]) (Ψ (Ψ (Γ [μ 13 0,σ 14 (.eq .ptr false (.t 13) (.c .bp)),μ 15 14,Μ 16 0 15 false,τ 17 (.bc (.t 16)) 15 false,Φ 18 0 17 15 false,Ρ 19 18 15 false,τ 20 (.eq .ptr false (.t 19) (.c .bp)) 15 false,ζ 21 15 20] [0,1,21]) (Ξ 21 (Ψ (Γ [σ 4 (.mv (.c θ)),η 5 1] [4,5]) .ret) .skip)) (Ψ (Γ [μ 23 1,σ 24 (.call 149 [.t 23]),μ 22 24,ε 25 22 0,ε 26 22 1,μ 6 25,μ 7 26] [0,6,7]) (Ψ (Ψ (Γ [μ 27 7,σ 28 (.un .not (.t 27))] [0,6,28]) (Ξ 28 (Ψ (Γ [σ 4 (.mv (.c θ)),η 5 4] [4,5]) .ret) .skip)) (Ψ (Ψ (Γ [μ 30 0,σ 31 (.bc (.t 30)),φ 32 1 31,ρ 33 32,μ 34 6,σ 35 (.lookup [.str] θ (.t 33) (.t 34) true),μ 29 35,ε 36 29 0,ε 37 29 1,μ 8 36,μ 9 37] [0,6,8,9]) (Ψ (Γ [μ 38 9] [0,6,8,38]) (Ξ 38 (Ψ (Γ [μ 39 8,σ 40 (.call 150 [.t 39]),μ 4 40,η 5 0] [4,5]) .ret) .skip))) (Ψ (Γ [μ 41 6,ν 42 .str 41,γ 43 .add 42 3,σ 44 (.cl 1 false 1 [(.int .u8 (.ofNat 0))] (.t 43) (.t 43)),μ 10 44] [0,6,10]) (Ψ (Γ [μ 45 0,μ 46 6,σ 47 (.bin .add (.c (.str [46])) (.t 46)),σ 48 (.bin .add (.t 47) (.c (.str [46]))),μ 49 10,σ 50 (.kW 152 [.t 49] []),σ 51 (.call 151 [.t 45,.t 48,.t 50])] [6,10]) (Ψ (Γ [σ 11 (.mv (.c θ))] [6,10,11]) (Ψ (Ψ (Γ [η 12 2] [6,10,11,12]) (.block 0 sv)) (Ψ (Γ [μ 70 11,μ 4 70,η 5 0] [4,5]) .ret)))))))))),false⟩
def IJ:RC:=(Ψ (Γ [β 12 .lss 11 10] [3,9,10,11,12]) (Ψ (Ξ 12 .skip (.exit 0)) (Ψ (.block 1 (Ψ (Γ [ι 13 2 9 11,Λ 14 2 13,σ 5 (.alloc [δ,δ]),ω 2 5 14] [3,5,9,10,11]) (Ψ (Ψ (Γ [φ 15 0 5,ρ 16 15,μ 17 3,β 18 .leq 16 17,μ 19 18,Φ 20 0 5 19 false,Ρ 21 20 19 false,τ 22 (.bin .gtr (.t 21) (κ 4095)) 19 false,ζ 23 19 22,μ 24 23,Φ 25 1 5 24 false,Ρ 26 25 24 false,τ 27 (.bin .neq (.t 26) (κ 0)) 24 false,Μ 28 27 24 false,Φ 29 1 5 28 true,Ρ 30 29 28 true,τ 31 (.bin .neq (.t 30) (κ 2)) 28 true,τ 32 (.pick (.t 28) (.t 31) (.c (.bool false))) 24 false,Μ 33 32 24 false,Φ 34 1 5 33 true,Ρ 35 34 33 true,τ 36 (.bin .neq (.t 35) (κ 3)) 33 true,τ 37 (.pick (.t 33) (.t 36) (.c (.bool false))) 24 false,ζ 38 24 37] [5,9,10,11,38]) (Ξ 38 (Ψ (Γ [η 2 2] [2]) .ret) .skip)) (Γ [φ 39 0 5,ρ 40 39,μ 3 40] [3,9,10,11])))) (Γ [γ 41 .add 11 1,μ 11 41] [3,9,10,11]))))
def z9:RC:=.loop [3,9,10,11] IJ
def f145:ar:=⟨[.t 2],(Ψ (Γ [η 2 0] [0]) (Ψ (Ψ (Γ [μ 6 0,ν 7 .slice 6,γ 8 .gtr 7 16] [0,8]) (Ξ 8 (Ψ (Γ [η 2 2] [2]) .ret) .skip)) (Ψ (Γ [η 3 0] [0,3]) (Ψ (Ψ (Γ [μ 9 0,ν 10 .slice 9,η 11 0] [3,9,10,11]) (.block 0 z9)) (Ψ (Γ [η 2 0] [2]) .ret))))),true⟩
def f146:ar:=⟨[.cell 4 2 true],(Ψ (Γ [σ 4 (.alloc [δ,δ])] [0,1,4]) (Ψ (Γ [μ 8 0,μ 9 1,γ 10 .add 9 1,σ 11 (.call 153 [.t 8,.t 10,(.f 154)]),μ 7 11,ε 12 7 0,ε 13 7 1,μ 5 12,μ 6 13] [0,1,4,5]) (Ψ (Ψ (Γ [μ 14 5,μ 15 0,ν 16 .slice 15,β 17 .lss 14 16] [0,1,4,5,17]) (Ξ 17 (Ψ (Γ [μ 18 0,μ 19 5,ι 20 2 18 19,Λ 21 2 20,ω 2 4 21] [4]) .ret) .skip)) (Ψ (Γ [μ 22 1,γ 23 .quo 22 48,γ 24 .add 23 1,γ 25 .mul 24 48,σ 26 (.build [δ,δ] [(0,1,(.t 25))]),ω 2 4 26] [4]) .ret)))),true⟩
def u9:RC:=(Ψ (Γ [β 36 .lss 35 34] [1,6,33,34,35,36]) (Ψ (Ξ 36 .skip (.exit 0)) (Ψ (.block 1 (Ψ (Γ [ι 37 1 33 35,ρ 38 37,μ 8 38] [1,6,8,33,34,35]) (Ψ (Γ [μ 40 8,σ 41 (.call 156 [.t 40]),μ 39 41,ε 42 39 0,ε 43 39 1,ε 44 39 2,μ 9 42,μ 10 43,μ 11 44] [1,6,9,10,11,33,34,35]) (Ψ (Ψ (Γ [μ 45 11,σ 46 (.un .not (.t 45))] [1,6,9,10,33,34,35,46]) (Ξ 46 (Ψ (Γ [σ 4 (.mv (.c .bp)),η 5 4] [4,5]) .ret) .skip)) (Γ [μ 47 6,σ 48 (.bc (.t 47)),φ 49 0 48,ρ 50 49,μ 51 9,μ 52 10,σ 53 (.call 157 [.t 50,.t 51,.t 52])] [1,6,33,34,35]))))) (Γ [γ 54 .add 35 1,μ 35 54] [1,6,33,34,35]))))
def sB:RC:=.loop [1,6,33,34,35] u9
def rI:RC:=(Ψ (Γ [β 58 .lss 57 56] [6,12,55,56,57,58]) (Ψ (Ξ 58 .skip (.exit 2)) (Ψ (.block 3 (Ψ (Γ [ι 59 1 55 57,ρ 60 59,μ 14 60] [6,12,14,55,56,57]) (Ψ (Γ [μ 62 14,σ 63 (.call 158 [.t 62]),μ 61 63,ε 64 61 0,ε 65 61 1,ε 66 61 2,μ 15 64,μ 16 65,μ 17 66] [6,12,15,16,17,55,56,57]) (Ψ (Ψ (Γ [μ 67 17,σ 68 (.un .not (.t 67))] [6,12,15,16,55,56,57,68]) (Ξ 68 (Ψ (Γ [σ 4 (.mv (.c .bp)),η 5 4] [4,5]) .ret) .skip)) (Ψ (Γ [μ 70 6,σ 71 (.bc (.t 70)),φ 72 1 71,ρ 73 72,μ 74 15,σ 75 (.lookup [.str] θ (.t 73) (.t 74) true),μ 69 75,ε 76 69 0,ε 77 69 1,μ 18 76,μ 19 77] [6,12,15,16,19,55,56,57]) (Ψ (Γ [μ 78 12,μ 79 78,Μ 80 19 79 false,ζ 81 79 80,μ 12 81] [6,12,15,16,55,56,57]) (Γ [μ 82 6,σ 83 (.bc (.t 82)),φ 84 1 83,ρ 85 84,μ 86 15,μ 87 16,⟨none,.fk [.str] (.t 85) (.t 86) (.t 87),none⟩] [6,12,55,56,57]))))))) (Γ [γ 88 .add 57 1,μ 57 88] [6,12,55,56,57]))))
def oW:RC:=.loop [6,12,55,56,57] rI
def f147:ar:=⟨[.t 4,.t 5],(Ψ (Γ [σ 4 (.mv (.c .bp)),η 5 0] [0,1]) (Ψ (Ψ (Γ [μ 20 0,ν 21 .slice 20,γ 22 .gtr 21 256,μ 23 22,Μ 24 1 23 false,τ 25 (.len .slice (.t 24)) 23 false,τ 26 (.bin .gtr (.t 25) (κ 64)) 23 false,ζ 27 23 26] [0,1,27]) (Ξ 27 (Ψ (Γ [σ 4 (.mv (.c .bp)),η 5 3] [4,5]) .ret) .skip)) (Ψ (Γ [σ 28 (.build [.aS,θ] []),σ 29 (.box 2 (.t 28)),σ 30 .iQ,σ 31 (.build [.bp,.aS] [(0,1,(.t 29)),(1,1,(.t 30))]),σ 32 (.box 2 (.t 31)),μ 6 32] [0,1,6]) (Ψ (Ψ (Γ [μ 33 0,ν 34 .slice 33,η 35 0] [1,6,33,34,35]) (.block 0 sB)) (Ψ (Γ [σ 12 (.mv (.c (.bool false)))] [1,6,12]) (Ψ (Ψ (Γ [μ 55 1,ν 56 .slice 55,η 57 0] [6,12,55,56,57]) (.block 2 oW)) (Ψ (Ψ (Γ [μ 89 12] [6,89]) (Ξ 89 (Ψ (Γ [σ 4 (.mv (.c .bp)),η 5 7] [4,5]) .ret) .skip)) (Ψ (Γ [μ 90 6,μ 4 90,η 5 0] [4,5]) .ret)))))))),false⟩
def L7:RC:=(Ψ (Ψ (Γ [μ 13 6,μ 14 0,ν 15 .str 14,β 16 .lss 13 15] [0,3,4,5,6,16]) (Ξ 16 .skip (.exit 0))) (Ψ (.block 1 (Ψ (Γ [μ 19 0,μ 20 6,σ 21 (.index (.t 19) (.t 20)),μ 7 21] [0,3,4,5,6,7]) (Ψ (Γ [μ 22 5,μ 23 7,β 24 .or 22 23,μ 5 24] [0,3,4,5,6,7]) (Ψ (Γ [μ 25 7,σ 26 (.gv 1 256 (.c jq) (.t 25)),ρ 27 26,σ 28 (.i2i .i64 (.t 27)),μ 8 28] [0,3,4,5,6,8]) (Ψ (Γ [μ 29 3,μ 30 4,μ 31 8,σ 32 (.un .xor (.t 31)),β 33 .and 30 32,β 34 .add 29 33,μ 3 34] [0,3,5,6,8]) (Γ [μ 35 8,μ 4 35] [0,3,4,5,6])))))) (Γ [μ 17 6,γ 18 .add 17 1,μ 6 18] [0,3,4,5,6])))
def NR:RC:=.loop [0,3,4,5,6] L7
def Oh:RC:=(Ψ (Ψ (Γ [μ 42 12,μ 43 0,ν 44 .str 43,β 45 .lss 42 44,μ 46 45,Μ 47 0 46 true,Μ 48 12 46 true,τ 49 (.index (.t 47) (.t 48)) 46 true,τ 50 (.gv 1 256 (.c jq) (.t 49)) 46 true,Ρ 51 50 46 true,τ 52 (.bin .neq (.t 51) (.c (.int .u8 (.ofNat 0)))) 46 true,ξ 53 46 52] [0,9,10,12,53]) (Ξ 53 .skip (.exit 2))) (.block 3 (Γ [μ 54 12,γ 55 .add 54 1,μ 12 55] [0,9,10,12])))
def M9:RC:=.loop [0,9,10,12] Oh
def N9:RC:=(Ψ (Ψ (Γ [μ 80 12,μ 81 0,ν 82 .str 81,β 83 .lss 80 82,μ 84 83,Μ 85 0 84 true,Μ 86 12 84 true,τ 87 (.index (.t 85) (.t 86)) 84 true,τ 88 (.gv 1 256 (.c jq) (.t 87)) 84 true,Ρ 89 88 84 true,τ 90 (.bin .neq (.t 89) (.c (.int .u8 (.ofNat 0)))) 84 true,ξ 91 84 90] [0,9,10,12,91]) (Ξ 91 .skip (.exit 6))) (.block 7 (Γ [μ 92 12,γ 93 .add 92 1,μ 12 93] [0,9,10,12])))
def Od:RC:=.loop [0,9,10,12] N9
def Nh:RC:=(Ψ (Ψ (Γ [μ 57 12,μ 58 0,ν 59 .str 58,β 60 .lss 57 59] [0,9,10,11,12,60]) (Ξ 60 .skip (.exit 4))) (.block 5 (Ψ (Ψ (Γ [μ 61 0,μ 62 12,σ 63 (.index (.t 61) (.t 62)),σ 64 (.gv 1 256 (.c jq) (.t 63)),ρ 65 64,σ 66 (.bin .eql (.t 65) (.c (.int .u8 (.ofNat 0))))] [0,9,10,11,12,66]) (Ξ 66 (Ψ (Γ [μ 67 12,γ 68 .add 67 1,μ 12 68] [0,9,10,11,12]) (.exit 5)) .skip)) (Ψ (Γ [μ 69 9,μ 70 10,μ 71 0,μ 72 11,μ 73 12,σ 74 (.slice true 1 (.t 71) (some (.t 72)) (some (.t 73)) none),ι 75 1 69 70,ω 1 75 74] [0,9,10,12]) (Ψ (Γ [μ 76 10,γ 77 .add 76 1,μ 10 77] [0,9,10,12]) (Ψ (Γ [μ 78 12,γ 79 .add 78 1,μ 12 79] [0,9,10,12]) (Ψ (.block 6 Od) (Γ [μ 94 12,μ 11 94] [0,9,10,11,12]))))))))
def NT:RC:=.loop [0,9,10,11,12] Nh
def f148:ar:=⟨[.t 2],(Ψ (Γ [σ 2 (.mv (.c θ))] [0]) (Ψ (Γ [η 3 0] [0,3]) (Ψ (Γ [η 4 1] [0,3,4]) (Ψ (Γ [σ 5 (.mv (.c (.int .u8 (.ofNat 0))))] [0,3,4,5]) (Ψ (Ψ (Γ [η 6 0] [0,3,4,5,6]) (.block 0 NR)) (Ψ (Ψ (Γ [μ 36 5,σ 37 (.bin .geq (.t 36) (.c (.int .u8 (.ofNat 128))))] [0,3,37]) (Ξ 37 (Ψ (Γ [μ 38 0,σ 39 (.call 159 [.t 38,(.f 160)]),μ 2 39] [2]) .ret) .skip)) (Ψ (Γ [μ 40 3,σ 41 (.cl 1 false 16 [(.str [])] (.t 40) (.t 40)),μ 9 41] [0,9]) (Ψ (Γ [η 10 0] [0,9,10]) (Ψ (Γ [η 11 0] [0,9,10]) (Ψ (Γ [η 12 0] [0,9,10,12]) (Ψ (.block 2 M9) (Ψ (Γ [μ 56 12,μ 11 56] [0,9,10,11,12]) (Ψ (.block 4 NT) (Ψ (Ψ (Γ [μ 95 11,μ 96 0,ν 97 .str 96,β 98 .lss 95 97] [0,9,10,11,98]) (Ξ 98 (Γ [μ 99 9,μ 100 10,μ 101 0,μ 102 11,σ 103 (.slice true 1 (.t 101) (some (.t 102)) none none),ι 104 1 99 100,ω 1 104 103] [9]) .skip)) (Ψ (Γ [μ 105 9,μ 2 105] [2]) .ret))))))))))))))),true⟩
def kF:RC:=(Ψ (Γ [β 20 .lss 19 18] [4,17,18,19,20]) (Ψ (Ξ 20 .skip (.exit 0)) (Ψ (.block 1 (Ψ (Γ [μ 21 19,ι 22 1 17 19,ρ 23 22,μ 5 21,μ 6 23] [4,5,6,17,18,19]) (Ψ (Ψ (Γ [μ 24 6,σ 25 (.bin .geq (.t 24) (.c (.int .u8 (.ofNat 65)))),μ 26 25,Μ 27 6 26 true,τ 28 (.bin .leq (.t 27) (.c (.int .u8 (.ofNat 90)))) 26 true,ξ 29 26 28] [4,5,6,17,18,19,29]) (Ξ 29 (Γ [μ 30 4,μ 31 5,μ 32 6,σ 33 (.bin .add (.t 32) (.c (.int .u8 (.ofNat 97)))),σ 34 (.bin .sub (.t 33) (.c (.int .u8 (.ofNat 65)))),ι 35 1 30 31,ω 1 35 34] [4,5,17,18,19]) .skip)) (Ψ (Γ [μ 36 4,μ 37 5,ι 38 1 36 37,ρ 39 38,σ 40 (.call 161 [.t 39]),σ 41 (.un .not (.t 40))] [4,17,18,19,41]) (Ξ 41 (Ψ (Γ [σ 2 (.mv (.c (.str []))),σ 3 (.mv (.c (.bool false)))] [2,3]) .ret) .skip))))) (Γ [γ 42 .add 19 1,μ 19 42] [4,17,18,19]))))
def jH:RC:=.loop [4,17,18,19] kF
def f149:ar:=⟨[.t 2,.t 3],(Ψ (Γ [σ 2 (.mv (.c (.str []))),σ 3 (.mv (.c (.bool false)))] [0]) (Ψ (Ψ (Γ [μ 7 0,ν 8 .str 7,γ 9 .lss 8 1,μ 10 9,Μ 11 0 10 false,τ 12 (.len .str (.t 11)) 10 false,τ 13 (.bin .gtr (.t 12) (κ 64)) 10 false,ζ 14 10 13] [0,14]) (Ξ 14 (Ψ (Γ [σ 2 (.mv (.c (.str []))),σ 3 (.mv (.c (.bool false)))] [2,3]) .ret) .skip)) (Ψ (Γ [μ 15 0,σ 16 (.s2h (.t 15)),μ 4 16] [4]) (Ψ (Ψ (Γ [μ 17 4,ν 18 .slice 17,η 19 0] [4,17,18,19]) (.block 0 jH)) (Ψ (Γ [μ 43 4,σ 44 (.b2s (.t 43)),μ 2 44,σ 3 (.mv (.c (.bool true)))] [2,3]) .ret))))),true⟩
def f150:ar:=⟨[.t 2],(Ψ (Γ [σ 2 (.mv (.c θ))] [0]) (Ψ (Ψ (Γ [μ 3 0,σ 4 (.eq .slice false (.t 3) (.c θ))] [0,4]) (Ξ 4 (Ψ (Γ [σ 2 (.mv (.c θ))] [2]) .ret) .skip)) (Ψ (Γ [σ 5 (.lit 1 false [δ] 0 []),μ 6 0,σ 7 (.append 1 false 8 (.t 5) (.t 6)),μ 2 7] [2]) .ret))),true⟩
def sC:RC:=(Ψ (Γ [β 25 .lss 24 23] [0,1,2,6,7,11,12,22,23,24,25]) (Ψ (Ξ 25 .skip (.exit 2)) (Ψ (.block 3 (Ψ (Γ [ι 26 1 22 24,ρ 27 26,μ 9 27] [0,1,2,6,7,9,11,12,22,23,24]) (Ψ (Γ [μ 28 7,σ 29 (.bc (.t 28)),φ 30 0 29,ρ 31 30,μ 32 9,σ 33 (.lookup [.int] .bp (.t 31) (.t 32) false),μ 7 33] [0,1,2,6,7,11,12,22,23,24]) (Ψ (Ψ (Γ [μ 34 7,σ 35 (.eq .ptr false (.t 34) (.c .bp))] [0,1,2,6,7,11,12,22,23,24,35]) (Ξ 35 (.exit 2) .skip)) (Ψ (Γ [μ 36 7,σ 37 (.bc (.t 36)),φ 38 1 37,ρ 39 38,σ 40 (.eq .slice true (.t 39) (.c θ))] [0,1,2,6,7,11,12,22,23,24,40]) (Ξ 40 (Γ [μ 41 2,μ 42 6,μ 43 7,σ 44 (.bc (.t 43)),φ 45 1 44,ρ 46 45,σ 47 (.bO (.t 41) [.t 42,.t 46])] [0,1,2,6,7,11,12,22,23,24]) .skip)))))) (Γ [γ 48 .add 24 1,μ 24 48] [0,1,2,6,7,11,12,22,23,24]))))
def pd:RC:=.loop [0,1,2,6,7,11,12,22,23,24] sC
def AG:RC:=(Ψ (Γ [β 13 .lss 12 11] [0,1,2,11,12,13]) (Ψ (Ξ 13 .skip (.exit 0)) (Ψ (.block 1 (Ψ (Γ [μ 14 12,μ 6 14] [0,1,2,6,11,12]) (Ψ (Γ [μ 15 0,σ 16 (.bc (.t 15)),φ 17 0 16,ρ 18 17,μ 7 18] [0,1,2,6,7,11,12]) (Ψ (Γ [μ 19 1,μ 20 6,σ 21 (.slice true 1 (.t 19) (some (.t 20)) none none),σ 22 (.s2b (.t 21)),ν 23 .slice 22,η 24 0] [0,1,2,6,7,11,12,22,23,24]) (.block 2 pd))))) (Γ [γ 49 .add 12 1,μ 12 49] [0,1,2,11,12]))))
def v5:RC:=.loop [0,1,2,11,12] AG
def f151:ar:=⟨[],(Ψ (Γ [μ 10 1,ν 11 .str 10,η 12 0] [0,1,2,11,12]) (.block 0 v5)),false⟩
end Go.D.Tab
end
