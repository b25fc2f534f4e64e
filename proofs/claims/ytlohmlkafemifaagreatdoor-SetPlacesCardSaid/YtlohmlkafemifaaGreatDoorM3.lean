import Derived.IntWalk
import Derived.KernelRfl
import Derived.Test.YtlohmlkafemifaaGreatDoorM2
/-! Texts 3 of this claim, joined. -/
set_option linter.unnecessarySimpa false
set_option linter.unusedSimpArgs false
set_option linter.unusedVariables false
open _root_.Bool renaming and_eq_true → aac, eq_iff_iff → aaQ, false_eq_true → aao
open _root_.List renaming all_eq_true → aae, any_cons → abx, any_eq_true → abf, append_assoc → aau, append_nil → aaE, cons_append → aaS, drop_drop → abM, drop_eq_nil_of_le → aa8, flatMap_cons → abA, getD_eq_getElem?_getD → aaf, getElem?_append_left → aak, getElem?_append_right → aaz, getElem?_cons_succ → abd, getElem?_cons_zero → aav, getElem?_eq_getElem → aaa, getElem?_eq_none → aaU, getElem?_eq_some_iff → aad, getElem?_set_ne → aam, getElem?_set_self → aaq, getElem_mem → aaN, length_append → aag, length_cons → aaJ, length_eq_zero_iff → aa3, length_pos_iff → aaR, map_append → abr, map_congr_left → abN, map_cons → aaH, map_eq_nil_iff → abq, map_nil → abD, mem_append → aaA, mem_cons → aas, mem_cons_of_mem → aaC, mem_cons_self → aax, mem_flatMap → aaM, mem_of_getElem? → aat, mem_of_mem_drop → aaD, mem_of_mem_take → aa5, mem_range → abF, nil_append → aaF, not_mem_nil → abu, range → aan, replicate → aap, set_append_right → abb, take_of_length_le → aa7
open _root_.Nat renaming add_mul → aaV, le_refl → aai, le_trans → abl, mul_le_mul_right → aaK, succ_mul → abP, zero_add → aar
open _root_.Option renaming map_eq_some_iff → aah, some → aab
section
namespace Go.D
variable {T:Tab}
def pst (st:St) (H:List HO) (K:List Nat):St:=⟨st.heap++H,st.bt++K,st.cur,st.heap.length,st.bt.length⟩
theorem Eg (st:St):st.enter=pst st [] []:=by
 simp[St.enter,pst]
def fin (st:St) (rs:List fP):Option (Ex×Fr×St)→Option (DV×St)
 | some (.exit _,_,_)=>none
 | some (.ret,fr,st')=>match gm st' fr rs with | some v=>(b9 st st' v).map fun v'=>(v',st) | none=>none
 | some (.normal,fr,st')=>match gm st' fr rs with | some v=>(b9 st st' v).map fun v'=>(v',st) | none=>none
 | none=>none
def NB (rs:List fP):Option (Ex×Fr×St)→Option (DV×St)
 | some (.exit _,_,_)=>none
 | some (.ret,fr,st')=>(gm st' fr rs).map fun v=>(v,st')
 | some (.normal,fr,st')=>(gm st' fr rs).map fun v=>(v,st')
 | none=>none
theorem aK {g:Nat} {f:ar} (h:T g=some (.code f)) (hp:f.jZ=true) (args:List DV) (st:St) :
 (E T).F g args st=fin st f.results ((E T).C f.body (bS args 0) (pst st [] [])):=by
 rw[EF];simp only[eo,h,hp,if_true,Eg];rcases (E T).C f.body (bS args 0) (pst st [] []) with _ | ⟨e,fr,st'⟩
 · rfl
 · cases e<;>rfl
theorem iz {g:Nat} {f:ar} (h:T g=some (.code f)) (hp:f.jZ=false) (args:List DV) (st:St) :
 (E T).F g args st=NB f.results ((E T).C f.body (bS args 0) st):=by
 rw[EF];simp only[eo,h,hp];rcases (E T).C f.body (bS args 0) st with _ | ⟨e,fr,st'⟩
 · rfl
 · cases e<;>rfl
@[simp] theorem Uq (st:St) (rs:List fP) (fr:Fr) (st':St):fin st rs (some (.ret,fr,st'))=match gm st' fr rs with | some v=>(b9 st st' v).map fun v'=>(v',st) | none=>none:=rfl
@[simp] theorem N4 (st:St) (rs:List fP) (fr:Fr) (st':St):fin st rs (some (.normal,fr,st'))=match gm st' fr rs with | some v=>(b9 st st' v).map fun v'=>(v',st) | none=>none:=rfl
@[simp] theorem R5 (rs:List fP) (fr:Fr) (st':St):NB rs (some (.ret,fr,st'))=(gm st' fr rs).map fun v=>(v,st'):=rfl
@[simp] theorem Ld (rs:List fP) (fr:Fr) (st':St):NB rs (some (.normal,fr,st'))=(gm st' fr rs).map fun v=>(v,st'):=rfl
attribute [simp] gm fJ jJ
@[simp] theorem UW (st st':St) (k:IntKind) (n:Int):bq st st' (.int k n)=some (.int k n):=rfl
@[simp] theorem Um (st st':St) (b:Bool):bq st st' (.bool b)=some (.bool b):=rfl
@[simp] theorem Vb (st st':St) (s:List UInt8):bq st st' (.str s)=some (.str s):=rfl
@[simp] theorem Uc (st st':St):bq st st' .bp=some .bp:=rfl
@[simp] theorem O3 (st st':St):bq st st' .aS=some .aS:=rfl
@[simp] theorem Qe (st st':St):bq st st' .bJ=some .bJ:=rfl
@[simp] theorem UA (st st':St) (cs:List DV):bq st st' (.cm cs)=some (.cm cs):=rfl
@[simp] theorem cP (st st':St) (tag n:Nat) (tk:Tk) (nn:Bool) (xs:List DV):bq st st' (.list tag n tk nn xs)=some (.list tag n (match tk with | .own _ _=>.no | k=>k) nn xs):=rfl
@[simp] theorem QA (st st':St):cX st st' []=some []:=rfl
@[simp] theorem OX (st st':St) (v:DV) (r:List DV):cX st st' (v::r)=match bq st st' v,cX st st' r with | some a,some b=>some (a::b) | _,_=>none:=rfl
@[simp] theorem Pt (st st':St):dC st st' []=some []:=rfl
@[simp] theorem OW (st st':St) (v:DV) (r:List DV):dC st st' (v::r)=match cj st st' v,dC st st' r with | some a,some b=>some (a::b) | _,_=>none:=rfl
@[simp] theorem OL (st st':St) (vs:List DV):b9 st st' (.tuple vs)=(dC st st' vs).map .tuple:=rfl
@[simp] theorem Ur (st st':St) (vs:List DV):cj st st' (.agg vs)=(cX st st' vs).map .agg:=rfl
@[simp] theorem Uh (st st':St) (k:IntKind) (n:Int):cj st st' (.int k n)=some (.int k n):=rfl
@[simp] theorem QD (st st':St) (b:Bool):cj st st' (.bool b)=some (.bool b):=rfl
@[simp] theorem Ul (st st':St) (s:List UInt8):cj st st' (.str s)=some (.str s):=rfl
@[simp] theorem R2 (st st':St):cj st st' .bp=some .bp:=rfl
@[simp] theorem S3 (st st':St) (tag n:Nat) (tk:Tk) (nn:Bool) (xs:List DV):cj st st' (.list tag n tk nn xs)=bq st st' (.list tag n tk nn xs):=rfl
@[simp] theorem Ua (st st':St) (n:Nat) (ag:Bool) (b off len:Nat) (cap:Option Nat):cj st st' (.hsl n ag b off len cap)=bq st st' (.hsl n ag b off len cap):=rfl
@[simp] theorem Uk (st st':St) (k:IntKind) (n:Int):b9 st st' (.int k n)=some (.int k n):=rfl
@[simp] theorem Sl (st st':St) (b:Bool):b9 st st' (.bool b)=some (.bool b):=rfl
@[simp] theorem Uj (st st':St) (s:List UInt8):b9 st st' (.str s)=some (.str s):=rfl
@[simp] theorem Td (st st':St):b9 st st' .bp=some .bp:=rfl
@[simp] theorem Uw (st st':St) (vs:List DV):b9 st st' (.agg vs)=(cX st st' vs).map .agg:=rfl
@[simp] theorem SC (st st':St) (tag n:Nat) (tk:Tk) (nn:Bool) (xs:List DV):b9 st st' (.list tag n tk nn xs)=bq st st' (.list tag n tk nn xs):=rfl
@[simp] theorem Uo (st st':St) (n:Nat) (ag:Bool) (b off len:Nat) (cap:Option Nat):b9 st st' (.hsl n ag b off len cap)=bq st st' (.hsl n ag b off len cap):=rfl
@[simp] theorem S0 (st:St) (H:List HO) (K:List Nat) (o:HO):(pst st H K).push o=pst st (H++[o]) K:=by simp[pst,St.push]
@[simp] theorem Uf (st:St) (H:List HO) (K:List Nat):(pst st H K).heap.length=st.heap.length+H.length:=by simp[pst]
@[simp] theorem UB (st:St) (H:List HO) (K:List Nat):(pst st H K).cur=st.cur:=rfl
@[simp] theorem xV (st:St) (H:List HO) (K:List Nat):(pst st H K).base=st.heap.length:=rfl
@[simp] theorem O2 (st:St) (H:List HO) (K:List Nat):(pst st H K).bm=st.bt.length:=rfl
theorem jO {α:Type} (J H:List α) (k:Nat):(J++H)[J.length+k]? = H[k]?:=by
 rw[aaz (Nat.le_add_right _ _),Nat.add_sub_cancel_left]
@[simp high] theorem cL (st:St) (H:List HO) (K:List Nat) (k:Nat):(pst st H K).heap[st.heap.length+k]? = H[k]?:=jO _ _ _
@[simp high] theorem JN (st:St) (H:List HO) (K:List Nat) (k:Nat):(pst st H K).bt[st.bt.length+k]? = K[k]?:=jO _ _ _
def rowAt (H:List HO) (k:Nat):Option (CK×List DV):=match H[k]? with | some (.cells g vs)=>some (g,vs) | _=>none
@[simp] theorem Mw (g:CK) (vs:List DV) (H:List HO):rowAt (.cells g vs::H) 0=some (g,vs):=rfl
@[simp] theorem MG (o:HO) (H:List HO) (k:Nat):rowAt (o::H) (k+1)=rowAt H k:=rfl
@[simp] theorem pL (g:CK) (vs:List DV) (J H:List HO):rowAt (J++.cells g vs::H) J.length=some (g,vs):=by simp[rowAt]
@[simp] theorem LM (o:HO) (J H:List HO) (k:Nat):rowAt (J++o::H) (J.length+(k+1))=rowAt H k:=by
  unfold rowAt;rw[jO];rfl
@[simp] theorem iH (st:St) (H:List HO) (K:List Nat) (k:Nat):(pst st H K).cells (st.heap.length+k)=rowAt H k:=by
  unfold St.cells rowAt;rw[cL];rfl
@[simp] theorem NI (st:St) (H:List HO) (K:List Nat):(pst st H K).cells st.heap.length=rowAt H 0:=by simpa using iH st H K 0
@[simp] theorem pn (st:St) (H:List HO) (K:List Nat) (k n off:Nat) (v:DV):ly (pst st H K) n (.ptr (st.heap.length+k) off) v =
 match rowAt H k with
 | some (g,vs)=>if g.wr=true∧v.leaves.length=n∧off+n≤vs.length∧v.leaves.all DV.bH=true then some (pst st (H.set k (.cells g (bj vs off v.leaves))) K) else none
 | none=>none:=by
 unfold ly St.nv;simp only[iH,xV]
 cases h:rowAt H k with
 | none=>rfl
 | some p=>
   obtain⟨g,vs⟩:=p
   have hk:k<H.length:=by
    unfold rowAt at h;split at h
    · rename_i e;exact(aad.1 e).1
    · cases h
   cases hw:g.wr
   · simp[hw]
   · simp only[hw,if_true,true_and,Nat.le_add_right];split
     · rename_i hc;simp[pst,abb]
     · rfl
@[simp] theorem Mc (st:St) (H:List HO) (K:List Nat) (n off:Nat) (v:DV):ly (pst st H K) n (.ptr st.heap.length off) v =
 match rowAt H 0 with
 | some (g,vs)=>if g.wr=true∧v.leaves.length=n∧off+n≤vs.length∧v.leaves.all DV.bH=true then some (pst st (H.set 0 (.cells g (bj vs off v.leaves))) K) else none
 | none=>none:=pn st H K 0 n off v
attribute [simp] bj CK.wr dw
@[simp] theorem QZ (k:IntKind) (n:Int):(DV.int k n).bH=true:=rfl
@[simp] theorem OO (b:Bool):(DV.bool b).bH=true:=rfl
@[simp] theorem QN (s:List UInt8):(DV.str s).bH=true:=rfl
@[simp] theorem TU (b o:Nat):(DV.ptr b o).bH=true:=rfl
@[simp] theorem O5:DV.bp.bH=true:=rfl
@[simp] theorem O7 (cs:List DV):(DV.cm cs).bH=true:=rfl
@[simp] theorem OP (t n:Nat) (tk:Tk) (nn:Bool) (xs:List DV):(DV.list t n tk nn xs).bH=true:=rfl
@[simp] theorem QH (n:Nat) (ag:Bool) (b off len:Nat) (cap:Option Nat):(DV.hsl n ag b off len cap).bH=true:=rfl
@[simp] theorem SR (b:Nat):(DV.map b).bH=true:=rfl
@[simp] theorem Lx:DV.aS.bH=true:=rfl
@[simp] theorem Uz (g:Nat) (a c:List DV):(DV.fn g a c).bH=true:=rfl
@[simp] theorem Mk:DV.bJ.bH=true:=rfl
@[simp] theorem NH (l:Nat):(DV.yield l).bH=true:=rfl
@[simp] theorem NF (b o:Nat):(DV.ptr b o).leaves=[.ptr b o]:=rfl
@[simp] theorem Ls:DV.bp.leaves=[.bp]:=rfl
@[simp] theorem Oc (n:Nat) (ag:Bool) (b off len:Nat) (cap:Option Nat):(DV.hsl n ag b off len cap).leaves=[.hsl n ag b off len cap]:=rfl
@[simp] theorem MP (b:Nat):(DV.map b).leaves=[.map b]:=rfl
@[simp] theorem IZ:DV.aS.leaves=[.aS]:=rfl
@[simp] theorem OS (g:Nat) (a c:List DV):(DV.fn g a c).leaves=[.fn g a c]:=rfl
@[simp] theorem JA:DV.bJ.leaves=[.bJ]:=rfl
theorem HP (fr:Fr) (l:List Nat) (t:Nat):(fr.b5 l).get t=if t∈l then fr.get t else .undef:=by
 induction l with
 | nil=>rfl
 | cons a l ih=>
   rw[D4];simp only[GI,aas,ih];by_cases h:a=t
   · subst h;simp
   · have:t≠a:=fun e=>h e.symm;simp[h,this]
theorem DR (fr:Fr) (l:List Nat):(fr.b5 l).b5 l=fr.b5 l:=by
 unfold Fr.b5;apply abN;intro t ht;have:=HP fr l t;rw[if_pos ht] at this;exact Prod.ext rfl this
theorem pZ (live:List Nat) (a:RC) (fr:Fr) (st:St):(E T).C (.loop live a) fr st=(E T).C (.loop live a) (fr.b5 live) st:=by
 rw[AZ,AZ live a (fr.b5 live),DR]
theorem ae {L:RC} {live:List Nat} {a:RC} (h:L=.loop live a) (fr:Fr) (st:St) :
 (E T).C L fr st=match (E T).C a (fr.b5 live) st with
  | some (.normal,fr',st')=>(E T).C L fr' st'
  | some (.exit i,fr',st')=>some (.exit i,fr',st')
  | some (.ret,fr',st')=>some (.ret,fr',st')
  | none=>none:=by
 subst h;exact AZ live a fr st
theorem Km {o:au} {fr:Fr} {st st':St} {v:DV} (hq:aR (aw T) o.op=false) (h:(E T).N o fr st=some (v,st')):st'=st:=by
 have hF:∀ (g:Nat) (as_:List DV),aw T g=true→(E T).F g as_ st=some (v,st')→st'=st:=by
  intro g as_ hg h;rw[EF] at h;simp only[eo] at h;unfold aw at hg;split at h
  · cases h
  · rename_i e;rw[e] at hg;cases hg
  · simp only[aah,Prod.mk.injEq] at h;obtain⟨_,_,_,h⟩:=h;exact h.symm
  · rename_i f e;rw[e] at hg;simp only at hg;simp only[hg,if_true] at h;split at h
    · cases h
    · split at h
      · simp only[aah,Prod.mk.injEq] at h;obtain⟨_,_,_,h⟩:=h;exact h.symm
      · cases h
    · cases h
 rw[EN] at h;simp only[eQ] at h;split at h
 · cases h
 · cases h;rfl
 · split at h
   · rename_i g args e;rw[e] at hq;exact hF g _ (by simpa[aR] using hq) h
   · rename_i e;rw[e] at hq;cases hq
   · rename_i f args e;split at h
     · split at h
       · rename_i hg;exact hF _ _ hg h
       · cases h
     · cases h
   · exact qy hq h
@[simp] theorem Xm (fr:Fr) (st:St) (sts:List St):(E T).S [] fr st sts=some (fr,sts):=ES _ _ _ _ _
theorem bM (o:au) (r:List au) (fr:Fr) (st:St) (sts:List St) :
 (E T).S (o::r) fr st sts=match (E T).N o fr st with
  | some (v,st')=>if aR (aw T) o.op then (E T).S r (fr.put o.dst v) st' (st'::sts) else (E T).S r (fr.put o.dst v) st sts
  | none=>none:=ES _ _ _ _ _
theorem S_O:∀ (ops:List au) (fr:Fr) (st:St) (sts:List St),((E T).S ops fr st (st::sts)).bind (fun p=>p.2.head?.map fun st'=>(p.1,st'))=(E T).O ops fr st
 | [],fr,st,sts=>by simp
 | o::r,fr,st,sts=>by
   rw[bM,Nl]
   cases e:(E T).N o fr st with
   | none=>rfl
   | some p=>
     obtain⟨v,st'⟩:=p;simp only
     cases hl:aR (aw T) o.op with
     | true=>simp only[if_true];exact S_O r _ st' (st::sts)
     | false=>
       obtain rfl:=Km hl e;simp only[aao,if_false];exact S_O r _ st' sts
@[simp] theorem Np (ops:List au) (live:List Nat) (fr:Fr) (st:St):(E T).C (.aG ops [] [] live) fr st=(E T).C (.region ops live) fr st:=by
  rw[IB,← S_O ops fr st [],EC];simp only[du,gP]
  cases e:(E T).S ops fr st [st] with
  | none=>rfl
  | some p=>
    obtain⟨fr',sts⟩:=p;have hA:(E T).A fr' ops sts.reverse []=true:=EA _ _ _ _ _;simp only[hA,if_true,Option.bind_some];cases sts<;>rfl
theorem aM (ops:List au) (c:Nat×List Nat) (chk:List (Nat×List Nat)) (live:List Nat) (fr:Fr) (st:St):(E T).C (.aG ops [] (c::chk) live) fr st =
 match (E T).S ops fr st [st] with
 | some (fr',sts)=>if (E T).A fr' ops sts.reverse (c::chk)=true then (match sts with | st'::_=>some (.normal,fr'.b5 live,st') | []=>none) else none
 | none=>none:=by
 rw[EC];simp only[du,gP]
 all_goals cases (E T).S ops fr st [st] with
 | none=>rfl
 | some p=>obtain⟨fr',sts⟩:=p;rfl
@[simp] theorem Xk (fr:Fr) (ops:List au) (sts:List St):(E T).A fr ops sts []=true:=EA _ _ _ _ _
theorem bR (fr:Fr) (ops:List au) (sts:List St) (i:Nat) (vs:List Nat) (r:List (Nat×List Nat)) :
 (E T).A fr ops sts ((i,vs)::r)=((match ops[i]? with | some o=>(E T).K fr o sts vs | none=>false)&&(E T).A fr ops sts r):=EA _ _ _ _ _
@[simp] theorem Xs (fr:Fr) (o:au) (sts:List St):(E T).K fr o sts []=true:=EK _ _ _ _ _
theorem bQ (fr:Fr) (o:au) (sts:List St) (j:Nat) (r:List Nat) :
 (E T).K fr o sts (j::r)=((match sts[j]? with
  | some st=>(match (E T).N o fr st,o.dst with | some (v,_),some d=>DV.beq v (fr.get d) | _,_=>false)
  | none=>false)&&(E T).K fr o sts r):=EK _ _ _ _ _
@[simp] theorem OR (v:DV):DV.beq v v=true:=DV.sM v
def St.tJ (st:St) (l:Nat) (o:HO):St:={ st with heap:=st.heap.set l o }
@[simp] theorem oi (st:St) (H:List HO) (K:List Nat) (k:Nat) (o:HO):(pst st H K).tJ (st.heap.length+k) o=pst st (H.set k o) K:=by
  simp[St.tJ,pst,abb]
theorem D3 {g:Nat} {f:ar} (h:T g=some (.code f)):fc T g=true:=by unfold fc;rw[h]
theorem Dy {f:X} {params live:List Nat} {assign body:RC} {fr:Fr} {st:St} {g:Nat} {first captured:List DV} {F:ar} (hf:f.ev (fr.b5 live)=.fn g first captured) (hg:T g=some (.code F)) :
 (E T).C (.gQ f params assign body live) fr st =
  match (E T).F g (first++[.yield st.heap.length]++captured) (st.push (.loop ⟨fr.b5 live,params,assign,body,0,none⟩)) with
  | some (_,st')=>
    match st'.heap[st.heap.length]? with
    | some (.loop lo)=>if lo.state=1 then none else
     match lo.pending with
     | none=>some (.normal,fr.b5 live,st'.tJ st.heap.length (.loop { lo with state:=3 }))
     | some e=>some (e,fr.b5 live,st'.tJ st.heap.length (.loop { lo with state:=3 }))
    | _=>none
  | none=>none:=by
 rw[EC];simp only[du,hf,D3 hg,if_true];rfl
theorem eE (g:Nat) (first captured args:List DV) (st:St):(E T).V (.fn g first captured) args st=(E T).F g (first++args++captured) st:=EV _ _ _ _
theorem BO {st:St} {H:List HO} {K:List Nat} {k:Nat} {lo:oh} {args:List DV} (h:H[k]? = some (.loop lo)) (hl:args.length=lo.params.length) :
 (E T).V (.yield (st.heap.length+k)) args (pst st H K) =
  match (E T).C lo.assign (dB lo.fr lo.params args) (pst st H K) with
  | some (.normal,fr1,st1)=>
    match st1.heap[st.heap.length+k]? with
    | some (.loop lo1)=>
      if lo1.state=0 then
       match (E T).C lo.body fr1 (st1.tJ (st.heap.length+k) (.loop { lo1 with state:=1 })) with
       | some (.normal,_,st2)=>
         match st2.heap[st.heap.length+k]? with
         | some (.loop lo2)=>some (.bool true,st2.tJ (st.heap.length+k) (.loop { lo2 with state:=0,pending:=none }))
         | _=>none
       | some (.exit i,_,st2)=>
         match st2.heap[st.heap.length+k]? with
         | some (.loop lo2)=>some (.bool false,st2.tJ (st.heap.length+k) (.loop { lo2 with state:=2,pending:=some (.exit i) }))
         | _=>none
       | some (.ret,_,st2)=>
         match st2.heap[st.heap.length+k]? with
         | some (.loop lo2)=>some (.bool false,st2.tJ (st.heap.length+k) (.loop { lo2 with state:=2,pending:=some .ret }))
         | _=>none
       | none=>none
      else none
    | _=>none
  | _=>none:=by
 rw[EV];simp only[kg,cL,h,xV,Nat.le_add_right,hl,and_self,if_true];rcases (E T).C lo.assign (dB lo.fr lo.params args) (pst st H K) with _ | ⟨e,fr1,st1⟩
 · rfl
 · cases e<;>try rfl
   simp only
   cases e1:st1.heap[st.heap.length+k]? with
   | none=>rfl
   | some o=>
     cases o<;>try rfl
     simp only;split
     · rename_i lo1 h0;show (match (E T).C lo.body fr1 (st1.tJ (st.heap.length+k) (.loop { lo1 with state:=1 })) with | some (e,_,st2)=>_ | none=>none)=_;rcases (E T).C lo.body fr1 (st1.tJ (st.heap.length+k) (.loop { lo1 with state:=1 })) with _ | ⟨e,fr2,st2⟩
       · rfl
       · cases e<;>rfl
     · rfl
@[simp] theorem SO (f:X) (args:List X) (fr:Fr) (st:St):opE T (.bO f args) fr st=(E T).V (f.ev fr) (args.map (X.ev fr)) st:=rfl
attribute [simp] dB
def lI (tk:Tk) (len lo hi:Nat):Tk:=if hi=len then (if lo=0 then tk else if tk=.tight then .tight else .no) else .no
theorem gA {k:IntKind} {i:Int} {m:Nat} (h0:0≤i) (h1:i≤m):bnd (.int k i) m=some i.toNat:=by
 simp[bnd,h0,h1]
theorem rq {n en t:Nat} {tk:Tk} {nn:Bool} {xs:List DV} {k k':IntKind} {lo hi:Int} (hn:nn=true→en=n) (h0:0≤lo) (h1:lo≤hi) (h2:hi≤xs.length) :
 cb false n (.list t en tk nn xs) (some (.int k lo)) (some (.int k' hi)) none=some (.list t en (lI tk xs.length lo.toNat hi.toNat) nn ((xs.drop lo.toNat).take (hi.toNat-lo.toNat))):=by
 have e1:¬ (nn=true∧en≠n):=fun h=>h.2 (hn h.1);simp[cb,e1,gA (k:=k') (show 0≤hi by omega) h2,gA (k:=k) (m:=hi.toNat) h0 (by omega),lI]
theorem lX {n en t:Nat} {tk:Tk} {nn:Bool} {xs:List DV} {k:IntKind} {lo:Int} (hn:nn=true→en=n) (h0:0≤lo) (h2:lo≤xs.length) :
 cb false n (.list t en tk nn xs) (some (.int k lo)) none none=some (.list t en (lI tk xs.length lo.toNat xs.length) nn (xs.drop lo.toNat)):=by
 have e1:¬ (nn=true∧en≠n):=fun h=>h.2 (hn h.1);have e:(xs.drop lo.toNat).take (xs.length-lo.toNat)=xs.drop lo.toNat:=aa7 (by simp);simp[cb,e1,gA (k:=k) (m:=xs.length) h0 (by omega),lI,e]
theorem Jb {n en t:Nat} {tk:Tk} {nn:Bool} {xs:List DV} {k:IntKind} {hi:Int} (hn:nn=true→en=n) (h0:0≤hi) (h2:hi≤xs.length) :
 cb false n (.list t en tk nn xs) none (some (.int k hi)) none=some (.list t en (lI tk xs.length 0 hi.toNat) nn (xs.take hi.toNat)):=by
 have e1:¬ (nn=true∧en≠n):=fun h=>h.2 (hn h.1);simp[cb,e1,gA (k:=k) (m:=xs.length) h0 (by omega),lI]
theorem s5 {n:Nat} {s:List UInt8} {k k':IntKind} {lo hi:Int} (h0:0≤lo) (h1:lo≤hi) (h2:hi≤s.length) :
 cb true n (.str s) (some (.int k lo)) (some (.int k' hi)) none=some (.str ((s.drop lo.toNat).take (hi.toNat-lo.toNat))):=by
 simp[cb,gA (k:=k') (show 0≤hi by omega) h2,gA (k:=k) (m:=hi.toNat) h0 (by omega)]
theorem JG {n:Nat} {s:List UInt8} {k:IntKind} {lo:Int} (h0:0≤lo) (h2:lo≤s.length) :
 cb true n (.str s) (some (.int k lo)) none none=some (.str (s.drop lo.toNat)):=by
 have e:(s.drop lo.toNat).take (s.length-lo.toNat)=s.drop lo.toNat:=aa7 (by simp);simp[cb,gA (k:=k) (m:=s.length) h0 (by omega),e]
theorem HW {n:Nat} {s:List UInt8} {k:IntKind} {hi:Int} (h0:0≤hi) (h2:hi≤s.length) :
 cb true n (.str s) none (some (.int k hi)) none=some (.str (s.take hi.toNat)):=by
 simp[cb,gA (k:=k) (m:=s.length) h0 (by omega)]
@[simp] theorem Nm (k:IntKind) (n:Int):(DV.int k n).bg=.int k n:=rfl
@[simp] theorem K8 (b:Bool):(DV.bool b).bg=.bool b:=rfl
@[simp] theorem Ox (s:List UInt8):(DV.str s).bg=.str s:=rfl
@[simp] theorem Lv:DV.bp.bg=.bp:=rfl
@[simp] theorem OI (t n:Nat) (nn:Bool) (xs:List DV):(DV.list t n .no nn xs).bg=.list t n .no nn xs:=rfl
@[simp] theorem JQ (t n:Nat) (nn:Bool) (xs:List DV):(DV.list t n .tight nn xs).bg=.list t n .tight nn xs:=rfl
@[simp] theorem Nx (t n a b:Nat) (nn:Bool) (xs:List DV):(DV.list t n (.own a b) nn xs).bg=.list t n .no nn xs:=rfl
@[simp] theorem T6 (k:IntKind) (n:Int):(DV.int k n).pure=true:=rfl
@[simp] theorem O4 (b:Bool):(DV.bool b).pure=true:=rfl
@[simp] theorem Pg (s:List UInt8):(DV.str s).pure=true:=rfl
@[simp] theorem OM:DV.bp.pure=true:=rfl
@[simp] theorem Up (t n:Nat) (nn:Bool) (xs:List DV):(DV.list t n .no nn xs).pure=true:=rfl
@[simp] theorem Na (t n:Nat) (nn:Bool) (xs:List DV):(DV.list t n .tight nn xs).pure=true:=rfl
def dX (n:Nat) (ag:Bool) (y:DV):Prop:=y.leaves.length=n∧y.leaves.all DV.pure=true∧(if ag then y=.agg y.leaves else y.leaves=[y])
theorem yu {v:DV} (h:v.pure=true):v.bg=v:=by
 cases v<;>first | rfl | (rename_i t n tk nn xs;cases tk<;>first | rfl | (simp[DV.pure] at h))
theorem iq:∀ {vs:List DV},vs.all DV.pure=true→vs.map DV.bg=vs
 | [],_=>rfl
 | v::r,h=>by
   rw[List.all_cons,aac] at h;rw[aaH,yu h.1,iq h.2]
theorem pe {n:Nat} {ag:Bool} {ys:List DV} (h:∀ y∈ys,dX n ag y):(flat ys).all DV.pure=true:=by
 rw[aae];intro v hv;obtain⟨y,hy,hv⟩:=aaM.1 hv;exact aae.1 (h y hy).2.1 v hv
theorem kD {n:Nat} {ag:Bool}:∀ {ys:List DV},(∀ y∈ys,dX n ag y)→chunk n ag ys.length (flat ys)=ys
 | [],_=>rfl
 | y::r,h=>by
   obtain⟨h1,h2,h3⟩:=h y (aax ..);have e:flat (y::r)=y.leaves++flat r:=by simp[flat]
   have ih:=kD (ys:=r) fun z hz=>h z (aaC _ hz);rw[aaJ,chunk,e];have e1:(y.leaves++flat r).take n=y.leaves:=by rw[← h1];simp
   have e2:(y.leaves++flat r).drop n=flat r:=by rw[← h1];simp
   rw[e1,e2,ih]
   cases ag with
   | true=>simp only[if_true] at h3 ⊢;rw[← h3]
   | false=>simp only[aao,if_false] at h3 ⊢;rw[h3];rfl
theorem uY {st:St} {n t:Nat} {tk:Tk} {ys:List DV}:bU st n (.list t n tk true ys)=some (ys.length,flat ys):=by simp[bU]
theorem rG {st:St} {n n' t by_:Nat} {ag:Bool} {tk:Tk} {nn:Bool} {xs:List DV} {y:DV} (hy:bU st n y=some (0,[])):aZ st n ag by_ (.list t n' tk nn xs) y=some (.list t n' tk nn xs,st):=by
 simp[aZ,hy]
theorem l8 {st:St} {H:List HO} {K:List Nat} {n n' t t' by_:Nat} {ag:Bool} {tk tk':Tk} {nn:Bool} {xs ys:List DV} (hx:nn=false∨(nn=true∧tk=.tight∧n'=n)) (hn:0<n) (hy:ys≠[]) (he:∀ y∈ys,dX n ag y)
 (hr:(xs.length+ys.length)*by_≤aB) (hr2:xs.length+ys.length≤aB) :
 aZ (pst st H K) n ag by_ (.list t n' tk nn xs) (.list t' n tk' true ys)=some (.list st.cur n (.own (st.bt.length+K.length) 0) true (xs++ys),pst st H (K++[0])):=by
 have hl:ys.length≠0:=fun h=>hy (aa3.1 h);have hp:(flat ys).all DV.pure=true:=pe he;have hc:=kD he;have h0:¬ n=0:=by omega
 have h1:¬ (nn=true∧n'≠n):=by rcases hx with h | ⟨_,_,h⟩<;>simp[h]
 have h2:¬ ((xs.length+ys.length)*by_>aB):=by omega
 have h3:¬ (xs.length+ys.length>aB):=by omega
 simp only[aZ,uY,iq hp,hc,hl,h0,h1,h2,h3,hp,if_false,Bool.not_true,aao,or_false];rcases hx with rfl | ⟨rfl,rfl,_⟩<;>simp[pst]
theorem Ci {st:St} {H:List HO} {K:List Nat} {n t t' by_ k s:Nat} {ag:Bool} {tk':Tk} {xs ys:List DV} (hk:K[k]? = some s) (hn:0<n) (hy:ys≠[]) (he:∀ y∈ys,dX n ag y)
 (hr:(xs.length+ys.length)*by_≤aB) (hr2:xs.length+ys.length≤aB) :
 aZ (pst st H K) n ag by_ (.list t n (.own (st.bt.length+k) s) true xs) (.list t' n tk' true ys)=some (.list st.cur n (.own (st.bt.length+k) (s+1)) true (xs++ys),pst st H (K.set k (s+1))):=by
 have hl:ys.length≠0:=fun h=>hy (aa3.1 h);have hp:(flat ys).all DV.pure=true:=pe he;have hc:=kD he;have h0:¬ n=0:=by omega
 have h2:¬ ((xs.length+ys.length)*by_>aB):=by omega
 have h3:¬ (xs.length+ys.length>aB):=by omega
 simp only[aZ,uY,iq hp,hc,hl,h0,h2,h3,hp,if_false,Bool.not_true,aao,or_false,ne_eq,not_true_eq_false,and_false];simp[hk];simp[pst,abb]
def Acc (st:St) (K:List Nat) (n:Nat) (xs:List DV) (v:DV):Prop:=
 (xs=[]∧∃ t n' tk,v=.list t n' tk false [])∨∃ k s,v=.list st.cur n (.own (st.bt.length+k) s) true xs∧K[k]? = some s
theorem dU (st:St) (K:List Nat) (n t n':Nat) (tk:Tk):Acc st K n [] (.list t n' tk false []):=.inl ⟨rfl,t,n',tk,rfl⟩
theorem cR {st:St} {H:List HO} {K:List Nat} {n t by_:Nat} {ag:Bool} {tk:Tk} {xs ys:List DV} {v:DV} (h:Acc st K n xs v) (hn:0<n) (hy:ys≠[]) (he:∀ y∈ys,dX n ag y)
 (hr:(xs.length+ys.length)*by_≤aB) (hr2:xs.length+ys.length≤aB) :
 ∃ v' K',aZ (pst st H K) n ag by_ v (.list t n tk true ys)=some (v',pst st H K')∧Acc st K' n (xs++ys) v':=by
 rcases h with ⟨rfl,t,n',tk,rfl⟩ | ⟨k,s,rfl,hk⟩
 · exact⟨_,_,l8 (.inl rfl) hn hy he hr hr2,.inr ⟨K.length,0,rfl,by simp⟩⟩
 · refine⟨_,_,Ci hk hn hy he hr hr2,.inr ⟨k,s+1,rfl,?_⟩⟩;have:=(aad.1 hk).1;simp[this]
theorem mZ {st:St} {K:List Nat} {n:Nat} {xs:List DV} {v:DV} {st':St} (h:Acc st K n xs v):∃ t n' tk nn,bq st st' v=some (.list t n' tk nn xs)∧(nn=false→xs=[])∧(nn=true→n'=n)∧(tk=.no∨nn=false):=by
 rcases h with ⟨rfl,t,n',tk,rfl⟩ | ⟨k,s,rfl,hk⟩
 · exact⟨t,n',_,false,rfl,fun _=>rfl,(fun h=>by cases h),.inr rfl⟩
 · exact⟨_,n,_,true,rfl,(fun h=>by cases h),fun _=>rfl,.inl rfl⟩
theorem bK {st:St} {K:List Nat} {n:Nat} {xs:List DV} {v:DV} (h:Acc st K n xs v):∃ t n' tk nn,v=.list t n' tk nn xs:=by
 rcases h with ⟨rfl,t,n',tk,rfl⟩ | ⟨k,s,rfl,hk⟩
 · exact⟨_,_,_,_,rfl⟩
 · exact⟨_,_,_,_,rfl⟩
theorem ay {n:Int} (h:-9223372036854775808≤n∧n≤9223372036854775807):IntKind.i64.wrap n=n:=IntWalk.i64_in n h
end Go.D
end
section
namespace Go.D.Tab
def iT (F:Nat→DV):List DV→Option DV
 | [.int .u8 (.ofNat c)]=>if c<256 then some (F c) else none
 | _=>none
theorem iF {g:Nat} {F:Nat→DV} (hr:((aan 256).all fun c=>j8 tree.get 1000 g [.int .u8 (.ofNat c)] st0 (F c))=true) (hf:∀ c,(F c).free=true):∀ as_ v,iT F as_=some v→Ran tree.get g as_ v:=by
 intro as_ v h;unfold iT at h;split at h
 · rename_i c;split at h
   · rename_i hc;injection h with h;subst h;exact A2 rfl (hf c) (aae.1 hr c (abF.2 hc))
   · cases h
 · cases h
def emL:List Nat:=[0,0,0,0,0,0,0,0,0,0,0,0,0,0,0,0,0,0,0,0,0,0,0,0,0,0,0,0,0,0,0,0,3,2,3,6,6,6,6,2,3,3,6,6,2,3,2,6,5,5,5,5,5,5,5,5,5,5,2,2,6,6,6,6,6,6,6,6,6,6,6,6,6,3,6,6,6,8,6,6,6,6,6,6,6,6,6,8,6,6,6,3,6,3,3,3,3,5,5,5,5,5,3,5,5,2,2,5,2,7,5,5,5,5,3,5,3,5,5,7,5,5,5,3,2,3,3,0,0,0,0,0,0,0,0,0,0,0,0,0,0,0,0,0,0,0,0,0,0,0,0,0,0,0,0,0,0,0,0,0,0,0,0,0,0,0,0,0,0,0,0,0,0,0,0,0,0,0,0,0,0,0,0,0,0,0,0,0,0,0,0,0,0,0,0,0,0,0,0,0,0,0,0,0,0,0,0,0,0,0,0,0,0,0,0,0,0,0,0,0,0,0,0,0,0,0,0,0,0,0,0,0,0,0,0,0,0,0,0,0,0,0,0,0,0,0,0,0,0,0,0,0,0,0,0,0]
def em (c:Nat):Int:=Int.ofNat (emL.getD c 0)
def emV (c:Nat):DV:=.int .i64 (em c)
def kdL:List Nat:=[0,6,7,8,0,0,0,0,0,4,0,0,0,0,0,0,0,0,0,0,0,0,0,0,0,0,0,0,0,0,0,5,3,2,2,2,2,2,2,2,2,2,2,2,2,2,2,2,2,2,2,2,2,2,2,2,2,2,2,2,2,2,2,2,2,1,1,1,1,1,1,1,1,1,1,1,1,1,1,1,1,1,1,1,1,1,1,1,1,1,1,2,2,2,2,2,2,1,1,1,1,1,1,1,1,1,1,1,1,1,1,1,1,1,1,1,1,1,1,1,1,1,1,2,2,2,2,0,0,0,0,0,0,0,0,0,0,0,0,0,0,0,0,0,0,0,0,0,0,0,0,0,0,0,0,0,0,0,0,0,0,0,0,0,0,0,0,0,0,0,0,0,0,0,0,0,0,0,0,0,0,0,0,0,0,0,0,0,0,0,0,0,0,0,0,0,0,0,0,0,0,0,0,0,0,0,0,0,0,0,0,0,0,0,0,0,0,0,0,0,0,0,0,0,0,0,0,0,0,0,0,0,0,0,0,0,0,0,0,0,0,0,0,0,0,0,0,0,0,0,0,0,0,0,0,0]
def kd (c:Nat):Int:=Int.ofNat (kdL.getD c 0)
def kdV (c:Nat):DV:=.int .i64 (kd c)
def sR (c:Nat):Bool:=c==94||c==96||c==126
def E1 (c:Nat):DV:=.bool (sR c)
theorem ED:((List.range 256).all fun c=>j8 tree.get 1000 21 [.int .u8 (.ofNat c)] st0 (emV c))=true:=by kernel_rfl
theorem DC:((List.range 256).all fun c=>j8 tree.get 1000 22 [.int .u8 (.ofNat c)] st0 (emV c))=true:=by kernel_rfl
theorem En:((List.range 256).all fun c=>j8 tree.get 1000 68 [.int .u8 (.ofNat c)] st0 (kdV c))=true:=by kernel_rfl
theorem DI:((List.range 256).all fun c=>j8 tree.get 1000 58 [.int .u8 (.ofNat c)] st0 (kdV c))=true:=by kernel_rfl
theorem AW:((List.range 256).all fun c=>j8 tree.get 1000 70 [.int .u8 (.ofNat c)] st0 (E1 c))=true:=by kernel_rfl
theorem zX:((List.range 256).all fun c=>j8 tree.get 1000 59 [.int .u8 (.ofNat c)] st0 (E1 c))=true:=by kernel_rfl
def iY:List (Nat×(List DV→Option DV)):=[(21,iT emV),(22,iT emV),(68,iT kdV),(58,iT kdV),(70,iT E1),(59,iT E1)]
theorem tq:∀ x∈iY,∀ as_ v,x.2 as_=some v→Ran tree.get x.1 as_ v:=by
 intro x hx;simp only[iY,aas,abu,or_false] at hx;rcases hx with rfl | rfl | rfl | rfl | rfl | rfl
 · exact iF ED fun _=>rfl
 · exact iF DC fun _=>rfl
 · exact iF En fun _=>rfl
 · exact iF DI fun _=>rfl
 · exact iF AW fun _=>rfl
 · exact iF zX fun _=>rfl
theorem qG:∀ x∈iY,aw tree.get x.1=true:=by
 intro x hx;simp only[iY,aas,abu,or_false] at hx;rcases hx with rfl | rfl | rfl | rfl | rfl | rfl<;>kernel_rfl
def FV:List DV→Option DV
 | []=>some (.bool true)
 | _=>none
theorem DB {g:Nat} (h:∃ n,j8 tree.get n g [] st0 (.bool true)=true):∀ as_ v,FV as_=some v→Ran tree.get g as_ v:=by
 intro as_ v e;obtain⟨n,h⟩:=h
 cases as_ with
 | nil=>cases e;exact A2 rfl rfl h
 | cons a r=>cases e
def vB:List UInt8:=[49,116,97,32,49,116,101,32,49,116,105,32,49,116,111,32,49,110,97,32,49,110,101,32,49,110,105,32,49,108,97,32,49,108,101,32,49,108,105,32,49,114,97,32,49,114,101,32,49,109,97,32,49,109,101,32,49,112,97,32,49,112,101,32,49,99,97,32,49,99,111,32,49,100,101,32,49,115,97,32,49,103,101,32,49,98,108,32,116,50,116,101,32,108,50,108,101,32,110,50,110,101,32,114,50,114,101,32,50,98,108,101,46,32,52,108,101,46,32,46,114,101,51,97,32,49,112,104,101]
def dQ:List (List UInt8):=[[49,116,97],[49,116,101],[49,116,105],[49,116,111],[49,110,97],[49,110,101],[49,110,105],[49,108,97],[49,108,101],[49,108,105],[49,114,97],[49,114,101],[49,109,97],[49,109,101],[49,112,97],[49,112,101],[49,99,97],[49,99,111],[49,100,101],[49,115,97],[49,103,101],[49,98,108],[116,50,116,101],[108,50,108,101],[110,50,110,101],[114,50,114,101],[50,98,108,101,46],[52,108,101,46],[46,114,101,51,97],[49,112,104,101]]
def eW:List (List UInt8):=[[116,97,45,98,108,101],[112,114,111,45,106,101,99,116],[104,121,45,112,104,101,110,45,97,45,116,105,111,110]]
def oj:List DV→Option DV
 | [.str s]=>if s=vB then some (.list 0 1 .tight true (dQ.map DV.str)) else none
 | _=>none
theorem yF:j8 tree.get 100000 148 [.str vB] st0 (.list 0 1 .tight true (dQ.map DV.str))=true:=by kernel_rfl
theorem xQ:∀ as_ v,oj as_=some v→Ran tree.get 148 as_ v:=by
 intro as_ v e;unfold oj at e;split at e
 · split at e
   · rename_i h;subst h;cases e;exact A2 rfl rfl yF
   · cases e
 · cases e
theorem A9:j8 tree.get 10000000 207 [] st0 (.bool true)=true:=by kernel_rfl
def known:List (Nat×(List DV→Option DV)):=[(207,FV),(148,oj)]++iY
def tab:Tab:=over tree.get known
theorem Ew:∀ x∈known,∀ as_ v,x.2 as_=some v→Ran tree.get x.1 as_ v:=by
 intro x hx;rcases aaA.1 hx with hx | hx
 · simp only[aas,abu,or_false] at hx;rcases hx with rfl | rfl
   · exact DB ⟨_,A9⟩
   · exact xQ
 · exact tq x hx
theorem Ar:∀ x∈known,aw tree.get x.1=true:=by
 intro x hx;rcases aaA.1 hx with hx | hx
 · simp only[aas,abu,or_false] at hx;rcases hx with rfl | rfl<;>kernel_rfl
 · exact qG x hx
theorem SK:tab 148=some (.eu oj):=by kernel_rfl
theorem AY (st:St):(E tab).F 148 [.str vB] st=some (.list 0 1 .tight true (dQ.map DV.str),st):=su SK (by simp[oj])
theorem QB:tab 207=some (.eu FV):=by kernel_rfl
theorem Eo (st:St):(E tab).F 207 [] st=some (.bool true,st):=su QB rfl
theorem bz {H:List HO} {k:Nat} {x:CK×List DV} (h:rowAt H k=some x):k<H.length:=by
 unfold rowAt at h;split at h
 · rename_i e;exact(aad.1 e).1
 · cases h
theorem eX {H X:List HO} {k:Nat} (h:k<H.length):rowAt (H++X) k=rowAt H k:=by
 unfold rowAt;rw[aak h]
theorem dO {H:List HO} {k:Nat} (h:k<H.length) (g:CK) (vs:List DV):rowAt (H.set k (.cells g vs)) k=some (g,vs):=by
 unfold rowAt;rw[aaq h]
theorem fq {H:List HO} {k:Nat} {g:CK} {vs:List DV} (h:rowAt H k=some (g,vs)) (X:List HO):rowAt (H++X) k=some (g,vs):=by
 rw[eX (bz h),h]
theorem gI {H X:List HO} (j:Nat):rowAt (H++X) (H.length+j)=rowAt X j:=by
 unfold rowAt;rw[jO]
theorem py {H X:List HO} (j:Nat) (x:HO):(H++X).set (H.length+j) x=H++X.set j x:=by simp[abb]
@[simp] theorem AS (H X:List HO) (k:Nat) (o:HO) (j:Nat):rowAt (H.set k o++X) (H.length+j)=rowAt X j:=by
  have h:=gI (H:=H.set k o) (X:=X) j
  rwa [List.length_set] at h
@[simp] theorem K0 (H X:List HO) (k:Nat) (o:HO):rowAt (H.set k o++X) H.length=rowAt X 0:=AS H X k o 0
theorem eZ {vs:List DV} {i:Nat} {x:DV} (h:i<vs.length):bj vs i [x]=vs.set i x:=by
 rw[List.set_eq_take_append_cons_drop,if_pos h];simp[bj]
theorem E2 (st:St) (k:Nat):st.qp (st.heap.length+k)=false:=by
 unfold St.qp;rw[aaU (Nat.le_add_right _ _)]
theorem zt {st:St} {H:List HO} {K:List Nat} {k:Nat} {g:CK} {vs:List DV} (h:rowAt H k=some (g,vs)):(pst st H K).heap[st.heap.length+k]? = some (.cells g vs):=by
 rw[cL];unfold rowAt at h;split at h
 · rename_i e;simp only[aab.injEq,Prod.mk.injEq] at h;rw[e,h.1,h.2]
 · cases h
theorem yr {n:Nat} {ag:Bool}:∀ {ys:List DV},(∀ y∈ys,dX n ag y)→(flat ys).length=ys.length*n
 | [],_=>by simp[flat]
 | y::r,h=>by
   have h1:=(h y (aax ..)).1;have h2:=yr (ys:=r) fun z hz=>h z (aaC _ hz);simp only[flat,abA,aag,h1,aaJ] at h2 ⊢;rw[h2,abP];omega
theorem rf {st:St} {H:List HO} {K:List Nat} {k n:Nat} {ag:Bool} {g:CK} {ys:List DV} {cap:Option Nat} (hr:rowAt H k=some (g,flat ys)) (hn:0<n) (hag:ag=true∨n=1) (he:∀ y∈ys,dX n ag y) :
 bq st (pst st H K) (.hsl n ag (st.heap.length+k) 0 ys.length cap)=some (.list st.cur n (if cap=some ys.length then .tight else .no) true ys):=by
 have hl:=yr he;have hp:=pe he;have hd:=iq hp;simp only[bq,E2,aao,if_false,zt hr];have ht:(flat ys).take (ys.length*n)=flat ys:=aa7 (by omega);simp only[List.drop_zero,ht,hd,hp,kD he];rw[if_pos ⟨Nat.le_add_right _ _,by omega,hn,hag,trivial⟩];rfl
theorem lr (z:DV):∀ n,aO [z] n=aap n z
 | 0=>rfl
 | n+1=>by rw[aO,lr z n];rfl
theorem gu:∀ (ys:List DV),(∀ y∈ys,dX 1 false y)→flat ys=ys
 | [],_=>rfl
 | y::r,h=>by
   have h1:=(h y (aax ..)).2.2;have h2:=gu r fun z hz=>h z (aaC _ hz);simp only[aao,if_false] at h1;simp only[flat,abA,h1] at h2 ⊢;rw[h2];rfl
variable {T:Tab}
def im (fr:Fr) (params:List Nat) (assign body:RC) (s:Nat) (q:Option Ex):oh:=⟨fr,params,assign,body,s,q⟩
def yT:Ex→Option Ex
 | .normal=>none
 | e=>some e
theorem ln {st:St} {H H1 H2:List HO} {K K1 K2:List Nat} {k:Nat} {fr:Fr} {params:List Nat} {assign body:RC} {args:List DV} {fr1:Fr} {e:Ex}
 (h:H[k]? = some (.loop (im fr params assign body 0 none))) (hl:args.length=params.length)
 (hA:(E T).C assign (dB fr params args) (pst st H K)=some (.normal,fr1,pst st H1 K1)) (h1:H1[k]? = some (.loop (im fr params assign body 0 none)))
 (hB:∃ fr2,(E T).C body fr1 (pst st (H1.set k (.loop (im fr params assign body 1 none))) K1)=some (e,fr2,pst st H2 K2)) (h2:H2[k]? = some (.loop (im fr params assign body 1 none))) :
 (E T).V (.yield (st.heap.length+k)) args (pst st H K)=some (.bool (yT e).isNone,pst st (H2.set k (.loop (im fr params assign body (if (yT e).isNone then 0 else 2) (yT e)))) K2):=by
 obtain⟨fr2,hB⟩:=hB;rw[BO h hl];have e1:(im fr params assign body 0 none).assign=assign:=rfl;have e2:(im fr params assign body 0 none).params=params:=rfl;have e3:(im fr params assign body 0 none).fr=fr:=rfl;have e4:(im fr params assign body 0 none).state=0:=rfl;have hB1:(E T).C (im fr params assign body 0 none).body fr1 (pst st (H1.set k (.loop (im fr params assign body 1 none))) K1)=some (e,fr2,pst st H2 K2):=hB;rw[e1,e2,e3,hA];simp only[cL,h1,e4,if_true,oi]
 erw [hB1]
 cases e<;>simp only[cL,h2,oi]<;>rfl
theorem lL {st:St} {H H':List HO} {K K':List Nat} {f:X} {params live:List Nat} {assign body:RC} {fr:Fr} {g:Nat} {first captured:List DV} {F:ar} {v:DV} {s:Nat} {q:Option Ex} (hf:f.ev (fr.b5 live)=.fn g first captured) (hg:T g=some (.code F))
 (hF:(E T).F g (first++[.yield (st.heap.length+H.length)]++captured) (pst st (H++[.loop (im (fr.b5 live) params assign body 0 none)]) K)=some (v,pst st H' K'))
 (h2:H'[H.length]? = some (.loop (im (fr.b5 live) params assign body s q))) (hs:s≠1) :
 (E T).C (.gQ f params assign body live) fr (pst st H K)=some (q.getD .normal,fr.b5 live,pst st (H'.set H.length (.loop (im (fr.b5 live) params assign body 3 q))) K'):=by
 rw[Dy hf hg];have e1:(pst st H K).heap.length=st.heap.length+H.length:=by simp
 have e2:(pst st H K).push (.loop (im (fr.b5 live) params assign body 0 none))=pst st (H++[.loop (im (fr.b5 live) params assign body 0 none)]) K:=by simp
 rw[e1]
 erw [e2]
 rw[hF];have e3:(im (fr.b5 live) params assign body s q).state=s:=rfl
 cases q with
 | none=>simp only[cL,h2,e3,hs,if_false,oi];rfl
 | some e=>simp only[cL,h2,e3,hs,if_false,oi];rfl
theorem q9 {ops ops2:List au} {hs:List Nat} {chk:List (Nat×List Nat)} {live:List Nat} {fr:Fr} {st st1:St} (h:gP fr hs st ops=some (st1,ops2)):(E T).C (.aG ops hs chk live) fr st =
 match (E T).S ops2 fr st1 [st1] with
 | some (fr',sts)=>if (E T).A fr' ops2 sts.reverse chk=true then (match sts with | st'::_=>some (.normal,fr'.b5 live,st') | []=>none) else none
 | none=>none:=by
 rw[EC];simp only[du,h]
 cases (E T).S ops2 fr st1 [st1] with
 | none=>rfl
 | some p=>obtain⟨fr',sts⟩:=p;rfl
inductive Vw (st:St) (n:Nat) (ag:Bool) (xs:List DV):DV→Prop
 | list (t n':Nat) (tk:Tk) (nn:Bool) (h1:nn=true→n'=n) (h2:nn=false→xs=[]):Vw st n ag xs (.list t n' tk nn xs)
 | hsl (b off c:Nat) (g:CK) (vs:List DV) (hc:st.cells b=some (g,vs)) (hl:off+xs.length*n≤vs.length) (hx:(vs.drop off).take (xs.length*n)=flat xs) (hcap:xs.length≤c) :
  Vw st n ag xs (.hsl n ag b off xs.length (some c))
theorem Vw.sI {st st':St} {n:Nat} {ag:Bool} {xs:List DV} {v:DV} (h:Vw st n ag xs v) (hs:∀ b g vs,st.cells b=some (g,vs)→st'.cells b=some (g,vs)):Vw st' n ag xs v:=by
 cases h with
 | list t n' tk nn h1 h2=>exact .list t n' tk nn h1 h2
 | hsl b off c g vs hc hl hx hcap=>exact .hsl b off c g vs (hs _ _ _ hc) hl hx hcap
theorem Em {st:St} {H:List HO} {K:List Nat} {b:Nat} {g:CK} {vs:List DV} (h:st.cells b=some (g,vs)):(pst st H K).cells b=some (g,vs):=by
 have h1:=oZ h;have hb:=(aad.1 h1).1;unfold St.cells;show (match (st.heap++H)[b]? with | some (.cells g vs)=>some (g,vs) | _=>none)=_;rw[aak hb,h1]
theorem Vw.inn {st:St} {n:Nat} {ag:Bool} {xs:List DV} {v:DV} (h:Vw st n ag xs v) (H:List HO) (K:List Nat):Vw (pst st H K) n ag xs v:=h.sI fun _ _ _=>Em
theorem Vw.out {st:St} {n:Nat} {ag:Bool} {xs:List DV} {v:DV} (h:Vw (pst st [] []) n ag xs v):Vw st n ag xs v:=h.sI fun b g vs hc=>by
 have:(pst st [] []).cells b=st.cells b:=by unfold St.cells;simp only[pst,aaE]
 rw[← this];exact hc
theorem Vw.app {st:St} {H:List HO} {K:List Nat} {n:Nat} {ag:Bool} {xs:List DV} {v:DV} (h:Vw (pst st H K) n ag xs v) (X:List HO) (K':List Nat):Vw (pst st (H++X) K') n ag xs v:=by
 refine h.sI fun b g vs hc=>?_;have h1:=oZ hc;have hb:=(aad.1 h1).1;unfold St.cells;change (st.heap++H)[b]? = _ at h1;show (match (st.heap++(H++X))[b]? with | some (.cells g vs)=>some (g,vs) | _=>none)=_;rw[← aau,aak (show b<(st.heap++H).length from hb),h1]
def elP (n:Nat):DV→Nat→DV
 | .list _ _ _ _ xs,i=>.cm ((xs.getD i .undef).leaves)
 | .hsl _ _ b off _ _,i=>.ptr b (off+i*n)
 | _,_=>.undef
def faP (off:Nat):DV→DV
 | .ptr b o=>.ptr b (o+off)
 | .cm cs=>.cm (cs.drop off)
 | _=>.undef
section
variable {st:St} {H:List HO} {K:List Nat} {n:Nat} {ag:Bool} {xs:List DV} {v:DV}
theorem Vw.len (h:Vw st n ag xs v) (st':St):rr st' .slice v=some (.int .i64 xs.length,st'):=by
 cases h<;>rfl
theorem Vw.bC (h:Vw st n ag xs v) {i:Nat} (hi:i<xs.length) (k:IntKind) (st':St):pj st' n v (.int k i)=some (elP n v i,st'):=by
 cases h with
 | list t n' tk nn h1 h2=>
   cases nn with
   | false=>rw[h2 rfl] at hi;cases hi
   | true=>simp[h1 rfl,hi,elP,aaf]
 | hsl b off c g vs hc hl hx hcap=>
   simp[hi,elP]
theorem Ir (he:∀ x∈xs,dX n ag x):∀ {i:Nat} {x:DV},xs[i]? = some x→((flat xs).drop (i*n)).take n=x.leaves:=by
 induction xs with
 | nil=>intro i x h;cases h
 | cons y r ih=>
   intro i x h;have hy:=(he y (aax ..)).1;have e:flat (y::r)=y.leaves++flat r:=by simp[flat]
   rw[e]
   cases i with
   | zero=>
     simp only[aav,aab.injEq] at h;subst h;simp[← hy]
   | succ i=>
     rw[abd] at h;rw[abP,Nat.add_comm,← abM,← hy];simp only[List.drop_left];rw[hy];exact ih (fun z hz=>he z (aaC _ hz)) h
theorem nK {off:Nat} {vs:List DV} (he:∀ x∈xs,dX n ag x) (hl:off+xs.length*n≤vs.length) (hx:(vs.drop off).take (xs.length*n)=flat xs) {i:Nat} {x:DV} (h:xs[i]? = some x) :
 (vs.drop (off+i*n)).take n=x.leaves∧off+i*n+n≤vs.length:=by
 have hi:=(aad.1 h).1;have h1:=Ir he h;have hle:(i+1)*n≤xs.length*n:=aaK _ hi;rw[abP] at hle;refine⟨?_,by omega⟩;rw[← h1,← hx,List.drop_take,abM,List.take_take]
 congr 1
 omega
theorem Vw.load (h:Vw st n ag xs v) (he:∀ x∈xs,dX n ag x) (ha:ag=true) {i:Nat} {x:DV} (hx:xs[i]? = some x):gL st n true (elP n v i)=some x:=by
 have hm:=he x (aat hx);have hxl:x=.agg x.leaves:=by have:=hm.2.2;rw[ha] at this;exact this
 cases h with
 | list t n' tk nn h1 h2=>
   simp only[elP,gL,takeN,aaf,hx,Option.getD_some,if_true,aar];rw[if_pos (by rw[hm.1];exact aai _),List.drop_zero,aa7 (by rw[hm.1];exact aai _),← hxl]
 | hsl b off c g vs hc hl hxx hcap=>
   obtain⟨h1,h2⟩:=nK he hl hxx hx;simp only[elP,gL,takeN,hc,if_true,h1];rw[if_pos h2,← hxl]
theorem Vw.nU (h:Vw st 1 false xs v) (he:∀ x∈xs,dX 1 false x) {i:Nat} {x:DV} (hx:xs[i]? = some x):gL st 1 false (elP 1 v i)=some x:=by
 have hm:=he x (aat hx);have hxl:x.leaves=[x]:=by have:=hm.2.2;simpa using this
 cases h with
 | list t n' tk nn h1 h2=>simp[elP,aaf,hx,hxl]
 | hsl b off c g vs hc hl hxx hcap=>
   obtain⟨h1,h2⟩:=nK he hl hxx hx;simp only[elP,gL,takeN,hc];have:=congrArg (fun l=>l[0]?) h1;simp[hxl] at this;simpa using this
theorem Vw.fU (h:Vw st n ag xs v) (he:∀ x∈xs,dX n ag x) {i:Nat} (hi:i<xs.length) {off:Nat} (ho:off≤n) (st':St):sX st' off (elP n v i)=some (faP off (elP n v i),st'):=by
 have hx:xs[i]? = some xs[i]:=aaa hi;have hm:=he _ (aaN hi)
 cases h with
 | list t n' tk nn h1 h2=>
   simp only[elP,sX,faP,aaf,hx,Option.getD_some];rw[if_pos (by rw[hm.1];exact ho)]
 | hsl b off c g vs hc hl hxx hcap=>simp[elP,faP]
theorem Vw.news (h:Vw st n ag xs v):bU st n v=some (xs.length,flat xs):=by
 cases h with
 | list t n' tk nn h1 h2=>
   cases nn with
   | false=>simp[bU,h2 rfl,flat]
   | true=>simp[bU,h1 rfl]
 | hsl b off c g vs hc hl hx hcap=>simp[bU,hc,hl,hx]
theorem Vw.slice (h:Vw st n ag xs v) (hn:0<n) (he:∀ x∈xs,dX n ag x) {lo hi:Nat} (h1:lo≤hi) (h2:hi≤xs.length) (k k':IntKind) :
 ∃ v',cb false n v (some (.int k lo)) (some (.int k' hi)) none=some v'∧Vw st n ag ((xs.drop lo).take (hi-lo)) v':=by
 cases h with
 | list t n' tk nn g1 g2=>
   refine⟨_,rq g1 (by omega) (by omega) (by omega),?_⟩;simp only[Int.toNat_natCast];exact .list _ _ _ _ g1 fun e=>by rw[g2 e];simp
 | hsl b off c g vs hc hl hx hcap=>
   have hb1:bnd (.int k' (hi:Int)) c=some hi:=by rw[gA (by omega) (by omega)];simp
   have hb2:bnd (.int k (lo:Int)) hi=some lo:=by rw[gA (by omega) (by omega)];simp
   refine⟨_,by simp only[cb,if_true,Option.isSome_none,aao,if_false,hb1,hb2];rfl,?_⟩;have hlen:((xs.drop lo).take (hi-lo)).length=hi-lo:=by simp;omega
   by_cases hcl:c=lo
   · have e0:hi-lo=0:=by omega
     rw[if_pos hcl];have h3:=Vw.hsl (st:=st) (n:=n) (ag:=ag) (xs:=(xs.drop lo).take (hi-lo)) b off (c-lo) g vs hc (by rw[hlen,e0];omega) (by rw[hlen,e0];simp[flat]) (by rw[hlen];omega);rw[hlen] at h3;exact h3
   · rw[if_neg hcl];have hmul:lo*n+(hi-lo)*n≤xs.length*n:=by rw[← aaV];exact aaK _ (by omega)
     have fl:∀ (ys:List DV),(∀ y∈ys,dX n ag y)→∀ k,(flat ys).take (k*n)=flat (ys.take k)∧(flat ys).drop (k*n)=flat (ys.drop k):=by
      intro ys
      induction ys with
      | nil=>intro _ k;simp[flat]
      | cons y r ih=>
        intro hy k;have e:flat (y::r)=y.leaves++flat r:=by simp[flat]
        have hly:=(hy y (aax ..)).1
        cases k with
        | zero=>simp[flat]
        | succ k=>
          have:=ih (fun z hz=>hy z (aaC _ hz)) k;rw[e,abP,Nat.add_comm (k*n)];constructor
          · rw[List.take_append,aa7 (by omega),hly,show n+k*n-n=k*n by omega,this.1];simp[flat]
          · rw[← abM,← hly,List.drop_left,hly,this.2,List.drop_succ_cons]
     have h3:=Vw.hsl (st:=st) (n:=n) (ag:=ag) (xs:=(xs.drop lo).take (hi-lo)) b (off+lo*n) (c-lo) g vs hc (by rw[hlen];omega) (by
      rw[hlen,← (fl _ (fun y hy=>he y (aaD hy)) _).1,← (fl xs he _).2,← hx,List.drop_take,abM,List.take_take]
      congr 1
      rw[Nat.min_eq_left (by omega)]) (by rw[hlen];omega)
     rw[hlen] at h3;exact h3
end
inductive Lw (n:Nat) (xs:List DV):DV→Prop
 | list (t n':Nat) (tk:Tk) (nn:Bool) (h1:nn=true→n'=n) (h2:nn=false→xs=[]):Lw n xs (.list t n' tk nn xs)
theorem Lw.vw {st:St} {n:Nat} {ag:Bool} {xs:List DV} {w:DV} (h:Lw n xs w):Vw st n ag xs w:=by
 cases h with | list t n' tk nn h1 h2=>exact .list t n' tk nn h1 h2
theorem Lw.ex {st st':St} {n:Nat} {xs:List DV} {w:DV} (h:Lw n xs w):∃ w',bq st st' w=some w'∧cj st st' w=some w'∧b9 st st' w=some w'∧Lw n xs w':=by
 cases h with | list t n' tk nn h1 h2=>exact⟨_,rfl,rfl,rfl,.list _ _ _ _ h1 h2⟩
theorem Xa:tab 51=some (.code f51):=by kernel_rfl
theorem Vx:tab 30=some (.code f30):=by kernel_rfl
theorem V7:tab 37=some (.code f37):=by kernel_rfl
theorem Vv:tab 31=some (.code f31):=by kernel_rfl
theorem Vl:tab 38=some (.code f38):=by kernel_rfl
theorem MF:tab 17=some (.code f17):=by kernel_rfl
theorem WK:tab 21=some (.eu (iT emV)):=by kernel_rfl
theorem V2:tab 22=some (.eu (iT emV)):=by kernel_rfl
theorem pG (n:Int) (st:St):(E tab).F 51 [.int .i64 n] st=some (.bool (decide (1≤n∧n≤64)),st):=by
 refine gW (e:=.ret) (fr:=[(2,.bool (decide (1≤n∧n≤64)))]) (st':=st.enter) (v:=.bool (decide (1≤n∧n≤64))) _ _ Xa rfl ?_ (.inl rfl) rfl rfl
 by_cases h1:1≤n<;>by_cases h2:n≤64 <;>
 simp[f51,h1,h2]
theorem We (c:UInt8) (st:St):(E tab).F 21 [.int .u8 (c.toNat:Int)] st=some (.int .i64 (em c.toNat),st):=
 su WK (by show (if c.toNat<256 then some (emV c.toNat) else _)=_;rw[if_pos (by exact c.toNat_lt)];rfl)
theorem Xj (c:UInt8) (st:St):(E tab).F 22 [.int .u8 (c.toNat:Int)] st=some (.int .i64 (em c.toNat),st):=
 su V2 (by show (if c.toNat<256 then some (emV c.toNat) else _)=_;rw[if_pos (by exact c.toNat_lt)];rfl)
def wd (c:UInt8) (size:Int):Int:=IntKind.i64.wrap ((IntKind.i64.wrap (em c.toNat*size)).tdiv 8)
theorem yp (c:UInt8) (n:Int) (st:St):(E tab).F 30 [.int .u8 (c.toNat:Int),.int .i64 n] st=some (.int .i64 (wd c n),st):=by
 refine gW (e:=.ret) (fr:=[(4,.int .i64 (wd c n))]) (st':=st.enter) (v:=.int .i64 (wd c n)) _ _ Vx rfl ?_ (.inl rfl) rfl rfl;simp[f30,We,wd]
theorem gE (c:UInt8) (n:Int) (st:St):(E tab).F 37 [.int .u8 (c.toNat:Int),.int .i64 n] st=some (.int .i64 (wd c n),st):=by
 refine gW (e:=.ret) (fr:=[(4,.int .i64 (wd c n))]) (st':=st.enter) (v:=.int .i64 (wd c n)) _ _ V7 rfl ?_ (.inl rfl) rfl rfl;simp[f37,Xj,wd]
def tw (n:Int):Int→List UInt8→Int
 | a,[]=>a
 | a,c::r=>tw n (IntKind.i64.wrap (a+wd c n)) r
theorem Kd (n:Int) (bs:List UInt8) (hb:bs.length≤4096) (st:St) (cur:Nat):∀ (r d:List UInt8) (a:Int),bs=d++r →
 (E tab).C Cm [(1,.int .i64 n),(5,.int .i64 a),(9,.list cur 1 .no true (bs.map fun b=>.int .u8 b.toNat)),(10,.int .i64 bs.length),(11,.int .i64 d.length)] st =
  some (.exit 0,[(1,.int .i64 n),(5,.int .i64 (tw n a r)),(9,.list cur 1 .no true (bs.map fun b=>.int .u8 b.toNat)),(10,.int .i64 bs.length),(11,.int .i64 bs.length),(12,.bool false)],st):=by
 intro r
 induction r with
 | nil=>
   intro d a hd;rw[ae (L:=Cm) rfl];simp[HR,hd,tw]
 | cons c r ih=>
   intro d a hd;have hl:d.length<bs.length:=by rw[hd];simp
   have hg:bs[d.length]=c:=by simp[hd]
   have hw:IntKind.i64.wrap ((d.length:Int)+1)=((d++[c]).length:Nat):=by rw[IntWalk.i64_in _ (by omega)];simp
   rw[tw,← ih (d++[c]) (IntKind.i64.wrap (a+wd c n)) (by simp[hd])];rw[ae (L:=Cm) rfl];simp[HR,hl,hg,yp,hw]
theorem yY (bs:List UInt8) (hb:bs.length≤4096) (n:Int) (st:St):(E tab).F 31 [.str bs,.int .i64 n] st=some (.int .i64 (tw n 0 bs),st):=by
 refine gW (e:=.ret) (fr:=[(4,.int .i64 (tw n 0 bs))]) (st':=st.enter) (v:=.int .i64 (tw n 0 bs)) _ _ Vv rfl ?_ (.inl rfl) rfl rfl;have h:=Kd n bs hb st.enter st.enter.cur bs [] 0 rfl;simp at h;simp[f31,h]
theorem WL:tab 57=some (.code f57):=by kernel_rfl
theorem UJ:tab 60=some (.code f60):=by kernel_rfl
theorem VF:tab 39=some (.code f39):=by kernel_rfl
theorem VU:tab 32=some (.code f32):=by kernel_rfl
theorem Kz (n:Int) (bs:List UInt8) (hb:bs.length≤4096) (st:St):∀ (r d:List UInt8) (a:Int),bs=d++r →
 (E tab).C BA [(0,.str bs),(1,.int .i64 n),(5,.int .i64 a),(6,.int .i64 d.length)] st =
  some (.exit 0,[(0,.str bs),(1,.int .i64 n),(5,.int .i64 (tw n a r)),(6,.int .i64 bs.length),(10,.bool false)],st):=by
 intro r
 induction r with
 | nil=>
   intro d a hd;rw[ae (L:=BA) rfl];simp[H8,hd,tw]
 | cons c r ih=>
   intro d a hd;have hl:d.length<bs.length:=by rw[hd];simp
   have hg:bs[d.length]=c:=by simp[hd]
   have hw:IntKind.i64.wrap ((d.length:Int)+1)=((d++[c]).length:Nat):=by rw[IntWalk.i64_in _ (by omega)];simp
   rw[tw,← ih (d++[c]) (IntKind.i64.wrap (a+wd c n)) (by simp[hd])];rw[ae (L:=BA) rfl];simp[H8,hl,hg,gE,hw]
theorem tI (bs:List UInt8) (hb:bs.length≤4096) (n:Int) (st:St):(E tab).F 38 [.str bs,.int .i64 n] st=some (.int .i64 (tw n 0 bs),st):=by
 refine gW (e:=.ret) (fr:=[(4,.int .i64 (tw n 0 bs))]) (st':=st.enter) (v:=.int .i64 (tw n 0 bs)) _ _ Vl rfl ?_ (.inl rfl) rfl rfl;have h:=Kz n bs hb st.enter bs [] 0 rfl;simp at h;simp[f38,h]
def gj (bs:List UInt8) (n:Int):DV:=
 if 1≤n∧n≤64 then (if 4096<bs.length then .tuple [.int .i64 0,.int .i64 3] else .tuple [.int .i64 (tw n 0 bs),.int .i64 0]) else .tuple [.int .i64 0,.int .i64 5]
theorem wv (bs:List UInt8) (n:Int) (st:St):(E tab).F 17 [.str bs,.int .i64 n] st=some (gj bs n,st):=by
 by_cases h1:1≤n∧n≤64
 · by_cases h2:4096<bs.length
   · refine gW (e:=.ret) (fr:=[(4,.int .i64 0),(5,.int .i64 3)]) (st':=st.enter) (v:=gj bs n) _ _ MF rfl ?_ (.inl rfl) (by simp[gj,h1,h2,f17,gm,fJ,jJ]) (by simp[gj,h1,h2]);have h3:(4096:Int)<bs.length:=by omega
     simp[f17,pG,h1,h3]
   · refine gW (e:=.ret) (fr:=[(4,.int .i64 (tw n 0 bs)),(5,.int .i64 0)]) (st':=st.enter) (v:=gj bs n) _ _ MF rfl ?_ (.inl rfl) (by simp[gj,h1,h2,f17,gm,fJ,jJ]) (by simp[gj,h1,h2]);have h3:¬ (4096:Int)<bs.length:=by omega
     simp[f17,pG,h1,h3,yY bs (by omega)]
 · refine gW (e:=.ret) (fr:=[(4,.int .i64 0),(5,.int .i64 5)]) (st':=st.enter) (v:=gj bs n) _ _ MF rfl ?_ (.inl rfl) (by simp[gj,h1,f17,gm,fJ,jJ]) (by simp[gj,h1]);simp[f17,pG,h1]
def pr (a b:UInt8):List UInt8→Bool
 | x::y::_::r=>(x==a&&y==b)||pr a b r
 | _=>false
theorem CS (x a:UInt8):((x.toNat:Int)==(a.toNat:Int))=(x==a):=by
 rw[aaQ];simp only[beq_iff_eq];constructor
 · intro h;exact UInt8.toNat_inj.1 (by omega)
 · rintro rfl;rfl
theorem KG (s:List UInt8) (hs:s.length≤1000) (a b:UInt8) (st:St):∀ (k:Nat) (r d:List UInt8),r.length=3*k→s=d++r →
 (E tab).C Df [(0,.str s),(1,.int .u8 a.toNat),(2,.int .u8 b.toNat),(7,.int .i64 d.length)] st =
  some (if pr a b r then (.ret,[(6,.bool true)],st) else (.exit 0,[(0,.str s),(1,.int .u8 a.toNat),(2,.int .u8 b.toNat),(7,.int .i64 s.length),(12,.bool false)],st)):=by
 intro k
 induction k with
 | zero=>
   intro r d hr hd;obtain rfl:r=[]:=aa3.1 (by omega);have hw:IntKind.i64.wrap ((d.length:Int)+1)=d.length+1:=by rw[IntWalk.i64_in _ (by simp at hd;subst hd;omega)]
   rw[ae (L:=Df) rfl];simp at hd;subst hd;have hn:¬ (s.length:Int)+1<s.length:=by omega
   simp[yC,pr,hw,hn]
 | succ k ih=>
   intro r d hr hd
   match r,hr with
   | x::y::z::r,hr=>
     have e0:d.length+3+r.length=s.length:=by simp[hd];omega
     have hw:IntKind.i64.wrap ((d.length:Int)+1)=d.length+1:=by rw[IntWalk.i64_in _ (by omega)]
     have hw3:IntKind.i64.wrap ((d.length:Int)+3)=((d++[x,y,z]).length:Nat):=by rw[IntWalk.i64_in _ (by omega)];simp
     have hl:d.length<s.length:=by omega
     have hl1:d.length+1<s.length:=by omega
     have hl2:(d.length:Int)+1<s.length:=by omega
     have hg:s[d.length]=x:=by simp[hd]
     have hg1:s[d.length+1]=y:=by simp[hd]
     have ht:((d.length:Int)+1).toNat=d.length+1:=by omega
     have h0:(0:Int)≤(d.length:Int)+1:=by omega
     rw[ae (L:=Df) rfl];by_cases hx:x=a
     · by_cases hy:y=b
       · simp[yC,hw,hl,hl1,hl2,hg,hg1,ht,h0,pr,hx,hy]
       · have:=ih r (d++[x,y,z]) (by simp at hr;omega) (by simp[hd]);simp[yC,hw,hl,hl1,hl2,hg,hg1,ht,h0,CS,pr,hx,hy,hw3] at this ⊢;exact this
     · have:=ih r (d++[x,y,z]) (by simp at hr;omega) (by simp[hd]);simp[yC,hw,hl,hl2,hg,CS,pr,hx,hw3] at this ⊢;exact this
theorem rC (s:List UInt8) (k:Nat) (hk:s.length=3*k) (hs:s.length≤1000) (a b:UInt8) (st:St):(E tab).F 57 [.str s,.int .u8 a.toNat,.int .u8 b.toNat] st=some (.bool (pr a b s),st):=by
 refine gW (e:=.ret) (fr:=[(6,.bool (pr a b s))]) (st':=st.enter) (v:=.bool (pr a b s)) _ _ WL rfl ?_ (.inl rfl) rfl rfl;have h:=KG s hs a b st.enter k s [] hk rfl;simp at h;by_cases hp:pr a b s=true
 · simp only[hp,if_true] at h;simp[f57,h,hp]
 · simp only[hp] at h;simp[f57,h,hp]
def P19:List (UInt8×UInt8):=[(65,84),(65,86),(65,87),(65,89),(84,65),(86,65),(87,65),(89,65),(76,84),(76,86),(76,89),(80,65),(84,111),(84,97),(84,101),(86,111),(86,97),(89,111),(89,97)]
def P10:List (UInt8×UInt8):=[(114,46),(114,44),(102,46),(102,44),(118,46),(121,46),(65,118),(65,121),(111,118),(118,111)]
def isP (l:List (UInt8×UInt8)) (a b:UInt8):Bool:=l.any fun p=>p.1==a&&p.2==b
def txt (l:List (UInt8×UInt8)):List UInt8:=l.flatMap fun p=>[p.1,p.2,32]
def two (l:List (UInt8×UInt8)):List (List UInt8):=l.map fun p=>[p.1,p.2]
theorem Gb (a b:UInt8):∀ l,pr a b (txt l)=isP l a b
 | []=>rfl
 | p::r=>by
   have:=Gb a b r;unfold txt isP at *;simp only[abA,aaS,aaF,pr,abx,this]
theorem IG (a b:UInt8):∀ l,(two l).any (fun s=>s==[a,b])=isP l a b
 | []=>rfl
 | p::r=>by
   have:=IG a b r;unfold two isP at *;simp only[aaH,abx,this]
   congr 1
   simp[List.cons_beq_cons]
theorem F4 (a b:UInt8) (h:isP P19 a b=true):isP P10 a b=false:=by
 unfold isP at *;rw[abf] at h;obtain⟨p,hp,h⟩:=h;rw[aac] at h;have h1:=eq_of_beq h.1;have h2:=eq_of_beq h.2;subst h1;subst h2
 revert p
 decide
theorem JE (l:List (List UInt8)) (hl:l.length≤1000) (s:List UInt8) (cur:Nat) (tk:Tk) (st:St):∀ (r d:List (List UInt8)),l=d++r →
 (E tab).C By [(0,.list cur 1 tk true (l.map .str)),(1,.str s),(5,.int .i64 d.length)] st =
  some (if r.any (· == s) then (.ret,[(4,.bool true)],st) else (.exit 0,[(0,.list cur 1 tk true (l.map .str)),(1,.str s),(5,.int .i64 l.length),(9,.bool false)],st)):=by
 intro r
 induction r with
 | nil=>
   intro d hd;simp at hd;subst hd;rw[ae (L:=By) rfl];simp[CW]
 | cons x r ih=>
   intro d hd;have h0:d.length<l.length:=by simp[hd]
   have hw:IntKind.i64.wrap ((d.length:Int)+1)=((d++[x]).length:Nat):=by rw[IntWalk.i64_in _ (by omega)];simp
   have hg:l[d.length]=x:=by simp[hd]
   rw[ae (L:=By) rfl];by_cases hx:x=s
   · simp[CW,h0,hg,hx]
   · have:=ih (d++[x]) (by simp[hd]);simp[CW,h0,hg,hx,hw] at this ⊢;exact this
theorem zn (l:List (List UInt8)) (hl:l.length≤1000) (s:List UInt8) (cur:Nat) (tk:Tk) (st:St):(E tab).F 60 [.list cur 1 tk true (l.map .str),.str s] st=some (.bool (l.any (· == s)),st):=by
 refine gW (e:=.ret) (fr:=[(4,.bool (l.any (· == s)))]) (st':=st.enter) (v:=.bool (l.any (· == s))) _ _ UJ rfl ?_ (.inl rfl) rfl rfl;have h:=JE l hl s cur tk st.enter l [] rfl;generalize (l.any (· == s))=v at h ⊢;simp at h;cases v<;>simp[f60,h]
def fA (a b:UInt8) (n:Int):Int:=if isP P10 a b then -(n/16) else if isP P19 a b then -(2*n/16) else 0
theorem zL (a b:UInt8) (n:Int) (hn:1≤n∧n≤64) (st:St):(E tab).F 32 [.int .u8 a.toNat,.int .u8 b.toNat,.int .i64 n] st=some (.int .i64 (fA a b n),st):=by
 refine gW (e:=.ret) (fr:=[(6,.int .i64 (fA a b n))]) (st':=st.enter) (v:=.int .i64 (fA a b n)) _ _ VU rfl ?_ (.inl rfl) rfl rfl;have h19:=rC (txt P19) 19 (by rfl) (by decide) a b st.enter;have h10:=rC (txt P10) 10 (by rfl) (by decide) a b st.enter;rw[Gb] at h19 h10;simp only[show txt P19=[65,84,32,65,86,32,65,87,32,65,89,32,84,65,32,86,65,32,87,65,32,89,65,32,76,84,32,76,86,32,76,89,32,80,65,32,84,111,32,84,97,32,84,101,32,86,111,32,86,97,32,89,111,32,89,97,32] from rfl] at h19;simp only[show txt P10=[114,46,32,114,44,32,102,46,32,102,44,32,118,46,32,121,46,32,65,118,32,65,121,32,111,118,32,118,111,32] from rfl] at h10;have w1:IntKind.i64.wrap n=n:=IntWalk.i64_in _ (by omega);have w2:IntKind.i64.wrap (2*n)=2*n:=IntWalk.i64_in _ (by omega);have w3:IntKind.i64.wrap ((2*n).tdiv 16)=2*n/16:=IntWalk.i64_quo _ _ (by omega);have w4:IntKind.i64.wrap (n.tdiv 16)=n/16:=IntWalk.i64_quo _ _ (by omega);have w5:IntKind.i64.wrap (-(n/16)) = -(n/16):=IntWalk.i64_in _ (by omega);have w6:IntKind.i64.wrap (-(2*n/16)) = -(2*n/16):=IntWalk.i64_in _ (by omega);have w7:IntKind.i64.wrap 0=0:=by decide
 cases e1:isP P19 a b<;>cases e2:isP P10 a b<;>rw[e1] at h19<;>rw[e2] at h10 <;>
 simp[f32,h19,h10,fA,e1,e2,w1,w2,w3,w4,w5,w6,w7]
theorem Vy (a b:UInt8) (r:Fr) (st:St) (T:Tab):opE T (.lit 1 false [.int .u8 0] 2 [(0,.t 8),(1,.t 9)]) ((9,.int .u8 b.toNat)::(8,.int .u8 a.toNat)::r) st=some (.list st.cur 1 .tight true [.int .u8 a.toNat,.int .u8 b.toNat],st):=by
 rfl
theorem Vj (a b:UInt8) (r:Fr) (st:St) (c:Nat) (T:Tab):opE T (.b2s (.t 10)) ((10,.list c 1 .tight true [.int .u8 a.toNat,.int .u8 b.toNat])::r) st=some (.str [a,b],st):=by
 simp[ny,bU,flat,fv]
theorem l19 (fr:Fr) (st:St) (T:Tab):opE T (.lit 1 false [(.str [])] 19 [(0,(.c (.str [65,84]))),(1,(.c (.str [65,86]))),(2,(.c (.str [65,87]))),(3,(.c (.str [65,89]))),(4,(.c (.str [84,65]))),(5,(.c (.str [86,65]))),(6,(.c (.str [87,65]))),(7,(.c (.str [89,65]))),(8,(.c (.str [76,84]))),(9,(.c (.str [76,86]))),(10,(.c (.str [76,89]))),(11,(.c (.str [80,65]))),(12,(.c (.str [84,111]))),(13,(.c (.str [84,97]))),(14,(.c (.str [84,101]))),(15,(.c (.str [86,111]))),(16,(.c (.str [86,97]))),(17,(.c (.str [89,111]))),(18,(.c (.str [89,97])))]) fr st=some (.list st.cur 1 .tight true ((two P19).map .str),st):=by kernel_rfl
theorem l10 (fr:Fr) (st:St) (T:Tab):opE T (.lit 1 false [(.str [])] 10 [(0,(.c (.str [114,46]))),(1,(.c (.str [114,44]))),(2,(.c (.str [102,46]))),(3,(.c (.str [102,44]))),(4,(.c (.str [118,46]))),(5,(.c (.str [121,46]))),(6,(.c (.str [65,118]))),(7,(.c (.str [65,121]))),(8,(.c (.str [111,118]))),(9,(.c (.str [118,111])))]) fr st=some (.list st.cur 1 .tight true ((two P10).map .str),st):=by kernel_rfl
theorem Gz (a b:UInt8) (n:Int) (hn:1≤n∧n≤64) (st:St):(E tab).F 39 [.int .u8 a.toNat,.int .u8 b.toNat,.int .i64 n] st=some (.int .i64 (fA a b n),st):=by
 refine gW (e:=.ret) (fr:=[(6,.int .i64 (fA a b n))]) (st':=st.enter) (v:=.int .i64 (fA a b n)) _ _ VF rfl ?_ (.inl rfl) rfl rfl;have h19:=zn (two P19) (by decide) [a,b] st.enter.cur .tight st.enter;have h10:=zn (two P10) (by decide) [a,b] st.enter.cur .tight st.enter;rw[IG] at h19 h10;have w2:IntKind.i64.wrap (2*n)=2*n:=IntWalk.i64_in _ (by omega);have w3:IntKind.i64.wrap ((2*n).tdiv 16)=2*n/16:=IntWalk.i64_quo _ _ (by omega);have w4:IntKind.i64.wrap (n.tdiv 16)=n/16:=IntWalk.i64_quo _ _ (by omega);have w5:IntKind.i64.wrap (-(n/16)) = -(n/16):=IntWalk.i64_in _ (by omega);have w6:IntKind.i64.wrap (-(2*n/16)) = -(2*n/16):=IntWalk.i64_in _ (by omega);have hd:=F4 a b;cases e1:isP P19 a b<;>cases e2:isP P10 a b<;>rw[e1] at h19 hd<;>rw[e2] at h10 hd<;>simp at hd
 all_goals
  simp[f39,kN,unD,Vy,Vj,l19,l10,h19,h10,fA,e1,e2,w2,w3,w4,w5,w6]
theorem W5:tab 23=some (.code f23):=by kernel_rfl
structure ab where
 a:Int
 b:Int
 k:Int
 s:Int
 w:Int
 e:Int
 deriving DecidableEq
def ab.cs (m:ab):List DV:=[.int .i64 m.a,.int .i64 m.b,.int .i64 m.k,.int .i64 m.s,.int .i64 m.w,.int .i64 m.e]
def ab.dv (m:ab):DV:=.agg m.cs
@[simp] theorem ab.leaves (m:ab):m.dv.leaves=m.cs:=rfl
def okM (m:ab):Bool:=decide (0≤m.w∧m.w≤4095 ∧ -64≤m.e∧m.e≤0)
def jd (o:Bool) (n:Int):List ab→Int
 | []=>n
 | m::r=>jd false (if o then n+m.w else n+m.w+m.e) r
theorem S8 (l:List ab) (hl:l.length≤4096) (x y:DV) (t n6:Nat) (tk:Tk) (nn:Bool) (h6:l≠[]→n6=6) (st:St) (K:List Nat):∀ (r d:List ab) (H:List HO),l=d++r →
 ∃ J,(E tab).C xJ [(0,.list t n6 tk nn (l.map ab.dv)),(1,x),(2,y),(16,.list t n6 tk nn (l.map ab.dv)),(17,.int .i64 l.length),(18,.int .i64 d.length)] (pst st H K) =
   some (if r.all okM then (.exit 0,[(0,.list t n6 tk nn (l.map ab.dv)),(1,x),(2,y),(16,.list t n6 tk nn (l.map ab.dv)),(17,.int .i64 l.length),(18,.int .i64 l.length),(19,.bool false)],pst st (H++J) K)
    else (.ret,[(6,.int .i64 0),(7,.int .i64 2)],pst st (H++J) K)):=by
 intro r
 induction r with
 | nil=>
   intro d H hd;refine⟨[],?_⟩;rw[ae (L:=xJ) rfl];simp[sU,hd]
 | cons m r ih=>
   intro d H hd;obtain rfl:n6=6:=h6 (by simp[hd]);have h0:d.length<l.length:=by simp[hd]
   have hw:IntKind.i64.wrap ((d.length:Int)+1)=((d++[m]).length:Nat):=by rw[ay (by omega)];simp
   have hg:l[d.length]=m:=by simp[hd]
   by_cases ho:okM m=true
   · obtain⟨J,hJ⟩:=ih (d++[m]) (H++[.cells .plain m.cs]) (by simp[hd]);refine⟨.cells .plain m.cs::J,?_⟩;rw[ae (L:=xJ) rfl];obtain⟨o1,o2,o3,o4⟩:0≤m.w∧m.w≤4095 ∧ -64≤m.e∧m.e≤0:=by simpa[okM] using ho
     have o1':¬ m.w<0:=by omega
     have o2':¬ 4095<m.w:=by omega
     have o3':¬ m.e < -64:=by omega
     have o4':¬ 0<m.e:=by omega
     simp[sU,h0,hg,hw,ab.cs,o1',o2',o3',o4',ho] at hJ ⊢;exact hJ
   · refine⟨[.cells .plain m.cs],?_⟩;rw[ae (L:=xJ) rfl];simp[okM] at ho;by_cases o1:m.w<0
     · simp[sU,h0,hg,ab.cs,o1,okM,show ¬ 0≤m.w by omega]
     by_cases o2:4095<m.w
     · simp[sU,h0,hg,ab.cs,o1,o2,okM,show ¬ m.w≤4095 by omega]
     by_cases o3:m.e < -64
     · simp[sU,h0,hg,ab.cs,o1,o2,o3,okM,show ¬ -64≤m.e by omega]
     have o4:0<m.e:=by omega
     simp[sU,h0,hg,ab.cs,o1,o2,o3,o4,okM,show ¬ m.e≤0 by omega]
theorem Qr (l:List ab) (hl:l.length≤4096) (hok:l.all okM=true) (t n6:Nat) (tk:Tk) (nn:Bool) (h6:l≠[]→n6=6) (st:St) (K:List Nat):∀ (r d:List ab) (H:List HO) (n:Int),l=d++r → -64*(d.length:Int)≤n→n≤4095*d.length →
 ∃ J,(E tab).C BH [(10,.int .i64 n),(57,.list t n6 tk nn (l.map ab.dv)),(58,.int .i64 l.length),(59,.int .i64 d.length)] (pst st H K) =
   some (.exit 2,[(10,.int .i64 (jd d.isEmpty n r)),(57,.list t n6 tk nn (l.map ab.dv)),(58,.int .i64 l.length),(59,.int .i64 l.length),(60,.bool false)],pst st (H++J) K):=by
 intro r
 induction r with
 | nil=>
   intro d H n hd _ _;refine⟨[],?_⟩;rw[ae (L:=BH) rfl];simp[Ct,hd,jd]
 | cons m r ih=>
   intro d H n hd h1 h2;obtain rfl:n6=6:=h6 (by simp[hd]);have h0:d.length<l.length:=by simp[hd]
   have hw:IntKind.i64.wrap ((d.length:Int)+1)=((d++[m]).length:Nat):=by rw[ay (by omega)];simp
   have hg:l[d.length]=m:=by simp[hd]
   have hm:okM m=true:=aae.1 hok m (by simp[hd]);obtain⟨o1,o2,o3,o4⟩:0≤m.w∧m.w≤4095 ∧ -64≤m.e∧m.e≤0:=by simpa[okM] using hm
   have hd':d.length+r.length+1=l.length:=by simp[hd];omega
   have hw1:IntKind.i64.wrap (n+m.w)=n+m.w:=ay (by omega);have hw2:IntKind.i64.wrap (n+m.w+m.e)=n+m.w+m.e:=ay (by omega);obtain⟨J,hJ⟩:=ih (d++[m]) (H++[.cells .plain m.cs]) (if d.isEmpty then n+m.w else n+m.w+m.e) (by simp[hd]) (by split<;>simp<;>omega) (by split<;>simp<;>omega);refine⟨.cells .plain m.cs::J,?_⟩;have hE:(d++[m]).isEmpty=false:=by cases d<;>rfl
   rw[hE] at hJ;rw[ae (L:=BH) rfl];by_cases he:d=[]
   · subst he;simp at h0 hg hw;simp[Ct,h0,hg,hw,ab.cs,hw1,jd] at hJ ⊢;exact hJ
   · have hp:0<d.length:=aaR.2 he;simp[Ct,h0,hg,hw,ab.cs,hw1,hw2,jd,he,hp] at hJ ⊢;exact hJ
def xw (l:List ab) (x y:Int):DV:=
 if 4096<l.length then .tuple [.int .i64 0,.int .i64 3] else
 if l.all okM=false then .tuple [.int .i64 0,.int .i64 2] else
 if 0≤x∧x≤y∧y≤l.length then .tuple [.int .i64 (jd true 0 ((l.drop x.toNat).take (y.toNat-x.toNat))),.int .i64 0] else .tuple [.int .i64 0,.int .i64 5]
theorem DX (l:List ab) (x y:Int) (t n6:Nat) (tk:Tk) (nn:Bool) (h6:l≠[]→n6=6) (h7:nn=true→n6=6) (st:St) :
 (E tab).F 23 [.list t n6 tk nn (l.map ab.dv),.int .i64 x,.int .i64 y] st=some (xw l x y,st):=by
 rw[aK W5 rfl];by_cases h1:4096<l.length
 · have h1':(4096:Int)<l.length:=by omega
   simp[f23,h1',xw,h1]
 have h1':¬ (4096:Int)<l.length:=by omega
 obtain⟨J,hJ⟩:=S8 l (by omega) (.int .i64 x) (.int .i64 y) t n6 tk nn h6 st [] l [] [] rfl;simp at hJ;by_cases h2:l.all okM=true
 · rw[aae] at h2;rw[if_pos h2] at hJ;rw[← aae] at h2;by_cases a1:x<0
   · simp[f23,h1',xw,h1,hJ,h2,a1,show ¬ 0≤x by omega]
   by_cases a2:y<x
   · simp[f23,h1',xw,h1,hJ,h2,a1,a2,show ¬ x≤y by omega]
   by_cases a3:l.length<y
   · simp[f23,h1',xw,h1,hJ,h2,a1,a2,a3,show ¬ y≤l.length by omega]
   have a4:cb false 6 (.list t n6 tk nn (l.map ab.dv)) (some (.int .i64 x)) (some (.int .i64 y)) none=_:=rq h7 (by omega) (by omega) (by simp;omega);rw[← List.map_drop,← List.map_take] at a4
   have hq:((l.drop x.toNat).take (y.toNat-x.toNat)).all okM=true:=by
    rw[aae] at h2 ⊢;exact fun m hm=>h2 m (aaD (aa5 hm))
   have hl:((l.drop x.toNat).take (y.toNat-x.toNat)).length≤4096:=by simp;omega
   have hb:0≤x∧x≤y∧y≤l.length:=by omega
   obtain⟨J2,hJ2⟩:=Qr _ hl hq t n6 (lI tk l.length x.toNat y.toNat) nn (fun h=>h6 (fun e=>h (by rw[e];simp))) st [] _ [] J 0 rfl (by simp) (by simp);have e1:min (y.toNat-x.toNat) (l.length-x.toNat)=y.toNat-x.toNat:=by omega
   simp[e1] at hJ2 a4;simp[f23,h1',xw,h1,hJ,h2,a1,a2,a3,a4,hb,hJ2,e1]
 · have h3:l.all okM=false:=by simpa using h2
   rw[aae] at h2;rw[if_neg h2] at hJ;simp[f23,h1',xw,h1,hJ,h3]
theorem Vq:tab 53=some (.code f53):=by kernel_rfl
theorem PX (l:List ab) (hl:l.length≤4096) (hok:l.all okM=true) (x y:Nat) (hy:y≤l.length) (t n6:Nat) (tk:Tk) (nn:Bool) (h6:l≠[]→n6=6) (st:St):∀ (k i:Nat) (n:Int),y=i+k→x≤i → -64*(i:Int)≤n→n≤4095*i →
 (E tab).C Dc [(0,.list t n6 tk nn (l.map ab.dv)),(1,.int .i64 x),(2,.int .i64 y),(7,.int .i64 n),(8,.int .i64 i)] st =
  some (.exit 0,[(0,.list t n6 tk nn (l.map ab.dv)),(1,.int .i64 x),(2,.int .i64 y),(7,.int .i64 (jd (i==x) n ((l.drop i).take k))),(8,.int .i64 y),(12,.bool false)],st):=by
 intro k
 induction k with
 | zero=>
   intro i n hi _ _ _;subst hi;rw[ae (L:=Dc) rfl];simp[B5,jd]
 | succ k ih=>
   intro i n hi hx h1 h2;have h0:i<l.length:=by omega
   obtain rfl:n6=6:=h6 (fun e=>by rw[e] at h0;simp at h0);have h0':i<y:=by omega
   have hw:IntKind.i64.wrap ((i:Int)+1)=((i+1:Nat):Int):=by rw[ay (by omega)];simp
   have hg:(l.drop i).take (k+1)=l[i]::(l.drop (i+1)).take k:=by rw[List.drop_eq_getElem_cons h0,List.take_succ_cons]
   generalize hm:l[i]=m at *;have ho:okM m=true:=aae.1 hok m (by rw[← hm];exact aaN h0);obtain⟨o1,o2,o3,o4⟩:0≤m.w∧m.w≤4095 ∧ -64≤m.e∧m.e≤0:=by simpa[okM] using ho
   have hw1:IntKind.i64.wrap (n+m.w)=n+m.w:=ay (by omega);have hw2:IntKind.i64.wrap (n+m.w+m.e)=n+m.w+m.e:=ay (by omega);have e1:((i+1)==x)=false:=by simp;omega
   rw[ae (L:=Dc) rfl,hg];by_cases he:x=i
   · subst he;have hJ:=ih (x+1) (n+m.w) (by omega) (by omega) (by omega) (by omega);rw[e1] at hJ;simp[B5,h0,h0',hw,hm,ab.cs,hw1,jd] at hJ ⊢;exact hJ
   · have hp:x<i:=by omega
     have hJ:=ih (i+1) (n+m.w+m.e) (by omega) (by omega) (by omega) (by omega);rw[e1] at hJ;simp[B5,h0,h0',hw,hm,ab.cs,hw1,hw2,jd,hp,show ¬ i=x by omega] at hJ ⊢;exact hJ
theorem Q4 (l:List ab) (hl:l.length≤4096) (hok:l.all okM=true) (x y:Nat) (hx:x≤y) (hy:y≤l.length) (t n6:Nat) (tk:Tk) (nn:Bool) (h6:l≠[]→n6=6) (st:St) :
 (E tab).F 53 [.list t n6 tk nn (l.map ab.dv),.int .i64 x,.int .i64 y] st=some (.int .i64 (jd true 0 ((l.drop x).take (y-x))),st):=by
 rw[aK Vq rfl];have h:=PX l hl hok x y hy t n6 tk nn h6 (pst st [] []) (y-x) x 0 (by omega) (by omega) (by omega) (by omega);simp at h;simp[f53,h]
theorem oA (m:ab):dX 6 true m.dv:=⟨rfl,rfl,rfl⟩
theorem V0:tab 54=some (.code f54):=by kernel_rfl
theorem Xi:tab 45=some (.code f45):=by kernel_rfl
theorem Wj:tab 27=some (.code f27):=by kernel_rfl
theorem Rs:tab 55=some (.code f55):=by kernel_rfl
theorem GY:tab 69=some (.code f69):=by kernel_rfl
theorem UK:tab 33=some (.code f33):=by kernel_rfl
theorem UT:tab 68=some (.eu (iT kdV)):=by kernel_rfl
theorem WX:tab 58=some (.eu (iT kdV)):=by kernel_rfl
theorem WM:tab 70=some (.eu (iT E1)):=by kernel_rfl
theorem VR:tab 59=some (.eu (iT E1)):=by kernel_rfl
theorem oF {g:Nat} {F:Nat→DV} (h:tab g=some (.eu (iT F))) (c:UInt8) (st:St):(E tab).F g [.int .u8 (c.toNat:Int)] st=some (F c.toNat,st):=
 su h (by show (if c.toNat<256 then some (F c.toNat) else _)=_;rw[if_pos (by exact c.toNat_lt)])
theorem Hh (c:UInt8) (st:St):(E tab).F 68 [.int .u8 (c.toNat:Int)] st=some (.int .i64 (kd c.toNat),st):=oF UT c st
theorem Ny (c:UInt8) (st:St):(E tab).F 58 [.int .u8 (c.toNat:Int)] st=some (.int .i64 (kd c.toNat),st):=oF WX c st
theorem B8 (c:UInt8) (st:St):(E tab).F 70 [.int .u8 (c.toNat:Int)] st=some (.bool (sR c.toNat),st):=oF WM c st
theorem Li (c:UInt8) (st:St):(E tab).F 59 [.int .u8 (c.toNat:Int)] st=some (.bool (sR c.toNat),st):=oF VR c st
def tR (c:UInt8):Bool:=!(kd c.toNat==0)
def bY (s:List UInt8):Int:=if 4096<s.length then 3 else if s.all tR then 0 else 4
theorem Re (s:List UInt8) (hs:s.length≤4096) (st:St) (cur:Nat):∀ (r d:List UInt8),s=d++r →
 (E tab).C B2 [(9,.list cur 1 .no true (s.map fun b=>.int .u8 b.toNat)),(10,.int .i64 s.length),(11,.int .i64 d.length)] st =
  some (if r.all tR then (.exit 0,[(9,.list cur 1 .no true (s.map fun b=>.int .u8 b.toNat)),(10,.int .i64 s.length),(11,.int .i64 s.length),(12,.bool false)],st) else (.ret,[(2,.int .i64 4)],st)):=by
 intro r
 induction r with
 | nil=>
   intro d hd;rw[ae (L:=B2) rfl];simp[BJ,hd]
 | cons c r ih=>
   intro d hd;have h0:d.length<s.length:=by simp[hd]
   have hw:IntKind.i64.wrap ((d.length:Int)+1)=((d++[c]).length:Nat):=by rw[ay (by omega)];simp
   have hg:s[d.length]=c:=by simp[hd]
   rw[ae (L:=B2) rfl];have hJ:=ih (d++[c]) (by simp[hd]);by_cases hk:kd c.toNat=0
   · simp[BJ,h0,hg,Hh,hk,tR]
   · simp[BJ,h0,hg,hw,Hh,hk,tR] at hJ ⊢;exact hJ
theorem fy (s:List UInt8) (st:St):(E tab).F 54 [.str s] st=some (.int .i64 (bY s),st):=by
 rw[aK V0 rfl];by_cases h1:4096<s.length
 · simp[f54,bY,h1,show (4096:Int)<s.length by omega]
 · have h:=Re s (by omega) (pst st [] []) st.cur s [] rfl;simp at h
   cases h2:s.all tR with
   | true=>
     rw[if_pos (by simpa using h2)] at h;simp[f54,bY,h1,show ¬ (4096:Int)<s.length by omega,h,h2]
   | false=>
     rw[if_neg (by simpa using h2)] at h;simp[f54,bY,h1,show ¬ (4096:Int)<s.length by omega,h,h2]
theorem T0 (s:List UInt8) (hs:s.length≤4096) (st:St):∀ (r d:List UInt8),s=d++r →
 (E tab).C BU [(0,.str s),(3,.int .i64 d.length)] st =
  some (if r.all tR then (.exit 0,[(0,.str s),(3,.int .i64 s.length),(10,.bool false)],st) else (.ret,[(2,.int .i64 4)],st)):=by
 intro r
 induction r with
 | nil=>
   intro d hd;rw[ae (L:=BU) rfl];simp[BL,hd]
 | cons c r ih=>
   intro d hd;have h0:d.length<s.length:=by simp[hd]
   have hw:IntKind.i64.wrap ((d.length:Int)+1)=((d++[c]).length:Nat):=by rw[ay (by omega)];simp
   have hg:s[d.length]=c:=by simp[hd]
   rw[ae (L:=BU) rfl];have hJ:=ih (d++[c]) (by simp[hd]);by_cases hk:kd c.toNat=0
   · simp[BL,h0,hg,Ny,hk,tR]
   · simp[BL,h0,hg,hw,Ny,hk,tR] at hJ ⊢;exact hJ
theorem kV (s:List UInt8) (st:St):(E tab).F 45 [.str s] st=some (.int .i64 (bY s),st):=by
 rw[aK Xi rfl];by_cases h1:4096<s.length
 · simp[f45,bY,h1,show (4096:Int)<s.length by omega]
 · have h:=T0 s (by omega) (pst st [] []) s [] rfl;simp at h
   cases h2:s.all tR with
   | true=>
     rw[if_pos (by simpa using h2)] at h;simp[f45,bY,h1,show ¬ (4096:Int)<s.length by omega,h,h2]
   | false=>
     rw[if_neg (by simpa using h2)] at h;simp[f45,bY,h1,show ¬ (4096:Int)<s.length by omega,h,h2]
structure Clu where
 a:Nat
 b:Nat
 k:Int
 deriving DecidableEq
def Clu.cs (c:Clu):List DV:=[.int .i64 c.a,.int .i64 c.b,.int .i64 c.k]
def Clu.dv (c:Clu):DV:=.agg c.cs
@[simp] theorem Clu.leaves (c:Clu):c.dv.leaves=c.cs:=rfl
theorem IH (c:Clu):dX 3 true c.dv:=⟨rfl,rfl,rfl⟩
def adv (s:List UInt8) (k:Int):Nat→Nat→Nat
 | 0,t=>t
 | n+1,t=>if k=1∧t<s.length∧sR (s.getD t 0).toNat=true then adv s k n (t+1) else t
def eJ (s:List UInt8) (i:Nat):Int:=kd (s.getD i 0).toNat
def cTo (s:List UInt8) (i:Nat):Nat:=adv s (eJ s i) 2 (i+1)
def b8 (s:List UInt8):Nat→Nat→List Clu
 | 0,_=>[]
 | n+1,i=>if i<s.length then ⟨i,cTo s i,eJ s i⟩::b8 s n (cTo s i) else []
def cw (s:List UInt8):List Clu:=b8 s s.length 0
theorem kS (s:List UInt8) (k:Int):∀ n t,t≤adv s k n t∧adv s k n t≤t+n∧(t≤s.length→adv s k n t≤s.length)
 | 0,t=>⟨aai _,aai _,id⟩
 | n+1,t=>by
   unfold adv;split
   · rename_i h;have:=kS s k n (t+1);exact⟨by omega,by omega,fun _=>this.2.2 (by omega)⟩
   · exact⟨aai _,by omega,id⟩
theorem lz {s:List UInt8} {i:Nat} (h:i<s.length):s[i]? = some (s.getD i 0):=by
 simp[aaa h]
theorem To (s:List UInt8) (hs:s.length≤4096) (v:DV) (st:St) (A:List HO) (K:List Nat) (a:Nat) (ha:a<s.length) (k:Int):∀ (n t:Nat),t+n=a+3→1≤t →
 (E tab).C Cr [(0,.str s),(5,v),(6,.int .i64 a),(7,.ptr (st.heap.length+A.length) 0)] (pst st (A++[.cells .plain [.int .i64 a,.int .i64 t,.int .i64 k]]) K) =
  some (.exit 2,[(0,.str s),(5,v),(6,.int .i64 a),(7,.ptr (st.heap.length+A.length) 0),(48,.bool false)],pst st (A++[.cells .plain [.int .i64 a,.int .i64 (adv s k n t),.int .i64 k]]) K):=by
 intro n
 induction n with
 | zero=>
   intro t ht _;have hw:IntKind.i64.wrap ((a:Int)+3)=(a:Int)+3:=ay (by omega);have h1:¬ (t:Int)<a+3:=by omega
   rw[ae (L:=Cr) rfl];by_cases hk:k=1
   · by_cases hl:t<s.length
     · simp[qg,hk,hl,hw,h1,adv]
     · simp[qg,hk,hl,adv]
   · simp[qg,hk,adv]
 | succ n ih=>
   intro t ht h0;have hw:IntKind.i64.wrap ((a:Int)+3)=(a:Int)+3:=ay (by omega);have h1:(t:Int)<a+3:=by omega
   rw[ae (L:=Cr) rfl];by_cases hk:k=1
   · by_cases hl:t<s.length
     · have hw2:IntKind.i64.wrap ((t:Int)+1)=((t+1:Nat):Int):=by rw[ay (by omega)];simp
       cases hac:sR (s[t]).toNat with
       | true=>
         have hJ:=ih (t+1) (by omega) (by omega);simp[qg,hk,hl,hw,h1,Li,hac,hw2,adv] at hJ ⊢;exact hJ
       | false=>simp[qg,hk,hl,hw,h1,Li,hac,adv]
     · simp[qg,hk,hl,adv]
   · simp[qg,hk,adv]
theorem Tu (s:List UInt8) (hs:s.length≤4096) (st:St):∀ (n i:Nat) (H:List HO) (K:List Nat) (xs:List Clu) (v:DV),s.length≤i+n→i≤s.length→xs.length≤i→Acc st K 3 (xs.map Clu.dv) v →
 ∃ v' J K',(E tab).C x5 [(0,.str s),(5,v),(6,.int .i64 i)] (pst st H K) =
   some (.exit 0,[(0,.str s),(5,v'),(6,.int .i64 s.length),(16,.bool false)],pst st (H++J) K')∧Acc st K' 3 ((xs++b8 s n i).map Clu.dv) v':=by
 intro n
 induction n with
 | zero=>
   intro i H K xs v h1 h2 h3 hA;obtain rfl:i=s.length:=by omega
   refine⟨v,[],K,?_,by simpa[b8] using hA⟩;rw[ae (L:=x5) rfl];simp[BC]
 | succ n ih=>
   intro i H K xs v h1 h2 h3 hA;by_cases hi:i<s.length
   · have hw:IntKind.i64.wrap ((i:Int)+1)=((i+1:Nat):Int):=by rw[ay (by omega)];simp
     have ht:=kS s (eJ s i) 2 (i+1);have hL:=To s hs v st H K i hi (eJ s i) 2 (i+1) (by omega) (by omega);obtain⟨v2,K2,e2,hA2⟩:=cR (H:=H++[.cells .plain (Clu.cs ⟨i,cTo s i,eJ s i⟩)]) (t:=st.cur) (by_:=24) (ag:=true) (tk:=.tight) (ys:=[Clu.dv ⟨i,cTo s i,eJ s i⟩]) hA (by omega) (by simp) (by simp[IH]) (by simp[aB];omega) (by simp[aB];omega);obtain⟨v3,J,K3,e3,hA3⟩:=ih (cTo s i) (H++[.cells .plain (Clu.cs ⟨i,cTo s i,eJ s i⟩)]) K2 (xs++[⟨i,cTo s i,eJ s i⟩]) v2 (by unfold cTo;omega) (by unfold cTo;omega) (by unfold cTo;simp;omega) (by simpa using hA2);refine⟨v3,.cells .plain (Clu.cs ⟨i,cTo s i,eJ s i⟩)::J,K3,?_,by simpa[b8,hi] using hA3⟩;rw[ae (L:=x5) rfl];have hg:eJ s i=kd (s[i]).toNat:=by simp[eJ,hi]
     simp[Clu.cs,Clu.dv,cTo] at e2 e3 hL ⊢;simp[BC,hi,hw,Ny,hL,← hg,aC,aO,dw,chunk,e2,e3]
   · obtain rfl:i=s.length:=by omega
     refine⟨v,[],K,?_,by simpa[b8] using hA⟩;rw[ae (L:=x5) rfl];simp[BC]
theorem b6 {s:List UInt8} (h:bY s=0):s.length≤4096∧s.all tR=true:=by
 unfold bY at h;split at h
 · simp at h
 · split at h
   · rename_i h1 h2;exact⟨by omega,h2⟩
   · simp at h
def FA (s:List UInt8) (v:DV):Prop:=∃ t n' tk nn,v=.tuple [.list t n' tk nn ((if bY s=0 then cw s else []).map Clu.dv),.int .i64 (bY s)]∧(nn=true→n'=3)∧(nn=false→(if bY s=0 then cw s else [])=[])
theorem Ds (s:List UInt8) (st:St):∃ v,(E tab).F 33 [.str s] st=some (v,st)∧FA s v:=by
 rw[aK UK rfl];by_cases hw:bY s=0
 · obtain⟨hs,_⟩:=b6 hw;obtain⟨v',J,K',h1,h2⟩:=Tu s hs st s.length 0 [] [] [] iy (by omega) (by omega) (by simp) (dU _ _ _ _ _ _);obtain⟨t,n',tk,nn,e1,e2,e3,e4⟩:=mZ (st':=pst st J K') h2;obtain⟨t',n'',tk',nn',rfl⟩:=bK h2;refine⟨.tuple [.list t n' tk nn ((cw s).map Clu.dv),.int .i64 0],?_,t,n',tk,nn,by simp[hw],e3,by simpa[hw,cw] using e2⟩;simp at h1 e1;simp[f33,kV,hw,h1,e1,cw]
 · exact⟨.tuple [.list 0 0 .no false [],.int .i64 (bY s)],by simp[f33,kV,hw],0,0,.no,false,by simp[hw],by simp,by simp[hw]⟩
theorem Sm (s:List UInt8) (hs:s.length≤4096) (y:DV) (st:St) (A:List HO) (hA:∀ o,rowAt (A++[o]) 1=some (.plain,[.str s])) (K:List Nat) (a:Nat) (ha:a<s.length) (k:Int):∀ (n t:Nat),t+n=a+3→1≤t →
 (E tab).C qY [(0,y),(1,.ptr (st.heap.length+1) 0),(3,.int .i64 a),(4,.ptr (st.heap.length+A.length) 0)] (pst st (A++[.cells .plain [.int .i64 a,.int .i64 t,.int .i64 k]]) K) =
  some (.exit 2,[(0,y),(1,.ptr (st.heap.length+1) 0),(3,.int .i64 a),(4,.ptr (st.heap.length+A.length) 0),(40,.bool false)],pst st (A++[.cells .plain [.int .i64 a,.int .i64 (adv s k n t),.int .i64 k]]) K):=by
 intro n
 induction n with
 | zero=>
   intro t ht _;have hw:IntKind.i64.wrap ((a:Int)+3)=(a:Int)+3:=ay (by omega);have h1:¬ (t:Int)<a+3:=by omega
   rw[ae (L:=qY) rfl];by_cases hk:k=1
   · by_cases hl:t<s.length
     · simp[jb,hk,hl,hw,h1,adv,hA]
     · simp[jb,hk,hl,adv,hA]
   · simp[jb,hk,adv]
 | succ n ih=>
   intro t ht h0;have hw:IntKind.i64.wrap ((a:Int)+3)=(a:Int)+3:=ay (by omega);have h1:(t:Int)<a+3:=by omega
   rw[ae (L:=qY) rfl];by_cases hk:k=1
   · by_cases hl:t<s.length
     · have hw2:IntKind.i64.wrap ((t:Int)+1)=((t+1:Nat):Int):=by rw[ay (by omega)];simp
       cases hac:sR (s[t]).toNat with
       | true=>
         have hJ:=ih (t+1) (by omega) (by omega);simp[jb,hk,hl,hw,h1,B8,hac,hw2,adv,hA] at hJ ⊢;exact hJ
       | false=>simp[jb,hk,hl,hw,h1,B8,hac,adv,hA]
     · simp[jb,hk,hl,adv,hA]
   · simp[jb,hk,adv]
def mM (st:St):oh:=⟨[(5,.ptr st.heap.length 0),(13,.fn 69 [] [.ptr (st.heap.length+1) 0])],[14],.region IC [5,6],.block 1 (.region GL []),0,none⟩
theorem I3 (s:List UInt8) (c:Clu) (st:St) (J:List HO) (K:List Nat) (xs:List Clu) (v:DV) (hx:xs.length≤4096) (hA:Acc st K 3 (xs.map Clu.dv) v) :
 ∃ v' K',(E tab).V (.yield (st.heap.length+2)) [c.dv] (pst st (.cells .plain [v]::.cells .plain [.str s]::.loop (mM st)::J) K) =
   some (.bool true,pst st (.cells .plain [v']::.cells .plain [.str s]::.loop (mM st)::(J++[.cells .plain c.cs])) K')∧Acc st K' 3 ((xs++[c]).map Clu.dv) v':=by
 obtain⟨v2,K2,e2,hA2⟩:=cR (H:=.cells .plain [v]::.cells .plain [.str s]::.loop { mM st with state:=1 }::(J++[.cells .plain c.cs])) (t:=st.cur) (by_:=24) (ag:=true) (tk:=.tight) (ys:=[c.dv]) hA (by omega) (by simp) (by simp[IH]) (by simp[aB];omega) (by simp[aB];omega);refine⟨v2,K2,?_,by simpa using hA2⟩;obtain⟨t',n',tk',nn',rfl⟩:=bK hA2;rw[BO (lo:=mM st) rfl rfl];simp[mM,Clu.cs,Clu.dv] at e2 ⊢;simp[aC,aO,dw,chunk,e2]
theorem Pm (s:List UInt8) (hs:s.length≤4096) (st:St):∀ (n i:Nat) (J:List HO) (K:List Nat) (xs:List Clu) (v:DV),s.length≤i+n→i≤s.length→xs.length≤i→Acc st K 3 (xs.map Clu.dv) v →
 ∃ v' J' K',(E tab).C mF [(0,.yield (st.heap.length+2)),(1,.ptr (st.heap.length+1) 0),(3,.int .i64 i)] (pst st (.cells .plain [v]::.cells .plain [.str s]::.loop (mM st)::J) K) =
   some (.exit 0,[(0,.yield (st.heap.length+2)),(1,.ptr (st.heap.length+1) 0),(3,.int .i64 s.length),(8,.bool false)],pst st (.cells .plain [v']::.cells .plain [.str s]::.loop (mM st)::J') K')∧Acc st K' 3 ((xs++b8 s n i).map Clu.dv) v':=by
 intro n
 induction n with
 | zero=>
   intro i J K xs v h1 h2 h3 hA;obtain rfl:i=s.length:=by omega
   refine⟨v,J,K,?_,by simpa[b8] using hA⟩;rw[ae (L:=mF) rfl];simp[p4]
 | succ n ih=>
   intro i J K xs v h1 h2 h3 hA;by_cases hi:i<s.length
   · have hw:IntKind.i64.wrap ((i:Int)+1)=((i+1:Nat):Int):=by rw[ay (by omega)];simp
     have ht:=kS s (eJ s i) 2 (i+1);have hL:=Sm s hs (.yield (st.heap.length+2)) st (.cells .plain [v]::.cells .plain [.str s]::.loop (mM st)::J) (fun o=>rfl) K i hi (eJ s i) 2 (i+1) (by omega) (by omega);have hg:eJ s i=kd (s[i]).toNat:=by simp[eJ,hi]
     obtain⟨v2,K2,e2,hA2⟩:=I3 s ⟨i,cTo s i,eJ s i⟩ st (J++[.cells .plain (Clu.cs ⟨i,cTo s i,eJ s i⟩)]) K xs v (by omega) hA;obtain⟨v3,J3,K3,e3,hA3⟩:=ih (cTo s i) (J++[.cells .plain (Clu.cs ⟨i,cTo s i,eJ s i⟩)]++[.cells .plain (Clu.cs ⟨i,cTo s i,eJ s i⟩)]) K2 (xs++[⟨i,cTo s i,eJ s i⟩]) v2 (by unfold cTo;omega) (by unfold cTo;omega) (by unfold cTo;simp;omega) (by simpa using hA2);refine⟨v3,J3,K3,?_,by simpa[b8,hi] using hA3⟩;rw[ae (L:=mF) rfl];simp[Clu.cs,Clu.dv,cTo] at e2 e3 hL ⊢;simp[p4,hi,hw,Hh,hL,← hg,e2,e3]
   · obtain rfl:i=s.length:=by omega
     refine⟨v,J,K,?_,by simpa[b8] using hA⟩;rw[ae (L:=mF) rfl];simp[p4]
theorem BD (s:List UInt8) (st:St):∃ v,(E tab).F 27 [.str s] st=some (v,st)∧FA s v:=by
 rw[aK Wj rfl];by_cases hw:bY s=0
 · obtain⟨hs,_⟩:=b6 hw;obtain⟨v',J,K',h1,h2⟩:=Pm s hs st s.length 0 [] [] [] iy (by omega) (by omega) (by simp) (dU _ _ _ _ _ _);obtain⟨t,n',tk,nn,e1,e2,e3,e4⟩:=mZ (st':=pst st (.cells .plain [v']::.cells .plain [.str s]::.loop { mM st with state:=3 }::J) K') h2;obtain⟨t',n'',tk',nn',rfl⟩:=bK h2;refine⟨.tuple [.list t n' tk nn ((cw s).map Clu.dv),.int .i64 0],?_,t,n',tk,nn,by simp[hw],e3,by simpa[hw,cw] using e2⟩
   have h55:∀ (H:List HO) (K:List Nat),(E tab).F 55 [.str s] (pst st H K)=some (.fn 69 [] [.ptr (st.heap.length+H.length) 0],pst st (H++[.cells .plain [.str s]]) K):=by
    intro H K;rw[iz Rs rfl];simp[f55]
   have h69:(E tab).F 69 [.yield (st.heap.length+2),.ptr (st.heap.length+1) 0] (pst st [.cells .plain [iy],.cells .plain [.str s],.loop (mM st)] [])=some (.tuple [],pst st (.cells .plain [.list t' n'' tk' nn' (([]++b8 s s.length 0).map Clu.dv)]::.cells .plain [.str s]::.loop (mM st)::J) K'):=by
    rw[iz GY rfl];simp at h1;simp[f69,h1]
   simp[mM] at h69 e1
   have hr:∀ (fr:Fr) (H:List HO),(E tab).C (.gQ (.t 13) [14] (.region IC [5,6]) (.block 1 (.region GL [])) [5,13]) [(5,.ptr st.heap.length 0),(13,.fn 69 [] [.ptr (st.heap.length+1) 0])] (pst st [.cells .plain [iy],.cells .plain [.str s]] [])=some (.normal,[(5,.ptr st.heap.length 0),(13,.fn 69 [] [.ptr (st.heap.length+1) 0])],pst st (.cells .plain [.list t' n'' tk' nn' ((b8 s s.length 0).map Clu.dv)]::.cells .plain [.str s]::.loop { mM st with state:=3 }::J) K'):=by
    intro fr H;rw[Dy (g:=69) (first:=[]) (captured:=[.ptr (st.heap.length+1) 0]) rfl GY];simp[h69,mM]
   simp[mM] at hr;simp[f27,fy,hw,h55,hr,cw,e1]
 · exact⟨.tuple [.list 0 0 .no false [],.int .i64 (bY s)],by simp[f27,fy,hw],0,0,.no,false,by simp[hw],by simp,by simp[hw]⟩
theorem Wf:tab 13=some (.code f13):=by kernel_rfl
theorem WB:tab 14=some (.code f14):=by kernel_rfl
theorem Ww:tab 40=some (.code f40):=by kernel_rfl
theorem UQ:tab 41=some (.code f41):=by kernel_rfl
theorem WJ:tab 42=some (.code f42):=by kernel_rfl
theorem Wr:tab 43=some (.code f43):=by kernel_rfl
theorem Vc:tab 44=some (.code f44):=by kernel_rfl
theorem W0:tab 46=some (.code f46):=by kernel_rfl
theorem VC:tab 47=some (.code f47):=by kernel_rfl
theorem Wk:tab 48=some (.code f48):=by kernel_rfl
theorem Wm:tab 61=some (.code f61):=by kernel_rfl
theorem VQ:tab 62=some (.code f62):=by kernel_rfl
theorem Wz:tab 64=some (.lf gp):=by kernel_rfl
theorem UZ:tab 66=some (.code f66):=by kernel_rfl
theorem UU:tab 67=some (.code f67):=by kernel_rfl
theorem U6:tab 72=some (.lf gn):=by kernel_rfl
def fb (n a b:Int):Bool:=decide (a≤n∧n≤b)
theorem c9 (n a b:Int) (st:St):(E tab).F 66 [.int .i64 n,.int .i64 a,.int .i64 b] st=some (.bool (fb n a b),st):=by
 rw[aK UZ rfl];by_cases h1:a≤n<;>simp[f66,fb,h1]
theorem ee (n:Int) (st:St):(E tab).F 67 [.int .i64 n] st=some (.bool (fb n 0 1),st):=by
 rw[aK UU rfl];by_cases h1:n=0
 · simp[f67,fb,h1]
 · by_cases h2:n=1
   · simp[f67,fb,h1,h2]
   · simp[f67,fb,h1,h2];rw[aaQ];simp;omega
structure bn where
 z:Int
 t:Int
 e:Int
 deriving DecidableEq
def bn.cs (c:bn):List DV:=[.int .i64 c.z,.int .i64 c.t,.int .i64 c.e]
def dE (c:bn):Bool:=fb c.z 0 64&&fb c.t 0 15&&fb c.e 0 1
theorem M5 (c:bn) (st:St):(E tab).F 46 [.agg c.cs] st=some (.bool (dE c),st):=by
 rw[aK W0 rfl];cases h1:fb c.z 0 64
 · simp[f46,bn.cs,dE,c9,ee,h1]
 cases h2:fb c.t 0 15
 · simp[f46,bn.cs,dE,c9,ee,h1,h2]
 simp[f46,bn.cs,dE,c9,ee,h1,h2]
theorem N0 (c:bn) (st:St):(E tab).F 62 [.agg c.cs] st=some (.bool (dE c),st):=by
 rw[aK VQ rfl];by_cases h1:0≤c.z
 · by_cases h2:c.z≤64
   · by_cases h3:0≤c.t
     · by_cases h4:c.t≤15
       · by_cases h5:c.e=0
         · simp[f62,bn.cs,dE,fb,h1,h2,h3,h4,h5]
         · by_cases h6:c.e=1
           · simp[f62,bn.cs,dE,fb,h1,h2,h3,h4,h6]
           · simp[f62,bn.cs,dE,fb,h1,h2,h3,h4,h5,h6];rw[aaQ];simp;omega
       · simp[f62,bn.cs,dE,fb,h1,h2,h3,h4]
     · simp[f62,bn.cs,dE,fb,h1,h2,h3]
   · simp[f62,bn.cs,dE,fb,h1,h2]
 · simp[f62,bn.cs,dE,fb,h1]
structure cp where
 size:Int
 qe:Int
 align:Int
 first:Int
 inn:Int
 out:Int
 before:Int
 after:Int
 next:Int
 whole:Int
 lA:Int
 qj:Int
 br:Int
 least:Int
 drop:Int
 list:Int
 level:Int
 deriving DecidableEq
def cp.l (p:cp):List Int:=[p.size,p.qe,p.align,p.first,p.inn,p.out,p.before,p.after,p.next,p.whole,p.lA,p.qj,p.br,p.least,p.drop,p.list,p.level]
def cp.cs (p:cp):List DV:=[.int .i64 p.size,.int .i64 p.qe,.int .i64 p.align,.int .i64 p.first,.int .i64 p.inn,.int .i64 p.out,.int .i64 p.before,.int .i64 p.after,.int .i64 p.next,.int .i64 p.whole,.int .i64 p.lA,.int .i64 p.qj,.int .i64 p.br,.int .i64 p.least,.int .i64 p.drop,.int .i64 p.list,.int .i64 p.level]
def cF (p:cp):Bool:=fb p.size 1 64&&fb p.qe 1 255&&fb p.align 0 3&&fb p.first 0 255&&fb p.inn 0 255&&fb p.out 0 255&&fb p.before 0 255&&fb p.after 0 255&&fb p.next 0 1&&fb p.whole 0 1&&fb p.lA 1 4&&fb p.qj 1 4&&fb p.br 0 1&&fb p.least 0 1&&fb p.drop 0 4&&fb p.list 0 8&&fb p.level 0 3
def lR (ok:Nat→Bool):Nat→Nat→Bool
 | _,0=>true
 | i,k+1=>ok i&&lR ok (i+1) k
theorem SS (vs:List DV) (n lo hi:Nat→Int) (hv:∀ i,i<17→(vs.drop (i*3)).take 3=[.int .i64 (n i),.int .i64 (lo i),.int .i64 (hi i)]) (hl:vs.length=51) (st:St) (K:List Nat):∀ (k i:Nat) (H:List HO),i+k=17 →
 ∃ J,(E tab).C ug [(56,.agg vs),(57,.int .i64 i)] (pst st H K) =
   some (if lR (fun j=>fb (n j) (lo j) (hi j)) i k then (.exit 0,[(56,.agg vs),(57,.int .i64 (17:Nat)),(58,.bool false)],pst st (H++J) K) else (.ret,[(2,.bool false)],pst st (H++J) K)):=by
 intro k
 induction k with
 | zero=>
   intro i H hi0;obtain rfl:i=17:=by omega
   refine⟨[],?_⟩;rw[ae (L:=ug) rfl];simp[yy,lR]
 | succ k ih=>
   intro i H hi0;have h0:(i:Int)<17:=by omega
   have hw:IntKind.i64.wrap ((i:Int)+1)=((i+1:Nat):Int):=by rw[ay (by omega)];simp
   have hx:=hv i (by omega);have hx2:i*3+3≤vs.length:=by omega
   by_cases h1:n i<lo i
   · refine⟨[.cells .plain [.int .i64 (n i),.int .i64 (lo i),.int .i64 (hi i)]],?_⟩;rw[ae (L:=ug) rfl];simp[yy,h0,hx,hx2,h1,lR,fb,show ¬ lo i≤n i by omega]
   by_cases h2:hi i<n i
   · refine⟨[.cells .plain [.int .i64 (n i),.int .i64 (lo i),.int .i64 (hi i)]],?_⟩;rw[ae (L:=ug) rfl];simp[yy,h0,hx,hx2,h1,h2,lR,fb,show ¬ n i≤hi i by omega]
   obtain⟨J,hJ⟩:=ih (i+1) (H++[.cells .plain [.int .i64 (n i),.int .i64 (lo i),.int .i64 (hi i)]]) (by omega);refine⟨.cells .plain [.int .i64 (n i),.int .i64 (lo i),.int .i64 (hi i)]::J,?_⟩;have e1:fb (n i) (lo i) (hi i)=true:=by simp[fb];omega
   rw[ae (L:=ug) rfl];simp[e1,lR] at hJ ⊢;simp[yy,h0,hx,hx2,h1,h2,hw,hJ]
theorem JS (p:cp) (st:St):(E tab).F 42 [.agg p.cs] st=some (.bool (cF p),st):=by
 rw[aK WJ rfl]
 obtain⟨J,hJ⟩:=SS [.int .i64 p.size,.int .i64 1,.int .i64 64,.int .i64 p.qe,.int .i64 1,.int .i64 255,.int .i64 p.align,.int .i64 0,.int .i64 3,.int .i64 p.first,.int .i64 0,.int .i64 255,.int .i64 p.inn,.int .i64 0,.int .i64 255,.int .i64 p.out,.int .i64 0,.int .i64 255,.int .i64 p.before,.int .i64 0,.int .i64 255,.int .i64 p.after,.int .i64 0,.int .i64 255,.int .i64 p.next,.int .i64 0,.int .i64 1,.int .i64 p.whole,.int .i64 0,.int .i64 1,.int .i64 p.lA,.int .i64 1,.int .i64 4,.int .i64 p.qj,.int .i64 1,.int .i64 4,.int .i64 p.br,.int .i64 0,.int .i64 1,.int .i64 p.least,.int .i64 0,.int .i64 1,.int .i64 p.drop,.int .i64 0,.int .i64 4,.int .i64 p.list,.int .i64 0,.int .i64 8,.int .i64 p.level,.int .i64 0,.int .i64 3] (fun i=>p.l.getD i 0) (fun i=>([1,1,0,0,0,0,0,0,0,0,1,1,0,0,0,0,0]:List Int).getD i 0) (fun i=>([64,255,3,255,255,255,255,255,1,1,4,4,1,1,4,8,3]:List Int).getD i 0) (by
  intro i hi
  match i,hi with
  | 0,_=>rfl
  | 1,_=>rfl
  | 2,_=>rfl
  | 3,_=>rfl
  | 4,_=>rfl
  | 5,_=>rfl
  | 6,_=>rfl
  | 7,_=>rfl
  | 8,_=>rfl
  | 9,_=>rfl
  | 10,_=>rfl
  | 11,_=>rfl
  | 12,_=>rfl
  | 13,_=>rfl
  | 14,_=>rfl
  | 15,_=>rfl
  | 16,_=>rfl
  | k+17,h=>omega) rfl st [] 17 0 [.cells .plain p.cs] rfl
 have e:lR (fun j=>fb (p.l.getD j 0) (([1,1,0,0,0,0,0,0,0,0,1,1,0,0,0,0,0]:List Int).getD j 0) (([64,255,3,255,255,255,255,255,1,1,4,4,1,1,4,8,3]:List Int).getD j 0)) 0 17=cF p:=by
  simp[lR,cF,cp.l,Bool.and_assoc]
 rw[e] at hJ;cases h:cF p<;>simp[h,cp.cs] at hJ<;>simp[f42,cp.cs,hJ]
theorem J6 (p:cp) (st:St):(E tab).F 47 [.agg p.cs] st=some (.bool (cF p),st):=by
 rw[aK VC rfl]
 have r1:∀ (_:Unit),(E tab).C (.region GA [1,3]) [(1,.ptr st.heap.length 0)] (pst st [.cells .plain p.cs] [])=some (.normal,[(1,.ptr st.heap.length 0),(3,.bool (fb p.size 1 64&&fb p.qe 1 255&&fb p.align 0 3))],pst st [.cells .plain p.cs] []):=by
  intro _;cases h0:fb p.size 1 64
  · simp[cp.cs,c9,ee,h0]
  cases h1:fb p.qe 1 255
  · simp[cp.cs,c9,ee,h0,h1]
  simp[cp.cs,c9,ee,h0,h1]
 have r2:∀ (x3:DV),(E tab).C (.region Hn [1,3,4]) [(1,.ptr st.heap.length 0),(3,x3)] (pst st [.cells .plain p.cs] [])=some (.normal,[(1,.ptr st.heap.length 0),(3,x3),(4,.bool (fb p.first 0 255&&fb p.inn 0 255&&fb p.out 0 255&&fb p.before 0 255&&fb p.after 0 255))],pst st [.cells .plain p.cs] []):=by
  intro x3;cases h0:fb p.first 0 255
  · simp[cp.cs,c9,ee,h0]
  cases h1:fb p.inn 0 255
  · simp[cp.cs,c9,ee,h0,h1]
  cases h2:fb p.out 0 255
  · simp[cp.cs,c9,ee,h0,h1,h2]
  cases h3:fb p.before 0 255
  · simp[cp.cs,c9,ee,h0,h1,h2,h3]
  simp[cp.cs,c9,ee,h0,h1,h2,h3]
 have r3:∀ (x3 x4:DV),(E tab).C (.region HD [1,3,4,5]) [(1,.ptr st.heap.length 0),(3,x3),(4,x4)] (pst st [.cells .plain p.cs] [])=some (.normal,[(1,.ptr st.heap.length 0),(3,x3),(4,x4),(5,.bool (fb p.next 0 1&&fb p.whole 0 1&&fb p.br 0 1&&fb p.least 0 1))],pst st [.cells .plain p.cs] []):=by
  intro x3 x4;cases h0:fb p.next 0 1
  · simp[cp.cs,c9,ee,h0]
  cases h1:fb p.whole 0 1
  · simp[cp.cs,c9,ee,h0,h1]
  cases h2:fb p.br 0 1
  · simp[cp.cs,c9,ee,h0,h1,h2]
  simp[cp.cs,c9,ee,h0,h1,h2]
 have r4:∀ (b1 b2 b3:Bool),(E tab).C (.region GD [2]) [(1,.ptr st.heap.length 0),(3,.bool b1),(4,.bool b2),(5,.bool b3)] (pst st [.cells .plain p.cs] [])=some (.normal,[(2,.bool (b1&&b2&&b3&&fb p.lA 1 4&&fb p.qj 1 4&&fb p.drop 0 4&&fb p.list 0 8&&fb p.level 0 3))],pst st [.cells .plain p.cs] []):=by
  intro b1 b2 b3;cases b1
  · simp[cp.cs,c9,ee]
  cases b2
  · simp[cp.cs,c9,ee]
  cases b3
  · simp[cp.cs,c9,ee]
  cases h0:fb p.lA 1 4
  · simp[cp.cs,c9,ee,h0]
  cases h1:fb p.qj 1 4
  · simp[cp.cs,c9,ee,h0,h1]
  cases h2:fb p.drop 0 4
  · simp[cp.cs,c9,ee,h0,h1,h2]
  cases h3:fb p.list 0 8
  · simp[cp.cs,c9,ee,h0,h1,h2,h3]
  simp[cp.cs,c9,ee,h0,h1,h2,h3]
 have r1':=r1 ();simp only[cp.cs] at r1' r2 r3 r4
 have hb:(E tab).C f47.body (bS [.agg p.cs] 0) (pst st [] [])=some (.ret,[(2,.bool (cF p))],pst st [.cells .plain p.cs] []):=by
  have r0:(E tab).C (.region F3 [1]) (bS [.agg p.cs] 0) (pst st [] [])=some (.normal,[(1,.ptr st.heap.length 0)],pst st [.cells .plain p.cs] []):=by simp[cp.cs]
  show (E tab).C (.seq (.region F3 [1]) (.seq (.region GA [1,3]) (.seq (.region Hn [1,3,4]) (.seq (.region HD [1,3,4,5]) (.seq (.region GD [2]) .ret))))) _ _=_;rw[ie,r0];simp only[cp.cs];rw[ie,r1'];simp only;rw[ie,r2];simp only;rw[ie,r3];simp only;rw[ie,r4];simp only[Pl]
  congr 5
  simp[cF,Bool.and_assoc,Bool.and_comm,Bool.and_left_comm]
 rw[hb];simp[f47]
def gq (c:UInt8):Bool:=decide (33≤c.toNat∧c.toNat≤126)
def dm (s:List UInt8) (n:Int):Bool:=s.all gq&&decide ((s.length:Int)≤n)
theorem Rq (s:List UInt8) (hs:s.length≤140737488355328) (x y:DV) (st:St) (cur:Nat):∀ (r d:List UInt8),s=d++r →
 (E tab).C Dl [(0,x),(1,y),(8,.list cur 1 .no true (s.map fun b=>.int .u8 b.toNat)),(9,.int .i64 s.length),(10,.int .i64 d.length)] st =
  some (if r.all gq then (.exit 0,[(0,x),(1,y),(8,.list cur 1 .no true (s.map fun b=>.int .u8 b.toNat)),(9,.int .i64 s.length),(10,.int .i64 s.length),(11,.bool false)],st) else (.ret,[(4,.bool false)],st)):=by
 intro r
 induction r with
 | nil=>
   intro d hd;rw[ae (L:=Dl) rfl];simp[yL,hd]
 | cons c r ih=>
   intro d hd;have h0:d.length<s.length:=by simp[hd]
   have hw:IntKind.i64.wrap ((d.length:Int)+1)=((d++[c]).length:Nat):=by rw[ay (by omega)];simp
   have hg:s[d.length]=c:=by simp[hd]
   rw[ae (L:=Dl) rfl];have hJ:=ih (d++[c]) (by simp[hd]);by_cases h1:(c.toNat:Int)≤32
   · simp[yL,h0,hg,h1,gq,show ¬ 33≤c.toNat by omega]
   by_cases h2:(126:Int)<c.toNat
   · simp[yL,h0,hg,h1,h2,gq,show ¬ c.toNat≤126 by omega]
   have e1:gq c=true:=by simp[gq];omega
   simp[e1] at hJ ⊢;simp[yL,h0,hg,h1,h2,hw,hJ]
theorem Bx (s:List UInt8) (hs:s.length≤140737488355328) (n:Int) (st:St):(E tab).F 43 [.str s,.int .i64 n] st=some (.bool (dm s n),st):=by
 rw[aK Wr rfl];have h:=Rq s hs (.str s) (.int .i64 n) (pst st [] []) st.cur s [] rfl;simp at h
 cases h2:s.all gq with
 | true=>
   rw[if_pos (by simpa using h2)] at h;simp[f43,dm,h,h2]
 | false=>
   rw[if_neg (by simpa using h2)] at h;simp[f43,dm,h,h2]
theorem QM (s:List UInt8) (hs:s.length≤140737488355328) (y:DV) (st:St):∀ (r d:List UInt8),s=d++r →
 (E tab).C Cv [(0,.str s),(1,y),(5,.int .i64 d.length)] st =
  some (if r.all gq then (.exit 0,[(0,.str s),(1,y),(5,.int .i64 s.length),(9,.bool false)],st) else (.ret,[(4,.bool false)],st)):=by
 intro r
 induction r with
 | nil=>
   intro d hd;rw[ae (L:=Cv) rfl];simp[yS,hd]
 | cons c r ih=>
   intro d hd;have h0:d.length<s.length:=by simp[hd]
   have hw:IntKind.i64.wrap ((d.length:Int)+1)=((d++[c]).length:Nat):=by rw[ay (by omega)];simp
   have hg:s[d.length]=c:=by simp[hd]
   rw[ae (L:=Cv) rfl];have hJ:=ih (d++[c]) (by simp[hd]);by_cases h1:(c.toNat:Int)<33
   · simp[yS,h0,hg,h1,gq,show ¬ 33≤c.toNat by omega]
   by_cases h2:(126:Int)<c.toNat
   · simp[yS,h0,hg,h1,h2,gq,show ¬ c.toNat≤126 by omega]
   have e1:gq c=true:=by simp[gq];omega
   simp[e1] at hJ ⊢;simp[yS,h0,hg,h1,h2,hw,hJ]
theorem Dv (s:List UInt8) (hs:s.length≤140737488355328) (n:Int) (st:St):(E tab).F 48 [.str s,.int .i64 n] st=some (.bool (dm s n),st):=by
 rw[aK Wk rfl];have h:=QM s hs (.int .i64 n) (pst st [] []) s [] rfl;simp at h
 cases h2:s.all gq with
 | true=>
   rw[if_pos (by simpa using h2)] at h;simp[f48,dm,h,h2]
 | false=>
   rw[if_neg (by simpa using h2)] at h;simp[f48,dm,h,h2]
theorem Ce {g:Nat} {p:List DV→St→Option (DV×St)} {args:List DV} {st:St} (h:tab g=some (.lf p)):(E tab).F g args st=p args st:=by
 rw[EF];simp only[eo,h]
theorem Cj (s:List UInt8) (c:UInt8) (st:St):(E tab).F 40 [.str s,.int .u8 (c.toNat:Int)] st=some (.int .i64 (Lib.indexByte s c),st):=by
 have h72:∀ st,(E tab).F 72 [.str s,.int .u8 (c.toNat:Int)] st=some (.int .i64 (Lib.indexByte s c),st):=fun st=>by
  rw[Ce U6];simp[gn]
 have h61:∀ st,(E tab).F 61 [.str s,.int .u8 (c.toNat:Int)] st=some (.int .i64 (Lib.indexByte s c),st):=fun st=>by
  rw[aK Wm rfl];simp[f61,h72]
 rw[aK Ww rfl];simp[f40,h61]
theorem se (c:UInt8):∀ s:List UInt8,0≤Lib.indexByte s c↔c∈s
 | []=>by simp[Lib.indexByte]
 | b::r=>by
   have:=se c r;have h1:=Lib.indexByte_ge r c;unfold Lib.indexByte;by_cases h:b=c
   · simp[h]
   · by_cases h2:c∈r
     · have:=this.2 h2;simp[h,h2];split<;>omega
     · have h3:¬ 0≤Lib.indexByte r c:=fun h=>h2 (this.1 h);have h4:Lib.indexByte r c = -1:=by omega
       have h5:¬ c=b:=fun e=>h e.symm;simp[h,h2,h4,h5]
theorem J8 (s:List UInt8) (st:St):(E tab).F 44 [.str s,.str [2]] st=some (.int .i64 (s.count 2),st):=by
 have h64:∀ st,(E tab).F 64 [.str s,.int .u8 2] st=some (.int .i64 (s.count 2),st):=fun st=>by
  rw[Ce Wz];simp[gp,Lib.countByte]
 rw[aK Vc rfl];simp[f44,h64]
structure Span where
 n:Int
 c:bn
 deriving DecidableEq
def Span.cs (s:Span):List DV:=[.int .i64 s.n,.int .i64 s.c.z,.int .i64 s.c.t,.int .i64 s.c.e]
def Span.dv (s:Span):DV:=.agg s.cs
@[simp] theorem Span.leaves (s:Span):s.dv.leaves=s.cs:=rfl
theorem Js (s:Span):dX 4 true s.dv:=⟨rfl,rfl,rfl⟩
def cO:Int→List Span→Option Int
 | n,[]=>some n
 | n,s::r=>if 1≤s.n∧s.n≤n∧dE s.c=true then cO (n-s.n) r else none
theorem RI (l:List Span) (t n':Nat) (tk:Tk) (nn:Bool) (hn:l≠[]→n'=4) (st:St) (K:List Nat):∀ (r d:List Span) (n:Int) (H:List HO),l=d++r→0≤n→(d.length:Int)+n≤4096 →
 ∃ J fr,(E tab).C rH [(1,.int .i64 n),(7,.list t n' tk nn (l.map Span.dv)),(8,.int .i64 l.length),(9,.int .i64 d.length)] (pst st H K) =
   some (match cO n r with | some m=>(.exit 0,(1,.int .i64 m)::fr,pst st (H++J) K) | none=>(.ret,[(4,.bool false)],pst st (H++J) K)):=by
 intro r
 induction r with
 | nil=>
   intro d n H hd _ _;refine⟨[],[(7,.list t n' tk nn (l.map Span.dv)),(8,.int .i64 l.length),(9,.int .i64 l.length),(10,.bool false)],?_⟩;rw[ae (L:=rH) rfl];simp[ua,hd,cO]
 | cons c r ih=>
   intro d n H hd h0 h1;obtain rfl:n'=4:=hn (by simp[hd]);have hl:d.length<l.length:=by simp[hd]
   have hg:l[d.length]=c:=by simp[hd]
   have hw:IntKind.i64.wrap ((d.length:Int)+1)=((d++[c]).length:Nat):=by rw[ay (by omega)];simp
   have h62:=fun st=>N0 c.c st;simp only[bn.cs] at h62;by_cases a1:c.n<1
   · refine⟨[.cells .plain c.cs],[],?_⟩;rw[ae (L:=rH) rfl];simp[ua,hl,hg,Span.cs,a1,cO,show ¬ 1≤c.n by omega]
   by_cases a2:n<c.n
   · refine⟨[.cells .plain c.cs],[],?_⟩;rw[ae (L:=rH) rfl];simp[ua,hl,hg,Span.cs,a1,a2,cO,show ¬ c.n≤n by omega]
   cases a3:dE c.c with
   | false=>
     refine⟨[.cells .plain c.cs],[],?_⟩;rw[ae (L:=rH) rfl];simp[ua,hl,hg,Span.cs,a1,a2,a3,h62,cO]
   | true=>
     obtain⟨J,fr,hJ⟩:=ih (d++[c]) (n-c.n) (H++[.cells .plain c.cs]) (by simp[hd]) (by omega) (by simp;omega);refine⟨.cells .plain c.cs::J,fr,?_⟩;have hw2:IntKind.i64.wrap (n-c.n)=n-c.n:=ay (by omega);rw[ae (L:=rH) rfl];simp[cO,a3,show 1≤c.n∧c.n≤n by omega,Span.cs] at hJ ⊢;simp[ua,hl,hg,Span.cs,a1,a2,a3,h62,hw,hw2,hJ]
theorem uu:∀ (r:List Span) (n m:Int),0≤n→cO n r=some m→0≤m∧m≤n
 | [],n,m,h,e=>by simp[cO] at e;omega
 | s::r,n,m,h,e=>by
   simp only[cO] at e;split at e
   · have:=uu r (n-s.n) m (by omega) e;omega
   · cases e
def cN (n:Int) (l:List Span):Bool:=cO n l==some 0
theorem Ka (l:List Span) (t n':Nat) (tk:Tk) (nn:Bool) (hn:l≠[]→n'=4) (n:Int) (h0:0≤n) (h1:n≤4096) (st:St) :
 (E tab).F 41 [.list t n' tk nn (l.map Span.dv),.int .i64 n] st=some (.bool (cN n l),st):=by
 rw[aK UQ rfl];obtain⟨J,fr,h⟩:=RI l t n' tk nn hn st [] l [] n [] rfl h0 (by simpa using h1);simp at h
 cases hm:cO n l with
 | none=>
   rw[hm] at h;simp[f41,h,cN,hm]
 | some m=>
   rw[hm] at h;simp[f41,h,cN,hm]
structure LW where
 t:Nat
 n:Nat
 tk:Tk
 nn:Bool
def LW.dv (w:LW) (xs:List DV):DV:=.list w.t w.n w.tk w.nn xs
def LW.ok {α:Type} (w:LW) (n:Nat) (xs:List α):Prop:=(w.nn=true→w.n=n)∧(w.nn=false→xs=[])
theorem LW.ok.n {α:Type} {w:LW} {n:Nat} {xs:List α} (h:w.ok n xs) (hx:xs≠[]):w.n=n:=by
 cases e:w.nn with
 | true=>exact h.1 e
 | false=>exact absurd (h.2 e) hx
structure aI where
 text:List UInt8
 aF:List Span
 pr:cp
 label:List UInt8
 marks:List (List UInt8)
def af (p:aI) (w u:LW):List DV:=.str p.text::w.dv (p.aF.map Span.dv)::(p.pr.cs++[.str p.label,u.dv (p.marks.map .str)])
@[simp high] theorem pc0 (p:aI) (w u:LW):(af p w u)[0]? = some (.str p.text):=rfl
@[simp high] theorem pc1 (p:aI) (w u:LW):(af p w u)[1]? = some (.list w.t w.n w.tk w.nn (p.aF.map Span.dv)):=rfl
@[simp high] theorem pc2 (p:aI) (w u:LW):(af p w u)[2]? = some (.int .i64 p.pr.size):=rfl
@[simp high] theorem Xx (p:aI) (w u:LW):(af p w u)[19]? = some (.str p.label):=rfl
@[simp high] theorem Xt (p:aI) (w u:LW):(af p w u)[20]? = some (.list u.t u.n u.tk u.nn (p.marks.map .str)):=rfl
@[simp] theorem pcl (p:aI) (w u:LW):(af p w u).length=21:=rfl
@[simp] theorem pcP (p:aI) (w u:LW):((af p w u).drop 2).take 17=p.pr.cs:=rfl
@[simp] theorem pcA (p:aI) (w u:LW):(af p w u).take 21=af p w u:=rfl
@[simp high] theorem pcS (p:aI) (w u:LW):(af p w u).all DV.bH=true:=rfl
def dW (m:List UInt8):Bool:=!(m==[])&&dm m 8
def aE (p:aI):Int:=
 if bY p.text=0 then
  if (3:UInt8)∈p.text then 4
  else if cN p.text.length p.aF&&cF p.pr&&dm p.label 16&&decide (p.marks.length=p.text.count 2) then (if p.marks.all dW then 0 else 2)
  else 2
 else bY p.text
def aI.small (p:aI):Prop:=p.label.length≤140737488355328∧p.marks.length≤140737488355328∧∀ m∈p.marks,m.length≤140737488355328
theorem SV (l:List (List UInt8)) (hs:l.length≤140737488355328) (hm:∀ m∈l,m.length≤140737488355328) (u:LW) (hn:l≠[]→u.n=1) (st:St):∀ (r d:List (List UInt8)),l=d++r →
 (E tab).C Bu [(49,.list u.t u.n u.tk u.nn (l.map .str)),(50,.int .i64 l.length),(51,.int .i64 d.length)] st =
  some (if r.all dW then (.exit 0,[(49,.list u.t u.n u.tk u.nn (l.map .str)),(50,.int .i64 l.length),(51,.int .i64 l.length),(52,.bool false)],st) else (.ret,[(2,.int .i64 2)],st)):=by
 intro r
 induction r with
 | nil=>
   intro d hd;rw[ae (L:=Bu) rfl];simp[xM,hd]
 | cons c r ih=>
   intro d hd;have hu:=hn (by simp[hd]);have h0:d.length<l.length:=by simp[hd]
   have hw:IntKind.i64.wrap ((d.length:Int)+1)=((d++[c]).length:Nat):=by rw[ay (by omega)];simp
   have hg:l[d.length]=c:=by simp[hd]
   have h43:=fun st=>Bx c (hm c (by simp[hd])) 8 st;rw[ae (L:=Bu) rfl];have hJ:=ih (d++[c]) (by simp[hd]);by_cases h1:c=[]
   · simp[xM,h0,hg,hu,h1,dW]
   cases h2:dm c 8 with
   | false=>simp[xM,h0,hg,hu,h1,h2,h43,dW]
   | true=>
     simp[dW,h1,h2,hu] at hJ ⊢;simp[xM,h0,hg,h1,h2,h43,hw,hJ]
theorem wz (p:aI) (hp:p.small) (w u:LW) (hw:w.ok 4 p.aF) (hu:u.ok 1 p.marks) (st:St):(E tab).F 13 [.agg (af p w u)] st=some (.int .i64 (aE p),st):=by
 rw[aK Wf rfl];obtain⟨v,hv,t,n',tk,nn,rfl,_⟩:=BD p.text (pst st [.cells .plain (af p w u)] []);by_cases h1:bY p.text=0
 · rw[h1] at hv;obtain⟨hlen,_⟩:=b6 h1;by_cases h2:(3:UInt8)∈p.text
   · have h2':=(se 3 p.text).2 h2;have h40:=fun st=>Cj p.text 3 st;simp at h40;simp[f13,aE,h1,hv,h2,h40,h2']
   have h2':¬ 0≤Lib.indexByte p.text 3:=fun h=>h2 ((se 3 p.text).1 h);have h40:=fun st=>Cj p.text 3 st;simp at h40;have h41:=fun st=>Ka p.aF w.t w.n w.tk w.nn hw.n p.text.length (by omega) (by omega) st;have h42:=fun st=>JS p.pr st;have h43:=fun st=>Bx p.label hp.1 16 st;have h44:=fun st=>J8 p.text st;cases a1:cN p.text.length p.aF
   · simp[f13,aE,h1,hv,h2,h40,h2',h41,a1]
   cases a2:cF p.pr
   · simp[f13,aE,h1,hv,h2,h40,h2',h41,h42,a1,a2]
   cases a3:dm p.label 16
   · simp[f13,aE,h1,hv,h2,h40,h2',h41,h42,h43,a1,a2,a3]
   by_cases a4:p.marks.length=p.text.count 2
   · have a4':(p.marks.length:Int)=p.text.count 2:=by omega
     have h13:=SV p.marks hp.2.1 hp.2.2 u hu.n (pst st [.cells .plain (af p w u)] []) p.marks [] rfl;simp[a4] at h13;by_cases a5:∀ x∈p.marks,dW x=true
     · rw[if_pos a5] at h13;simp[f13,aE,h1,hv,h2,h40,h2',h41,h42,h43,h44,a1,a2,a3,a4,h13];exact a5
     · rw[if_neg a5] at h13;simp[f13,aE,h1,hv,h2,h40,h2',h41,h42,h43,h44,a1,a2,a3,a4,h13];simpa using a5
   · have a4':¬ (p.marks.length:Int)=p.text.count 2:=by omega
     simp[f13,aE,h1,hv,h2,h40,h2',h41,h42,h43,h44,a1,a2,a3,a4,a4']
 · simp[f13,aE,h1,hv]
theorem QY (s:List UInt8) (hs:s.length≤4096) (PC:List DV) (hP:PC[0]? = some (.str s)) (st:St):∀ (r d:List UInt8) (n:Nat),s=d++r→n≤d.length →
 (E tab).C Cz [(1,.ptr st.heap.length 0),(4,.int .i64 n),(5,.int .i64 d.length)] (pst st [.cells .plain PC] []) =
  some (if (3:UInt8)∈r then (.ret,[(2,.int .i64 4)],pst st [.cells .plain PC] []) else (.exit 0,[(1,.ptr st.heap.length 0),(4,.int .i64 ((n+r.count 2:Nat):Int)),(5,.int .i64 s.length),(20,.bool false)],pst st [.cells .plain PC] [])):=by
 intro r
 induction r with
 | nil=>
   intro d n hd _;rw[ae (L:=Cz) rfl];simp[zo,hd,hP]
 | cons c r ih=>
   intro d n hd hn;have h0:d.length<s.length:=by simp[hd]
   have hw:IntKind.i64.wrap ((d.length:Int)+1)=((d++[c]).length:Nat):=by rw[ay (by omega)];simp
   have hw2:IntKind.i64.wrap ((n:Int)+1)=((n+1:Nat):Int):=by rw[ay (by omega)];simp
   have hg:s[d.length]=c:=by simp[hd]
   rw[ae (L:=Cz) rfl];by_cases h3:c=3
   · simp[zo,h0,hg,hP,h3]
   have h3':¬ (c.toNat:Int)=3:=fun h=>h3 (UInt8.toNat_inj.1 (by show c.toNat=3;omega));have h3'':¬ (3:UInt8)=c:=fun h=>h3 h.symm;by_cases h2:c=2
   · have hJ:=ih (d++[c]) (n+1) (by simp[hd]) (by simp;omega);subst h2;simp[List.count_cons] at hJ ⊢;have e:n+1+List.count 2 r=n+(List.count 2 r+1):=by omega
     simp[zo,h0,hg,hP,hw,hw2,hJ,show (n:Int)+((List.count 2 r:Nat)+1:Int)=n+1+(List.count 2 r:Nat) by omega]
   · have h2':¬ (c.toNat:Int)=2:=fun h=>h2 (UInt8.toNat_inj.1 (by show c.toNat=2;omega));have hJ:=ih (d++[c]) n (by simp[hd]) (by simp;omega);have h2'':¬ (2:UInt8)=c:=fun h=>h2 h.symm;simp[List.count_cons,h3'',h2] at hJ ⊢;simp[zo,h0,hg,hP,hw,h3',h2',hJ]
theorem QO (l:List Span) (w:LW) (hn:l≠[]→w.n=4) (q:DV) (PC:List DV) (hP:PC[1]? = some (.list w.t w.n w.tk w.nn (l.map Span.dv))) (st:St):∀ (r d:List Span) (n:Int) (H:List HO),l=d++r→0≤n→(d.length:Int)+n≤4096 →
 ∃ J fr,(E tab).C r7 [(1,.ptr st.heap.length 0),(4,q),(6,.int .i64 n),(7,.int .i64 d.length)] (pst st (.cells .plain PC::H) []) =
   some (match cO n r with | some m=>(.exit 2,(1,.ptr st.heap.length 0)::(4,q)::(6,.int .i64 m)::fr,pst st (.cells .plain PC::(H++J)) []) | none=>(.ret,[(2,.int .i64 2)],pst st (.cells .plain PC::(H++J)) [])):=by
 intro r
 induction r with
 | nil=>
   intro d n H hd _ _;refine⟨[],[(7,.int .i64 l.length),(42,.bool false)],?_⟩;rw[ae (L:=r7) rfl];simp[ub,hd,hP,cO]
 | cons c r ih=>
   intro d n H hd h0 h1;have hu:=hn (by simp[hd]);have hl:d.length<l.length:=by simp[hd]
   have hg:l[d.length]=c:=by simp[hd]
   have hw:IntKind.i64.wrap ((d.length:Int)+1)=((d++[c]).length:Nat):=by rw[ay (by omega)];simp
   have h46:=fun st=>M5 c.c st;simp only[bn.cs] at h46;by_cases a1:c.n<1
   · refine⟨[.cells .plain c.cs],[],?_⟩;rw[ae (L:=r7) rfl];simp[ub,hl,hg,hP,hu,Span.cs,a1,cO,show ¬ 1≤c.n by omega]
   by_cases a2:n<c.n
   · refine⟨[.cells .plain c.cs],[],?_⟩;rw[ae (L:=r7) rfl];simp[ub,hl,hg,hP,hu,Span.cs,a1,a2,cO,show ¬ c.n≤n by omega]
   cases a3:dE c.c with
   | false=>
     refine⟨[.cells .plain c.cs],[],?_⟩;rw[ae (L:=r7) rfl];simp[ub,hl,hg,hP,hu,Span.cs,a1,a2,a3,h46,cO]
   | true=>
     obtain⟨J,fr,hJ⟩:=ih (d++[c]) (n-c.n) (H++[.cells .plain c.cs]) (by simp[hd]) (by omega) (by simp;omega);refine⟨.cells .plain c.cs::J,fr,?_⟩;have hw2:IntKind.i64.wrap (n-c.n)=n-c.n:=ay (by omega);rw[ae (L:=r7) rfl];simp[cO,a3,show 1≤c.n∧c.n≤n by omega,Span.cs] at hJ ⊢;simp[ub,hl,hg,hP,hu,Span.cs,a1,a2,a3,h46,hw,hw2,hJ]
theorem T9 (l:List (List UInt8)) (hs:l.length≤140737488355328) (hm:∀ m∈l,m.length≤140737488355328) (u:LW) (hn:l≠[]→u.n=1) (PC:List DV) (hP:PC[20]? = some (.list u.t u.n u.tk u.nn (l.map .str))) (st:St) (H:List HO):∀ (r d:List (List UInt8)),l=d++r →
 ∃ fr,(E tab).C BF [(1,.ptr st.heap.length 0),(9,.int .i64 d.length)] (pst st (.cells .plain PC::H) []) =
   some (if ∀ x∈r,dW x=true then (.exit 4,fr,pst st (.cells .plain PC::H) []) else (.ret,[(2,.int .i64 2)],pst st (.cells .plain PC::H) [])):=by
 intro r
 induction r with
 | nil=>
   intro d hd;refine⟨[(1,.ptr st.heap.length 0),(9,.int .i64 l.length),(94,.bool false)],?_⟩;rw[ae (L:=BF) rfl];simp[x8,hd,hP]
 | cons c r ih=>
   intro d hd;have hu:=hn (by simp[hd]);have h0:d.length<l.length:=by simp[hd]
   have hw:IntKind.i64.wrap ((d.length:Int)+1)=((d++[c]).length:Nat):=by rw[ay (by omega)];simp
   have hg:l[d.length]=c:=by simp[hd]
   have h48:=fun st=>Dv c (hm c (by simp[hd])) 8 st;obtain⟨fr,hJ⟩:=ih (d++[c]) (by simp[hd]);refine⟨fr,?_⟩;rw[ae (L:=BF) rfl];by_cases h1:c=[]
   · simp[x8,h0,hg,hP,hu,h1,dW]
   cases h2:dm c 8 with
   | false=>simp[x8,h0,hg,hP,hu,h1,h2,h48,dW]
   | true=>
     have e:dW c=true:=by simp[dW,h1,h2]
     simp[e,hu] at hJ ⊢;simp[x8,h0,hg,hP,hu,h1,h2,h48,hw,hJ]
theorem qK (p:aI) (hp:p.small) (w u:LW) (hw:w.ok 4 p.aF) (hu:u.ok 1 p.marks) (st:St):(E tab).F 14 [.agg (af p w u)] st=some (.int .i64 (aE p),st):=by
 rw[aK WB rfl];have h45:=fun st=>kV p.text st;by_cases h1:bY p.text=0
 · obtain⟨hlen,_⟩:=b6 h1;have hc:=QY p.text hlen (af p w u) rfl st p.text [] 0 rfl (by simp);simp at hc;by_cases h2:(3:UInt8)∈p.text
   · simp[f14,aE,h1,h45,h2,hc]
   rw[if_neg h2] at hc;obtain⟨J,fr,hJ⟩:=QO p.aF w hw.n (.int .i64 (p.text.count 2)) (af p w u) rfl st p.aF [] p.text.length [] rfl (by omega) (by simp;omega);simp at hJ
   cases a1:cO p.text.length p.aF with
   | none=>
     rw[a1] at hJ;simp[f14,aE,h1,h45,h2,hc,hJ,cN,a1]
   | some m=>
     rw[a1] at hJ;have hm:=uu _ _ _ (by omega) a1;by_cases a2:0<m
     · simp[f14,aE,h1,h45,h2,hc,hJ,cN,a1,a2,show ¬ m=0 by omega]
     obtain rfl:m=0:=by omega
     have h47:=fun st=>J6 p.pr st;have h48:=fun st=>Dv p.label hp.1 16 st;cases a3:cF p.pr
     · simp[f14,aE,h1,h45,h2,hc,hJ,cN,a1,h47,a3]
     cases a4:dm p.label 16
     · simp[f14,aE,h1,h45,h2,hc,hJ,cN,a1,h47,h48,a3,a4]
     by_cases a5:p.marks.length=p.text.count 2
     · obtain⟨fr2,hK⟩:=T9 p.marks hp.2.1 hp.2.2 u hu.n (af p w u) rfl st J p.marks [] rfl;simp at hK;by_cases a6:∀ x∈p.marks,dW x=true
       · rw[if_pos a6] at hK;simp[f14,aE,h1,h45,h2,hc,hJ,cN,a1,h47,h48,a3,a4,a5,hK];exact a6
       · rw[if_neg a6] at hK;simp[f14,aE,h1,h45,h2,hc,hJ,cN,a1,h47,h48,a3,a4,a5,hK];simpa using a6
     · have a5':¬ (p.marks.length:Int)=p.text.count 2:=by omega
       simp[f14,aE,h1,h45,h2,hc,hJ,cN,a1,h47,h48,a3,a4,a5,a5']
 · simp[f14,aE,h1,h45]
theorem Wq:tab 10=some (.code f10):=by kernel_rfl
theorem WZ:tab 11=some (.code f11):=by kernel_rfl
theorem Wd:tab 29=some (.code f29):=by kernel_rfl
theorem Wy:tab 34=some (.code f34):=by kernel_rfl
theorem V9:tab 35=some (.code f35):=by kernel_rfl
theorem U7:tab 36=some (.code f36):=by kernel_rfl
theorem U2:tab 56=some (.code f56):=by kernel_rfl
def da:Int→List Span→Int→Option bn
 | _,[],_=>none
 | e,s::r,i=>if i<e+s.n then some s.c else da (e+s.n) r i
def k8:bn:=⟨0,0,0⟩
def bF (l:List Span) (i:Int):bn:=(da 0 l i).getD k8
def gh:List Span→Int
 | []=>0
 | s::r=>s.n+gh r
def km (l:List Span):Prop:=∀ s∈l,1≤s.n∧dE s.c=true
theorem iE:∀ (r:List Span) (n m:Int),cO n r=some m→km r∧gh r=n-m
 | [],n,m,e=>by
   simp[cO] at e;exact⟨fun s hs=>(by cases hs),by simp[gh];omega⟩
 | s::r,n,m,e=>by
   simp only[cO] at e;split at e
   · rename_i h;obtain⟨h1,h2⟩:=iE r _ m e;refine⟨fun x hx=>?_,by simp[gh];omega⟩;rcases aas.1 hx with rfl | hx
     · exact⟨h.1,h.2.2⟩
     · exact h1 x hx
   · cases e
theorem qS:∀ {l:List Span},km l→(l.length:Int)≤gh l
 | [],_=>by simp[gh]
 | s::r,h=>by
   have:=qS (l:=r) fun x hx=>h x (aaC _ hx);have:=(h s (aax ..)).1;simp[gh];omega
theorem RY (l:List Span) (w:LW) (hn:l≠[]→w.n=4) (PC:List DV) (hP:PC[1]? = some (.list w.t w.n w.tk w.nn (l.map Span.dv))) (i:Int) (st:St):∀ (r d:List Span) (e:Int),l=d++r→km r→(d.length:Int)≤e→e+gh r≤4096 →
 ∃ fr,(E tab).C CO [(1,.int .i64 i),(2,.ptr st.heap.length 0),(4,.ptr (st.heap.length+1) 0),(5,.int .i64 e),(6,.int .i64 d.length)] (pst st [.cells .plain PC,.cells .plain k8.cs] []) =
   some (match da e r i with
    | some c=>(.ret,[(4,.ptr (st.heap.length+1) 0)],pst st [.cells .plain PC,.cells .plain c.cs] [])
    | none=>(.exit 0,(1,.int .i64 i)::(2,.ptr st.heap.length 0)::(4,.ptr (st.heap.length+1) 0)::fr,pst st [.cells .plain PC,.cells .plain k8.cs] [])):=by
 intro r
 induction r with
 | nil=>
   intro d e hd _ _ _;refine⟨[(5,.int .i64 e),(6,.int .i64 l.length),(11,.bool false)],?_⟩;rw[ae (L:=CO) rfl];simp[C9,hd,hP,da]
 | cons c r ih=>
   intro d e hd hok h0 h1;have hu:=hn (by simp[hd]);have hl:d.length<l.length:=by simp[hd]
   have hg:l[d.length]=c:=by simp[hd]
   have hc:=(hok c (aax ..)).1;have hr:km r:=fun x hx=>hok x (aaC _ hx);have hs:=qS hr;simp only[gh] at h1;have hw:IntKind.i64.wrap ((d.length:Int)+1)=((d++[c]).length:Nat):=by rw[ay (by omega)];simp
   have hw2:IntKind.i64.wrap (e+c.n)=e+c.n:=ay (by omega);obtain⟨fr,hJ⟩:=ih (d++[c]) (e+c.n) (by simp[hd]) hr (by simp;omega) (by omega);refine⟨fr,?_⟩;rw[ae (L:=CO) rfl];by_cases a:i<e+c.n
   · simp[C9,hl,hg,hP,hu,Span.cs,hw2,a,da,k8,bn.cs]
   · simp[k8,bn.cs] at hJ ⊢;simp[C9,hl,hg,hP,hu,Span.cs,hw,hw2,a,da,hJ]
theorem Al (p:aI) (w u:LW) (hw:w.ok 4 p.aF) (h1:km p.aF) (h2:gh p.aF≤4096) (i:Int) (st:St):(E tab).F 35 [.agg (af p w u),.int .i64 i] st=some (.agg (bF p.aF i).cs,st):=by
 rw[aK V9 rfl];obtain⟨fr,h⟩:=RY p.aF w hw.n (af p w u) rfl i st p.aF [] 0 rfl h1 (by simp) (by omega);simp[k8,bn.cs] at h
 cases hf:da 0 p.aF i with
 | some c=>
   rw[hf] at h;simp[f35,h,bF,hf,bn.cs]
 | none=>
   rw[hf] at h;simp[f35,h,bF,hf,bn.cs,k8]
def sizeOf (p:aI) (i:Int):Int:=if (bF p.aF i).z=0 then p.pr.size else (bF p.aF i).z
theorem Nr (p:aI) (w u:LW) (hw:w.ok 4 p.aF) (h1:km p.aF) (h2:gh p.aF≤4096) (i:Int) (st:St):(E tab).F 34 [.agg (af p w u),.int .i64 i] st=some (.int .i64 (sizeOf p i),st):=by
 rw[aK Wy rfl];have h35:=fun st=>Al p w u hw h1 h2 i st;by_cases hz:(bF p.aF i).z=0
 · simp[f34,h35,bn.cs,hz,sizeOf]
 · simp[f34,h35,bn.cs,hz,sizeOf]
def aY (k:Int):Bool:=k==1||k==2
theorem Dw (k:Int) (st:St):(E tab).F 36 [.int .i64 k] st=some (.bool (aY k),st):=by
 rw[aK U7 rfl];by_cases h:k=1<;>simp[f36,aY,h]
theorem Rx (x0:HO) (i:Int) (w:LW) (st:St) (K:List Nat) (J:List HO):∀ (r:List Span) (s:Span) (e:Int) (tk:Tk),km (s::r)→0≤e→e+gh (s::r)≤4096→e≤i→i<e+gh (s::r) →
 ∃ e' s' r' tk' fr,(E tab).C zc [(0,.int .i64 i),(1,.ptr (st.heap.length+1) 0),(2,.ptr (st.heap.length+2) 0),(4,.ptr (st.heap.length+(J.length+3)) 0)] (pst st (x0::.cells .plain [.list w.t 4 tk true ((s::r).map Span.dv)]::.cells .plain [.int .i64 (e+s.n)]::(J++[.cells .plain k8.cs])) K) =
   some (.exit 0,(0,.int .i64 i)::(1,.ptr (st.heap.length+1) 0)::(2,.ptr (st.heap.length+2) 0)::(4,.ptr (st.heap.length+(J.length+3)) 0)::fr,pst st (x0::.cells .plain [.list w.t 4 tk' true ((s'::r').map Span.dv)]::.cells .plain [.int .i64 (e'+s'.n)]::(J++[.cells .plain k8.cs])) K) ∧
   km (s'::r')∧e≤e'∧e'+gh (s'::r')=e+gh (s::r)∧e'≤i∧i<e'+s'.n∧(∀ j,i≤j→da e (s::r) j=da e' (s'::r') j):=by
 intro r
 induction r with
 | nil=>
   intro s e tk h1 h2 h3 h4 h5;refine⟨e,s,[],tk,[(12,.bool false)],?_,h1,Int.le_refl _,rfl,h4,by simpa[gh] using h5,fun _ _=>rfl⟩;rw[ae (L:=zc) rfl];simp[C5]
 | cons c r ih=>
   intro s e tk h1 h2 h3 h4 h5;by_cases a:e+s.n≤i
   · have hc:km (c::r):=fun x hx=>h1 x (aaC _ hx);have hs:=(h1 s (aax ..)).1;have hg:=qS hc;simp only[gh] at h3 h5 hg;have hcn:=(hc c (aax ..)).1;simp only[aaJ] at hg;have hw2:IntKind.i64.wrap (e+s.n+c.n)=e+s.n+c.n:=ay (by have:=qS (l:=r) (fun x hx=>hc x (aaC _ hx));omega);obtain⟨e',s',r',tk',fr,k1,k2,k3,k4,k5,k6,k7⟩:=ih c (e+s.n) (lI tk (r.length+2) 1 (r.length+2)) hc (by omega) (by simp only[gh];omega) a (by simp only[gh];omega);refine⟨e',s',r',tk',fr,?_,k2,by omega,?_,k5,k6,fun j hj=>?_⟩
     · rw[ae (L:=zc) rfl];have hsl:cb false 4 (.list w.t 4 tk true (s.dv::c.dv::r.map Span.dv)) (some (.int .i64 1)) none none=_:=lX (fun _=>rfl) (by omega) (by simp;omega);simp[k8,bn.cs] at k1 hsl ⊢;simp[C5,a,hsl,hw2,Span.cs,k1,show (1:Int)<r.length+1+1 by omega]
     · rw[k4];simp only[gh];omega
     · rw[← k7 j hj];simp only[da];rw[if_neg (by omega)]
   · refine⟨e,s,c::r,tk,[(12,.bool false)],?_,h1,Int.le_refl _,rfl,h4,by omega,fun _ _=>rfl⟩;rw[ae (L:=zc) rfl];simp[C5,a,show (1:Int)<r.length+1+1 by omega]
structure Kr (l:List Span) (i:Int) (e:Int) (s:Span) (r:List Span):Prop where
 ok:km (s::r)
 e0:0≤e
 ei:e≤i
 sum:e+gh (s::r)=gh l
 same:∀ j,i≤j→da 0 l j=da e (s::r) j
theorem Mx (l:List Span) (x0:HO) (i:Int) (w:LW) (st:St) (K:List Nat) (J:List HO) (r:List Span) (s:Span) (e i0:Int) (tk:Tk) (h:Kr l i0 e s r) (hi:i0≤i) (h3:gh l≤4096) (h5:i<gh l) :
 ∃ e' s' r' tk',(E tab).F 56 [.int .i64 i,.ptr (st.heap.length+1) 0,.ptr (st.heap.length+2) 0] (pst st (x0::.cells .plain [.list w.t 4 tk true ((s::r).map Span.dv)]::.cells .plain [.int .i64 (e+s.n)]::J) K) =
   some (.agg (bF l i).cs,pst st (x0::.cells .plain [.list w.t 4 tk' true ((s'::r').map Span.dv)]::.cells .plain [.int .i64 (e'+s'.n)]::(J++[.cells .plain (bF l i).cs])) K)∧Kr l i e' s' r':=by
 obtain⟨e',s',r',tk',fr,k1,k2,k3,k4,k5,k6,k7⟩:=Rx x0 i w st K J r s e tk h.ok h.e0 (by have:=h.sum;omega) (by have:=h.ei;omega) (by have:=h.sum;omega)
 have hlk:bF l i=s'.c:=by
  unfold bF;rw[h.same i hi,k7 i (Int.le_refl _)];simp[da,k6]
 refine⟨e',s',r',tk',?_,k2,by have:=h.e0;omega,k5,by rw[k4];exact h.sum,fun j hj=>by rw[h.same j (by omega),k7 j hj]⟩;rw[iz U2 rfl,hlk];simp[k8,bn.cs] at k1 ⊢;simp[f56,k1,Span.cs]
def sf:List Span→Int
 | []=>0
 | s::_=>s.n
theorem KK (x0:HO) (w:LW) (l:List Span) (hw:w.ok 4 l) (st:St) (K:List Nat):(E tab).F 29 [.list w.t w.n w.tk w.nn (l.map Span.dv)] (pst st [x0] K) =
 some (.fn 56 [] [.ptr (st.heap.length+1) 0,.ptr (st.heap.length+2) 0],pst st [x0,.cells .plain [.list w.t w.n w.tk w.nn (l.map Span.dv)],.cells .plain [.int .i64 (sf l)]] K):=by
 rw[iz Wd rfl]
 cases l with
 | nil=>simp[f29,sf]
 | cons s r=>
   have:=hw.n (by simp);simp[f29,this,sf,Span.cs,show (0:Int)<r.length+1 by omega]
theorem ke (p:aI) (hp:cF p.pr=true) (h1:km p.aF) (i:Int):1≤sizeOf p i∧sizeOf p i≤64∧0≤(bF p.aF i).t∧(bF p.aF i).t≤15:=by
 have hs:1≤p.pr.size∧p.pr.size≤64:=by
  simp only[cF,aac,fb,decide_eq_true_eq] at hp;omega
 have:∀ (l:List Span) (e:Int),km l→dE ((da e l i).getD k8)=true:=by
  intro l
  induction l with
  | nil=>intro e _;rfl
  | cons s r ih=>
    intro e h;simp only[da];split
    · exact(h s (aax ..)).2
    · exact ih _ fun x hx=>h x (aaC _ hx)
 have:=this p.aF 0 h1;change dE (bF p.aF i)=true at this;simp only[dE,aac,fb,decide_eq_true_eq] at this;unfold sizeOf;split<;>omega
def bAt (s:List UInt8) (i:Nat):UInt8:=s.getD i 0
def fT (p:aI) (mk:List (List UInt8)) (c:Clu):Int:=
 if aY c.k||c.k==3 then IntKind.i64.wrap (wd (bAt p.text c.a) (sizeOf p c.a)+(bF p.aF c.a).t)
 else if c.k=7 then tw (sizeOf p c.a) 0 (mk.headD []) else 0
def bu (p:aI) (kr:Bool) (bf:UInt8) (ps:Int) (c:Clu):Int:=
 if aY c.k&&(bF p.aF c.a).e==1&&kr&&ps==sizeOf p c.a then fA bf (bAt p.text c.a) (sizeOf p c.a) else 0
def aJ (p:aI) (kr:Bool) (bf:UInt8) (ps:Int) (mk:List (List UInt8)) (c:Clu):ab:=⟨c.a,c.b,c.k,sizeOf p c.a,fT p mk c,bu p kr bf ps c⟩
def dy (p:aI) (c:Clu):Bool:=aY c.k&&(bF p.aF c.a).e==1
def mT (mk:List (List UInt8)) (c:Clu):List (List UInt8):=if c.k=7 then mk.tail else mk
def cK (p:aI):Bool→UInt8→Int→List (List UInt8)→List Clu→List ab
 | _,_,_,_,[]=>[]
 | kr,bf,ps,mk,c::r=>aJ p kr bf ps mk c::cK p (dy p c) (bAt p.text c.a) (sizeOf p c.a) (mT mk c) r
def mY (p:aI):List ab:=cK p false 0 0 p.marks (cw p.text)
theorem SW (x0 x1 x2 x3:HO) (J:List HO) (K:List Nat) (st:St) (p:aI) (c:Clu) (mk:List (List UInt8)) (u:LW) (tk:Tk) (hu:c.k=7→mk≠[]) (hn:mk≠[]→u.n=1∧u.nn=true) (hm:∀ m∈mk,m.length≤4096) (y1 y7 y9 y10 y11 y34 y35 y36:DV) :
 ∃ tk' fr,(E tab).C uX [(1,y1),(7,y7),(8,.list u.t u.n tk u.nn (mk.map .str)),(9,y9),(10,y10),(11,y11),(13,.ptr (st.heap.length+(J.length+3)) 0),(14,.ptr (st.heap.length+(J.length+5)) 0),(15,.ptr (st.heap.length+(J.length+6)) 0),(16,.int .u8 (bAt p.text c.a).toNat),(17,.bool (aY c.k)),(34,y34),(35,y35),(36,y36)]
   (pst st (x0::x1::x2::(J++[.cells .plain c.cs,x3,.cells .plain (bF p.aF c.a).cs,.cells .plain [.int .i64 c.a,.int .i64 c.b,.int .i64 c.k,.int .i64 (sizeOf p c.a),.int .i64 0,.int .i64 0]])) K) =
   some (.normal,[(1,y1),(7,y7),(8,.list u.t u.n tk' u.nn ((mT mk c).map .str)),(9,y9),(10,y10),(11,y11),(14,.ptr (st.heap.length+(J.length+5)) 0),(15,.ptr (st.heap.length+(J.length+6)) 0),(16,.int .u8 (bAt p.text c.a).toNat),(17,.bool (aY c.k)),(34,y34),(35,y35),(36,y36)]++fr,
    pst st (x0::x1::x2::(J++[.cells .plain c.cs,x3,.cells .plain (bF p.aF c.a).cs,.cells .plain [.int .i64 c.a,.int .i64 c.b,.int .i64 c.k,.int .i64 (sizeOf p c.a),.int .i64 (fT p mk c),.int .i64 0]])) K):=by
 have h30:=fun st=>yp (bAt p.text c.a) (sizeOf p c.a) st;by_cases h1:aY c.k=true
 · refine⟨tk,[],?_⟩;have h7:¬ c.k=7:=by intro h;rw[h] at h1;cases h1
   simp[uX,Clu.cs,bn.cs,h1,h30,fT,mT,h7]
 · have h1':aY c.k=false:=by simpa using h1
   by_cases h3:c.k=3
   · refine⟨tk,[],?_⟩;simp[uX,Clu.cs,bn.cs,show aY 3=false from rfl,h3,h30,fT,mT]
   · by_cases h7:c.k=7
     · have hne:=hu h7;obtain⟨hn1,hn2⟩:=hn hne
       match mk,hne with
       | m::ms,_=>
         have h31:=fun st=>yY m (hm m (aax ..)) (sizeOf p c.a) st;have hsl:cb false 1 (.list u.t 1 tk true (.str m::ms.map .str)) (some (.int .i64 1)) none none=_:=lX (fun _=>rfl) (by omega) (by simp;omega);refine⟨lI tk (ms.length+1) 1 (ms.length+1),[],?_⟩;simp at hsl;simp[uX,Clu.cs,bn.cs,show aY 7=false from rfl,h7,h31,fT,mT,hn1,hn2,hsl]
     · refine⟨tk,[(88,.bool false)],?_⟩;simp[uX,Clu.cs,bn.cs,h1',h3,h7,fT,mT]
def C6 (s:List UInt8):Nat→List Clu→Prop
 | _,[]=>True
 | i,c::r=>i≤c.a∧c.a<s.length∧C6 s c.a r
def sZ (l:List Clu):Nat:=(l.filter fun c=>c.k==7).length
theorem oo {mk:List (List UInt8)} {c:Clu} {r:List Clu} (h:mk.length=sZ (c::r)):(mT mk c).length=sZ r∧(c.k=7→mk≠[]):=by
 unfold sZ at h ⊢;unfold mT;by_cases h7:c.k=7
 · simp[h7] at h ⊢;refine⟨by omega,fun e=>by simp[e] at h⟩
 · simp[h7] at h ⊢;exact h
theorem zF {mk:List (List UInt8)} {c:Clu} {m:List UInt8} (h:m∈mT mk c):m∈mk:=by
 unfold mT at h;split at h
 · exact List.mem_of_mem_tail h
 · exact h
def H10 (p:aI) (w u:LW) (tk:Tk) (s:Span) (sp:List Span) (e:Int) (J:List HO):List HO:=
 .cells .plain (af p w u)::.cells .plain [.list w.t 4 tk true ((s::sp).map Span.dv)]::.cells .plain [.int .i64 (e+s.n)]::J
set_option maxHeartbeats 8000000 in
theorem S9 (p:aI) (w u:LW) (hpr:cF p.pr=true) (hSp:km p.aF) (hsum:gh p.aF=p.text.length) (hlen:p.text.length≤4096) (cs:List Clu) (hcs:cs.length≤4096) (ct cn:Nat) (ctk:Tk) (cnn:Bool) (hcn:cs≠[]→cn=3) (st:St) :
 ∀ (r d:List Clu) (J:List HO) (K:List Nat) (xs:List ab) (kr:Bool) (bf:UInt8) (ps:Int) (mk:List (List UInt8)) (tk tk2:Tk) (s:Span) (sp:List Span) (e:Int) (i0:Nat) (v:DV),
 cs=d++r→C6 p.text i0 r→Kr p.aF i0 e s sp→Acc st K 6 (xs.map ab.dv) v→xs.length=d.length→(kr=true→∃ ys m,xs=ys++[m]∧m.s=ps)→mk.length=sZ r→(∀ m∈mk,m.length≤4096)→(mk≠[]→u.n=1∧u.nn=true) →
 ∃ v' H' K' y8 fr,(E tab).C xR [(1,.ptr st.heap.length 0),(7,.fn 56 [] [.ptr (st.heap.length+1) 0,.ptr (st.heap.length+2) 0]),(8,.list u.t u.n tk u.nn (mk.map .str)),(9,v),(10,.bool kr),(11,.int .u8 bf.toNat),(34,.list ct cn ctk cnn (cs.map Clu.dv)),(35,.int .i64 cs.length),(36,.int .i64 d.length)]
  (pst st (H10 p w u tk2 s sp e J) K) =
  some (.exit 0,(1,.ptr st.heap.length 0)::(7,.fn 56 [] [.ptr (st.heap.length+1) 0,.ptr (st.heap.length+2) 0])::(8,y8)::(9,v')::fr,pst st H' K')∧Acc st K' 6 ((xs++cK p kr bf ps mk r).map ab.dv) v':=by
 intro r
 induction r with
 | nil=>
   intro d J K xs kr bf ps mk tk tk2 s sp e i0 v hd _ _ hA _ _ _ _ _;refine⟨v,H10 p w u tk2 s sp e J,K,.list u.t u.n tk u.nn (mk.map .str),[(10,.bool kr),(11,.int .u8 bf.toNat),(34,.list ct cn ctk cnn (cs.map Clu.dv)),(35,.int .i64 cs.length),(36,.int .i64 cs.length),(37,.bool false)],?_,by simpa[cK] using hA⟩;rw[ae (L:=xR) rfl];simp[eN,hd]
 | cons c r ih=>
   intro d J K xs kr bf ps mk tk tk2 s sp e i0 v hd hC hL hA hxl hkr hmk hml hmn;obtain⟨c1,c2,c3⟩:=hC;obtain rfl:cn=3:=hcn (by simp[hd]);have h0:d.length<cs.length:=by simp[hd]
   have hw:IntKind.i64.wrap ((d.length:Int)+1)=((d++[c]).length:Nat):=by rw[ay (by omega)];simp
   have hg:cs[d.length]=c:=by simp[hd]
   obtain⟨e',s',sp',tk2',h56,hL'⟩:=Mx p.aF (.cells .plain (af p w u)) c.a w st K (J++[.cells .plain c.cs]) sp s e i0 tk2 hL (by omega) (by omega) (by omega);have hsz:=ke p hpr hSp c.a;have hb:p.text[c.a]? = some (bAt p.text c.a):=lz c2
   obtain⟨tk',fr',hK⟩:=SW (.cells .plain (af p w u)) (.cells .plain [.list w.t 4 tk2' true ((s'::sp').map Span.dv)]) (.cells .plain [.int .i64 (e'+s'.n)]) (.cells .plain (bF p.aF c.a).cs) J K st p c mk u tk (oo hmk).2 hmn hml
    (.ptr st.heap.length 0) (.fn 56 [] [.ptr (st.heap.length+1) 0,.ptr (st.heap.length+2) 0]) v (.bool kr) (.int .u8 bf.toNat) (.list ct 3 ctk cnn (cs.map Clu.dv)) (.int .i64 cs.length) (.int .i64 d.length)
   have h32:=fun st=>zL bf (bAt p.text c.a) (sizeOf p c.a) ⟨hsz.1,hsz.2.1⟩ st
   obtain⟨v2,K2,e2,hA2⟩:=cR (H:=.cells .plain (af p w u)::.cells .plain [.list w.t 4 tk2' true ((s'::sp').map Span.dv)]::.cells .plain [.int .i64 (e'+s'.n)]::(J++[.cells .plain c.cs,.cells .plain (bF p.aF c.a).cs,.cells .plain (bF p.aF c.a).cs,.cells .plain (aJ p kr bf ps mk c).cs]))
    (t:=st.cur) (by_:=48) (ag:=true) (tk:=.tight) (ys:=[(aJ p kr bf ps mk c).dv]) hA (by omega) (by simp) (by simp[oA]) (by simp[aB];omega) (by simp[aB];omega)
   obtain⟨v3,H3,K3,y8,fr,e3,hA3⟩:=ih (d++[c]) (J++[.cells .plain c.cs,.cells .plain (bF p.aF c.a).cs,.cells .plain (bF p.aF c.a).cs,.cells .plain (aJ p kr bf ps mk c).cs]) K2 (xs++[aJ p kr bf ps mk c]) (dy p c) (bAt p.text c.a) (sizeOf p c.a) (mT mk c) tk' tk2' s' sp' e' c.a v2
    (by simp[hd]) c3 hL' (by simpa using hA2) (by simp[hxl]) (fun _=>⟨xs,_,rfl,rfl⟩) (oo hmk).1 (fun m hm=>hml m (zF hm)) (fun hne=>hmn fun h=>hne (by rw[h];unfold mT;split<;>rfl))
   refine⟨v3,H3,K3,y8,fr,?_,by simpa[cK] using hA3⟩;obtain⟨vt,vn,vtk,vnn,rfl⟩:=bK hA;rw[ae (L:=xR) rfl];unfold H10 at e3 ⊢;by_cases hz:(bF p.aF c.a).z=0
   · have hq:p.pr.size=sizeOf p c.a:=by simp[sizeOf,hz]
     by_cases q1:c.k=1
     · have k1:aY c.k=true:=by rw[q1];rfl
       by_cases k2:(bF p.aF c.a).e=1
       · have hk:dy p c=true:=by simp[dy,k1,k2]
         cases kr with
         | false=>
           have hE:bu p false bf ps c=0:=by simp[bu]
           simp[ab.dv,ab.cs,aJ,Clu.cs,Clu.dv,bn.cs,hz,hq,show aY 1=true from rfl,q1,k1,k2,hk,hE] at e2 e3 hK h56 ⊢;simp[eN,eE,ab.dv,ab.cs,aJ,Clu.cs,Clu.dv,bn.cs,h0,hg,hw,hb,h56,hK,h32,aC,aO,chunk,e2,e3,hz,hq,show aY 1=true from rfl,q1,k1,k2,hk,hE]
         | true=>
           obtain⟨ys,m0,rfl,rfl⟩:=hkr rfl
           obtain⟨rfl,rfl⟩:vn=6∧vnn=true:=by
            rcases hA with ⟨h,_⟩ | ⟨k,q,h,_⟩
            · simp at h
            · injection h with _ h2 _ h4;exact⟨h2,h4⟩
           simp only[abr,aaH,abD] at e2 hK h56;have hyl:IntKind.i64.wrap (ys.length:Int)=ys.length:=ay (by simp at hxl;omega);by_cases k3:m0.s=sizeOf p c.a
           · have hE:bu p true bf (sizeOf p c.a) c=fA bf (bAt p.text c.a) (sizeOf p c.a):=by simp[bu,k1,k2]
             simp[ab.dv,ab.cs,aJ,Clu.cs,Clu.dv,bn.cs,hz,hq,show aY 1=true from rfl,q1,k1,k2,hk,hE,k3,hyl] at e2 e3 hK h56 ⊢;simp[eN,eE,ab.dv,ab.cs,aJ,Clu.cs,Clu.dv,bn.cs,h0,hg,hw,hb,h56,hK,h32,aC,aO,chunk,e2,e3,hz,hq,show aY 1=true from rfl,q1,k1,k2,hk,hE,k3,hyl]
           · have hE:bu p true bf m0.s c=0:=by simp[bu,k3]
             simp[ab.dv,ab.cs,aJ,Clu.cs,Clu.dv,bn.cs,hz,hq,show aY 1=true from rfl,q1,k1,k2,hk,hE,k3,hyl] at e2 e3 hK h56 ⊢;simp[eN,eE,ab.dv,ab.cs,aJ,Clu.cs,Clu.dv,bn.cs,h0,hg,hw,hb,h56,hK,h32,aC,aO,chunk,e2,e3,hz,hq,show aY 1=true from rfl,q1,k1,k2,hk,hE,k3,hyl]
       · have k2':((bF p.aF c.a).e==1)=false:=by simp[k2]
         have hE:bu p kr bf ps c=0:=by simp[bu,k2]
         have hk:dy p c=false:=by simp[dy,k2]
         simp[ab.dv,ab.cs,aJ,Clu.cs,Clu.dv,bn.cs,hz,hq,show aY 1=true from rfl,q1,k1,k2,k2',hk,hE] at e2 e3 hK h56 ⊢;simp[eN,eE,ab.dv,ab.cs,aJ,Clu.cs,Clu.dv,bn.cs,h0,hg,hw,hb,h56,hK,h32,aC,aO,chunk,e2,e3,hz,hq,show aY 1=true from rfl,q1,k1,k2,k2',hk,hE]
     by_cases q2:c.k=2
     · have k1:aY c.k=true:=by rw[q2];rfl
       by_cases k2:(bF p.aF c.a).e=1
       · have hk:dy p c=true:=by simp[dy,k1,k2]
         cases kr with
         | false=>
           have hE:bu p false bf ps c=0:=by simp[bu]
           simp[ab.dv,ab.cs,aJ,Clu.cs,Clu.dv,bn.cs,hz,hq,show aY 2=true from rfl,q2,k1,k2,hk,hE] at e2 e3 hK h56 ⊢;simp[eN,eE,ab.dv,ab.cs,aJ,Clu.cs,Clu.dv,bn.cs,h0,hg,hw,hb,h56,hK,h32,aC,aO,chunk,e2,e3,hz,hq,show aY 2=true from rfl,q2,k1,k2,hk,hE]
         | true=>
           obtain⟨ys,m0,rfl,rfl⟩:=hkr rfl
           obtain⟨rfl,rfl⟩:vn=6∧vnn=true:=by
            rcases hA with ⟨h,_⟩ | ⟨k,q,h,_⟩
            · simp at h
            · injection h with _ h2 _ h4;exact⟨h2,h4⟩
           simp only[abr,aaH,abD] at e2 hK h56;have hyl:IntKind.i64.wrap (ys.length:Int)=ys.length:=ay (by simp at hxl;omega);by_cases k3:m0.s=sizeOf p c.a
           · have hE:bu p true bf (sizeOf p c.a) c=fA bf (bAt p.text c.a) (sizeOf p c.a):=by simp[bu,k1,k2]
             simp[ab.dv,ab.cs,aJ,Clu.cs,Clu.dv,bn.cs,hz,hq,show aY 2=true from rfl,q2,k1,k2,hk,hE,k3,hyl] at e2 e3 hK h56 ⊢;simp[eN,eE,ab.dv,ab.cs,aJ,Clu.cs,Clu.dv,bn.cs,h0,hg,hw,hb,h56,hK,h32,aC,aO,chunk,e2,e3,hz,hq,show aY 2=true from rfl,q2,k1,k2,hk,hE,k3,hyl]
           · have hE:bu p true bf m0.s c=0:=by simp[bu,k3]
             simp[ab.dv,ab.cs,aJ,Clu.cs,Clu.dv,bn.cs,hz,hq,show aY 2=true from rfl,q2,k1,k2,hk,hE,k3,hyl] at e2 e3 hK h56 ⊢;simp[eN,eE,ab.dv,ab.cs,aJ,Clu.cs,Clu.dv,bn.cs,h0,hg,hw,hb,h56,hK,h32,aC,aO,chunk,e2,e3,hz,hq,show aY 2=true from rfl,q2,k1,k2,hk,hE,k3,hyl]
       · have k2':((bF p.aF c.a).e==1)=false:=by simp[k2]
         have hE:bu p kr bf ps c=0:=by simp[bu,k2]
         have hk:dy p c=false:=by simp[dy,k2]
         simp[ab.dv,ab.cs,aJ,Clu.cs,Clu.dv,bn.cs,hz,hq,show aY 2=true from rfl,q2,k1,k2,k2',hk,hE] at e2 e3 hK h56 ⊢;simp[eN,eE,ab.dv,ab.cs,aJ,Clu.cs,Clu.dv,bn.cs,h0,hg,hw,hb,h56,hK,h32,aC,aO,chunk,e2,e3,hz,hq,show aY 2=true from rfl,q2,k1,k2,k2',hk,hE]
     have k1':aY c.k=false:=by simp[aY,q1,q2]
     have hE:bu p kr bf ps c=0:=by simp[bu,k1']
     have hk:dy p c=false:=by simp[dy,k1']
     simp[ab.dv,ab.cs,aJ,Clu.cs,Clu.dv,bn.cs,hz,hq,q1,q2,k1',hk,hE,show (c.k==2)=false by simp[q2]] at e2 e3 hK h56 ⊢;simp[eN,eE,ab.dv,ab.cs,aJ,Clu.cs,Clu.dv,bn.cs,h0,hg,hw,hb,h56,hK,h32,aC,aO,chunk,e2,e3,hz,hq,q1,q2,k1',hk,hE,show (c.k==2)=false by simp[q2]]
   · have hq:(bF p.aF c.a).z=sizeOf p c.a:=by simp[sizeOf,hz]
     have hz':¬ sizeOf p c.a=0:=by omega
     by_cases q1:c.k=1
     · have k1:aY c.k=true:=by rw[q1];rfl
       by_cases k2:(bF p.aF c.a).e=1
       · have hk:dy p c=true:=by simp[dy,k1,k2]
         cases kr with
         | false=>
           have hE:bu p false bf ps c=0:=by simp[bu]
           simp[ab.dv,ab.cs,aJ,Clu.cs,Clu.dv,bn.cs,hz',hq,show aY 1=true from rfl,q1,k1,k2,hk,hE] at e2 e3 hK h56 ⊢;simp[eN,eE,ab.dv,ab.cs,aJ,Clu.cs,Clu.dv,bn.cs,h0,hg,hw,hb,h56,hK,h32,aC,aO,chunk,e2,e3,hz',hq,show aY 1=true from rfl,q1,k1,k2,hk,hE]
         | true=>
           obtain⟨ys,m0,rfl,rfl⟩:=hkr rfl
           obtain⟨rfl,rfl⟩:vn=6∧vnn=true:=by
            rcases hA with ⟨h,_⟩ | ⟨k,q,h,_⟩
            · simp at h
            · injection h with _ h2 _ h4;exact⟨h2,h4⟩
           simp only[abr,aaH,abD] at e2 hK h56;have hyl:IntKind.i64.wrap (ys.length:Int)=ys.length:=ay (by simp at hxl;omega);by_cases k3:m0.s=sizeOf p c.a
           · have hE:bu p true bf (sizeOf p c.a) c=fA bf (bAt p.text c.a) (sizeOf p c.a):=by simp[bu,k1,k2]
             simp[ab.dv,ab.cs,aJ,Clu.cs,Clu.dv,bn.cs,hz',hq,show aY 1=true from rfl,q1,k1,k2,hk,hE,k3,hyl] at e2 e3 hK h56 ⊢;simp[eN,eE,ab.dv,ab.cs,aJ,Clu.cs,Clu.dv,bn.cs,h0,hg,hw,hb,h56,hK,h32,aC,aO,chunk,e2,e3,hz',hq,show aY 1=true from rfl,q1,k1,k2,hk,hE,k3,hyl]
           · have hE:bu p true bf m0.s c=0:=by simp[bu,k3]
             simp[ab.dv,ab.cs,aJ,Clu.cs,Clu.dv,bn.cs,hz',hq,show aY 1=true from rfl,q1,k1,k2,hk,hE,k3,hyl] at e2 e3 hK h56 ⊢;simp[eN,eE,ab.dv,ab.cs,aJ,Clu.cs,Clu.dv,bn.cs,h0,hg,hw,hb,h56,hK,h32,aC,aO,chunk,e2,e3,hz',hq,show aY 1=true from rfl,q1,k1,k2,hk,hE,k3,hyl]
       · have k2':((bF p.aF c.a).e==1)=false:=by simp[k2]
         have hE:bu p kr bf ps c=0:=by simp[bu,k2]
         have hk:dy p c=false:=by simp[dy,k2]
         simp[ab.dv,ab.cs,aJ,Clu.cs,Clu.dv,bn.cs,hz',hq,show aY 1=true from rfl,q1,k1,k2,k2',hk,hE] at e2 e3 hK h56 ⊢;simp[eN,eE,ab.dv,ab.cs,aJ,Clu.cs,Clu.dv,bn.cs,h0,hg,hw,hb,h56,hK,h32,aC,aO,chunk,e2,e3,hz',hq,show aY 1=true from rfl,q1,k1,k2,k2',hk,hE]
     by_cases q2:c.k=2
     · have k1:aY c.k=true:=by rw[q2];rfl
       by_cases k2:(bF p.aF c.a).e=1
       · have hk:dy p c=true:=by simp[dy,k1,k2]
         cases kr with
         | false=>
           have hE:bu p false bf ps c=0:=by simp[bu]
           simp[ab.dv,ab.cs,aJ,Clu.cs,Clu.dv,bn.cs,hz',hq,show aY 2=true from rfl,q2,k1,k2,hk,hE] at e2 e3 hK h56 ⊢;simp[eN,eE,ab.dv,ab.cs,aJ,Clu.cs,Clu.dv,bn.cs,h0,hg,hw,hb,h56,hK,h32,aC,aO,chunk,e2,e3,hz',hq,show aY 2=true from rfl,q2,k1,k2,hk,hE]
         | true=>
           obtain⟨ys,m0,rfl,rfl⟩:=hkr rfl
           obtain⟨rfl,rfl⟩:vn=6∧vnn=true:=by
            rcases hA with ⟨h,_⟩ | ⟨k,q,h,_⟩
            · simp at h
            · injection h with _ h2 _ h4;exact⟨h2,h4⟩
           simp only[abr,aaH,abD] at e2 hK h56;have hyl:IntKind.i64.wrap (ys.length:Int)=ys.length:=ay (by simp at hxl;omega);by_cases k3:m0.s=sizeOf p c.a
           · have hE:bu p true bf (sizeOf p c.a) c=fA bf (bAt p.text c.a) (sizeOf p c.a):=by simp[bu,k1,k2]
             simp[ab.dv,ab.cs,aJ,Clu.cs,Clu.dv,bn.cs,hz',hq,show aY 2=true from rfl,q2,k1,k2,hk,hE,k3,hyl] at e2 e3 hK h56 ⊢;simp[eN,eE,ab.dv,ab.cs,aJ,Clu.cs,Clu.dv,bn.cs,h0,hg,hw,hb,h56,hK,h32,aC,aO,chunk,e2,e3,hz',hq,show aY 2=true from rfl,q2,k1,k2,hk,hE,k3,hyl]
           · have hE:bu p true bf m0.s c=0:=by simp[bu,k3]
             simp[ab.dv,ab.cs,aJ,Clu.cs,Clu.dv,bn.cs,hz',hq,show aY 2=true from rfl,q2,k1,k2,hk,hE,k3,hyl] at e2 e3 hK h56 ⊢;simp[eN,eE,ab.dv,ab.cs,aJ,Clu.cs,Clu.dv,bn.cs,h0,hg,hw,hb,h56,hK,h32,aC,aO,chunk,e2,e3,hz',hq,show aY 2=true from rfl,q2,k1,k2,hk,hE,k3,hyl]
       · have k2':((bF p.aF c.a).e==1)=false:=by simp[k2]
         have hE:bu p kr bf ps c=0:=by simp[bu,k2]
         have hk:dy p c=false:=by simp[dy,k2]
         simp[ab.dv,ab.cs,aJ,Clu.cs,Clu.dv,bn.cs,hz',hq,show aY 2=true from rfl,q2,k1,k2,k2',hk,hE] at e2 e3 hK h56 ⊢;simp[eN,eE,ab.dv,ab.cs,aJ,Clu.cs,Clu.dv,bn.cs,h0,hg,hw,hb,h56,hK,h32,aC,aO,chunk,e2,e3,hz',hq,show aY 2=true from rfl,q2,k1,k2,k2',hk,hE]
     have k1':aY c.k=false:=by simp[aY,q1,q2]
     have hE:bu p kr bf ps c=0:=by simp[bu,k1']
     have hk:dy p c=false:=by simp[dy,k1']
     simp[ab.dv,ab.cs,aJ,Clu.cs,Clu.dv,bn.cs,hz',hq,q1,q2,k1',hk,hE,show (c.k==2)=false by simp[q2]] at e2 e3 hK h56 ⊢;simp[eN,eE,ab.dv,ab.cs,aJ,Clu.cs,Clu.dv,bn.cs,h0,hg,hw,hb,h56,hK,h32,aC,aO,chunk,e2,e3,hz',hq,q1,q2,k1',hk,hE,show (c.k==2)=false by simp[q2]]
theorem dk {p:aI} (h:aE p=0):bY p.text=0∧¬ (3:UInt8)∈p.text∧cN p.text.length p.aF=true∧cF p.pr=true∧dm p.label 16=true∧p.marks.length=p.text.count 2∧∀ m∈p.marks,dW m=true:=by
 unfold aE at h;by_cases h1:bY p.text=0
 · rw[if_pos h1] at h;by_cases h2:(3:UInt8)∈p.text
   · rw[if_pos h2] at h;simp at h
   rw[if_neg h2] at h;by_cases h3:(cN p.text.length p.aF&&cF p.pr&&dm p.label 16&&decide (p.marks.length=p.text.count 2))=true
   · rw[if_pos h3] at h;simp only[aac,decide_eq_true_eq] at h3;by_cases h4:p.marks.all dW=true
     · exact⟨h1,h2,h3.1.1.1,h3.1.1.2,h3.1.2,h3.2,aae.1 h4⟩
     · rw[if_neg h4] at h;simp at h
   · rw[if_neg h3] at h;simp at h
 · rw[if_neg h1] at h;exact absurd h h1
theorem iI (s:List UInt8):∀ (n i:Nat),C6 s i (b8 s n i)∧(b8 s n i).length≤n
 | 0,i=>⟨trivial,aai _⟩
 | n+1,i=>by
   unfold b8;split
   · rename_i h;have ih:=iI s n (cTo s i);have h1:i≤cTo s i:=by have:=(kS s (eJ s i) 2 (i+1)).1;unfold cTo;omega
     refine⟨⟨aai _,h,?_⟩,by simp;exact ih.2⟩
     revert ih
     cases b8 s n (cTo s i) with
     | nil=>intro _;trivial
     | cons c r=>intro ih;exact⟨abl h1 ih.1.1,ih.1.2⟩
   · exact⟨trivial,by simp⟩
theorem kd7:((List.range 256).all fun c=>(kd c==7)==(c==2))=true:=by decide +kernel
theorem Hs (c:UInt8):kd c.toNat=7↔c=2:=by
 have:=aae.1 kd7 c.toNat (abF.2 c.toNat_lt);rw[beq_iff_eq,aaQ,beq_iff_eq,beq_iff_eq] at this;rw[this];exact⟨fun h=>UInt8.toNat_inj.1 h,fun h=>by rw[h];rfl⟩
theorem uc (s:List UInt8) (k:Int):∀ n t,(s.drop (adv s k n t)).count 2=(s.drop t).count 2
 | 0,t=>rfl
 | n+1,t=>by
   unfold adv;split
   · rename_i h;rw[uc s k n (t+1)];have h1:=List.drop_eq_getElem_cons h.2.1
     have h2:s[t]≠2:=by
      intro e;have h3:=h.2.2;simp[h.2.1,e] at h3;exact absurd h3 (by decide)
     rw[h1,List.count_cons];simp[h2]
   · rfl
theorem mR (s:List UInt8):∀ (n i:Nat),s.length≤i+n→sZ (b8 s n i)=(s.drop i).count 2
 | 0,i,h=>by
   have:s.drop i=[]:=aa8 (by omega);simp[b8,sZ,this]
 | n+1,i,h=>by
   unfold b8;split
   · rename_i hi;have h1:i+1≤cTo s i:=(kS s (eJ s i) 2 (i+1)).1;have ih:=mR s n (cTo s i) (by omega);have h2:=List.drop_eq_getElem_cons hi;unfold sZ at ih ⊢;rw[h2,List.count_cons];have h3:(s.drop (cTo s i)).count 2=(s.drop (i+1)).count 2:=uc s _ 2 (i+1);rw[← h3,← ih]
     have h4:eJ s i=7↔s[i]=2:=by
      have:=Hs s[i];simp only[eJ];rw[show s.getD i 0=s[i] by simp[hi]];exact this
     by_cases h5:s[i]=2
     · simp[h4.2 h5,h5]
     · have h6:¬ eJ s i=7:=fun h=>h5 (h4.1 h);simp[h6,h5]
   · rename_i hi;have:s.drop i=[]:=aa8 (by omega);simp[sZ,this]
def ak (p:aI):List ab:=if aE p=0 then mY p else []
def Ho (p:aI) (v:DV):Prop:=∃ w:LW,v=.tuple [.list w.t w.n w.tk w.nn ((ak p).map ab.dv),.int .i64 (aE p)]∧w.ok 6 (ak p)
theorem qT {p:aI} {v:DV} (t n':Nat) (tk:Tk) (nn:Bool) (h:v=.tuple [.list t n' tk nn ((ak p).map ab.dv),.int .i64 (aE p)]) (h2:nn=true→n'=6) (h3:nn=false→(ak p).map ab.dv=[]):Ho p v:=
 ⟨⟨t,n',tk,nn⟩,h,h2,fun e=>by simpa using h3 e⟩
theorem yg (p:aI) (hp:p.small) (w u:LW) (hw:w.ok 4 p.aF) (hu:u.ok 1 p.marks) (st:St) :
 ∃ v fr H K,(E tab).C f10.body (bS [.agg (af p w u)] 0) (pst st [] [])=some (.ret,(2,v)::(3,.int .i64 (aE p))::fr,pst st H K)∧Acc st K 6 ((ak p).map ab.dv) v:=by
 have h13:=fun st=>wz p hp w u hw hu st;by_cases hc:aE p=0
 · obtain⟨h1,h2,h3,h4,h5,h6,h7⟩:=dk hc;obtain⟨hlen,_⟩:=b6 h1;obtain⟨hS,hsum⟩:=iE p.aF p.text.length 0 (by simpa[cN] using h3);obtain⟨v27,e27,t,n',tk,nn,rfl,hn1,hn2⟩:=BD p.text (pst st [.cells .plain (af p w u)] []);simp only[h1,if_true] at e27 hn2;have h29:=KK (.cells .plain (af p w u)) w p.aF hw st [];by_cases he:p.text=[]
   · have hcl:cw p.text=[]:=by rw[he];rfl
     have hml:ak p=[]:=by simp[ak,mY,hcl,cK]
     rw[hcl] at e27;refine⟨iy,[],[.cells .plain (af p w u),.cells .plain [.list w.t w.n w.tk w.nn (p.aF.map Span.dv)],.cells .plain [.int .i64 (sf p.aF)]],[],?_,by rw[hml];exact dU _ _ _ _ _ _⟩;simp at e27;simp[f10,h13,hc,e27,h29,ae (L:=xR) rfl,eN]
   · have hne:p.aF≠[]:=by
      intro h;rw[h] at hsum;have:0<p.text.length:=aaR.2 he;simp[gh] at hsum;omega
     match hps:p.aF,hne with
     | s::sp,_=>
       obtain⟨hw4,hwt⟩:w.n=4∧w.nn=true:=by
        have:=hw.n (by rw[hps];simp);refine⟨this,?_⟩
        cases e:w.nn with
        | true=>rfl
        | false=>have:=hw.2 e;rw[hps] at this;cases this
       have hcs:=iI p.text p.text.length 0;have hL:Kr p.aF (0:Nat) 0 s sp:=⟨by rw[← hps];exact hS,by simp,by simp,by rw[hps];omega,fun j _=>by rw[hps]⟩
       obtain⟨v',H',K',y8,fr,e10,hA⟩:=S9 p w u h4 hS (by omega) hlen (cw p.text) (by have:=hcs.2;unfold cw;omega) t n' tk nn (fun h=>hn1 (by cases nn with | true=>rfl | false=>exact absurd (hn2 rfl) h)) st
        (cw p.text) [] [] [] [] false 0 0 p.marks u.tk w.tk s sp 0 0 iy rfl hcs.1 hL (dU _ _ _ _ _ _) rfl (by simp) (by rw[h6,show sZ (cw p.text)=_ from mR p.text p.text.length 0 (by omega)];simp)
        (fun m hm=>by have:=h7 m hm;simp[dW,dm] at this;omega) (fun h=>⟨hu.n h,by cases e:u.nn with | true=>rfl | false=>exact absurd (hu.2 e) h⟩)
       have hml:ak p=cK p false 0 0 p.marks (cw p.text):=by simp[ak,hc,mY]
       refine⟨v',[],H',K',?_,by rw[hml];simpa using hA⟩;simp[H10,hw4,hwt] at e10;simp[hps,hw4,hwt,sf] at h29;simp[f10,h13,hc,e27,hps,hw4,hwt,h29,e10]
 · have hml:ak p=[]:=by simp[ak,hc]
   refine⟨iy,[],[.cells .plain (af p w u)],[],?_,by rw[hml];exact dU _ _ _ _ _ _⟩;simp[f10,h13,hc]
theorem ra (p:aI) (hp:p.small) (w u:LW) (hw:w.ok 4 p.aF) (hu:u.ok 1 p.marks) (st:St):∃ v,(E tab).F 10 [.agg (af p w u)] st=some (v,st)∧Ho p v:=by
 obtain⟨v,fr,H,K,h1,h2⟩:=yg p hp w u hw hu st;obtain⟨t9,n9,tk9,nn9,e9,g2,g3,g4⟩:=mZ (st':=pst st H K) h2;obtain⟨t8,n8,tk8,nn8,rfl⟩:=bK h2;refine⟨.tuple [.list t9 n9 tk9 nn9 ((ak p).map ab.dv),.int .i64 (aE p)],?_,qT t9 n9 tk9 nn9 rfl g3 g2⟩;rw[aK Wq rfl,h1];simp at e9;simp[f10,e9]
theorem ib:aw tab 34=true:=by kernel_rfl
def Lh (s:List UInt8) (l:List Clu):Prop:=∀ c∈l,c.a<s.length
theorem qX {s:List UInt8}:∀ {l:List Clu} {i:Nat},C6 s i l→Lh s l
 | [],_,_=>fun c h=>by cases h
 | c::r,i,h=>fun x hx=>by
   rcases aas.1 hx with rfl|hx
   · exact h.2.1
   · exact qX h.2.2 x hx
set_option maxHeartbeats 8000000 in
theorem Tp (p:aI) (w u:LW) (hw4:w.ok 4 p.aF) (hu1:u.ok 1 p.marks) (hpr:cF p.pr=true) (hSp:km p.aF) (hsum:gh p.aF≤4096) (hml:∀ m∈p.marks,m.length≤4096) (hmc:p.marks.length≤4096) (cs:List Clu) (hcs:cs.length≤4096) (hci:Lh p.text cs) (ct cn:Nat) (ctk:Tk) (cnn:Bool) (hcn:cs≠[]→cn=3) (st:St) :
 ∀ (r d:List Clu) (J:List HO) (K:List Nat) (xs:List ab) (kr:Bool) (bf:UInt8) (ps:Int) (md mk:List (List UInt8)) (v:DV),
 cs=d++r→Acc st K 6 (xs.map ab.dv) v→xs.length=d.length→p.marks=md++mk→mk.length=sZ r→(d=[]→kr=false) →
 (∀ q,d.length=q+1→∃ c0 m,cs[q]? = some c0∧xs[q]? = some m∧m.s=ps∧kr=dy p c0∧bf=bAt p.text c0.a) →
 ∃ v' H' K' fr,(E tab).C BR [(1,.ptr st.heap.length 0),(5,.list ct cn ctk cnn (cs.map Clu.dv)),(7,v),(8,.int .i64 md.length),(9,.int .i64 d.length)] (pst st (.cells .plain (af p w u)::J) K) =
   some (.exit 0,(1,.ptr st.heap.length 0)::(5,.list ct cn ctk cnn (cs.map Clu.dv))::(7,v')::fr,pst st H' K')∧Acc st K' 6 ((xs++cK p kr bf ps mk r).map ab.dv) v':=by
 intro r
 induction r with
 | nil=>
   intro d J K xs kr bf ps md mk v hd hA _ _ _ _ _;refine⟨v,.cells .plain (af p w u)::J,K,[(8,.int .i64 md.length),(9,.int .i64 cs.length),(27,.bool false)],?_,by simpa[cK] using hA⟩;rw[ae (L:=BR) rfl];simp[jA,hd]
 | cons c r ih=>
   intro d J K xs kr bf ps md mk v hd hA hxl hmd hmk hk0 hpv;obtain rfl:cn=3:=hcn (by simp[hd]);have hc:c∈cs:=by simp[hd]
   have c2:=hci c hc;have h0:d.length<cs.length:=by simp[hd]
   have hw:IntKind.i64.wrap ((d.length:Int)+1)=((d++[c]).length:Nat):=by rw[ay (by omega)];simp
   have hg:cs[d.length]=c:=by simp[hd]
   have hsz:=ke p hpr hSp c.a;have hb:p.text[c.a]? = some (bAt p.text c.a):=lz c2;have h34:=fun st=>Nr p w u hw4 hSp hsum c.a st;have h35:=fun st=>Al p w u hw4 hSp hsum c.a st;have h36:=fun st=>Dw c.k st;have h37:=fun st=>gE (bAt p.text c.a) (sizeOf p c.a) st
   obtain⟨v2,K2,e2,hA2⟩:=cR (H:=.cells .plain (af p w u)::(J++[.cells .plain c.cs,.cells .plain (aJ p kr bf ps mk c).cs,.cells .plain (bF p.aF c.a).cs]))
    (t:=st.cur) (by_:=48) (ag:=true) (tk:=.tight) (ys:=[(aJ p kr bf ps mk c).dv]) hA (by omega) (by simp) (by simp[oA]) (by simp[aB];omega) (by simp[aB];omega)
   obtain⟨v3,H3,K3,fr,e3,hA3⟩:=ih (d++[c]) (J++[.cells .plain c.cs,.cells .plain (aJ p kr bf ps mk c).cs,.cells .plain (bF p.aF c.a).cs]) K2 (xs++[aJ p kr bf ps mk c]) (dy p c) (bAt p.text c.a) (sizeOf p c.a) (if c.k=7 then md++mk.take 1 else md) (mT mk c) v2
    (by simp[hd]) (by simpa using hA2) (by simp[hxl]) (by rw[hmd];unfold mT;split<;>simp;cases mk<;>simp) (oo hmk).1 (by simp) (fun q hq=>by
     simp at hq;subst hq
     refine⟨c,aJ p kr bf ps mk c,by simp[hd],by simp[← hxl],rfl,rfl,rfl⟩)
   refine⟨v3,H3,K3,fr,?_,by simpa[cK] using hA3⟩;obtain⟨vt,vn,vtk,vnn,rfl⟩:=bK hA;rw[ae (L:=BR) rfl];by_cases k1:aY c.k=true
   · have h7:¬ c.k=7:=by intro h;rw[h] at k1;cases k1
     have hW:fT p mk c=IntKind.i64.wrap (wd (bAt p.text c.a) (sizeOf p c.a)+(bF p.aF c.a).t):=by simp[fT,k1]
     by_cases hd0:d=[]
     · subst hd0;obtain rfl:=hk0 rfl;have hE:bu p false bf ps c=0:=by simp[bu]
       simp at h0 hg hw;simp[ab.dv,ab.cs,aJ,Clu.cs,Clu.dv,bn.cs,k1,h7,hW,hE] at e2 e3 ⊢;simp[jA,aM,bM,bR,bQ,aR,ib,ab.dv,ab.cs,aJ,Clu.cs,Clu.dv,bn.cs,h0,hg,hw,hb,h34,h35,h36,h37,aC,aO,chunk,e2,e3,k1,h7,hW,hE]
     · skip
       obtain⟨q,hq⟩:∃ q,d.length=q+1:=⟨d.length-1,by have:=aaR.2 hd0;omega⟩;obtain⟨c0,m0,g1,g2,rfl,rfl,rfl⟩:=hpv q hq;have q1:q<cs.length:=by omega
       have q2:cs[q]=c0:=by rw[aaa q1] at g1;exact aab.inj g1
       have q3:q<xs.length:=by omega
       have q4:xs[q]=m0:=by rw[aaa q3] at g2;exact aab.inj g2
       have q5:IntKind.i64.wrap ((d.length:Int)-1)=(q:Int):=by rw[ay (by omega)];omega
       have q6:0<d.length:=by omega
       obtain⟨rfl,rfl⟩:vn=6∧vnn=true:=by
        rcases hA with ⟨h,_⟩ | ⟨k,z,h,_⟩
        · rw[abq] at h;rw[h] at q3;simp at q3
        · injection h with _ h2 _ h4;exact⟨h2,h4⟩
       have h36b:=fun st=>Dw c0.k st;have h35b:=fun st=>Al p w u hw4 hSp hsum c0.a st;have h39:=fun st=>Gz (bAt p.text c0.a) (bAt p.text c.a) (sizeOf p c.a) ⟨hsz.1,hsz.2.1⟩ st;have hb0:p.text[c0.a]? = some (bAt p.text c0.a):=lz (hci c0 (by rw[← q2];exact aaN q1))
       cases k2:aY c0.k with
       | false=>
         have hE:bu p (dy p c0) (bAt p.text c0.a) m0.s c=0:=by simp[bu,dy,k2]
         simp[ab.dv,ab.cs,aJ,Clu.cs,Clu.dv,bn.cs,k1,h7,hW,q1,q2,q3,q4,q5,q6,h36b,k2,hE] at e2 e3 ⊢;simp[jA,aM,bM,bR,bQ,aR,ib,ab.dv,ab.cs,aJ,Clu.cs,Clu.dv,bn.cs,h0,hg,hw,hb,h34,h35,h36,h37,aC,aO,chunk,e2,e3,k1,h7,hW,q1,q2,q3,q4,q5,q6,h36b,k2,hE]
       | true=>
         by_cases k3:(bF p.aF c.a).e=1
         · by_cases k4:(bF p.aF c0.a).e=1
           · have hk0':dy p c0=true:=by simp[dy,k2,k4]
             by_cases k5:m0.s=sizeOf p c.a
             · have hE:bu p (dy p c0) (bAt p.text c0.a) m0.s c=fA (bAt p.text c0.a) (bAt p.text c.a) (sizeOf p c.a):=by simp[bu,k1,k3,k5,hk0']
               simp only[aJ,hE] at e2 e3;simp[ab.dv,ab.cs,aJ,Clu.cs,Clu.dv,bn.cs,k1,h7,hW,q1,q2,q3,q4,q5,q6,h36b,k2,k3,k4,k5,h35b,h39,hb0] at e2 e3 ⊢;simp[jA,aM,bM,bR,bQ,aR,ib,ab.dv,ab.cs,aJ,Clu.cs,Clu.dv,bn.cs,h0,hg,hw,hb,h34,h35,h36,h37,aC,aO,chunk,e2,e3,k1,h7,hW,q1,q2,q3,q4,q5,q6,h36b,k2,k3,k4,k5,h35b,h39,hb0]
             · have hE:bu p (dy p c0) (bAt p.text c0.a) m0.s c=0:=by simp[bu,k5]
               simp[ab.dv,ab.cs,aJ,Clu.cs,Clu.dv,bn.cs,k1,h7,hW,q1,q2,q3,q4,q5,q6,h36b,k2,k3,k4,k5,h35b,hE] at e2 e3 ⊢;simp[jA,aM,bM,bR,bQ,aR,ib,ab.dv,ab.cs,aJ,Clu.cs,Clu.dv,bn.cs,h0,hg,hw,hb,h34,h35,h36,h37,aC,aO,chunk,e2,e3,k1,h7,hW,q1,q2,q3,q4,q5,q6,h36b,k2,k3,k4,k5,h35b,hE]
           · have hk0':dy p c0=false:=by simp[dy,k4]
             have hE:bu p (dy p c0) (bAt p.text c0.a) m0.s c=0:=by simp[bu,hk0']
             simp[ab.dv,ab.cs,aJ,Clu.cs,Clu.dv,bn.cs,k1,h7,hW,q1,q2,q3,q4,q5,q6,h36b,k2,k3,k4,h35b,hE] at e2 e3 ⊢;simp[jA,aM,bM,bR,bQ,aR,ib,ab.dv,ab.cs,aJ,Clu.cs,Clu.dv,bn.cs,h0,hg,hw,hb,h34,h35,h36,h37,aC,aO,chunk,e2,e3,k1,h7,hW,q1,q2,q3,q4,q5,q6,h36b,k2,k3,k4,h35b,hE]
         · have hE:bu p (dy p c0) (bAt p.text c0.a) m0.s c=0:=by simp[bu,k3]
           simp[ab.dv,ab.cs,aJ,Clu.cs,Clu.dv,bn.cs,k1,h7,hW,q1,q2,q3,q4,q5,q6,h36b,k2,k3,hE] at e2 e3 ⊢;simp[jA,aM,bM,bR,bQ,aR,ib,ab.dv,ab.cs,aJ,Clu.cs,Clu.dv,bn.cs,h0,hg,hw,hb,h34,h35,h36,h37,aC,aO,chunk,e2,e3,k1,h7,hW,q1,q2,q3,q4,q5,q6,h36b,k2,k3,hE]
   · have k1:aY c.k=false:=by simpa using k1
     by_cases k3:c.k=3
     · have hW:fT p mk c=IntKind.i64.wrap (wd (bAt p.text c.a) (sizeOf p c.a)+(bF p.aF c.a).t):=by simp[fT,k3]
       have h36:=fun st=>Dw 3 st;have hE:bu p kr bf ps c=0:=by simp[bu,k1]
       have hk:dy p c=false:=by simp[dy,k1]
       by_cases hd0:d=[]
       · subst hd0;simp at h0 hg hw;simp[ab.dv,ab.cs,aJ,Clu.cs,Clu.dv,bn.cs,k3,hW,show aY 3=false from rfl,k1,hE,hk] at e2 e3 ⊢;simp[jA,aM,bM,bR,bQ,aR,ib,ab.dv,ab.cs,aJ,Clu.cs,Clu.dv,bn.cs,h0,hg,hw,hb,h34,h35,h36,h37,aC,aO,chunk,e2,e3,k3,hW,show aY 3=false from rfl,k1,hE,hk]
       · have q6:0<d.length:=aaR.2 hd0;simp[ab.dv,ab.cs,aJ,Clu.cs,Clu.dv,bn.cs,k3,hW,show aY 3=false from rfl,k1,hE,hk,q6] at e2 e3 ⊢;simp[jA,aM,bM,bR,bQ,aR,ib,ab.dv,ab.cs,aJ,Clu.cs,Clu.dv,bn.cs,h0,hg,hw,hb,h34,h35,h36,h37,aC,aO,chunk,e2,e3,k3,hW,show aY 3=false from rfl,k1,hE,hk,q6]
     by_cases k7:c.k=7
     · have hne:=(oo hmk).2 k7
       match mk,hne with
       | m::ms,_=>
         have hW:fT p (m::ms) c=tw (sizeOf p c.a) 0 m:=by simp[fT,k1,k7,show aY 7=false from rfl]
         have hmm:m∈p.marks:=by rw[hmd];simp
         have h38:=fun st=>tI m (hml m hmm) (sizeOf p c.a) st;have p1:md.length<p.marks.length:=by rw[hmd];simp
         have p2:p.marks[md.length]=m:=by simp[hmd]
         have p3:IntKind.i64.wrap ((md.length:Int)+1)=(md.length:Int)+1:=ay (by omega);have hu1':=hu1.n (fun h=>by rw[h] at hmm;cases hmm);have h36:=fun st=>Dw 7 st;have hE:bu p kr bf ps c=0:=by simp[bu,k1]
         have hk:dy p c=false:=by simp[dy,k1]
         by_cases hd0:d=[]
         · subst hd0;simp at h0 hg hw;simp[ab.dv,ab.cs,aJ,Clu.cs,Clu.dv,bn.cs,k7,hW,h38,p1,p2,p3,hu1',show aY 7=false from rfl,k1,hE,hk] at e2 e3 ⊢;simp[jA,aM,bM,bR,bQ,aR,ib,ab.dv,ab.cs,aJ,Clu.cs,Clu.dv,bn.cs,h0,hg,hw,hb,h34,h35,h36,h37,aC,aO,chunk,e2,e3,k7,hW,h38,p1,p2,p3,hu1',show aY 7=false from rfl,k1,hE,hk]
         · have q6:0<d.length:=aaR.2 hd0;simp[ab.dv,ab.cs,aJ,Clu.cs,Clu.dv,bn.cs,k7,hW,h38,p1,p2,p3,hu1',show aY 7=false from rfl,k1,hE,hk,q6] at e2 e3 ⊢;simp[jA,aM,bM,bR,bQ,aR,ib,ab.dv,ab.cs,aJ,Clu.cs,Clu.dv,bn.cs,h0,hg,hw,hb,h34,h35,h36,h37,aC,aO,chunk,e2,e3,k7,hW,h38,p1,p2,p3,hu1',show aY 7=false from rfl,k1,hE,hk,q6]
     · have hW:fT p mk c=0:=by simp[fT,k1,k3,k7]
       have hE:bu p kr bf ps c=0:=by simp[bu,k1]
       have hk:dy p c=false:=by simp[dy,k1]
       by_cases hd0:d=[]
       · subst hd0;simp at h0 hg hw;simp[ab.dv,ab.cs,aJ,Clu.cs,Clu.dv,bn.cs,k3,k7,hW,k1,hE,hk] at e2 e3 ⊢;simp[jA,aM,bM,bR,bQ,aR,ib,ab.dv,ab.cs,aJ,Clu.cs,Clu.dv,bn.cs,h0,hg,hw,hb,h34,h35,h36,h37,aC,aO,chunk,e2,e3,k3,k7,hW,k1,hE,hk]
       · have q6:0<d.length:=aaR.2 hd0;simp[ab.dv,ab.cs,aJ,Clu.cs,Clu.dv,bn.cs,k3,k7,hW,k1,hE,hk,q6] at e2 e3 ⊢;simp[jA,aM,bM,bR,bQ,aR,ib,ab.dv,ab.cs,aJ,Clu.cs,Clu.dv,bn.cs,h0,hg,hw,hb,h34,h35,h36,h37,aC,aO,chunk,e2,e3,k3,k7,hW,k1,hE,hk,q6]
theorem s7 (p:aI) (hp:p.small) (w u:LW) (hw:w.ok 4 p.aF) (hu:u.ok 1 p.marks) (st:St):∃ v,(E tab).F 11 [.agg (af p w u)] st=some (v,st)∧Ho p v:=by
 rw[aK WZ rfl];have h14:=fun st=>qK p hp w u hw hu st;by_cases hc:aE p=0
 · obtain⟨h1,h2,h3,h4,h5,h6,h7⟩:=dk hc;obtain⟨hlen,_⟩:=b6 h1;obtain⟨hS,hsum⟩:=iE p.aF p.text.length 0 (by simpa[cN] using h3);obtain⟨v33,e33,t,n',tk,nn,rfl,hn1,hn2⟩:=Ds p.text (pst st [.cells .plain (af p w u)] []);simp only[h1,if_true] at e33 hn2;have hcs:=iI p.text p.text.length 0;have hcnt:p.text.count 2≤p.text.length:=List.count_le_length
   obtain⟨v',H',K',fr,e11,hA⟩:=Tp p w u hw hu h4 hS (by omega) (fun m hm=>by have:=h7 m hm;simp[dW,dm] at this;omega) (by omega) (cw p.text) (by have:=hcs.2;unfold cw;omega) (qX hcs.1) t n' tk nn (fun h=>hn1 (by cases nn with | true=>rfl | false=>exact absurd (hn2 rfl) h)) st
    (cw p.text) [] [] [] [] false 0 0 [] p.marks iy rfl (dU _ _ _ _ _ _) rfl rfl (by rw[h6,show sZ (cw p.text)=_ from mR p.text p.text.length 0 (by omega)];simp) (fun _=>rfl) (fun q hq=>by simp at hq)
   obtain⟨t9,n9,tk9,nn9,e9,g2,g3,g4⟩:=mZ (st':=pst st H' K') hA;obtain⟨t8,n8,tk8,nn8,rfl⟩:=bK hA;have hml:ak p=cK p false 0 0 p.marks (cw p.text):=by simp[ak,hc,mY]
   refine⟨.tuple [.list t9 n9 tk9 nn9 ((ak p).map ab.dv),.int .i64 0],?_,qT t9 n9 tk9 nn9 (by rw[hc]) g3 (by rw[hml];simpa using g2)⟩;rw[hml];simp at e11 e9;simp[f11,h14,hc,e33,e11,e9]
 · have hml:ak p=[]:=by simp[ak,hc]
   refine⟨.tuple [.list 0 0 .no false [],.int .i64 (aE p)],?_,qT 0 0 .no false (by simp[hml]) (by simp) (by simp[hml])⟩;simp[f11,h14,hc]
theorem C7 {α:Type} {f:α→DV}:∀ {xs:List DV},(∀ x∈xs,∃ a,x=f a)→∃ l:List α,xs=l.map f
 | [],_=>⟨[],rfl⟩
 | x::r,h=>by
   obtain⟨a,rfl⟩:=h x (aax ..);obtain⟨l,rfl⟩:=C7 fun y hy=>h y (aaC _ hy);exact⟨a::l,rfl⟩
theorem yx {α:Type} {f:α→DV} {P:α→Prop}:∀ {xs:List DV},(∀ x∈xs,∃ a,x=f a∧P a)→∃ l:List α,xs=l.map f∧∀ a∈l,P a
 | [],_=>⟨[],rfl,fun a h=>by cases h⟩
 | x::r,h=>by
   obtain⟨a,rfl,ha⟩:=h x (aax ..);obtain⟨l,rfl,hl⟩:=yx fun y hy=>h y (aaC _ hy);refine⟨a::l,rfl,fun b hb=>?_⟩;rcases aas.1 hb with rfl | hb
   · exact ha
   · exact hl b hb
def FC:List Sh:=[.int .i64,.int .i64,.int .i64,.int .i64]
theorem Hy {vs:List DV} (h:kZ FC vs):∃ s:Span,vs=s.cs:=by
 obtain⟨_,_,rfl,⟨a,rfl,_⟩,_,_,rfl,⟨b,rfl,_⟩,_,_,rfl,⟨c,rfl,_⟩,_,_,rfl,⟨d,rfl,_⟩,rfl⟩:=h;exact⟨⟨a,⟨b,c,d⟩⟩,rfl⟩
def FF:List Sh:=[.str,.list true 32 FC,.int .i64,.int .i64,.int .i64,.int .i64,.int .i64,.int .i64,.int .i64,.int .i64,.int .i64,.int .i64,.int .i64,.int .i64,.int .i64,.int .i64,.int .i64,.int .i64,.int .i64,.str,.list false 16 [.str]]
theorem IS {vs:List DV} (h:Fits FF vs):∃ (p:aI) (w u:LW),vs=af p w u∧p.small∧w.ok 4 p.aF∧u.ok 1 p.marks:=by
 obtain⟨_,_,rfl,⟨text,rfl,ht⟩,_,_,rfl,⟨nn,xs,rfl,hnn,_,hlen,hxs⟩,_,_,rfl,⟨size,rfl,_⟩,_,_,rfl,⟨qe,rfl,_⟩,_,_,rfl,⟨align,rfl,_⟩,_,_,rfl,⟨first,rfl,_⟩,_,_,rfl,⟨inn,rfl,_⟩,_,_,rfl,⟨out,rfl,_⟩,_,_,rfl,⟨before,rfl,_⟩,_,_,rfl,⟨after,rfl,_⟩,_,_,rfl,⟨next,rfl,_⟩,_,_,rfl,⟨whole,rfl,_⟩,_,_,rfl,⟨lA,rfl,_⟩,_,_,rfl,⟨qj,rfl,_⟩,_,_,rfl,⟨br,rfl,_⟩,_,_,rfl,⟨least,rfl,_⟩,_,_,rfl,⟨drop,rfl,_⟩,_,_,rfl,⟨list,rfl,_⟩,_,_,rfl,⟨level,rfl,_⟩,_,_,rfl,⟨label,rfl,hl⟩,_,_,rfl,⟨mm,ys,rfl,hmm,_,hmlen,hys⟩,rfl⟩:=h
 obtain⟨l,rfl⟩:∃ l:List Span,xs=l.map Span.dv:=C7 fun x hx=>by
  obtain⟨vs,h1,rfl⟩:=hxs x hx;obtain⟨m,rfl⟩:=Hy h1;exact⟨m,rfl⟩
 obtain⟨ms,rfl,hms⟩:∃ l:List (List UInt8),ys=l.map .str∧∀ m∈l,m.length≤reachBytes:=yx fun x hx=>by
  obtain⟨vs,h1,rfl⟩:=hys x hx;obtain⟨_,_,rfl,⟨m,rfl,hm⟩,rfl⟩:=h1;exact⟨m,rfl,hm⟩
 refine⟨⟨text,l,⟨size,qe,align,first,inn,out,before,after,next,whole,lA,qj,br,least,drop,list,level⟩,label,ms⟩,⟨0,4,.no,nn⟩,⟨0,1,.no,mm⟩,rfl,⟨?_,?_,?_⟩,⟨fun _=>rfl,fun e=>by simpa using hnn e⟩,⟨fun _=>rfl,fun e=>by simpa using hmm e⟩⟩
 · show label.length≤_;unfold reachBytes at hl;omega
 · show ms.length≤_;unfold reachBytes at hmlen;simp at hmlen;omega
 · intro m hm;have:=hms m hm;unfold reachBytes at this;omega
theorem em8:(emL.all fun e=>decide (e≤8))=true:=by decide +kernel
theorem Sa (c:Nat):0≤em c∧em c≤8:=by
 unfold em
 have:emL.getD c 0≤8:=by
  rw[aaf]
  cases h:emL[c]? with
  | none=>simp
  | some e=>
    have:=aae.1 em8 e (aat h);simpa using this
 constructor
 · exact Int.natCast_nonneg _
 · show ((emL.getD c 0:Nat):Int)≤8;omega
theorem jV (c:UInt8) {n:Int} (h1:1≤n) (h2:n≤64):0≤wd c n∧wd c n≤64∧wd c n=em c.toNat*n/8:=by
 have he:=Sa c.toNat;have h3:em c.toNat*n≤8*64:=Int.mul_le_mul he.2 h2 (by omega) (by omega);have h4:0≤em c.toNat*n:=Int.mul_nonneg he.1 (by omega);unfold wd;rw[ay (n:=em c.toNat*n) (by omega),IntWalk.i64_quo _ _ (by omega)];omega
theorem Lr {n:Int} (h1:1≤n) (h2:n≤64):∀ (s:List UInt8) (a:Int),0≤a→a+64*s.length≤1000000→a≤tw n a s∧tw n a s≤a+64*s.length
 | [],a,_,_=>by simp[tw]
 | c::r,a,h3,h4=>by
   have hw:=jV c h1 h2;simp only[aaJ] at h4;have e:IntKind.i64.wrap (a+wd c n)=a+wd c n:=ay (by omega);have:=Lr h1 h2 r (a+wd c n) (by omega) (by omega);rw[tw,e];simp only[aaJ];omega
theorem Jp (a b:UInt8) {n:Int} (h1:1≤n) (h2:n≤64):-8≤fA a b n∧fA a b n≤0:=by
 unfold fA;split
 · omega
 · split<;>omega
theorem EB (p:aI) (hpr:cF p.pr=true) (hSp:km p.aF) (kr:Bool) (bf:UInt8) (ps:Int) (mk:List (List UInt8)) (hm:∀ m∈mk,m.length≤8) (c:Clu):okM (aJ p kr bf ps mk c)=true:=by
 have hs:=ke p hpr hSp c.a
 have h1:0≤fT p mk c∧fT p mk c≤4095:=by
  unfold fT;split
  · have:=jV (bAt p.text c.a) hs.1 hs.2.1;rw[ay (by omega)];omega
  · split
    · have h8:(mk.headD []).length≤8:=by
       cases mk with
       | nil=>simp
       | cons m r=>exact hm m (aax ..)
      have:=Lr hs.1 hs.2.1 (mk.headD []) 0 (by omega) (by omega);omega
    · omega
 have h2:-64≤bu p kr bf ps c∧bu p kr bf ps c≤0:=by
  unfold bu;split
  · have:=Jp bf (bAt p.text c.a) hs.1 hs.2.1;omega
  · omega
 simp[okM,aJ,h1,h2]
theorem uq (p:aI) (hpr:cF p.pr=true) (hSp:km p.aF):∀ (l:List Clu) (kr:Bool) (bf:UInt8) (ps:Int) (mk:List (List UInt8)),(∀ m∈mk,m.length≤8)→(cK p kr bf ps mk l).all okM=true
 | [],_,_,_,_,_=>rfl
 | c::r,kr,bf,ps,mk,hm=>by
   simp only[cK,List.all_cons,aac];exact⟨EB p hpr hSp kr bf ps mk hm c,uq p hpr hSp r _ _ _ _ fun m h=>hm m (zF h)⟩
theorem F7 (p:aI):(ak p).all okM=true:=by
 unfold ak;split
 · rename_i hc;obtain⟨h1,h2,h3,h4,h5,h6,h7⟩:=dk hc;obtain⟨hS,hsum⟩:=iE p.aF p.text.length 0 (by simpa[cN] using h3);refine uq p h4 hS _ _ _ _ _ fun m hm=>?_;have:=h7 m hm;simp[dW,dm] at this;omega
 · rfl
theorem mV (p:aI):∀ (l:List Clu) (kr:Bool) (bf:UInt8) (ps:Int) (mk:List (List UInt8)),(cK p kr bf ps mk l).map (fun m=>(m.a,m.b,m.k))=l.map fun c=>((c.a:Int),(c.b:Int),c.k)
 | [],_,_,_,_=>rfl
 | c::r,kr,bf,ps,mk=>by
   simp only[cK,aaH,mV p r];rfl
theorem l6 (p:aI):(ak p).length≤4096:=by
 unfold ak;split
 · rename_i hc;have h1:=congrArg List.length (mV p (cw p.text) false 0 0 p.marks);simp at h1;have h2:=(iI p.text p.text.length 0).2;obtain⟨h3,_⟩:=dk hc;have:=(b6 h3).1;unfold mY;rw[h1];unfold cw;omega
 · simp
theorem KO {L:List ab} (hL:L.length≤4096) (hok:L.all okM=true) (x y:Nat) (hx:x≤y) (hy:y≤L.length):xw L x y=.tuple [.int .i64 (jd true 0 ((L.drop x).take (y-x))),.int .i64 0]:=by
 unfold xw;rw[if_neg (by omega),if_neg (by rw[hok];simp),if_pos (by omega)];simp
def Ac (st:St) (K:List Nat) (n:Nat) (xs:List DV) (v:DV):Option Nat→Prop
 | none=>xs=[]∧∃ t n' tk,v=.list t n' tk false []
 | some k=>∃ s,v=.list st.cur n (.own (st.bt.length+k) s) true xs∧K[k]? = some s
theorem Ac.acc {st:St} {K:List Nat} {n:Nat} {xs:List DV} {v:DV}:∀ {o:Option Nat},Ac st K n xs v o→Acc st K n xs v
 | none,h=>.inl h
 | some k,⟨s,h1,h2⟩=>.inr ⟨k,s,h1,h2⟩
theorem wE {st:St} {H:List HO} {K:List Nat} {n by_:Nat} {ag:Bool} {xs ys:List DV} {v w:DV} {o:Option Nat} (h:Ac st K n xs v o) (hw:Vw (pst st H K) n ag ys w) (hn:0<n) (hy:ys≠[]) (he:∀ y∈ys,dX n ag y)
 (hr:(xs.length+ys.length)*by_≤aB) (hr2:xs.length+ys.length≤aB) :
 ∃ v' K' k,aZ (pst st H K) n ag by_ v w=some (v',pst st H K')∧Ac st K' n (xs++ys) v' (some k)∧(o=some k∨o=none∧k=K.length)∧∀ j,j≠k→j<K.length→K'[j]? = K[j]?:=by
 have hcong:aZ (pst st H K) n ag by_ v w=aZ (pst st H K) n ag by_ v (.list 0 n .no true ys):=by
  have e1:=hw.news;have e2:bU (pst st H K) n (.list 0 n .no true ys)=some (ys.length,flat ys):=by simp[bU]
  unfold aZ;rw[e1,e2]
 rw[hcong]
 cases o with
 | none=>
   obtain⟨rfl,t,n',tk,rfl⟩:=h;exact⟨_,_,K.length,l8 (.inl rfl) hn hy he hr hr2,⟨0,rfl,by simp⟩,.inr ⟨rfl,rfl⟩,fun j _ hj=>aak hj⟩
 | some k=>
   obtain⟨s,rfl,hk⟩:=h;have hlt:=(aad.1 hk).1;exact⟨_,_,k,Ci hk hn hy he hr hr2,⟨s+1,rfl,by simp[hlt]⟩,.inl rfl,fun j hj _=>aam (fun e=>hj e.symm)⟩
theorem Ac.stay {st:St} {K K':List Nat} {n:Nat} {xs:List DV} {v:DV} {o:Option Nat} {k:Nat} (h:Ac st K n xs v o) (ho:o≠some k) (hk:∀ j,j≠k→j<K.length→K'[j]? = K[j]?):Ac st K' n xs v o:=by
 cases o with
 | none=>exact h
 | some j=>
   obtain⟨s,h1,h2⟩:=h;exact⟨s,h1,by rw[hk j (fun e=>ho (by rw[e])) (aad.1 h2).1];exact h2⟩
end Go.D.Tab
end
