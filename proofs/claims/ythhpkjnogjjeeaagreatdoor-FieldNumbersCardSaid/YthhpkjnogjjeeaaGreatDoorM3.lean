import Derived.Lib.LaidTab
import Derived.LaidMore
import Derived.Test.YthhpkjnogjjeeaaGreatDoorM2
/-! Texts 3 of this claim, joined. -/
set_option linter.unnecessarySimpa false
set_option linter.unusedSimpArgs false
set_option linter.unusedVariables false
open _root_.Array renaming getElem?_toList → abi
open _root_.Bool renaming and_eq_true → aab, eq_iff_iff → aaW, false_eq_true → aam
open _root_.Classical renaming byContradiction → abp
open _root_.Int renaming eq_ofNat_of_zero_le → aaM, ofNat → abh, tdiv_eq_ediv_of_nonneg → aa8
open _root_.List renaming all_eq_true → aaf, append_assoc → aas, append_nil → aaJ, cons_append → aaH, getD_eq_getElem?_getD → aak, getElem?_append_left → aaj, getElem?_append_right → aaq, getElem?_eq_getElem → aac, getElem?_eq_some_iff → aad, getElem?_map → abc, getElem?_set_ne → aax, getElem?_set_self → aa6, getElem_mem → aau, length_append → aah, length_cons → aaw, length_eq_zero_iff → aaY, length_map → aaU, length_nil → aaX, length_singleton → aan, mem_cons → aaA, mem_cons_of_mem → aao, mem_cons_self → aap, mem_map → aaQ, mem_of_getElem? → aaN, mem_of_mem_drop → aar, mem_of_mem_take → aaD, nil_append → aa5, not_mem_nil → abr, range → aal, take_of_length_le → aa0
open _root_.Nat renaming add_assoc → abo, le_refl → aai, le_trans → abk
open _root_.Option renaming map_some → abd, some → aaa
open _root_.UInt8 renaming ofNat → abj
section
namespace Go.D.Tab
structure It where
 k:Int
 f:Int
 t:Int
 w:Int
 s:Int
 h:Int
 c:Int
 y:Bool
def It.cs (x:It):List DV:=[.int .i64 x.k,.int .i64 x.f,.int .i64 x.t,.int .i64 x.w,.int .i64 x.s,.int .i64 x.h,.int .i64 x.c,.bool x.y]
def It.dv (x:It):DV:=.agg x.cs
theorem Ej (x:It):eG 8 true x.dv:=⟨rfl,rfl,rfl⟩
theorem mO {l:List It}:∀ y∈l.map It.dv,eG 8 true y:=fun y hy=>by obtain⟨x,_,rfl⟩:=aaQ.1 hy;exact Ej x
abbrev Its (st:St) (l:List It) (v:DV):Prop:=Vw st 8 true (l.map It.dv) v
section
variable {st:St} {l:List It} {v:DV}
theorem cw (h:Its st l v) (st':St):qJ st' .slice v=some (.int .i64 l.length,st'):=by simpa using Vw.len h st'
theorem dt (h:Its st l v) {i:Nat} (hi:i<l.length) (k:IntKind) (st':St):lj st' 8 v (.int k i)=some (elP 8 v i,st'):=Vw.bw h (by simpa using hi) k st'
theorem nc (h:Its st l v) {i:Nat} {x:It} (hx:l[i]? = some x) (H:List HO) (K:List Nat):cL (pst st H K) 8 true (elP 8 v i)=some x.dv:=Vw.load (Vw.inn h H K) mO rfl (by simp[hx])
theorem fk (h:Its st l v) {i:Nat} {x:It} (hx:l[i]? = some x) {off:Nat} (ho:off≤8) (st':St):lb st' off (elP 8 v i)=some (faP off (elP 8 v i),st'):=Vw.fh h mO (by simpa using(aad.1 hx).1) ho st'
theorem ry (h:Its st l v) {i:Nat} {x:It} (hx:l[i]? = some x) {off:Nat} {y:DV} (ho:x.cs[off]? = some y) (H:List HO) (K:List Nat):cL (pst st H K) 1 false (faP off (elP 8 v i))=some y:=Vw.K5 (x:=x.dv) (Vw.inn h H K) mO (by simp[hx]) ho
theorem ju (h:Its st l v) {i:Nat} {x:It} (hx:l[i]? = some x) (H:List HO) (K:List Nat):cL (pst st H K) 1 false (faP 0 (elP 8 v i))=some (.int .i64 x.k):=ry h hx rfl H K
theorem AT (h:Its st l v) {i:Nat} {x:It} (hx:l[i]? = some x) (H:List HO) (K:List Nat):cL (pst st H K) 1 false (faP 3 (elP 8 v i))=some (.int .i64 x.w):=ry h hx rfl H K
theorem Hy (h:Its st l v) {i:Nat} {x:It} (hx:l[i]? = some x) (H:List HO) (K:List Nat):cL (pst st H K) 1 false (faP 7 (elP 8 v i))=some (.bool x.y):=ry h hx rfl H K
end
theorem H5:tab 109=some (.code f109):=by kernel_rfl
theorem Ic:tab 120=some (.code f120):=by kernel_rfl
theorem Jp:tab 122=some (.code f122):=by kernel_rfl
theorem Iq:tab 110=some (.code f110):=by kernel_rfl
theorem JO:tab 121=some (.code f121):=by kernel_rfl
theorem IQ:tab 123=some (.code f123):=by kernel_rfl
def bn (n:Int):Bool:=decide (0≤n)&&decide (n≤4095)
theorem oK (n:Int) (st:St):(E tab).F 122 [.int .i64 n] st=some (.bool (bn n),st):=by
 rw[aK Jp rfl];by_cases h:0≤n
 · simp[f122,bn,h]
 · simp[f122,bn,h]
def xY (x:It):Bool:=decide (x.k<1)||decide (4<x.k)||decide (x.f<0)||decide (x.t<x.f)||decide (x.w<0)||decide (2097152<x.w) || !bn x.s || !bn x.h || !bn x.c
def nY (x:It):Bool:=(x.k != 3&&(x.y||x.c != 0))||(x.k != 2&&(x.s != 0||x.h != 0))||(x.k==4&&x.w != 0)
def kc (x:It):Bool:=xY x||nY x
theorem EP (x:It) (st:St):(E tab).F 120 [x.dv] st=some (.bool (kc x),st):=by
 rw[aK Ic rfl];have hw:=oK
 cases hA:xY x with
 | true=>
   have e:kc x=true:=by simp[kc,hA]
   rw[e];unfold xY at hA;by_cases h1:x.k<1
   · simp[f120,It.dv,It.cs,h1]
   by_cases h2:4<x.k
   · simp[f120,It.dv,It.cs,h1,h2]
   by_cases h3:x.f<0
   · simp[f120,It.dv,It.cs,h1,h2,h3]
   by_cases h4:x.t<x.f
   · simp[f120,It.dv,It.cs,h1,h2,h3,h4]
   by_cases h5:x.w<0
   · simp[f120,It.dv,It.cs,h1,h2,h3,h4,h5]
   by_cases h6:2097152<x.w
   · simp[f120,It.dv,It.cs,h1,h2,h3,h4,h5,h6]
   by_cases h7:bn x.s=false
   · simp[f120,It.dv,It.cs,h1,h2,h3,h4,h5,h6,hw,h7]
   by_cases h8:bn x.h=false
   · simp at h7;simp[f120,It.dv,It.cs,h1,h2,h3,h4,h5,h6,hw,h7,h8]
   by_cases h9:bn x.c=false
   · simp at h7 h8;simp[f120,It.dv,It.cs,h1,h2,h3,h4,h5,h6,hw,h7,h8,h9]
   · simp at h7 h8 h9;simp[h1,h2,h3,h4,h5,h6,h7,h8,h9] at hA
 | false=>
   have e:kc x=nY x:=by simp[kc,hA]
   rw[e];unfold xY at hA;simp only[Bool.or_eq_false_iff,decide_eq_false_iff_not,Bool.not_eq_false'] at hA;obtain⟨⟨⟨⟨⟨⟨⟨⟨h1,h2⟩,h3⟩,h4⟩,h5⟩,h6⟩,h7⟩,h8⟩,h9⟩:=hA;have w0:bn 0=true:=rfl;have c3:x.k=3∨x.k≠3:=Decidable.em _;have c2:x.k=2∨x.k≠2:=Decidable.em _;have c4:x.k=4∨x.k≠4:=Decidable.em _;have cc:x.c=0∨x.c≠0:=Decidable.em _;have cs:x.s=0∨x.s≠0:=Decidable.em _;rcases c3 with c3 | c3
   · rcases cs with cs|cs
     · by_cases ch:x.h=0<;>simp[f120,It.dv,It.cs,h1,h2,h3,h4,h5,h6,hw,h7,h8,h9,w0,nY,c3,cs,ch]
     · simp[f120,It.dv,It.cs,h1,h2,h3,h4,h5,h6,hw,h7,h8,h9,w0,nY,c3,cs]
   · cases hy:x.y with
     | true=>simp[f120,It.dv,It.cs,h1,h2,h3,h4,h5,h6,hw,h7,h8,h9,w0,nY,c3,hy]
     | false=>
       rcases cc with cc|cc
       · rcases c2 with c2|c2
         · simp[f120,It.dv,It.cs,h1,h2,h3,h4,h5,h6,hw,h7,h8,h9,w0,nY,c2,hy,cc]
         · rcases cs with cs|cs
           · by_cases ch:x.h=0
             · rcases c4 with c4|c4
               · simp[f120,It.dv,It.cs,h1,h2,h3,h4,h5,h6,hw,h7,h8,h9,w0,nY,c4,hy,cc,cs,ch]
               · simp[f120,It.dv,It.cs,h1,h2,h3,h4,h5,h6,hw,h7,h8,h9,w0,nY,c3,c2,c4,hy,cc,cs,ch]
             · simp[f120,It.dv,It.cs,h1,h2,h3,h4,h5,h6,hw,h7,h8,h9,w0,nY,c3,c2,hy,cc,cs,ch]
           · simp[f120,It.dv,It.cs,h1,h2,h3,h4,h5,h6,hw,h7,h8,h9,w0,nY,c3,c2,hy,cc,cs]
       · simp[f120,It.dv,It.cs,h1,h2,h3,h4,h5,h6,hw,h7,h8,h9,w0,nY,c3,hy,cc]
def bp (l:List It):Int:=if 8192<l.length then 3 else if l.any kc then 2 else 0
section
variable {st:St} {l:List It} {v:DV}
theorem F9 (hv:Its st l v) (hl:l.length≤8192) (K:List Nat):∀ (r d:List It) (H:List HO),l=d++r →
 ∃ J fr,(E tab).C m9 [(8,v),(9,.int .i64 l.length),(10,.int .i64 d.length)] (pst st H K) =
   some (if r.any kc then (.ret,[(2,.int .i64 2)],pst st (H++J) K) else (.exit 0,fr,pst st (H++J) K)):=by
 intro r
 induction r with
 | nil=>
   intro d H hd;refine⟨[],[(8,v),(9,.int .i64 l.length),(10,.int .i64 l.length),(11,.bool false)],?_⟩;rw[al (L:=m9) rfl];simp[qw,hd]
 | cons x r ih=>
   intro d H hd;have h0:d.length<l.length:=by simp[hd]
   have hx:l[d.length]? = some x:=by simp[hd]
   have hw1:IntKind.i64.wrap ((d.length:Int)+1)=((d++[x]).length:Nat):=by rw[aG (by omega)];simp
   have e1:=fun st'=>dt hv h0 .i64 st';have e2:=fun H K=>nc hv hx H K;have e3:=fun st=>EP x st;simp only[It.dv,It.cs] at e2 e3;rw[List.any_cons]
   cases ho:kc x with
   | true=>
     refine⟨[.cells .plain x.cs],[],?_⟩;rw[al (L:=m9) rfl];simp[qw,h0,e1,e2,e3,ho,It.cs]
   | false=>
     obtain⟨J,fr,hJ⟩:=ih (d++[x]) (H++[.cells .plain x.cs]) (by simp[hd]);refine⟨.cells .plain x.cs::J,fr,?_⟩;rw[Bool.false_or];generalize r.any kc=b at hJ ⊢;simp only[aah,aan] at hJ hw1;simp[It.cs] at hJ;rw[al (L:=m9) rfl];simp[qw,h0,e1,e2,e3,ho,It.cs,hw1,hJ]
theorem s7 (hv:Its st l v):(E tab).F 109 [v] st=some (.int .i64 (bp l),st):=by
 rw[aK H5 rfl];have e0:=fun st'=>cw hv st';by_cases h:8192<l.length
 · have h':(8192:Int)<l.length:=by omega
   simp[f109,e0,h,h',bp]
 · have h':¬ (8192:Int)<l.length:=by omega
   obtain⟨J,fr,hL⟩:=F9 hv (by omega) [] l [] [] rfl;have e:bp l=if l.any kc then 2 else 0:=by simp only[bp,if_neg h]
   rw[e];generalize l.any kc=b at hL ⊢;simp at hL;cases b<;>simp at hL<;>simp[f109,e0,h',hL]
def dj (l:List It) (a b:Int):Int:=if bp l=0∧(a<0∨b<a∨l.length<b) then 5 else bp l
theorem pg (hv:Its st l v) (a b:Int):(E tab).F 121 [v,.int .i64 a,.int .i64 b] st=some (.int .i64 (dj l a b),st):=by
 rw[aK JO rfl];have e0:=fun st'=>cw hv st';have e1:=s7 (hv.inn [] []);unfold dj;by_cases h:bp l=0
 · by_cases h1:a<0
   · simp[f121,e0,e1,h,h1]
   · by_cases h2:b<a
     · simp[f121,e0,e1,h,h1,h2]
     · by_cases h3:(l.length:Int)<b
       · simp[f121,e0,e1,h,h1,h2,h3]
       · simp[f121,e0,e1,h,h1,h2,h3]
 · simp[f121,e1,h]
def aS (l:List It) (a:Nat):Nat→Nat
 | 0=>0
 | b+1=>if a≤b∧(l[b]?.map (·.k))=some 2 then aS l a b else b+1
theorem kE (l:List It) (a:Nat):∀ b,aS l a b≤b
 | 0=>aai _
 | b+1=>by
   unfold aS;split
   · exact Nat.le_succ_of_le (kE l a b)
   · exact aai _
theorem tv (l:List It) (a:Nat):∀ b,a≤b→a≤aS l a b
 | 0,h=>by simp[aS];omega
 | b+1,h=>by
   unfold aS;split
   · rename_i hc;exact tv l a b hc.1
   · exact h
theorem F4 (hv:Its st l v) (a:Nat) (hl:l.length≤140737488355328) (H:List HO) (K:List Nat):∀ b,b≤l.length→a≤b →
 ∃ fr,(E tab).C k8 [(0,v),(1,.int .i64 a),(2,.int .i64 b)] (pst st H K)=some (.exit 0,[(0,v),(1,.int .i64 a),(2,.int .i64 (aS l a b:Nat))]++fr,pst st H K):=by
 intro b
 induction b with
 | zero=>
   intro hb ha;obtain rfl:a=0:=by omega
   refine⟨[(18,.bool false)],?_⟩;rw[al (L:=k8) rfl];simp[nA,aS]
 | succ b ih=>
   intro hb ha;by_cases hab:a≤b
   · have hw:IntKind.i64.wrap (((b+1:Nat):Int)-1)=b:=by rw[aG (by omega)];omega
     have hlt:(a:Int)<b+1:=by omega
     have hbl:b<l.length:=by omega
     have hx:l[b]? = some l[b]:=aac hbl;have e1:=fun st'=>dt hv hbl .i64 st';have e2:=fun st'=>fk hv hx (off:=0) (by omega) st';have e3:=fun H K=>ju hv hx H K;simp at hw;by_cases hk:l[b].k=2
     · obtain⟨fr,hJ⟩:=ih (by omega) hab;refine⟨fr,?_⟩;rw[al (L:=k8) rfl];have et:aS l a (b+1)=aS l a b:=by rw[aS,if_pos ⟨hab,by simp[hx,hk]⟩]
       rw[et];simp at hJ;simp[nA,hlt,hw,e1,e2,e3,hk,hJ]
     · have et:aS l a (b+1)=b+1:=by rw[aS,if_neg];rintro⟨_,h⟩;simp[hx] at h;exact hk h
       rw[et];refine⟨[(18,.bool false)],?_⟩;rw[al (L:=k8) rfl];simp[nA,hlt,hw,e1,e2,e3,hk]
   · obtain rfl:a=b+1:=by omega
     have et:aS l (b+1) (b+1)=b+1:=by rw[aS,if_neg];omega
     rw[et];refine⟨[(18,.bool false)],?_⟩;rw[al (L:=k8) rfl];simp[nA]
theorem Vw.ex {n:Nat} {ag:Bool} {xs:List DV} {w:DV} (h:Vw st n ag xs w) (H:List HO) (K:List Nat):∃ w',aL st (pst st H K) w=some w'∧Vw st n ag xs w':=by
 cases h with
 | list t n' tk nn h1 h2=>exact⟨_,rfl,.list _ _ _ _ h1 h2⟩
 | hsl b off c g vs hc hl hx hcap=>
   have hh:=gA hc;have hb:st.lK b=true:=by unfold St.lK;rw[hh]
   refine⟨_,by simp only[aL,hb,if_true],.hsl b off c g vs hc hl hx hcap⟩
theorem Ab {n:Nat} {ag:Bool} {xs:List DV} {w:DV} {st0 st1 st2:St} (h:Vw st0 n ag xs w):bj st1 st2 w=aL st1 st2 w:=by
 cases h<;>rfl
theorem mB (hv:Its st l v) (hl:l.length≤140737488355328) (a b:Nat) (hab:a≤b) (hb:b≤l.length):∃ v',(E tab).F 123 [v,.int .i64 a,.int .i64 b] st=some (v',st)∧Its st ((l.drop a).take (aS l a b-a)) v':=by
 rw[aK IQ rfl];obtain⟨fr,hL⟩:=F4 hv a hl [] [] b hb hab;obtain⟨v',hs,hv'⟩:=Vw.slice hv (by omega) mO (lo:=a) (hi:=aS l a b) (tv l a b hab) (by have:=kE l a b;simp;omega) .i64 .i64;obtain⟨v2,hx,hv2⟩:=Vw.ex hv' [] [];rw[← List.map_drop,← List.map_take] at hv2;refine⟨v2,?_,hv2⟩;simp at hL;have hxT:bj st (pst st [] []) v'=some v2:=by rw[Ab hv',hx]
 simp[f123,hL,hs,hxT]
end
theorem Ke:tab 124=some (.code f124):=by kernel_rfl
theorem HR:tab 139=some (.code f139):=by kernel_rfl
theorem IP:tab 145=some (.code f145):=by kernel_rfl
theorem KR:tab 146=some (.code f146):=by kernel_rfl
theorem Hc:tab 153=some (.code f153):=by kernel_rfl
def fP (x:Int):Int:=(x/48+1)*48
theorem pL (st:St):(E tab).F 145 [.list 0 0 .no false []] st=some (.int .i64 0,st):=by
 rw[aK IP rfl]
 have hL:∀ st:St,(E tab).C vF [(3,.int .i64 0),(9,.list 0 0 .no false []),(10,.int .i64 0),(11,.int .i64 0)] st=some (.exit 0,[(3,.int .i64 0),(9,.list 0 0 .no false []),(10,.int .i64 0),(11,.int .i64 0),(12,.bool false)],st):=by
  intro st;rw[al (L:=vF) rfl];simp[BC]
 simp[f145,hL]
theorem u0 (x f:DV) (st:St):(E tab).F 153 [.list 0 0 .no false [],x,f] st=some (.tuple [.int .i64 0,.bool false],st):=by
 rw[dV Hc rfl]
 have hL:∀ st:St,(E tab).C uh [(0,.list 0 0 .no false []),(1,x),(2,f),(8,.int .i64 0),(9,.int .i64 0),(10,.int .i64 0)] st=some (.exit 0,[(0,.list 0 0 .no false []),(1,x),(2,f),(8,.int .i64 0),(9,.int .i64 0),(10,.int .i64 0),(17,.bool false)],st):=by
  intro st;rw[al (L:=uh) rfl];simp[zR]
 simp[f153,hL]
theorem yA (x:Int) (hx:0≤x∧x≤1000000000000) (st:St):(E tab).F 146 [.list 0 0 .no false [],.int .i64 x] st=some (.agg [.int .i64 (fP x),.int .i64 0],st):=by
 rw[aK KR rfl];have e1:IntKind.i64.wrap (x.tdiv 48)=x/48:=IntWalk.i64_quo _ _ (by omega);have e2:IntKind.i64.wrap (x/48+1)=x/48+1:=aG (by omega);have e3:IntKind.i64.wrap ((x/48+1)*48)=fP x:=aG (by omega);simp[f146,u0,e1,e2,e3]
theorem Ca (x:Int) (hx:0≤x∧x≤1000000000000) (st:St):(E tab).F 139 [.list 0 0 .no false [],.int .i64 x] st=some (if x≤8190 then .tuple [.agg [.int .i64 (fP x),.int .i64 0],.int .i64 0] else .tuple [.agg [.int .i64 0,.int .i64 0],.int .i64 5],st):=by
 rw[aK HR rfl];have h0:¬ x<0:=by omega
 have e1:=fun st=>yA x hx st;by_cases h:x≤8190
 · have h1:¬ 8190<x:=by omega
   simp[f139,pL,h0,h1,e1,h]
 · have h1:8190<x:=by omega
   simp[f139,pL,h0,h1,h]
theorem B7 (x:Int) (hx:0≤x∧x≤1000000000000) (st:St):(E tab).F 124 [.int .i64 x] st=some (.int .i64 (fP x),st):=by
 rw[aK Ke rfl];have e0:=fun st=>Ca x hx st;have e1:IntKind.i64.wrap (x.tdiv 48)=x/48:=IntWalk.i64_quo _ _ (by omega);have e2:IntKind.i64.wrap (x/48+1)=x/48+1:=aG (by omega);have e3:IntKind.i64.wrap ((x/48+1)*48)=fP x:=aG (by omega);by_cases h:x≤8190
 · simp only[h,if_true] at e0;simp[f124,e0]
 · simp only[h,if_false] at e0;simp[f124,e0,e1,e2,e3]
def cf (at_:Int) (x:It):Int:=if x.k=1∨x.k=2 then at_+x.w else if x.k=4 then fP at_ else at_
def goI (at_:Int):List It→Int
 | []=>at_
 | x::r=>goI (cf at_ x) r
def okW (l:List It):Prop:=∀ x∈l,0≤x.w∧x.w≤2097152
theorem gi {l:List It} (h:bp l=0):okW l∧l.length≤8192:=by
 unfold bp at h;split at h
 · omega
 · rename_i h1;split at h
   · omega
   · rename_i h2;refine⟨fun x hx=>?_,by omega⟩;rw[Bool.not_eq_true,List.any_eq_false] at h2;have:=h2 x hx;simp[kc,xY] at this;omega
theorem n4 {x:It} (h:0≤x.w∧x.w≤2097152) {a:Int} (ha:0≤a):a≤cf a x∧cf a x≤a+2097152:=by
 unfold cf fP;split
 · omega
 · split<;>omega
theorem pS:∀ {l:List It} {a:Int},okW l→0≤a→a≤goI a l∧goI a l≤a+2097152*l.length
 | [],a,_,_=>by simp[goI]
 | x::r,a,h,ha=>by
   have h1:=n4 (h x (aap ..)) ha;have h2:=pS (l:=r) (a:=cf a x) (fun y hy=>h y (aao _ hy)) (by omega);simp only[goI,aaw];omega
theorem wE:∀ (l r:List It) (a:Int),goI a (l++r)=goI (goI a l) r
 | [],r,a=>rfl
 | x::l,r,a=>by simp only[aaH,goI,wE l r]
def jl (l:List It) (b:Nat):Int:=match l[b]? with | some x=>if x.k=3 then x.w else 0 | none=>0
def dI (l:List It) (a b:Nat) (x:Int):Int:=goI x ((l.drop a).take (aS l a b-a))+jl l b-x
section
variable {st:St} {l:List It} {v:DV}
theorem FT (l':List It) {v':DV} (hv':Its st l' v') (hok:okW l') (hl:l'.length≤8192) (y0 y2 y3:DV) (K:List Nat):∀ (r d:List It) (H:List HO) (a:Int),l'=d++r→0≤a→a≤4095+2097152*d.length →
 ∃ J fr,(E tab).C rj [(0,y0),(2,y2),(3,y3),(11,.int .i64 a),(28,v'),(29,.int .i64 l'.length),(30,.int .i64 d.length)] (pst st H K) =
   some (.exit 0,[(0,y0),(2,y2),(3,y3),(11,.int .i64 (goI a r))]++fr,pst st (H++J) K):=by
 intro r
 induction r with
 | nil=>
   intro d H a hd h1 h2;refine⟨[],[(28,v'),(29,.int .i64 l'.length),(30,.int .i64 l'.length),(31,.bool false)],?_⟩;rw[al (L:=rj) rfl];simp[lp,hd,goI]
 | cons x r ih=>
   intro d H a hd h1 h2;have h0:d.length<l'.length:=by simp[hd]
   have hx:l'[d.length]? = some x:=by simp[hd]
   have hxm:=hok x (by simp[hd]);have hw1:IntKind.i64.wrap ((d.length:Int)+1)=((d++[x]).length:Nat):=by rw[aG (by omega)];simp
   have e1:=fun st'=>dt hv' h0 .i64 st';have e2:=fun H K=>nc hv' hx H K;simp only[It.dv,It.cs] at e2;have hs:=n4 hxm h1;obtain⟨J,fr,hJ⟩:=ih (d++[x]) (H++[.cells .plain x.cs]) (cf a x) (by simp[hd]) (by omega) (by simp;omega);refine⟨.cells .plain x.cs::J,fr,?_⟩;rw[goI];simp only[aah,aan] at hJ hw1;simp[It.cs] at hJ;rw[al (L:=rj) rfl];by_cases k1:x.k=1
   · have w1:IntKind.i64.wrap (a+x.w)=cf a x:=by rw[aG (by omega)];simp[cf,k1]
     rw[k1] at e2 hJ;simp[lp,h0,e1,e2,k1,It.cs,hw1,w1,hJ]
   · by_cases k2:x.k=2
     · have w1:IntKind.i64.wrap (a+x.w)=cf a x:=by rw[aG (by omega)];simp[cf,k2]
       rw[k2] at e2 hJ;simp[lp,h0,e1,e2,k1,k2,It.cs,hw1,w1,hJ]
     · by_cases k4:x.k=4
       · have w1:fP a=cf a x:=by simp[cf,k4]
         have e3:=fun st=>B7 a (by omega) st;rw[w1] at e3;rw[k4] at e2 hJ;simp[lp,h0,e1,e2,e3,k1,k2,k4,It.cs,hw1,hJ]
       · have w1:cf a x=a:=by simp[cf,k1,k2,k4]
         rw[w1] at hJ;simp[lp,h0,e1,e2,k1,k2,k4,It.cs,hw1,w1,hJ]
def B3 (l:List It) (a b x:Int):DV:=
 if dj l a b≠0 then .tuple [.int .i64 0,.int .i64 (dj l a b)]
 else if bn x=false then .tuple [.int .i64 0,.int .i64 5]
 else .tuple [.int .i64 (dI l a.toNat b.toNat x),.int .i64 0]
theorem j5 {a b:Int} (h:dj l a b=0):bp l=0∧0≤a∧a≤b∧b≤l.length:=by
 unfold dj at h;split at h
 · omega
 · rename_i h1;refine⟨h,?_⟩;have:¬ (a<0∨b<a∨l.length<b):=fun h2=>h1 ⟨h,h2⟩;omega
theorem zI (hv:Its st l v) (a b x:Int):(E tab).F 110 [v,.int .i64 a,.int .i64 b,.int .i64 x] st=some (B3 l a b x,st):=by
 rw[aK Iq rfl];have e0:=fun st'=>cw hv st';have e1:=pg (hv.inn [] []) a b;have e2:=fun st=>oK x st;unfold B3;by_cases h1:dj l a b=0
 · cases h2:bn x with
   | false=>simp[f110,e1,e2,h1,h2]
   | true=>
     obtain⟨h3,h4,h5,h6⟩:=j5 h1;obtain⟨hok,hlen⟩:=gi h3;obtain⟨A,rfl⟩:=aaM h4;obtain⟨B,rfl⟩:=aaM (show 0≤b by omega);simp[bn] at h2;obtain⟨v',et,hv'⟩:=mB (hv.inn [] []) (by omega) A B (by omega) (by omega);have hv':=Vw.out hv';have hlt:=kE l A B;have hok':okW ((l.drop A).take (aS l A B-A)):=fun y hy=>hok y (aar (aaD hy));have hlen':((l.drop A).take (aS l A B-A)).length≤8192:=by simp;omega
     have hg:=pS (a:=x) hok' (by omega);obtain⟨J,fr,hL⟩:=FT _ hv' hok' hlen' v (.int .i64 B) (.int .i64 x) [] _ [] [] x rfl (by omega) (by omega);have e3:=fun st'=>cw hv' st';unfold dI;simp only[Int.toNat_natCast];generalize hG:goI x ((l.drop A).take (aS l A B-A))=G at *;generalize ((l.drop A).take (aS l A B-A))=l' at *;simp at hL;by_cases hb:B<l.length
     · have hx:l[B]? = some l[B]:=aac hb;have q1:=fun st'=>dt hv hb .i64 st';have q2:=fun st'=>fk hv hx (off:=0) (by omega) st';have q3:=fun H K=>ju hv hx H K;have q4:=fun st'=>fk hv hx (off:=3) (by omega) st';have q5:=fun H K=>AT hv hx H K;have hB:=hok _ (aau hb);by_cases k3:l[B].k=3
       · have ep:jl l B=l[B].w:=by simp[jl,hx,k3]
         have w1:IntKind.i64.wrap (G+l[B].w)=G+l[B].w:=aG (by omega);have w2:IntKind.i64.wrap (G+l[B].w-x)=G+l[B].w-x:=aG (by omega);simp[f110,e0,e1,e2,e3,h1,bn,h2,et,hL,hb,q1,q2,q3,q4,q5,k3,w1,w2,ep,hG]
       · have ep:jl l B=0:=by simp[jl,hx,k3]
         have w2:IntKind.i64.wrap (G-x)=G-x:=aG (by omega);simp[f110,e0,e1,e2,e3,h1,bn,h2,et,hL,hb,q1,q2,q3,k3,w2,ep,hG]
     · have ep:jl l B=0:=by simp[jl,hb]
       have w2:IntKind.i64.wrap (G-x)=G-x:=aG (by omega);simp[f110,e0,e1,e2,e3,h1,bn,h2,et,hL,hb,w2,ep,hG]
 · simp[f110,e1,h1]
end
section
variable {st:St} {l:List It} {v:DV}
def lJ (l:List It) (i:Nat):Bool:=
 i==l.length||(match l[i]? with | some x=>x.k==3||(x.k==2&&decide (0<i)&&(match l[i-1]? with | some y=>y.k != 2 | none=>false)) | none=>false)
def bX (l:List It):Nat→Nat→Nat
 | 0,i=>i
 | f+1,i=>match l[i]? with | some x=>if x.k=2 then bX l f (i+1) else i | none=>i
def gV (l:List It) (i:Nat):Nat:=bX l l.length (match l[i]? with | some x=>if x.k=3 then i+1 else i | none=>i)
end
theorem HG:tab 106=some (.code f106):=by kernel_rfl
theorem HJ:tab 117=some (.code f117):=by kernel_rfl
theorem Jq:tab 118=some (.code f118):=by kernel_rfl
theorem D7:tab 131=some (.code f131):=by kernel_rfl
theorem Hr:tab 132=some (.code f132):=by kernel_rfl
theorem KW:tab 133=some (.code f133):=by kernel_rfl
theorem IJ:tab 134=some (.code f134):=by kernel_rfl
theorem Ky:tab 135=some (.code f135):=by kernel_rfl
theorem JV:tab 136=some (.code f136):=by kernel_rfl
theorem La:tab 137=some (.code f137):=by kernel_rfl
theorem HK:tab 138=some (.code f138):=by kernel_rfl
def mz:ae:=⟨0,0,0,0,0,0⟩
def nZ (m:ae):Bool:=m.k != 3&&(m.k != 4&&m.k != 5)
def hyW (s:Int):Int:=wd 45 s
def fF (L:List ae) (fr to:Nat):It:=⟨1,(L.getD fr mz).a,(L.getD (to-1) mz).b,ky true 0 ((L.drop fr).take (to-fr)),0,0,0,false⟩
def kK (m:ae):It:=if m.k=3 then ⟨2,m.a,m.b,m.w,m.w/2,m.w/3,0,false⟩ else if m.k=4 then ⟨4,m.a,m.b,0,0,0,0,false⟩ else ⟨3,m.a,m.b,hyW m.s,0,0,50,true⟩
def jv (s:List UInt8) (m:ae):Bool:=m.k==2&&bAt s m.a.toNat==45
def Cp (m:ae):It:=⟨3,m.a,m.a,hyW m.s,0,0,100,true⟩
def Cy (m:ae):It:=⟨3,m.a,m.a,0,0,0,50,false⟩
def bH (s:List UInt8) (L:List ae) (pl:List Bool):Nat→Nat→Nat→List ae→List It
 | k,run,fr,[]=>if fr<k then [fF L fr k] else []
 | k,run,fr,m::r=>
   if nZ m=false then (if fr<k then [fF L fr k] else [])++kK m::bH s L pl (k+1) (k+1) (k+1) r
   else if k=fr then bH s L pl (k+1) run fr r
   else if pl.getD k false=true then fF L fr k::Cp m::bH s L pl (k+1) run k r
   else if (jv s (L.getD (k-1) mz) && !jv s m&&decide (run<k-1))=true then fF L fr k::Cy m::bH s L pl (k+1) run k r
   else bH s L pl (k+1) run fr r
structure MOk (s:List UInt8) (L:List ae):Prop where
 len:L.length≤4096
 ok:L.all okM=true
 at_:∀ m∈L,0≤m.a∧m.a<s.length
 sz:∀ m∈L,1≤m.s∧m.s≤64
theorem E9 {m:ae} (h:okM m=true):0≤m.w∧m.w≤4095:=by
 simp only[okM,decide_eq_true_eq] at h;omega
section
variable {st:St}
theorem Au (m:ae):(E tab).F 136 [m.dv] st=some (.bool (nZ m),st):=by
 rw[aK JV rfl];by_cases h1:m.k=3
 · simp[f136,nZ,ae.cs,h1]
 by_cases h2:m.k=4
 · simp[f136,nZ,ae.cs,h2]
 by_cases h3:m.k=5
 · simp[f136,nZ,ae.cs,h3]
 · have b1:(m.k != 3)=true:=by simp[h1]
   have b2:(m.k != 4)=true:=by simp[h2]
   simp[f136,nZ,ae.cs,h1,h2,b1,b2]
theorem oO {n:Int} (hn:1≤n∧n≤64):(E tab).F 138 [.int .i64 n] st=some (.int .i64 (hyW n),st):=by
 rw[aK HK rfl];have hb:=oH 45 hn.1 hn.2
 have h:∀ st,(E tab).F 17 [.str [45],.int .i64 n] st=some (.tuple [.int .i64 (hyW n),.int .i64 0],st):=by
  intro st;rw[rC];have hw:IntKind.i64.wrap (wd 45 n)=wd 45 n:=aG (by omega);simp only[dW,if_pos hn];simp[tw,hw,hyW]
 simp[f138,h]
theorem Cq (m:ae) (hm:okM m=true) (hs:1≤m.s∧m.s≤64):(E tab).F 137 [m.dv] st=some ((kK m).dv,st):=by
 rw[aK La rfl];have hw:=E9 hm;have h2:IntKind.i64.wrap (m.w.tdiv 2)=m.w/2:=by rw[aa8 hw.1,aG (by omega)]
 have h3:IntKind.i64.wrap (m.w.tdiv 3)=m.w/3:=by rw[aa8 hw.1,aG (by omega)]
 have hh:=fun st=>oO (st:=st) hs;by_cases k3:m.k=3
 · simp[f137,kK,It.dv,It.cs,ae.cs,k3,h2,h3]
 by_cases k4:m.k=4
 · simp[f137,kK,It.dv,It.cs,ae.cs,k4]
 · simp[f137,kK,It.dv,It.cs,ae.cs,k3,k4,hh]
theorem getM {L:List ae} {i:Nat} (h:i<L.length):L[i]? = some (L.getD i mz):=by rw[aak,aac h];rfl
theorem oU {L:List ae} {i:Nat} (h:i<L.length):(L.map ae.dv)[i]? = some (L.getD i mz).dv:=by rw[abc,getM h];rfl
theorem E6 {s:List UInt8} {L:List ae} (hL:MOk s L) {t n:Nat} {tk:Tk} {nn:Bool} (h6:L≠[]→n=6) (h7:nn=true→n=6) {fr to:Nat} (h1:fr<to) (h2:to≤L.length):(E tab).F 135 [.list t n tk nn (L.map ae.dv),.int .i64 fr,.int .i64 to] st=some ((fF L fr to).dv,st):=by
 rw[aK Ky rfl];have hn:=fun st=>yi L fr to t n tk nn h6 h7 st;rw[B9 hL.len hL.ok fr to (by omega) h2] at hn;obtain rfl:=h6 (by intro e;simp[e] at h2;omega);have hw1:IntKind.i64.wrap ((to:Int)-1)=((to-1:Nat):Int):=by have:=hL.len;rw[aG (by omega)];omega
 have g1:=oU (L:=L) (i:=fr) (by omega);have g2:=oU (L:=L) (i:=to-1) (by omega);have l1:fr<(L.map ae.dv).length:=by simp;omega
 have l2:to-1<(L.map ae.dv).length:=by simp;omega
 generalize L.map ae.dv=V at *;have g1':V[fr]'l1=(L.getD fr mz).dv:=by rw[aac l1] at g1;exact aaa.inj g1
 have g2':V[to-1]'l2=(L.getD (to-1) mz).dv:=by rw[aac l2] at g2;exact aaa.inj g2
 simp only[fF];generalize L.getD fr mz=a at *;generalize L.getD (to-1) mz=b at *;generalize ky true 0 ((L.drop fr).take (to-fr))=rg at *;simp[f135,It.dv,It.cs,hn,g1,g2,g1',g2',l1,l2,hw1,ae.dv,ae.cs]
end
def loI (st:St) (s:Nat):HO:=.loop (iC [(6,.ptr (st.heap.length+1) 0),(18,.fn 131 [] [.ptr (st.heap.length+2) 0,.ptr (st.heap.length+3) 0])] [19] (.region qZ [6,7]) (.block 1 (.region qy [])) s none)
def HI (st:St) (P0 P1:List DV) (ov lv:DV) (fr s:Nat) (J:List HO):List HO:=
 .cells .plain P0::.cells .plain [ov]::.cells .plain P1::.cells .plain [lv]::loI st s::.cells .plain [.yield (st.heap.length+4)]::.cells .plain [.int .i64 fr]::J
section
variable {st:St} {P0 P1:List DV} {lv:DV} {J:List HO} {K:List Nat}
theorem uI {xs:List It} {ov:DV} {fr:Nat} (x:It) (hx:xs.length≤100000) (hA:Acc st K 8 (xs.map It.dv) ov) :
 ∃ ov' K',(E tab).V (.yield (st.heap.length+4)) [x.dv] (pst st (HI st P0 P1 ov lv fr 0 J) K)=some (.bool true,pst st (HI st P0 P1 ov' lv fr 0 (J++[.cells .plain x.cs])) K')∧Acc st K' 8 ((xs++[x]).map It.dv) ov':=by
 obtain⟨v2,K2,e2,hA2⟩:=jf (H:=HI st P0 P1 ov lv fr 1 (J++[.cells .plain x.cs])) (t:=st.cur) (by_:=64) (ag:=true) (tk:=.tight) (ys:=[x.dv]) hA (by omega) (by simp) (by simp[Ej]) (by simp[ay];omega) (by simp[ay];omega);refine⟨v2,K2,?_,by simpa using hA2⟩
 have hA1:(E tab).C (.region qZ [6,7]) (cl [(6,.ptr (st.heap.length+1) 0),(18,.fn 131 [] [.ptr (st.heap.length+2) 0,.ptr (st.heap.length+3) 0])] [19] [x.dv]) (pst st (HI st P0 P1 ov lv fr 0 J) K) =
  some (.normal,[(6,.ptr (st.heap.length+1) 0),(7,.ptr (st.heap.length+(J.length+7)) 0)],pst st (HI st P0 P1 ov lv fr 0 (J++[.cells .plain x.cs])) K):=by
  simp[HI,It.dv,It.cs]
 have hB:(E tab).C (.block 1 (.region qy [])) [(6,.ptr (st.heap.length+1) 0),(7,.ptr (st.heap.length+(J.length+7)) 0)] (pst st ((HI st P0 P1 ov lv fr 0 (J++[.cells .plain x.cs])).set 4 (loI st 1)) K) =
  some (.normal,[],pst st (HI st P0 P1 v2 lv fr 1 (J++[.cells .plain x.cs])) K2):=by
  obtain⟨t',n',tk',nn',rfl⟩:=ib hA2;simp[HI,It.dv,It.cs] at e2 ⊢;simp[aW,bk,chunk,e2]
 exact BO (T:=tab) (k:=4) (H:=HI st P0 P1 ov lv fr 0 J) rfl rfl hA1 rfl ⟨_,hB⟩ rfl
theorem CJ {L:List ae} {p:bb} {w u:LW} (hL:MOk p.text L) {t n:Nat} {tk:Tk} {nn:Bool} (h6:L≠[]→n=6) {ov:DV} {fr s k:Nat} (hk:k<L.length) :
 (E tab).F 133 [.int .i64 k,.ptr (st.heap.length+3) 0,.ptr (st.heap.length+2) 0] (pst st (HI st P0 (aj p w u) ov (.list t n tk nn (L.map ae.dv)) fr s J) K)=some (.bool (jv p.text (L.getD k mz)),pst st (HI st P0 (aj p w u) ov (.list t n tk nn (L.map ae.dv)) fr s J) K):=by
 rw[dV KW rfl];obtain rfl:=h6 (by intro e;simp[e] at hk);have g1:=oU (L:=L) hk;have l1:k<(L.map ae.dv).length:=by simpa using hk
 have hm:=hL.at_ _ (aaN (getM hk));generalize L.map ae.dv=V at *;have g1':V[k]'l1=(L.getD k mz).dv:=by rw[aac l1] at g1;exact aaa.inj g1
 generalize L.getD k mz=m at *;have hb:p.text[m.a.toNat]? = some (bAt p.text m.a.toNat):=zL (by omega);have hlt:m.a.toNat<p.text.length:=by omega
 have hge:p.text[m.a.toNat]'hlt=bAt p.text m.a.toNat:=by rw[aac hlt] at hb;exact aaa.inj hb
 by_cases h2:m.k=2
 · by_cases h45:bAt p.text m.a.toNat=45
   · simp[f133,HI,g1,g1',l1,ae.dv,ae.cs,h2,hb,hge,hlt,hm.1,h45,jv]
   · have h45':(((bAt p.text m.a.toNat).toNat:Int)==45)=(bAt p.text m.a.toNat==45):=AW _ 45;simp[f133,HI,g1,g1',l1,ae.dv,ae.cs,h2,hb,hge,hlt,hm.1,h45',jv]
 · simp[f133,HI,g1,g1',l1,ae.dv,ae.cs,h2,jv]
theorem w8 {L:List ae} {s:List UInt8} (hL:MOk s L) {t n:Nat} {tk:Tk} {nn:Bool} (h6:L≠[]→n=6) (h7:nn=true→n=6) {xs:List It} {ov:DV} {fr k:Nat} (hk:k≤L.length) (hx:xs.length≤100000) (hA:Acc st K 8 (xs.map It.dv) ov) :
 ∃ ov' J' K',(E tab).F 134 [.int .i64 k,.ptr (st.heap.length+6) 0,.ptr (st.heap.length+5) 0,.ptr (st.heap.length+3) 0] (pst st (HI st P0 P1 ov (.list t n tk nn (L.map ae.dv)) fr 0 J) K) =
   some (.bool true,pst st (HI st P0 P1 ov' (.list t n tk nn (L.map ae.dv)) fr 0 (J++J')) K')∧Acc st K' 8 ((xs++if fr<k then [fF L fr k] else []).map It.dv) ov':=by
 rw[dV IJ rfl];by_cases h:fr<k
 · have h':¬ (k:Int)≤fr:=by omega
   obtain⟨ov',K',hy,hA'⟩:=uI (P0:=P0) (P1:=P1) (lv:=.list t n tk nn (L.map ae.dv)) (J:=J) (fr:=fr) (fF L fr k) hx hA;have hb:=fun st=>E6 (st:=st) hL (t:=t) (n:=n) (tk:=tk) h6 h7 h hk;refine⟨ov',[.cells .plain (fF L fr k).cs],K',?_,by simpa[h] using hA'⟩;generalize fF L fr k=x at *;generalize L.map ae.dv=V at *;simp[HI] at hy;have h'':¬ k≤fr:=by omega
   simp[f134,HI,h',h'',hb,hy]
 · have h':(k:Int)≤fr:=by omega
   have h'':k≤fr:=by omega
   refine⟨ov,[],K,?_,by simpa[h] using hA⟩;generalize L.map ae.dv=V at *;simp[f134,HI,h',h'']
end
def plV (t:Nat) (tk:Tk) (pl:List Bool):DV:=.list t 1 tk true (pl.map DV.bool)
section
variable {st:St} {P0:List DV}
theorem Ge {L:List ae} {p:bb} {w u:LW} (hL:MOk p.text L) {t n:Nat} {tk:Tk} {nn:Bool} (h6:L≠[]→n=6) (h7:nn=true→n=6) {pl:List Bool} (hpl:pl.length=L.length+1) {t2:Nat} {tk2:Tk} :
 ∀ (r d:List ae) (run fr:Nat) (J:List HO) (K:List Nat) (xs:List It) (ov:DV),L=d++r→fr≤d.length→run≤d.length→xs.length≤3*d.length→Acc st K 8 (xs.map It.dv) ov →
 ∃ (ov':DV) (fr':Nat) (J':List HO) (K':List Nat) (X:List It) (y6:DV) (tl:Fr),
   (E tab).C fj [(2,.ptr (st.heap.length+3) 0),(3,.ptr (st.heap.length+5) 0),(4,plV t2 tk2 pl),(5,.fn 133 [] [.ptr (st.heap.length+3) 0,.ptr (st.heap.length+2) 0]),(6,.int .i64 run),(7,.ptr (st.heap.length+6) 0),(8,.fn 134 [] [.ptr (st.heap.length+6) 0,.ptr (st.heap.length+5) 0,.ptr (st.heap.length+3) 0]),(17,.list t n tk nn (L.map ae.dv)),(18,.int .i64 L.length),(19,.int .i64 d.length)]
    (pst st (HI st P0 (aj p w u) ov (.list t n tk nn (L.map ae.dv)) fr 0 J) K) =
   some (.exit 0,[(2,.ptr (st.heap.length+3) 0),(3,.ptr (st.heap.length+5) 0),(4,plV t2 tk2 pl),(5,.fn 133 [] [.ptr (st.heap.length+3) 0,.ptr (st.heap.length+2) 0]),(6,y6),(7,.ptr (st.heap.length+6) 0),(8,.fn 134 [] [.ptr (st.heap.length+6) 0,.ptr (st.heap.length+5) 0,.ptr (st.heap.length+3) 0])]++tl,
    pst st (HI st P0 (aj p w u) ov' (.list t n tk nn (L.map ae.dv)) fr' 0 J') K')∧Acc st K' 8 ((xs++X).map It.dv) ov'∧(xs++X).length≤3*L.length∧bH p.text L pl d.length run fr r=X++(if fr'<L.length then [fF L fr' L.length] else []):=by
 have hlen:=hL.len;intro r
 induction r with
 | nil=>
   intro d run fr J K xs ov hd hf hr hx hA;obtain rfl:L=d:=by simpa using hd
   refine⟨ov,fr,J,K,[],.int .i64 run,[(17,.list t n tk nn (L.map ae.dv)),(18,.int .i64 L.length),(19,.int .i64 L.length),(20,.bool false)],?_,by simpa using hA,by simpa using hx,by simp[bH]⟩;generalize L.map ae.dv=V at *;rw[al (L:=fj) rfl];simp[gT]
 | cons m r ih=>
   intro d run fr J K xs ov hd hf hr hx hA;have h0:d.length<L.length:=by simp[hd]
   have hmem:m∈L:=by simp[hd]
   have hok:=aaf.1 hL.ok m hmem;have hsz:=hL.sz m hmem;have hgm:L.getD d.length mz=m:=by simp[hd]
   have hw1:IntKind.i64.wrap ((d.length:Int)+1)=(d.length:Int)+1:=by rw[aG (by omega)]
   have hwm:IntKind.i64.wrap ((d.length:Int)-1)=(d.length:Int)-1:=by rw[aG (by omega)]
   obtain rfl:=h6 (by intro e;simp[e] at h0);have g1:=oU (L:=L) h0;rw[hgm] at g1;have l1:d.length<(L.map ae.dv).length:=by simpa using h0
   have hbx:=fun st=>Au (st:=st) m;have hln:=fun st=>Cq (st:=st) m hok hsz;have hhy:=fun st=>oO (st:=st) hsz;have hsh:=fun (J:List HO)=>w8 (st:=st) (P0:=P0) (P1:=aj p w u) (J:=J) (K:=K) (t:=t) (n:=6) (tk:=tk) (nn:=nn) hL (fun _=>rfl) (fun _=>rfl) (k:=d.length) (fr:=fr) (by omega) (by omega) hA;have hds:=fun (J:List HO) (k:Nat) (hk:k<L.length)=>CJ (st:=st) (P0:=P0) (w:=w) (u:=u) (J:=J) (K:=K) (ov:=ov) (fr:=fr) (s:=0) (t:=t) (n:=6) (tk:=tk) (nn:=nn) hL (fun _=>rfl) (k:=k) hk
   have hpd:(pl.map DV.bool)[d.length]? = some (.bool (pl.getD d.length false)):=by
    rw[abc,aac (show d.length<pl.length by omega),aak,aac (show d.length<pl.length by omega)];rfl
   have lpd:d.length<(pl.map DV.bool).length:=by simp;omega
   cases hb:nZ m with
   | false=>
     obtain⟨ov1,J1,K1,hS,hA1⟩:=hsh (J++[.cells .plain m.cs]);have hxl:(xs++if fr<d.length then [fF L fr d.length] else []).length≤3*d.length+1:=by split<;>simp<;>omega
     obtain⟨ov2,K2,hY,hA2⟩:=uI (st:=st) (P0:=P0) (P1:=aj p w u) (lv:=.list t 6 tk nn (L.map ae.dv)) (J:=(J++[.cells .plain m.cs])++J1) (fr:=fr) (kK m) (by omega) hA1
     obtain⟨ov',fr',J',K',X,y6,tl,hJ,a1,a2,a3⟩:=ih (d++[m]) (d.length+1) (d.length+1) (((J++[.cells .plain m.cs])++J1)++[.cells .plain (kK m).cs]) K2 ((xs++if fr<d.length then [fF L fr d.length] else [])++[kK m]) ov2 (by simp[hd]) (by simp) (by simp) (by
      rw[aah];simp only[aah,aan] at hxl ⊢;omega) hA2
     refine⟨ov',fr',J',K',(if fr<d.length then [fF L fr d.length] else [])++kK m::X,y6,tl,?_,by simpa using a1,by simpa using a2,?_⟩
     · generalize L.map ae.dv=V at *;have g1':V[d.length]'l1=m.dv:=by rw[aac l1] at g1;exact aaa.inj g1
       rw[hb] at hbx;simp only[HI,aas,aaH,aa5] at hS hY hJ ⊢;simp only[ae.dv,ae.cs] at hbx hln hS hY hJ g1';simp at hS hY hJ;rw[al (L:=fj) rfl];simp[gT,h0,g1,g1',l1,hbx,hln,hS,hY,cU,hw1,hJ,ae.dv,ae.cs]
     · simp only[aah,aan] at a3;simp only[bH,hb,if_true,a3,aas,aaH]
   | true=>
     by_cases hkf:fr=d.length
     · obtain⟨ov',fr',J',K',X,y6,tl,hJ,a1,a2,a3⟩:=ih (d++[m]) run fr (J++[.cells .plain m.cs]) K xs ov (by simp[hd]) (by simp;omega) (by simp;omega) (by simp;omega) hA;refine⟨ov',fr',J',K',X,y6,tl,?_,a1,a2,?_⟩
       · generalize L.map ae.dv=V at *;have g1':V[d.length]'l1=m.dv:=by rw[aac l1] at g1;exact aaa.inj g1
         rw[hb] at hbx;subst hkf;simp only[HI,aas,aaH,aa5] at hJ ⊢;simp only[ae.dv,ae.cs] at hbx hJ g1';simp at hJ;rw[al (L:=fj) rfl];simp[gT,h0,g1,g1',l1,hbx,hw1,hJ,ae.dv,ae.cs]
       · simp only[aah,aan] at a3;simp only[bH,hb,hkf,if_true,Bool.true_eq_false,if_false];rw[← hkf] at a3 ⊢;rw[← a3,hkf]
     · have hkf':¬ (d.length:Int)=fr:=by omega
       have hkf2:¬ d.length=fr:=by omega
       have hfl:fr<d.length:=by omega
       have hif:(if fr<d.length then [fF L fr d.length] else [])=[fF L fr d.length]:=if_pos hfl;rw[hif] at hsh
       have fin:∀ q:It,(bH p.text L pl d.length run fr (m::r)=fF L fr d.length::q::bH p.text L pl (d.length+1) run d.length r) →
        ∃ (ov':DV) (fr':Nat) (J':List HO) (K':List Nat) (X:List It) (y6:DV) (tl:Fr) (ov1 ov2:DV) (J1:List HO) (K1 K2:List Nat),
        (E tab).F 134 [.int .i64 d.length,.ptr (st.heap.length+6) 0,.ptr (st.heap.length+5) 0,.ptr (st.heap.length+3) 0] (pst st (HI st P0 (aj p w u) ov (.list t 6 tk nn (L.map ae.dv)) fr 0 (J++[.cells .plain m.cs,.cells .plain q.cs])) K) =
         some (.bool true,pst st (HI st P0 (aj p w u) ov1 (.list t 6 tk nn (L.map ae.dv)) fr 0 ((J++[.cells .plain m.cs,.cells .plain q.cs])++J1)) K1) ∧
        (E tab).V (.yield (st.heap.length+4)) [q.dv] (pst st (HI st P0 (aj p w u) ov1 (.list t 6 tk nn (L.map ae.dv)) fr 0 ((J++[.cells .plain m.cs,.cells .plain q.cs])++J1)) K1) =
         some (.bool true,pst st (HI st P0 (aj p w u) ov2 (.list t 6 tk nn (L.map ae.dv)) fr 0 (((J++[.cells .plain m.cs,.cells .plain q.cs])++J1)++[.cells .plain q.cs])) K2) ∧
        (E tab).C fj [(2,.ptr (st.heap.length+3) 0),(3,.ptr (st.heap.length+5) 0),(4,plV t2 tk2 pl),(5,.fn 133 [] [.ptr (st.heap.length+3) 0,.ptr (st.heap.length+2) 0]),(6,.int .i64 run),(7,.ptr (st.heap.length+6) 0),(8,.fn 134 [] [.ptr (st.heap.length+6) 0,.ptr (st.heap.length+5) 0,.ptr (st.heap.length+3) 0]),(17,.list t 6 tk nn (L.map ae.dv)),(18,.int .i64 L.length),(19,.int .i64 (d.length+1:Nat))]
         (pst st (HI st P0 (aj p w u) ov2 (.list t 6 tk nn (L.map ae.dv)) d.length 0 (((J++[.cells .plain m.cs,.cells .plain q.cs])++J1)++[.cells .plain q.cs])) K2) =
        some (.exit 0,[(2,.ptr (st.heap.length+3) 0),(3,.ptr (st.heap.length+5) 0),(4,plV t2 tk2 pl),(5,.fn 133 [] [.ptr (st.heap.length+3) 0,.ptr (st.heap.length+2) 0]),(6,y6),(7,.ptr (st.heap.length+6) 0),(8,.fn 134 [] [.ptr (st.heap.length+6) 0,.ptr (st.heap.length+5) 0,.ptr (st.heap.length+3) 0])]++tl,
         pst st (HI st P0 (aj p w u) ov' (.list t 6 tk nn (L.map ae.dv)) fr' 0 J') K')∧Acc st K' 8 ((xs++X).map It.dv) ov'∧(xs++X).length≤3*L.length∧bH p.text L pl d.length run fr (m::r)=X++(if fr'<L.length then [fF L fr' L.length] else []):=by
        intro q hq;obtain⟨ov1,J1,K1,hS,hA1⟩:=hsh (J++[.cells .plain m.cs,.cells .plain q.cs]);obtain⟨ov2,K2,hY,hA2⟩:=uI (st:=st) (P0:=P0) (P1:=aj p w u) (lv:=.list t 6 tk nn (L.map ae.dv)) (J:=(J++[.cells .plain m.cs,.cells .plain q.cs])++J1) (fr:=fr) q (by simp;omega) hA1;obtain⟨ov',fr',J',K',X,y6,tl,hJ,a1,a2,a3⟩:=ih (d++[m]) run d.length (((J++[.cells .plain m.cs,.cells .plain q.cs])++J1)++[.cells .plain q.cs]) K2 ((xs++[fF L fr d.length])++[q]) ov2 (by simp[hd]) (by simp) (by simp;omega) (by simp;omega) hA2;simp only[aah,aan] at hJ a3;refine⟨ov',fr',J',K',fF L fr d.length::q::X,y6,tl,ov1,ov2,J1,K1,K2,hS,hY,hJ,by simpa using a1,by simpa using a2,?_⟩;rw[hq,a3];rfl
       cases hp:pl.getD d.length false with
       | true=>
         have hq:bH p.text L pl d.length run fr (m::r)=fF L fr d.length::Cp m::bH p.text L pl (d.length+1) run d.length r:=by
          simp only[bH,hb,hkf2,hp,if_false,if_true,Bool.true_eq_false]
         obtain⟨ov',fr',J',K',X,y6,tl,ov1,ov2,J1,K1,K2,hS,hY,hJ,a1,a2,a3⟩:=fin (Cp m) hq;refine⟨ov',fr',J',K',X,y6,tl,?_,a1,a2,a3⟩;rw[hp] at hpd;generalize L.map ae.dv=V at *;have g1':V[d.length]'l1=m.dv:=by rw[aac l1] at g1;exact aaa.inj g1
         simp only[plV] at hJ ⊢;generalize pl.map DV.bool=PL at *;have p1':PL[d.length]'lpd=.bool true:=by rw[aac lpd] at hpd;exact aaa.inj hpd
         rw[hb] at hbx;simp only[HI,aas,aaH,aa5] at hS hY hJ ⊢;simp only[ae.dv,ae.cs,Cp,It.dv,It.cs] at hbx hS hY hJ g1';simp at hS hY hJ;rw[al (L:=fj) rfl];simp[gT,h0,g1,g1',l1,hbx,hkf',hkf2,hpd,p1',lpd,hhy,hS,hY,cU,hw1,hJ,ae.dv,ae.cs]
       | false=>
         have hd1:=hds (J++[.cells .plain m.cs,.cells .plain [.int .i64 3,.int .i64 m.a,.int .i64 m.a,.int .i64 0,.int .i64 0,.int .i64 0,.int .i64 0,.bool false]]) (d.length-1) (by omega);have hd2:=hds (J++[.cells .plain m.cs,.cells .plain [.int .i64 3,.int .i64 m.a,.int .i64 m.a,.int .i64 0,.int .i64 0,.int .i64 0,.int .i64 0,.bool false]]) d.length h0;have hcz:((d.length-1:Nat):Int)=(d.length:Int)-1:=by omega
         rw[hcz] at hd1;rw[hgm] at hd2
         cases hdash:jv p.text (L.getD (d.length-1) mz) && !jv p.text m&&decide (run<d.length-1) with
         | true=>
           have hq:bH p.text L pl d.length run fr (m::r)=fF L fr d.length::Cy m::bH p.text L pl (d.length+1) run d.length r:=by
            simp only[bH,hb,hkf2,hp,hdash,if_false,if_true,Bool.true_eq_false,aam]
           obtain⟨ov',fr',J',K',X,y6,tl,ov1,ov2,J1,K1,K2,hS,hY,hJ,a1,a2,a3⟩:=fin (Cy m) hq;refine⟨ov',fr',J',K',X,y6,tl,?_,a1,a2,a3⟩;simp only[aab,Bool.not_eq_true',decide_eq_true_eq] at hdash;obtain⟨⟨q1,q2⟩,q3⟩:=hdash;have q3':(run:Int)<(d.length:Int)-1:=by omega
           rw[q1] at hd1;rw[q2] at hd2;rw[hp] at hpd;generalize L.map ae.dv=V at *;have g1':V[d.length]'l1=m.dv:=by rw[aac l1] at g1;exact aaa.inj g1
           simp only[plV] at hJ ⊢;generalize pl.map DV.bool=PL at *;have p1':PL[d.length]'lpd=.bool false:=by rw[aac lpd] at hpd;exact aaa.inj hpd
           rw[hb] at hbx;simp only[HI,aas,aaH,aa5] at hS hY hJ hd1 hd2 ⊢;simp only[ae.dv,ae.cs,Cy,It.dv,It.cs] at hbx hS hY hJ hd1 hd2 g1';simp at hS hY hJ hd1 hd2;rw[al (L:=fj) rfl];simp[gT,h0,g1,g1',l1,hbx,hkf',hkf2,hpd,p1',lpd,hwm,hd1,hd2,q3',hS,hY,cU,hw1,hJ,ae.dv,ae.cs]
         | false=>
           have hq:bH p.text L pl d.length run fr (m::r)=bH p.text L pl (d.length+1) run fr r:=by
            simp only[bH,hb,hkf2,hp,hdash,if_false,Bool.true_eq_false,aam]
           obtain⟨ov',fr',J',K',X,y6,tl,hJ,a1,a2,a3⟩:=ih (d++[m]) run fr (J++[.cells .plain m.cs,.cells .plain [.int .i64 3,.int .i64 m.a,.int .i64 m.a,.int .i64 0,.int .i64 0,.int .i64 0,.int .i64 0,.bool false]]) K xs ov (by simp[hd]) (by simp;omega) (by simp;omega) (by simp;omega) hA;simp only[aah,aan] at hJ a3;refine⟨ov',fr',J',K',X,y6,tl,?_,a1,a2,by rw[hq,a3]⟩;rw[hp] at hpd;generalize L.map ae.dv=V at *;have g1':V[d.length]'l1=m.dv:=by rw[aac l1] at g1;exact aaa.inj g1
           simp only[plV] at hJ ⊢;generalize pl.map DV.bool=PL at *;have p1':PL[d.length]'lpd=.bool false:=by rw[aac lpd] at hpd;exact aaa.inj hpd
           rw[hb] at hbx;simp only[HI,aas,aaH,aa5] at hJ hd1 hd2 ⊢;simp only[ae.dv,ae.cs] at hbx hJ hd1 hd2 g1'
           cases q1:jv p.text (L.getD (d.length-1) mz) with
           | false=>
             rw[q1] at hd1;simp at hJ hd1;rw[al (L:=fj) rfl];simp[gT,h0,g1,g1',l1,hbx,hkf',hkf2,hpd,p1',lpd,hwm,hd1,cU,hw1,hJ,ae.dv,ae.cs]
           | true=>
             rw[q1] at hd1 hdash
             cases q2:jv p.text m with
             | true=>
               rw[q2] at hd2;simp at hJ hd1 hd2;rw[al (L:=fj) rfl];simp[gT,h0,g1,g1',l1,hbx,hkf',hkf2,hpd,p1',lpd,hwm,hd1,hd2,cU,hw1,hJ,ae.dv,ae.cs]
             | false=>
               rw[q2] at hd2 hdash;have q3:¬ run<d.length-1:=by simpa using hdash
               have q3':¬ (run:Int)<(d.length:Int)-1:=by omega
               simp at hJ hd1 hd2;rw[al (L:=fj) rfl];simp[gT,h0,g1,g1',l1,hbx,hkf',hkf2,hpd,p1',lpd,hwm,hd1,hd2,q3',cU,hw1,hJ,ae.dv,ae.cs]
end
def kn (_s:List UInt8) (L:List ae) (_hy:Int):List Bool:=List.replicate (L.length+1) false
theorem sn (s:List UInt8) (L:List ae) (hy:Int):(kn s L hy).length=L.length+1:=by simp[kn]
section
variable {st:St}
theorem BQ {L:List ae} {p:bb} {w u:LW} (hy:p.pr.bS=0) (hL:MOk p.text L) {t n:Nat} {tk:Tk} {nn:Bool} (h6:L≠[]→n=6) :
 ∃ t',(E tab).F 132 [.agg (aj p w u),.list t n tk nn (L.map ae.dv)] st=some (.list t' 1 .tight true ((kn p.text L p.pr.bS).map DV.bool),st):=by
 have hlen:=hL.len;have hV0:(L.map ae.dv).length=L.length:=by simp
 have hel:∀ (b:List Bool),∀ y∈b.map DV.bool,eG 1 false y:=by intro b y hy;obtain⟨c,_,rfl⟩:=aaQ.1 hy;exact⟨rfl,rfl,rfl⟩
 have hw1:IntKind.i64.wrap ((L.length:Int)+1)=(L.length:Int)+1:=by rw[aG (by omega)]
 have hroom:((L.length:Int)+1)≤140737488355328:=by omega
 have hroom2:L.length+1≤140737488355328:=by omega
 have hpos:(0:Int)≤(L.length:Int)+1:=by omega
 have htn:((L.length:Int)+1).toNat=L.length+1:=by omega
 have hrep:bk [DV.bool false] (L.length+1)=(List.replicate (L.length+1) false).map DV.bool:=by rw[tm,List.map_replicate]
 have ph:(aj p w u)[14]? = some (.int .i64 p.pr.bS):=rfl;have hpl:=sn p.text L p.pr.bS
 have hex:∀ (G:List HO) (K:List Nat),rowAt G 1=some (.plain,(kn p.text L p.pr.bS).map DV.bool)→aL st (pst st G K) (.hsl 1 false (st.heap.length+1) 0 (L.length+1) (some (L.length+1)))=some (.list st.cur 1 .tight true ((kn p.text L p.pr.bS).map DV.bool)):=by
  intro G K h;have hfl:=pD _ (hel (kn p.text L p.pr.bS));have:=Gn (st:=st) (H:=G) (K:=K) (k:=1) (n:=1) (ag:=false) (g:=.plain) (ys:=(kn p.text L p.pr.bS).map DV.bool) (cap:=some (L.length+1)) (by rw[hfl];exact h) (by omega) (.inr rfl) (hel _);rw[aaU,hpl,if_pos rfl] at this;exact this
 refine⟨st.cur,?_⟩;rw[aK Hr rfl];have e:kn p.text L p.pr.bS=List.replicate (L.length+1) false:=rfl;have hx:=hex [.cells .plain (aj p w u),.cells .plain ((List.replicate (L.length+1) false).map DV.bool)] [] (by rw[e];rfl);rw[e] at hx ⊢;rw[hy] at ph;generalize (List.replicate (L.length+1) false).map DV.bool=Z at *;generalize L.map ae.dv=V at *;simp[f132,hV0,hw1,ay,hroom,hroom2,hpos,htn,hrep,ph,hx]
end
def eu (p:bb):Bool:=decide (2≤p.pr.drop)&&(decide (0<(aA p).length)&&((aA p).getD 0 mz).k==1)
def cR (p:bb):List ae:=if eu p=true then (aA p).drop 1 else aA p
def dw (p:bb):List It:=bH p.text (cR p) (kn p.text (cR p) p.pr.bS) 0 0 0 (cR p)
theorem jR (p:bb):∀ (l:List Clu) (kr:Bool) (bf:UInt8) (ps:Int) (mk:List (List UInt8)),∀ m∈dU p kr bf ps mk l,∃ c∈l,m.a=c.a∧m.s=sizeOf p c.a
 | [],_,_,_,_,m,h=>by cases h
 | c::r,kr,bf,ps,mk,m,h=>by
   simp only[dU] at h;rcases aaA.1 h with rfl | h
   · exact⟨c,by simp,rfl,rfl⟩
   · obtain⟨c',h1,h2⟩:=jR p r _ _ _ _ m h;exact⟨c',by simp[h1],h2⟩
theorem kY (p:bb):MOk p.text (aA p):=by
 refine⟨xU p,zF p,?_,?_⟩
 · intro m hm;unfold aA at hm;split at hm
   · obtain⟨c,hc,h1,_⟩:=jR p _ _ _ _ _ m hm;have:=tq (jY p.text p.text.length 0).1 c hc;rw[h1];omega
   · cases hm
 · intro m hm;unfold aA at hm;split at hm
   · rename_i h0;obtain⟨_,_,hsp,hpr,_⟩:=cN h0;obtain⟨c,hc,_,h2⟩:=jR p _ _ _ _ _ m hm
     have hS:lU p.aI:=by
      unfold eb at hsp
      cases e:dY p.text.length p.aI with
      | none=>rw[e] at hsp;simp at hsp
      | some k=>exact(jc _ _ _ e).1
     have:=kV p hpr hS c.a;rw[h2];exact⟨this.1,this.2.1⟩
   · cases hm
theorem MOk.drop {s:List UInt8} {L:List ae} (h:MOk s L) (n:Nat):MOk s (L.drop n):=
 ⟨by rw[List.length_drop];have:=h.len;omega,aaf.2 fun m hm=>aaf.1 h.ok m (aar hm),fun m hm=>h.at_ m (aar hm),fun m hm=>h.sz m (aar hm)⟩
theorem ye (p:bb):MOk p.text (cR p):=by
 unfold cR;split
 · exact(kY p).drop 1
 · exact kY p
def og (tk:Tk):Tk:=match tk with | .own _ _=>.no | k=>k
theorem exl (st st':St) (tag n:Nat) (tk:Tk) (nn:Bool) (xs:List DV):aL st st' (.list tag n tk nn xs)=some (.list tag n (og tk) nn xs):=by cases tk<;>rfl
@[simp] theorem Dr (l:Nat):(DV.yield l).leaves=[.yield l]:=rfl
section
variable {st:St} {p:bb} {w u:LW}
theorem zD:(aj p w u)[16]? = some (.int .i64 p.pr.drop):=rfl
theorem Co (hp:p.small) (hw:w.ok 4 p.aI) (hu:u.ok 1 p.marks):∃ v:LW,(E tab).F 117 [.agg (aj p w u)] st=some (.tuple [.list v.t v.n v.tk v.nn ((if az p=0 then cR p else []).map ae.dv),.int .i64 (az p)],st)∧v.ok 6 (if az p=0 then cR p else []):=by
 rw[aK HJ rfl];obtain⟨_,hm,v,rfl,hv⟩:=tI p hp w u hw hu (pst st [.cells .plain (aj p w u)] []);have hpd:=zD (p:=p) (w:=w) (u:=u);by_cases h0:az p=0
 · have hV0:((aA p).map ae.dv).length=(aA p).length:=by simp
   rw[if_pos h0];unfold cR eu;by_cases h1:2≤p.pr.drop
   · by_cases h2:0<(aA p).length
     · have h2':(0:Int)<(aA p).length:=by omega
       have hvn:=hv.n (by intro e;rw[e] at h2;simp at h2);have g0:=oU (L:=aA p) h2;have l0:0<((aA p).map ae.dv).length:=by simpa using h2
       by_cases h3:((aA p).getD 0 mz).k=1
       · rw[if_pos (by simp only[h1,h2,h3,decide_true,Bool.true_and,beq_self_eq_true])];have hs:=qO (n:=6) (en:=v.n) (t:=v.t) (tk:=v.tk) (nn:=v.nn) (xs:=(aA p).map ae.dv) (k:=.i64) (lo:=1) (fun _=>hvn) (by omega) (by simp;omega);refine⟨⟨v.t,v.n,og (tU v.tk ((aA p).map ae.dv).length 1 ((aA p).map ae.dv).length),v.nn⟩,?_,fun e=>hvn,fun e=>by have:=hv.2 e;simp[this]⟩;have hdr:((aA p).map ae.dv).drop (1:Int).toNat=((aA p).drop 1).map ae.dv:=by rw[List.map_drop];rfl
         rw[hdr] at hs;generalize ((aA p).drop 1).map ae.dv=D at *;generalize (aA p).getD 0 mz=m at *;generalize (aA p).map ae.dv=V at *;have g0':V[0]'l0=m.dv:=by rw[aac l0] at g0;exact aaa.inj g0
         rw[hvn] at hm hs ⊢;have hVl:V.length=(aA p).length:=hV0;rw[hVl] at hs ⊢;simp only[show (1:Int).toNat=1 from rfl] at hs;simp[-eT,exl,f117,hm,h0,hpd,h1,hV0,h2,h2',g0,g0',l0,ae.dv,ae.cs,h3,hs]
       · have h3b:(((aA p).getD 0 mz).k==1)=false:=by rw[beq_eq_false_iff_ne];exact h3
         rw[if_neg (by rw[h3b];simp)];refine⟨⟨v.t,v.n,og v.tk,v.nn⟩,?_,hv⟩;generalize (aA p).getD 0 mz=m at *;generalize (aA p).map ae.dv=V at *;have g0':V[0]'l0=m.dv:=by rw[aac l0] at g0;exact aaa.inj g0
         rw[hvn] at hm;simp[-eT,exl,f117,hm,h0,hpd,h1,hV0,h2,h2',g0,g0',l0,ae.dv,ae.cs,h3,hvn]
     · have h2':¬ (0:Int)<(aA p).length:=by omega
       rw[if_neg (by simp[h2])];refine⟨⟨v.t,v.n,og v.tk,v.nn⟩,?_,hv⟩;generalize (aA p).map ae.dv=V at *;simp[-eT,exl,f117,hm,h0,hpd,h1,hV0,h2,h2']
   · rw[if_neg (by simp[h1])];refine⟨⟨v.t,v.n,og v.tk,v.nn⟩,?_,hv⟩;generalize (aA p).map ae.dv=V at *;simp[-eT,exl,f117,hm,h0,hpd,h1]
 · have hm0:aA p=[]:=by unfold aA;rw[if_neg h0]
   rw[hm0] at hm hv;rw[if_neg h0];refine⟨⟨v.t,v.n,og v.tk,v.nn⟩,?_,hv⟩;simp at hm;simp[-eT,exl,f117,hm,h0]
theorem BV {L:List ae} (hy:p.pr.bS=0) (hL:MOk p.text L) {t n:Nat} {tk:Tk} {nn:Bool} (h6:L≠[]→n=6) (h7:nn=true→n=6) (P0:List DV):∃ (ov:DV) (fr:Nat) (J:List HO) (K:List Nat),
 (E tab).F 131 [.yield (st.heap.length+4),.ptr (st.heap.length+2) 0,.ptr (st.heap.length+3) 0] (pst st [.cells .plain P0,.cells .plain [.list 0 0 .no false []],.cells .plain (aj p w u),.cells .plain [.list t n tk nn (L.map ae.dv)],loI st 0] []) =
  some (.tuple [],pst st (HI st P0 (aj p w u) ov (.list t n tk nn (L.map ae.dv)) fr 0 J) K)∧Acc st K 8 ((bH p.text L (kn p.text L p.pr.bS) 0 0 0 L).map It.dv) ov:=by
 obtain⟨t2,hwd⟩:=BQ (st:=pst st [.cells .plain P0,.cells .plain [.list 0 0 .no false []],.cells .plain (aj p w u),.cells .plain [.list t n tk nn (L.map ae.dv)],loI st 0,.cells .plain [.yield (st.heap.length+4)]] []) (w:=w) (u:=u) hy hL (t:=t) (n:=n) (tk:=tk) (nn:=nn) h6;obtain⟨ov',fr',J',K',X,y6,tl,hJ,a1,a2,a3⟩:=Ge (st:=st) (P0:=P0) (w:=w) (u:=u) hL (t:=t) (n:=n) (tk:=tk) (nn:=nn) h6 h7 (sn p.text L p.pr.bS) (t2:=t2) (tk2:=.tight) L [] 0 0 [] [] [] (.list 0 0 .no false []) rfl (aai _) (aai _) (by simp) (fR _ _ _ _ _ _);simp only[aa5] at a1 a2;obtain⟨ov2,J2,K2,hS,hA2⟩:=w8 (st:=st) (P0:=P0) (P1:=aj p w u) (J:=J') (t:=t) (n:=n) (tk:=tk) (nn:=nn) (fr:=fr') hL h6 h7 (k:=L.length) (aai _) (by have:=hL.len;omega) a1;refine⟨ov2,fr',J'++J2,K2,?_,by rw[aaX] at a3;rw[a3];exact hA2⟩;rw[dV D7 rfl];have hV0:(L.map ae.dv).length=L.length:=by simp
 simp only[plV] at hJ;generalize (kn p.text L p.pr.bS).map DV.bool=PL at *;generalize L.map ae.dv=V at *;simp only[HI] at hS hJ ⊢;simp at hS hJ;have hpa:takeN (aj p w u) 0 21 true=some (.agg (aj p w u)):=rfl;simp[f131,hwd,hV0,hJ,cU,hS]
theorem BJ (hy:p.pr.bS=0) (hp:p.small) (hw:w.ok 4 p.aI) (hu:u.ok 1 p.marks):∃ v,(E tab).F 106 [.agg (aj p w u)] st=some (.tuple [v,.int .i64 (az p)],st)∧Lw 8 ((if az p=0 then dw p else []).map It.dv) v:=by
 rw[aK HG rfl];obtain⟨v,hb,hv⟩:=Co (st:=pst st [.cells .plain (aj p w u)] []) hp hw hu;by_cases h0:az p=0
 · rw[if_pos h0] at hb hv ⊢;obtain⟨ov,fr,J,K,hwk,hA⟩:=BV (st:=st) (p:=p) (w:=w) (u:=u) hy (ye p) (t:=v.t) (tk:=v.tk) hv.n hv.1 (aj p w u)
   have hrf:=rV (T:=tab) (st:=st) (H:=[.cells .plain (aj p w u),.cells .plain [.list 0 0 .no false []],.cells .plain (aj p w u),.cells .plain [.list v.t v.n v.tk v.nn ((cR p).map ae.dv)]]) (K:=[]) (f:=.t 18) (params:=[19]) (live:=[6,18]) (assign:=.region qZ [6,7]) (body:=.block 1 (.region qy []))
    (fr:=[(6,.ptr (st.heap.length+1) 0),(18,.fn 131 [] [.ptr (st.heap.length+2) 0,.ptr (st.heap.length+3) 0])]) (g:=131) (first:=[]) (captured:=[.ptr (st.heap.length+2) 0,.ptr (st.heap.length+3) 0]) rfl D7 hwk rfl (by decide)
   have h118:(E tab).F 118 [.agg (aj p w u),.list v.t v.n v.tk v.nn ((cR p).map ae.dv)] (pst st [.cells .plain (aj p w u),.cells .plain [.list 0 0 .no false []]] [])=some (.fn 131 [] [.ptr (st.heap.length+2) 0,.ptr (st.heap.length+3) 0],pst st [.cells .plain (aj p w u),.cells .plain [.list 0 0 .no false []],.cells .plain (aj p w u),.cells .plain [.list v.t v.n v.tk v.nn ((cR p).map ae.dv)]] []):=by
    rw[dV Jq rfl];simp[f118]
   have hA':=pY (st':=pst st ((HI st (aj p w u) (aj p w u) ov (.list v.t v.n v.tk v.nn ((cR p).map ae.dv)) fr 0 J).set 4 (loI st 3)) K) hA;obtain⟨t',n',tk',nn',e1,e2,e3,e4⟩:=hA';refine⟨.list t' n' tk' nn' ((dw p).map It.dv),?_,.list _ _ _ _ e3 e2⟩;obtain⟨q1,q2,q3,q4,rfl⟩:=ib hA;rw[h0] at hb ⊢;have e1':bE st (pst st ((HI st (aj p w u) (aj p w u) (.list q1 q2 q3 q4 ((bH p.text (cR p) (kn p.text (cR p) p.pr.bS) 0 0 0 (cR p)).map It.dv)) (.list v.t v.n v.tk v.nn ((cR p).map ae.dv)) fr 0 J).set 4 (loI st 3)) K) (.list q1 q2 q3 q4 ((bH p.text (cR p) (kn p.text (cR p) p.pr.bS) 0 0 0 (cR p)).map It.dv))=_:=e1;unfold dw;generalize (bH p.text (cR p) (kn p.text (cR p) p.pr.bS) 0 0 0 (cR p)).map It.dv=X at *;generalize (cR p).map ae.dv=V at *;simp only[HI] at hrf e1';simp only[loI] at hrf e1';simp at hrf e1';simp[f106,hb,h118,hrf,e1']
 · rw[if_neg h0] at hb hv ⊢;refine⟨.list 0 0 .no false [],?_,.list _ _ _ _ (fun h=>by cases h) (fun _=>rfl)⟩;simp at hb;simp[f106,hb,h0]
end
theorem z9 {n:Nat} {xs:List DV} {v:DV} (h:Lw n xs v):∃ t n' tk nn,v=.list t n' tk nn xs∧(xs≠[]→n'=n)∧(nn=true→n'=n)∧(nn=false→xs=[]):=by
 cases h with
 | list t n' tk nn h1 h2=>exact⟨t,n',tk,nn,rfl,fun hx=>h1 (by cases nn with | true=>rfl | false=>exact absurd (h2 rfl) hx),h1,h2⟩
theorem G4:tab 234=some (.code vm):=by kernel_rfl
theorem KP:tab 211=some (.code f211):=by kernel_rfl
theorem MD (x y:Int):ey jB [.int .i64 x,.int .i64 y]=some (.int .i64 (min x y)):=by
 have:(if y<x then y else x)=min x y:=by split<;>omega
 simp[ey,jB,this]
def lY (p:bb):Int:=if eu p=true then wd (bAt p.text 0) (min (p.pr.size*p.pr.drop) 64)+4 else 0
theorem cY {p:bb} (h:az p=0):1≤p.pr.size∧p.pr.size≤64∧0≤p.pr.drop∧p.pr.drop≤4∧0≤p.pr.align∧p.pr.align≤3∧p.text.length≤4096:=by
 obtain⟨h1,_,_,hpr,_⟩:=cN h;have:=(eD h1).1;simp only[cu,fb,aab,decide_eq_true_eq] at hpr;omega
theorem jM {p:bb} (h:eu p=true):az p=0∧0<p.text.length∧0<(aA p).length:=by
 simp only[eu,aab,decide_eq_true_eq] at h
 have h0:az p=0:=by
  refine abp fun hc=>?_;have:aA p=[]:=by unfold aA;rw[if_neg hc]
  rw[this] at h;simp at h
 have hm:=(kY p).at_ ((aA p)[0]'h.2.1) (aau _);exact⟨h0,by omega,h.2.1⟩
theorem Cs (p:bb):0≤lY p∧lY p≤68∧(eu p=true→4≤lY p):=by
 unfold lY;by_cases h:eu p=true
 · have hc:=cY (jM h).1;have h2:2≤p.pr.drop:=by simp only[eu,aab,decide_eq_true_eq] at h;exact h.1
   have hm:(2:Int)≤p.pr.size*p.pr.drop:=by
    have:=Int.mul_le_mul hc.1 h2 (by omega) (by omega);omega
   have h1:1≤min (p.pr.size*p.pr.drop) 64:=by omega
   have h3:min (p.pr.size*p.pr.drop) 64≤64:=by omega
   have:=oH (bAt p.text 0) h1 h3;rw[if_pos h];omega
 · rw[if_neg h];exact⟨by omega,by omega,fun e=>absurd e h⟩
section
variable {st:St} {p:bb} {w u:LW}
theorem uR {t n:Nat} {tk:Tk} {nn:Bool} (h6:aA p≠[]→n=6):(E tab).F 234 [.agg (aj p w u),.list t n tk nn ((aA p).map ae.dv)] st=some (.int .i64 (lY p),st):=by
 rw[aK G4 rfl];have hV0:((aA p).map ae.dv).length=(aA p).length:=by simp
 have hpd:=zD (p:=p) (w:=w) (u:=u);unfold lY;by_cases h1:2≤p.pr.drop
 · have h1':¬ p.pr.drop<2:=by omega
   by_cases h2:0<(aA p).length
   · have h2':¬ ((aA p).length:Int)=0:=by omega
     have h2b:¬ aA p=[]:=by intro e;rw[e] at h2;simp at h2
     obtain rfl:=h6 h2b;have g0:=oU (L:=aA p) h2;have l0:0<((aA p).map ae.dv).length:=by simpa using h2
     by_cases h3:((aA p).getD 0 mz).k=1
     · have hb:eu p=true:=by simp only[eu,h1,h2,h3,decide_true,Bool.true_and,beq_self_eq_true]
       rw[if_pos hb];obtain⟨h0,ht,_⟩:=jM hb;have hc:=cY h0
       have hm:(2:Int)≤p.pr.size*p.pr.drop∧p.pr.size*p.pr.drop≤256:=by
        have a:=Int.mul_le_mul hc.1 h1 (by omega) (by omega);have b:=Int.mul_le_mul hc.2.1 hc.2.2.2.1 hc.2.2.1 (by omega);omega
       have hm1:1≤min (p.pr.size*p.pr.drop) 64:=by omega
       have hm3:min (p.pr.size*p.pr.drop) 64≤64:=by omega
       have hww:=oH (bAt p.text 0) hm1 hm3;have hmin:=MD (p.pr.size*p.pr.drop) 64;have hsl:b6 true 1 (.str p.text) none (some (.int .i64 1)) none=some (.str (p.text.take 1)):=by rw[AH (by omega) (by omega)];simp
       have hW:∀ st,(E tab).F 17 [.str (p.text.take 1),.int .i64 (min (p.pr.size*p.pr.drop) 64)] st=some (.tuple [.int .i64 (wd (bAt p.text 0) (min (p.pr.size*p.pr.drop) 64)),.int .i64 0],st):=by
        intro st
        have e:p.text.take 1=[bAt p.text 0]:=by
         cases hs:p.text with
         | nil=>rw[hs] at ht;simp at ht
         | cons a r=>simp[bAt]
        rw[rC,e];have hw:IntKind.i64.wrap (wd (bAt p.text 0) (min (p.pr.size*p.pr.drop) 64))=wd (bAt p.text 0) (min (p.pr.size*p.pr.drop) 64):=aG (by omega);simp only[dW];rw[if_pos ⟨hm1,hm3⟩];simp[tw,hw]
       have hw2:IntKind.i64.wrap (p.pr.size*p.pr.drop)=p.pr.size*p.pr.drop:=aG (by omega);have hw3:IntKind.i64.wrap (wd (bAt p.text 0) (min (p.pr.size*p.pr.drop) 64)+4)=wd (bAt p.text 0) (min (p.pr.size*p.pr.drop) 64)+4:=aG (by omega);generalize (aA p).getD 0 mz=m at *;generalize (aA p).map ae.dv=V at *;have g0':V[0]'l0=m.dv:=by rw[aac l0] at g0;exact aaa.inj g0
       generalize wd (bAt p.text 0) (min (p.pr.size*p.pr.drop) 64)=W at *;have ht1:(1:Int)≤p.text.length:=by omega
       simp[vm,hpd,h1',hV0,h2b,h2',g0,g0',l0,ae.dv,ae.cs,h3,hw2,hw3,hW,hsl,hmin]
     · have hb:¬ eu p=true:=by
        simp only[eu,aab];rintro⟨_,_,h⟩;exact h3 (by simpa using h)
       rw[if_neg hb];generalize (aA p).getD 0 mz=m at *;generalize (aA p).map ae.dv=V at *;have g0':V[0]'l0=m.dv:=by rw[aac l0] at g0;exact aaa.inj g0
       simp[vm,hpd,h1',hV0,h2b,h2',g0,g0',l0,ae.dv,ae.cs,h3]
   · have h2':aA p=[]:=aaY.1 (by omega);have hb:¬ eu p=true:=by simp[eu,h2']
     rw[if_neg hb,h2'];simp[vm,hpd,h1']
 · have h1':p.pr.drop<2:=by omega
   have hb:¬ eu p=true:=by simp only[eu,aab,decide_eq_true_eq];rintro⟨h,_⟩;exact h1 h
   rw[if_neg hb];generalize (aA p).map ae.dv=V at *;simp[vm,hpd,h1']
theorem Dc (hp:p.small) (hw:w.ok 4 p.aI) (hu:u.ok 1 p.marks):(E tab).F 211 [.agg (aj p w u)] st=some (.tuple [.int .i64 (lY p),.int .i64 (az p)],st):=by
 rw[aK KP rfl];obtain⟨_,hm,v,rfl,hv⟩:=tI p hp w u hw hu (pst st [.cells .plain (aj p w u)] []);have hc:=fun st=>uR (st:=st) (p:=p) (w:=w) (u:=u) (t:=v.t) (tk:=v.tk) (nn:=v.nn) hv.n;by_cases h0:az p=0
 · generalize (aA p).map ae.dv=V at *;simp[f211,hm,h0,hc]
 · have hb:¬ eu p=true:=fun h=>h0 (jM h).1;have hcp:lY p=0:=by unfold lY;rw[if_neg hb]
   generalize (aA p).map ae.dv=V at *;simp[f211,hm,h0,hcp]
structure Ln where
 f:Int
 t:Int
 x:Int
 w:Int
 n:Int
 h:Bool
 g:Int
def Ln.cs (l:Ln):List DV:=[.int .i64 l.f,.int .i64 l.t,.int .i64 l.x,.int .i64 l.w,.int .i64 l.n,.bool l.h,.int .i64 l.g]
def Ln.dv (l:Ln):DV:=.agg l.cs
end
theorem JZ:tab 322=some (.code yO):=by kernel_rfl
def gN:List It→Int
 | []=>0
 | x::r=>x.s+gN r
def hI:List It→Int
 | []=>0
 | x::r=>x.h+hI r
theorem th:∀ a b,gN (a++b)=gN a+gN b
 | [],b=>by simp[gN]
 | x::a,b=>by simp only[aaH,gN,th a b];omega
theorem ti:∀ a b,hI (a++b)=hI a+hI b
 | [],b=>by simp[hI]
 | x::a,b=>by simp only[aaH,hI,ti a b];omega
def okS (l:List It):Prop:=∀ x∈l,0≤x.s∧x.s≤4095∧0≤x.h∧x.h≤4095
theorem Gs {l:List It} (h:bp l=0):okS l:=by
 unfold bp at h;split at h
 · omega
 · split at h
   · omega
   · rename_i h2;intro x hx;rw[Bool.not_eq_true,List.any_eq_false] at h2;have:=h2 x hx;simp[kc,xY,bn] at this;omega
theorem A1:∀ {l:List It},okS l→0≤gN l∧gN l≤4095*l.length∧0≤hI l∧hI l≤4095*l.length
 | [],_=>by simp[gN,hI]
 | x::r,h=>by
   have h1:=h x (aap ..);have h2:=A1 (l:=r) fun y hy=>h y (aao _ hy);simp only[gN,hI,aaw];omega
def vR (l:List It) (a b:Int):DV:=
 if dj l a b≠0 then .tuple [.int .i64 0,.int .i64 0,.int .i64 (dj l a b)]
 else .tuple [.int .i64 (gN ((l.drop a.toNat).take (aS l a.toNat b.toNat-a.toNat))),.int .i64 (hI ((l.drop a.toNat).take (aS l a.toNat b.toNat-a.toNat))),.int .i64 0]
section
variable {st:St} {l:List It} {v:DV}
theorem Gd (l':List It) {v':DV} (hv':Its st l' v') (hok:okS l') (hl:l'.length≤8192) (K:List Nat):∀ (r d:List It) (H:List HO),l'=d++r →
 ∃ J fr,(E tab).C p4 [(10,.int .i64 (gN d)),(11,.int .i64 (hI d)),(24,v'),(25,.int .i64 l'.length),(26,.int .i64 d.length)] (pst st H K) =
   some (.exit 0,[(10,.int .i64 (gN l')),(11,.int .i64 (hI l'))]++fr,pst st (H++J) K):=by
 intro r
 induction r with
 | nil=>
   intro d H hd;refine⟨[],[(24,v'),(25,.int .i64 l'.length),(26,.int .i64 l'.length),(27,.bool false)],?_⟩;rw[al (L:=p4) rfl];simp[vE,hd]
 | cons x r ih=>
   intro d H hd;have h0:d.length<l'.length:=by simp[hd]
   have hx:l'[d.length]? = some x:=by simp[hd]
   have hw1:IntKind.i64.wrap ((d.length:Int)+1)=((d++[x]).length:Nat):=by rw[aG (by omega)];simp
   have e1:=fun st'=>dt hv' h0 .i64 st';have e2:=fun H K=>nc hv' hx H K;simp only[It.dv,It.cs] at e2;have hs:=A1 (l:=d++[x]) fun y hy=>hok y (by rw[hd];simp at hy ⊢;rcases hy with h | h;exact .inl h;exact .inr (.inl h));have hlen:(d++[x]).length≤8192:=by have:=congrArg List.length hd;simp at this ⊢;omega
   have eS:gN (d++[x])=gN d+x.s:=by rw[th];simp[gN]
   have eH:hI (d++[x])=hI d+x.h:=by rw[ti];simp[hI]
   have w2:IntKind.i64.wrap (gN d+x.s)=gN (d++[x]):=by rw[eS,aG (by omega)]
   have w3:IntKind.i64.wrap (hI d+x.h)=hI (d++[x]):=by rw[eH,aG (by omega)]
   obtain⟨J,fr,hJ⟩:=ih (d++[x]) (H++[.cells .plain x.cs]) (by simp[hd]);refine⟨.cells .plain x.cs::J,fr,?_⟩;simp only[aah,aan] at hJ hw1;simp[It.cs] at hJ;rw[al (L:=p4) rfl];simp[vE,h0,e1,e2,It.cs,hw1,w2,w3,hJ]
theorem B8 (hv:Its st l v) (a b:Int):(E tab).F 322 [v,.int .i64 a,.int .i64 b] st=some (vR l a b,st):=by
 rw[aK JZ rfl];have e0:=fun st'=>cw hv st';have e1:=pg (hv.inn [] []) a b;unfold vR;by_cases h1:dj l a b=0
 · obtain⟨h3,h4,h5,h6⟩:=j5 h1;obtain⟨hok,hlen⟩:=gi h3;have hok2:=Gs h3;obtain⟨A,rfl⟩:=aaM h4;obtain⟨B,rfl⟩:=aaM (show 0≤b by omega);obtain⟨v',et,hv'⟩:=mB (hv.inn [] []) (by omega) A B (by omega) (by omega);have hv':=Vw.out hv';have hlt:=kE l A B;have hok':okS ((l.drop A).take (aS l A B-A)):=fun y hy=>hok2 y (aar (aaD hy));have hlen':((l.drop A).take (aS l A B-A)).length≤8192:=by simp;omega
   obtain⟨J,fr,hL⟩:=Gd _ hv' hok' hlen' [] _ [] [] rfl;have e3:=fun st'=>cw hv' st';simp only[Int.toNat_natCast];generalize ((l.drop A).take (aS l A B-A))=l' at *;simp[gN,hI] at hL;simp[yO,e0,e1,e3,h1,et,hL]
 · simp[yO,e1,h1]
end
structure Sl where
 x:Int
 w:Int
def Sl.cs (s:Sl):List DV:=[.int .i64 s.x,.int .i64 s.w]
def Sl.dv (s:Sl):DV:=.agg s.cs
theorem vQ (s:Sl):eG 2 true s.dv:=⟨rfl,rfl,rfl⟩
theorem q9 {l:List Sl}:∀ y∈l.map Sl.dv,eG 2 true y:=fun y hy=>by obtain⟨x,_,rfl⟩:=aaQ.1 hy;exact vQ x
abbrev Sls (st:St) (l:List Sl) (v:DV):Prop:=Vw st 2 true (l.map Sl.dv) v
structure Pc where
 a:Int
 b:Int
 wide:Bool
 hy:Bool
 n:Int
def Pc.cs (p:Pc):List DV:=[.int .i64 p.a,.int .i64 p.b,.bool p.wide,.bool p.hy,.int .i64 p.n]
def Pc.dv (p:Pc):DV:=.agg p.cs
theorem KJ (p:Pc):eG 5 true p.dv:=⟨rfl,rfl,rfl⟩
theorem HA:tab 113=some (.code f113):=by kernel_rfl
theorem KM:tab 114=some (.code f114):=by kernel_rfl
theorem Li:tab 126=some (.code f126):=by kernel_rfl
theorem G9:tab 127=some (.code f127):=by kernel_rfl
theorem J9:tab 128=some (.code f128):=by kernel_rfl
theorem Jw:tab 129=some (.code f129):=by kernel_rfl
theorem Hh:tab 130=some (.code f130):=by kernel_rfl
theorem Kj:tab 140=some (.code f140):=by kernel_rfl
theorem Jh:tab 141=some (.code f141):=by kernel_rfl
theorem H9:tab 142=some (.code f142):=by kernel_rfl
def jn (s:Sl):Bool:=bn s.x&&bn s.w
theorem Fh (s:Sl) (st:St):(E tab).F 140 [s.dv] st=some (.bool (jn s),st):=by
 rw[aK Kj rfl];unfold jn bn;by_cases h1:0≤s.x
 · by_cases h2:s.x≤4095
   · by_cases h3:0≤s.w
     · simp[f140,Sl.dv,Sl.cs,h1,h2,h3]
     · simp[f140,Sl.dv,Sl.cs,h1,h2,h3]
   · simp[f140,Sl.dv,Sl.cs,h1,h2]
 · simp[f140,Sl.dv,Sl.cs,h1]
def mL (l:List Sl) (rest:Sl) (n:Nat):Sl:=(l[n]?).getD rest
def bc (l:List Sl) (rest:Sl) (n:Int):Sl:=if n<0 then ⟨0,0⟩ else mL l rest n.toNat
section
variable {st:St} {l:List It} {v:DV} {sl:List Sl} {sv:DV} {rest:Sl}
theorem qk (hv:Sls st sl sv) (n:Int):(E tab).F 114 [sv,rest.dv,.int .i64 n] st=some ((bc sl rest n).dv,st):=by
 rw[aK KM rfl];have e0:=fun st'=>Vw.len hv st';simp only[aaU] at e0;unfold bc mL;by_cases h1:n<0
 · simp[f114,Sl.dv,Sl.cs,h1]
 · obtain⟨n,rfl⟩:=aaM (show 0≤n by omega);by_cases h2:n<sl.length
   · have hx:sl[n]? = some sl[n]:=aac h2;have e1:=fun st'=>Vw.bw hv (i:=n) (by simpa using h2) .i64 st';have e2:=fun H K=>Vw.load (Vw.inn hv H K) q9 rfl (i:=n) (x:=sl[n].dv) (by simp[hx]);simp only[Sl.dv,Sl.cs] at e2;simp[f114,Sl.dv,Sl.cs,e0,h2,e1,e2]
   · simp[f114,Sl.dv,Sl.cs,e0,h2]
def c7 (sl:List Sl) (rest:Sl):Int:=if 256<sl.length then 3 else if sl.all jn&&jn rest then 0 else 2
theorem FQ (all:List Sl) (hl:all.length≤1000) (t:Nat) (tk:Tk) (K:List Nat):∀ (r d:List Sl) (H:List HO),all=d++r →
 ∃ J fr,(E tab).C la [(14,.list t 2 tk true (all.map Sl.dv)),(15,.int .i64 all.length),(16,.int .i64 d.length)] (pst st H K) =
   some (if r.all jn then (.exit 0,fr,pst st (H++J) K) else (.ret,[(4,.int .i64 2)],pst st (H++J) K)):=by
 intro r
 induction r with
 | nil=>
   intro d H hd;refine⟨[],[(14,.list t 2 tk true (all.map Sl.dv)),(15,.int .i64 all.length),(16,.int .i64 all.length),(17,.bool false)],?_⟩;rw[al (L:=la) rfl];simp[ra,hd]
 | cons x r ih=>
   intro d H hd;have h0:d.length<all.length:=by simp[hd]
   have hg:all[d.length]=x:=by simp[hd]
   have hw1:IntKind.i64.wrap ((d.length:Int)+1)=((d++[x]).length:Nat):=by rw[aG (by omega)];simp
   have e1:=fun st=>Fh x st;simp only[Sl.dv,Sl.cs] at e1;rw[List.all_cons]
   cases hm:jn x with
   | false=>
     rw[hm] at e1;refine⟨[.cells .plain x.cs],[],?_⟩;rw[al (L:=la) rfl];simp[ra,h0,hg,Sl.dv,Sl.cs,e1]
   | true=>
     rw[hm] at e1;obtain⟨J,fr,hJ⟩:=ih (d++[x]) (H++[.cells .plain x.cs]) (by simp[hd]);refine⟨.cells .plain x.cs::J,fr,?_⟩;rw[Bool.true_and];generalize r.all jn=b at hJ ⊢;simp only[aah,aan] at hJ hw1;simp[Sl.cs,Sl.dv] at hJ;rw[al (L:=la) rfl];simp[ra,h0,hg,Sl.dv,Sl.cs,e1,hw1,hJ]
theorem sS (hv:Sls st sl sv):(E tab).F 126 [sv,rest.dv] st=some (.int .i64 (c7 sl rest),st):=by
 rw[aK Li rfl];have e0:=fun st'=>Vw.len hv st';simp only[aaU] at e0;unfold c7;by_cases h:256<sl.length
 · have h':(256:Int)<sl.length:=by omega
   simp[f126,Sl.dv,Sl.cs,e0,h,h']
 have h':¬ (256:Int)<sl.length:=by omega
 have hn:=Vw.news (Vw.inn hv [.cells .plain rest.cs] []);simp only[aaU] at hn;have hfl:=gz (n:=2) (ag:=true) (ys:=sl.map Sl.dv) q9;have hdm:=cW hfl;have hch:=dR (n:=2) (ag:=true) (ys:=sl.map Sl.dv) q9;simp only[aaU] at hch;have hL:=FQ (st:=st) (sl++[rest]) (by simp;omega) st.cur (.own st.aO.length (if sl.length=0 then 0 else 1)) [if sl.length=0 then 0 else 1] (sl++[rest]) [] [.cells .plain rest.cs] rfl;obtain⟨J,fr,hL⟩:=hL;have ea:((sl++[rest]).all jn)=(sl.all jn&&jn rest):=by simp
 rw[ea] at hL;have hb1:sl.length*16≤140737488355328:=by omega
 have hb2:sl.length≤140737488355328:=by omega
 have hb3:(sl.length+1)*16≤140737488355328:=by omega
 have hb4:sl.length+1≤140737488355328:=by omega
 generalize (sl.all jn&&jn rest)=b at *
 have hreg:(E tab).C (.av vG [] [(2,[0]),(3,[0])] [14,15,16]) [(0,sv),(3,.ptr st.heap.length 0),(9,.bool false)] (pst st [.cells .plain rest.cs] []) =
  some (.normal,[(14,.list st.cur 2 (.own st.aO.length (if sl.length=0 then 0 else 1)) true ((sl++[rest]).map Sl.dv)),(15,.int .i64 (sl++[rest]).length),(16,.int .i64 0)],pst st [.cells .plain rest.cs] [if sl.length=0 then 0 else 1]):=by
  have hvi:=hv.inn [.cells .plain rest.cs] [];by_cases hz:sl=[]
  · subst hz;have a1:=xN (t:=0) (n':=0) (by_:=16) (tk:=.no) (nn:=false) (ys:=[]) hvi;have a2:=v7 (st:=st) (H:=[.cells .plain rest.cs]) (K:=[]) (n:=2) (n':=0) (t:=0) (t':=st.cur) (by_:=16) (ag:=true) (tk:=.no) (tk':=.tight) (nn:=false) (xs:=[]) (ys:=[rest.dv]) (.inl rfl) (by omega) (by simp) (by simp[vQ]) (by simp[ay]) (by simp[ay]);simp[Sl.dv,Sl.cs] at a1 a2;have hp4:aP (ai tab) (.append 2 true 16 (.c (.list 0 0 .no false [])) (.t 10))=true:=rfl;simp[cO,gj,iU,iJ,aP,aW,bk,chunk,Sl.dv,Sl.cs,a1,a2]
  · have hp:0<sl.length:=List.length_pos_iff.2 hz;have hne:¬ sl.length=0:=by omega
    have a1:=Ae (t:=0) (n':=0) (by_:=16) (tk:=.no) hvi q9 (by simpa using hz) (by omega) (by simp[ay];omega) (by simp[ay];omega);have a2:=xd (st:=st) (H:=[.cells .plain rest.cs]) (K:=[0]) (n:=2) (t:=st.cur) (t':=st.cur) (by_:=16) (k:=0) (s:=0) (ag:=true) (tk':=.tight) (xs:=sl.map Sl.dv) (ys:=[rest.dv]) rfl (by omega) (by simp) (by simp[vQ]) (by simp[ay];omega) (by simp[ay];omega);simp[Sl.dv,Sl.cs] at a1 a2;have w1:((sl.length:Int)+1)=((sl.length+1:Nat):Int):=by simp
    simp[cO,gj,iU,iJ,aP,aW,bk,chunk,Sl.dv,Sl.cs,a1,a2,hne,hz]
 have h0:(E tab).C (.region ud [0,3]) (aX [sv,rest.dv] 0) (pst st [] [])=some (.normal,[(0,sv),(3,.ptr st.heap.length 0)],pst st [.cells .plain rest.cs] []):=by simp[Sl.dv,Sl.cs]
 have h1:(E tab).C (.seq (.region uL [0,3,9]) (.cond (.t 9) (.seq (.region um [4]) .ret) .skip)) [(0,sv),(3,.ptr st.heap.length 0)] (pst st [.cells .plain rest.cs] [])=some (.normal,[(0,sv),(3,.ptr st.heap.length 0),(9,.bool false)],pst st [.cells .plain rest.cs] []):=by simp[e0,h,h']
 rw[show f126.body=(.seq (.region ud [0,3]) (.seq (.seq (.region uL [0,3,9]) (.cond (.t 9) (.seq (.region um [4]) .ret) .skip)) (.seq (.seq (.av vG [] [(2,[0]),(3,[0])] [14,15,16]) (.block 0 la)) (.seq (.region A3 [4]) .ret)))) from rfl,cp,h0];simp only;rw[cp,h1];simp only;rw[cp,cp,hreg];simp only[aaX] at hL;simp only[mc];have hL':=hL;simp only[Int.natCast_zero] at hL'
 erw [hL']
 cases b<;>simp[f126,h]
end
structure BrS (N:Nat) (lv sv ov:DV) (rest:Sl) (G:List HO):Prop where
 r0:rowAt G 0=some (.plain,[sv])
 r1:rowAt G 1=some (.plain,rest.cs)
 r2:rowAt G 2=some (.plain,[lv,.fn 127 [] [.ptr N 0,.ptr (N+1) 0],ov])
theorem BrS.app {N:Nat} {lv sv ov:DV} {rest:Sl} {G:List HO} (h:BrS N lv sv ov rest G) (X:List HO):BrS N lv sv ov rest (G++X):=⟨gH h.r0 X,gH h.r1 X,gH h.r2 X⟩
section
variable {st:St} {l:List It} {lv sv ov:DV} {sl:List Sl} {rest:Sl} {G:List HO} {K:List Nat}
theorem C1 (hs:Sls st sl sv) (hG:BrS st.heap.length lv sv ov rest G) (n:Int):(E tab).F 127 [.int .i64 n,.ptr st.heap.length 0,.ptr (st.heap.length+1) 0] (pst st G K)=some ((bc sl rest n).dv,pst st (G++[.cells .plain (bc sl rest n).cs]) K):=by
 rw[dV G9 rfl];have e1:=qk (rest:=rest) (hs.inn (G++[.cells .plain [.int .i64 0,.int .i64 0]]) K) n;have hr0:=gH hG.r0 [.cells .plain [.int .i64 0,.int .i64 0]];have hr1:=gH hG.r1 [.cells .plain [.int .i64 0,.int .i64 0]];generalize bc sl rest n=s at *;simp only[Sl.cs,Sl.dv] at hr1 e1;simp[f127,hr0,hr1,e1,Sl.cs,Sl.dv]
theorem xn (hv:Its st l lv) (hl:l.length≤140737488355328) (hG:BrS st.heap.length lv sv ov rest G) (i:Nat) (hi:i≤l.length):(E tab).F 141 [.ptr (st.heap.length+2) 0,.int .i64 i] (pst st G K)=some (.bool (lJ l i),pst st G K):=by
 have e0:=fun st'=>cw hv st';have hr:=hG.r2;rw[dV Jh rfl];unfold lJ;by_cases h:i=l.length
 · simp[f141,hr,e0,h]
 have h0:i<l.length:=by omega
 have hb:(i==l.length)=false:=by simp[h]
 have h':¬ (i:Int)=l.length:=by omega
 have hx:l[i]? = some l[i]:=aac h0;have e1:=fun st'=>dt hv h0 .i64 st';have e2:=fun st'=>fk hv hx (off:=0) (by omega) st';have e3:=fun H K=>ju hv hx H K;rw[hx,hb];generalize l[i]=x at *;by_cases k3:x.k=3
 · simp[f141,hr,e0,h,h',e1,e2,e3,k3]
 by_cases k2:x.k=2
 · by_cases hp:0<i
   · have h1:i-1<l.length:=by omega
     have hy:l[i-1]? = some l[i-1]:=aac h1;have q1:=fun st'=>dt hv h1 .i64 st';have q2:=fun st'=>fk hv hy (off:=0) (by omega) st';have q3:=fun H K=>ju hv hy H K;have w:IntKind.i64.wrap ((i:Int)-1)=((i-1:Nat):Int):=by rw[aG (by omega)];omega
     rw[hy];generalize l[i-1]=y at *;simp[f141,hr,e0,h,h',e1,e2,e3,k2,hp,w,q1,q2,q3]
   · simp[f141,hr,e0,h,h',e1,e2,e3,k2,hp]
 · simp[f141,hr,e0,h,h',e1,e2,e3,k3,k2]
theorem B2 (hv:Its st l lv) (hc:bp l=0) (hG:BrS st.heap.length lv sv ov rest G) (i:Nat) (hi:i<l.length) (a:Int) (ha:0≤a∧a≤100000000000):(E tab).F 142 [.ptr (st.heap.length+2) 0,.int .i64 i,.int .i64 a] (pst st G K)=some (.int .i64 (cf a l[i]),pst st G K):=by
 have hr:=hG.r2;obtain⟨hok,hlen⟩:=gi hc;rw[dV H9 rfl];have hx:l[i]? = some l[i]:=aac hi;have hxm:=hok _ (aau hi);have e1:=fun st'=>dt hv hi .i64 st';have e2:=fun st'=>fk hv hx (off:=0) (by omega) st';have e3:=fun H K=>ju hv hx H K;have e4:=fun st'=>fk hv hx (off:=3) (by omega) st';have e5:=fun H K=>AT hv hx H K;have hd:(l.drop i).take (i+1-i)=[l[i]]:=by rw[show i+1-i=1 by omega,List.drop_eq_getElem_cons hi];rfl
 have hs:=n4 hxm ha.1;by_cases k1:l[i].k=1
 · have w1:IntKind.i64.wrap (a+l[i].w)=cf a l[i]:=by simp only[cf,k1,true_or,if_true] at hs ⊢;exact aG (by omega)
   generalize l[i]=x at *;simp[f142,hr,e1,e2,e3,e4,e5,k1,w1]
 by_cases k2:l[i].k=2
 · have w1:IntKind.i64.wrap (a+l[i].w)=cf a l[i]:=by simp only[cf,k2,or_true,if_true] at hs ⊢;exact aG (by omega)
   generalize l[i]=x at *;simp[f142,hr,e1,e2,e3,e4,e5,k1,k2,w1]
 by_cases k4:l[i].k=4
 · obtain⟨v',hsl,hv'⟩:=Vw.slice hv (by omega) mO (lo:=i) (hi:=i+1) (by omega) (by simp;omega) .i64 .i64;have w1:IntKind.i64.wrap ((i:Int)+1)=((i+1:Nat):Int):=by rw[aG (by omega)];simp
   rw[← List.map_drop,← List.map_take,hd] at hv'
   have hc1:bp [l[i]]=0:=by
    have:l.any kc=false:=by
     unfold bp at hc;split at hc
     · omega
     · split at hc
       · omega
       · rename_i h;simpa using h
    have ho:=List.any_eq_false.1 this _ (aau hi);simp only[Bool.not_eq_true] at ho;simp[bp,ho]
   have eS:cf a l[i]=fP a:=by simp[cf,k4]
   have hmin:ey jB [.int .i64 a,.int .i64 4095]=some (.int .i64 (min a 4095)):=by
    have:(if (4095:Int)<a then (4095:Int) else a)=min a 4095:=by split<;>omega
    simp[ey,jB,this]
   have hmw:bn (min a 4095)=true:=by simp[bn];omega
   have hwid:=zI (hv'.inn G K) 0 1 (min a 4095);have hrg:dj [l[i]] 0 1=0:=by unfold dj;rw[if_neg (by simp),hc1]
   have hwv:B3 [l[i]] 0 1 (min a 4095)=.tuple [.int .i64 (fP (min a 4095)-min a 4095),.int .i64 0]:=by
    unfold B3;rw[hrg,hmw];simp[dI,aS,jl,k4,goI,cf]
   rw[hwv] at hwid;rw[eS];by_cases hm:4095<a
   · have q1:IntKind.i64.wrap (a.tdiv 48)=a/48:=IntWalk.i64_quo _ _ (by omega);have q2:IntKind.i64.wrap (a/48+1)=a/48+1:=aG (by omega);have q3:IntKind.i64.wrap ((a/48+1)*48)=fP a:=aG (by omega);simp at hsl w1;simp[f142,hr,e1,e2,e3,k1,k2,k4,hsl,w1,hmin,hwid,hm,q1,q2,q3]
   · have em:min a 4095=a:=by omega
     rw[em] at hwid hmin;have q1:IntKind.i64.wrap (a+(fP a-a))=fP a:=by rw[aG (by unfold fP;omega)];omega
     simp at hsl w1;simp[f142,hr,e1,e2,e3,k1,k2,k4,hsl,w1,hmin,hwid,hm,q1]
 · have w1:cf a l[i]=a:=by simp[cf,k1,k2,k4]
   rw[w1];simp[f142,hr,e1,e2,e3,k1,k2,k4]
theorem vC (x y z:DV) (st:St):(E tab).C gG [(0,x),(1,y),(26,z)] st=(E tab).C gG [(0,x),(1,y)] st:=by
 unfold gG;rw[sA];rfl
theorem uU (hv:Its st l lv) (hl:l.length≤140737488355328) (hG:BrS st.heap.length lv sv ov rest G):∀ (f i:Nat),l.length≤i+f→i≤l.length →
 ∃ fr,(E tab).C gG [(0,.ptr (st.heap.length+2) 0),(1,.int .i64 i)] (pst st G K)=some (.exit 0,[(0,.ptr (st.heap.length+2) 0),(1,.int .i64 (bX l f i:Nat))]++fr,pst st G K):=by
 have e0:=fun st'=>cw hv st';have hr:=hG.r2;intro f
 induction f with
 | zero=>
   intro i h1 h2;obtain rfl:i=l.length:=by omega
   refine⟨[(46,.bool false)],?_⟩;rw[al (L:=gG) rfl];simp[nh,hr,e0,bX]
 | succ f ih=>
   intro i h1 h2;by_cases h0:i<l.length
   · have hx:l[i]? = some l[i]:=aac h0;have e1:=fun st'=>dt hv h0 .i64 st';have e2:=fun st'=>fk hv hx (off:=0) (by omega) st';have e3:=fun H K=>ju hv hx H K;have hw1:IntKind.i64.wrap ((i:Int)+1)=(i+1:Nat):=by rw[aG (by omega)];simp
     by_cases hk:l[i].k=2
     · have eg:bX l (f+1) i=bX l f (i+1):=by simp[bX,hx,hk]
       obtain⟨fr,hJ⟩:=ih (i+1) (by omega) (by omega);rw[eg];refine⟨fr,?_⟩;simp at hJ;rw[al (L:=gG) rfl];simp[nh,hr,e0,h0,e1,e2,e3,hk,hw1,hJ]
     · have eg:bX l (f+1) i=i:=by simp[bX,hx,hk]
       rw[eg];refine⟨[(46,.bool false)],?_⟩;rw[al (L:=gG) rfl];simp[nh,hr,e0,h0,e1,e2,e3,hk]
   · have eg:bX l (f+1) i=i:=by simp[bX,h0]
     have h0':¬ (i:Int)<l.length:=by omega
     rw[eg];refine⟨[(46,.bool false)],?_⟩;rw[al (L:=gG) rfl];simp[nh,hr,e0,h0,h0']
theorem Bv (hv:Its st l lv) (hl:l.length≤140737488355328) (hG:BrS st.heap.length lv sv ov rest G) (i:Nat) (hi:i≤l.length):(E tab).F 130 [.ptr (st.heap.length+2) 0,.int .i64 i] (pst st G K)=some (.int .i64 (gV l i:Nat),pst st G K):=by
 have e0:=fun st'=>cw hv st';have hr:=hG.r2;rw[dV Hh rfl];unfold gV;by_cases h0:i<l.length
 · have hx:l[i]? = some l[i]:=aac h0;have e1:=fun st'=>dt hv h0 .i64 st';have e2:=fun st'=>fk hv hx (off:=0) (by omega) st';have e3:=fun H K=>ju hv hx H K;have hw1:IntKind.i64.wrap ((i:Int)+1)=(i+1:Nat):=by rw[aG (by omega)];simp
   rw[hx];by_cases hk:l[i].k=3
   · obtain⟨fr,hL⟩:=uU (K:=K) hv hl hG l.length (i+1) (by omega) (by omega);simp at hL;simp[f130,hr,e0,h0,e1,e2,e3,hk,hw1,vC,hL]
   · obtain⟨fr,hL⟩:=uU (K:=K) hv hl hG l.length i (by omega) hi;simp at hL;simp[f130,hr,e0,h0,e1,e2,e3,hk,vC,hL]
 · obtain⟨fr,hL⟩:=uU (K:=K) hv hl hG l.length i (by omega) hi;simp at hL;simp[f130,hr,e0,h0,vC,hL]
end
def oc (l:List It) (a:Nat) (X W:Int):Nat→Nat→Option Nat→Option (Nat×Bool)
 | 0,_,best=>best.map (·,false)
 | f+1,i,best=>
   if a<i∧lJ l i=true then
    if W<dI l a i X then (match best with | none=>some (i,true) | some c=>some (c,false))
    else oc l a X W f (i+1) (some i)
   else oc l a X W f (i+1) best
theorem Ap (l:List It):lJ l l.length=true:=by simp[lJ]
theorem lr (l:List It) (a:Nat) (X W:Int) (h:a<l.length):∀ (f i:Nat) (best:Option Nat),i+f=l.length+1→(best=none→i≤l.length)→a≤i→(∀ c,best=some c→a<c∧c≤l.length)→∃ b w,oc l a X W f i best=some (b,w)∧a<b∧b≤l.length
 | 0,i,best,h1,h2,h3,h4=>by
   cases best with
   | none=>have:=h2 rfl;omega
   | some c=>exact⟨c,false,rfl,h4 c rfl⟩
 | f+1,i,best,h1,h2,h3,h4=>by
   unfold oc;split
   · rename_i hc;split
     · cases best with
       | none=>exact⟨i,true,rfl,hc.1,h2 rfl⟩
       | some c=>exact⟨c,false,rfl,h4 c rfl⟩
     · exact lr l a X W h f (i+1) (some i) (by omega) (fun e=>by cases e) (by omega) (fun c e=>by cases e;omega)
   · rename_i hc;refine lr l a X W h f (i+1) best (by omega) (fun e=>?_) (by omega) h4;have:=h2 e;by_cases hi:i=l.length
     · subst hi;exact absurd ⟨by omega,Ap l⟩ hc
     · omega
def dF:Option Nat→Int
 | none => -1
 | some c=>c
def gn (l:List It) (a:Nat) (X:Int):Option Nat→Int
 | none=>0
 | some c=>dI l a c X
def hyI (l:List It) (b:Nat):Bool:=match l[b]? with | some x=>x.y | none=>false
def eI (l:List It) (a:Nat) (s:Sl):Pc:=
 match oc l a s.x s.w (l.length+1-a) a none with
 | some (b,w)=>⟨a,b,w,hyI l b,dI l a b s.x⟩
 | none=>⟨a,-1,false,false,0⟩
section
variable {st:St} {l:List It} {lv sv ov:DV} {sl:List Sl} {rest:Sl} {G:List HO} {K:List Nat}
theorem Dk (l:List It) (a:Nat) (X:Int) (i:Nat) (ha:a≤i) (hi:i<l.length) :
 goI X ((l.drop a).take (i+1-a))=cf (goI X ((l.drop a).take (i-a))) l[i] ∧
 goI X ((l.drop a).take (aS l a (i+1)-a))=(if l[i].k=2 then goI X ((l.drop a).take (aS l a i-a)) else cf (goI X ((l.drop a).take (i-a))) l[i]):=by
 have ed:(l.drop a).take (i+1-a)=(l.drop a).take (i-a)++[l[i]]:=by
  rw[show i+1-a=(i-a)+1 by omega,List.take_succ_eq_append_getElem (by simp;omega)]
  congr 2
  rw[List.getElem_drop];congr 1;omega
 have e1:goI X ((l.drop a).take (i+1-a))=cf (goI X ((l.drop a).take (i-a))) l[i]:=by rw[ed,wE];rfl
 refine⟨e1,?_⟩;have hx:l[i]? = some l[i]:=aac hi;by_cases hk:l[i].k=2
 · rw[if_pos hk,aS,if_pos ⟨ha,by simp[hx,hk]⟩]
 · rw[if_neg hk,aS,if_neg (by rintro⟨_,h⟩;simp[hx] at h;exact hk h),e1]
theorem E4 (hv:Its st l lv) (hc:bp l=0) (hG:BrS st.heap.length lv sv ov rest G) (i:Nat) (hi:i≤l.length) (w0:Int) (hw:-100000000000≤w0∧w0≤100000000000) (y1 y5 y6 y7 y8 y9 y10:DV) :
 ∃ ex,(E tab).C (.seq (.region rK [0,1,5,6,7,8,9,10,11,12,67]) (.cond (.t 67) (.region l7 [0,1,5,6,7,8,9,10,11,12]) .skip)) [(0,.ptr (st.heap.length+2) 0),(1,y1),(5,y5),(6,y6),(7,y7),(8,y8),(9,y9),(10,y10),(11,.int .i64 i),(12,.int .i64 w0)] (pst st G K) =
   some (.normal,[(0,.ptr (st.heap.length+2) 0),(1,y1),(5,y5),(6,y6),(7,y7),(8,y8),(9,y9),(10,y10),(11,.int .i64 i),(12,.int .i64 (w0+jl l i))]++ex,pst st G K):=by
 have e0:=fun st'=>cw hv st';have hr:=hG.r2;by_cases h0:i<l.length
 · have hx:l[i]? = some l[i]:=aac h0;have e1:=fun st'=>dt hv h0 .i64 st';have e2:=fun st'=>fk hv hx (off:=0) (by omega) st';have e3:=fun H K=>ju hv hx H K;have e4:=fun st'=>fk hv hx (off:=3) (by omega) st';have e5:=fun H K=>AT hv hx H K;have hb:=(gi hc).1 _ (aau h0);by_cases k3:l[i].k=3
   · have ep:jl l i=l[i].w:=by simp[jl,hx,k3]
     have w1:IntKind.i64.wrap (w0+l[i].w)=w0+l[i].w:=aG (by omega);rw[ep];generalize l[i]=x at *;refine⟨[],?_⟩;simp[hr,e0,h0,e1,e2,e3,e4,e5,k3,w1]
   · have ep:jl l i=0:=by simp[jl,hx,k3]
     rw[ep];generalize l[i]=x at *;refine⟨[(67,.bool false)],?_⟩;simp[hr,e0,h0,e1,e2,e3,k3]
 · have ep:jl l i=0:=by simp[jl,h0]
   rw[ep];refine⟨[(67,.bool false)],?_⟩;simp[hr,e0,h0]
theorem Fo (hv:Its st l lv) (hc:bp l=0) (hG:BrS st.heap.length lv sv ov rest G) (a:Nat) (ha:a<l.length) (X W:Int) (hX:0≤X∧X≤4095) (h:Nat) (hh:rowAt G h=some (.plain,[.int .i64 X,.int .i64 W])) (i:Nat) (hi:i≤l.length) (hai:a≤i) (best:Option Nat) (y9:DV) (ex0:Fr) :
 ∃ ex,(E tab).C (.seq (.region qU [0,1,5,6,7,8,9,10,11,45]) (.cond (.t 45) (.seq (.region qK [0,1,5,6,7,8,9,10,11,12]) (.seq (.seq (.region rK [0,1,5,6,7,8,9,10,11,12,67]) (.cond (.t 67) (.region l7 [0,1,5,6,7,8,9,10,11,12]) .skip)) (.seq (.seq (.region qW [0,1,5,6,7,8,9,10,11,12,85]) (.cond (.t 85) (.seq (.seq (.region rp [0,1,5,8,9,10,11,12,89]) (.cond (.t 89) (.region qc [0,1,5,8,9,10,11,12]) .skip)) (.region qS [0,1,5,6,7,8,9,10,11,12])) .skip)) (.seq (.region pW [0,1,5,6,7,8,9,10,11,95]) (.cond (.t 95) (.exit 0) .skip))))) .skip))
  ([(0,.ptr (st.heap.length+2) 0),(1,.int .i64 a),(5,.ptr (st.heap.length+h) 0),(6,.int .i64 (dF best)),(7,.int .i64 (gn l a X best)),(8,.bool false),(9,y9),(10,.int .i64 (goI X ((l.drop a).take (aS l a i-a)))),(11,.int .i64 i)]++ex0) (pst st G K) =
  some (if a<i∧lJ l i=true then
   (if W<dI l a i X then (.exit 0,(match best with
       | none=>[(0,.ptr (st.heap.length+2) 0),(1,.int .i64 a),(5,.ptr (st.heap.length+h) 0),(6,.int .i64 i),(7,.int .i64 (dI l a i X)),(8,.bool true)]
       | some c=>[(0,.ptr (st.heap.length+2) 0),(1,.int .i64 a),(5,.ptr (st.heap.length+h) 0),(6,.int .i64 c),(7,.int .i64 (dI l a c X)),(8,.bool false)])++ex,pst st G K)
   else (.normal,[(0,.ptr (st.heap.length+2) 0),(1,.int .i64 a),(5,.ptr (st.heap.length+h) 0),(6,.int .i64 i),(7,.int .i64 (dI l a i X)),(8,.bool false),(9,y9),(10,.int .i64 (goI X ((l.drop a).take (aS l a i-a)))),(11,.int .i64 i)]++ex,pst st G K))
   else (.normal,[(0,.ptr (st.heap.length+2) 0),(1,.int .i64 a),(5,.ptr (st.heap.length+h) 0),(6,.int .i64 (dF best)),(7,.int .i64 (gn l a X best)),(8,.bool false),(9,y9),(10,.int .i64 (goI X ((l.drop a).take (aS l a i-a)))),(11,.int .i64 i)]++ex,pst st G K)):=by
 obtain⟨hok,hlen⟩:=gi hc;have hleg:=xn (K:=K) hv (by omega) hG i hi;by_cases h1:a<i
 · cases h2:lJ l i with
   | false=>
     rw[h2] at hleg;simp only[aam,and_false,if_false];refine⟨[(45,.bool false)],?_⟩;simp[h1,hleg]
   | true=>
     rw[h2] at hleg;simp only[h1,and_self,if_true];have hp:okW ((l.drop a).take (aS l a i-a)):=fun y hy=>hok y (aar (aaD hy));have hlen':((l.drop a).take (aS l a i-a)).length≤8192:=by simp;omega
     have hg:=pS (a:=X) hp (by omega);have hwid:dI l a i X=goI X ((l.drop a).take (aS l a i-a))-X+jl l i:=by unfold dI;omega
     generalize goI X ((l.drop a).take (aS l a i-a))=g at *;obtain⟨ex9,h9⟩:=E4 (K:=K) hv hc hG i hi (g-X) (by omega) (.int .i64 a) (.ptr (st.heap.length+h) 0) (.int .i64 (dF best)) (.int .i64 (gn l a X best)) (.bool false) y9 (.int .i64 g);have w1:IntKind.i64.wrap (g-X)=g-X:=aG (by omega)
     have hr7:(E tab).C (.region qU [0,1,5,6,7,8,9,10,11,45]) ([(0,.ptr (st.heap.length+2) 0),(1,.int .i64 a),(5,.ptr (st.heap.length+h) 0),(6,.int .i64 (dF best)),(7,.int .i64 (gn l a X best)),(8,.bool false),(9,y9),(10,.int .i64 g),(11,.int .i64 i)]++ex0) (pst st G K) =
      some (.normal,[(0,.ptr (st.heap.length+2) 0),(1,.int .i64 a),(5,.ptr (st.heap.length+h) 0),(6,.int .i64 (dF best)),(7,.int .i64 (gn l a X best)),(8,.bool false),(9,y9),(10,.int .i64 g),(11,.int .i64 i),(45,.bool true)],pst st G K):=by simp[h1,hleg]
     have hr8:(E tab).C (.region qK [0,1,5,6,7,8,9,10,11,12]) [(0,.ptr (st.heap.length+2) 0),(1,.int .i64 a),(5,.ptr (st.heap.length+h) 0),(6,.int .i64 (dF best)),(7,.int .i64 (gn l a X best)),(8,.bool false),(9,y9),(10,.int .i64 g),(11,.int .i64 i),(45,.bool true)] (pst st G K) =
      some (.normal,[(0,.ptr (st.heap.length+2) 0),(1,.int .i64 a),(5,.ptr (st.heap.length+h) 0),(6,.int .i64 (dF best)),(7,.int .i64 (gn l a X best)),(8,.bool false),(9,y9),(10,.int .i64 g),(11,.int .i64 i),(12,.int .i64 (g-X))],pst st G K):=by simp[hh,w1]
     rw[← hwid] at h9;rw[cp,hr7];simp only;rw[FP _ _ _ _ _ true rfl];simp only[if_true];rw[cp,hr8];simp only;rw[cp,h9];simp only;generalize dI l a i X=w at *;by_cases hW:W<w
     · have hW':¬ w≤W:=by omega
       simp only[hW,if_true]
       cases best with
       | none=>
         refine⟨[(9,y9),(10,.int .i64 g),(11,.int .i64 i),(95,.bool true)],?_⟩;simp[dF,gn,hh,hW]
       | some c=>
         refine⟨[(9,y9),(10,.int .i64 g),(11,.int .i64 i),(95,.bool true)],?_⟩;simp[dF,gn,hh,hW,hW']
     · have hW':w≤W:=by omega
       simp only[hW,if_false]
       cases best with
       | none=>
         refine⟨[(95,.bool false)],?_⟩;simp[dF,gn,hh,hW]
       | some c=>
         refine⟨[(95,.bool false)],?_⟩;simp[dF,gn,hh,hW,hW']
 · simp only[h1,false_and,if_false];refine⟨[(45,.bool false)],?_⟩;simp[h1]
end
section
variable {st:St} {l:List It} {lv sv ov:DV} {sl:List Sl} {rest:Sl} {G:List HO} {K:List Nat}
theorem FR (hv:Its st l lv) (hc:bp l=0) (hG:BrS st.heap.length lv sv ov rest G) (a:Nat) (X:Int) (hX:0≤X∧X≤4095) (i:Nat) (hi:i≤l.length) (hai:a≤i) (y1 y5 y6 y7 y8:DV) (ex:Fr) :
 ∃ ex',(E tab).C (.seq (.region wy [0,1,5,6,7,8,9,10,11,102]) (.cond (.t 102) (.seq (.region we [0,1,5,6,7,8,9,10,11]) (.seq (.region wM [0,1,5,6,7,8,9,10,11,115]) (.cond (.t 115) (.region v9 [0,1,5,6,7,8,9,10,11]) .skip))) .skip))
  ([(0,.ptr (st.heap.length+2) 0),(1,y1),(5,y5),(6,y6),(7,y7),(8,y8),(9,.int .i64 (goI X ((l.drop a).take (i-a)))),(10,.int .i64 (goI X ((l.drop a).take (aS l a i-a)))),(11,.int .i64 i)]++ex) (pst st G K) =
  some (.normal,[(0,.ptr (st.heap.length+2) 0),(1,y1),(5,y5),(6,y6),(7,y7),(8,y8),(9,.int .i64 (goI X ((l.drop a).take ((if i<l.length then i+1 else i)-a)))),(10,.int .i64 (goI X ((l.drop a).take (aS l a (if i<l.length then i+1 else i)-a)))),(11,.int .i64 i)]++ex',pst st G K):=by
 obtain⟨hok,hlen⟩:=gi hc;have e0:=fun st'=>cw hv st';have hr:=hG.r2;by_cases h0:i<l.length
 · obtain⟨g1,g2⟩:=Dk l a X i hai h0;simp only[h0,if_true];rw[g1,g2];have hp:okW ((l.drop a).take (i-a)):=fun y hy=>hok y (aar (aaD hy));have hlen':((l.drop a).take (i-a)).length≤8192:=by simp;omega
   have hg:=pS (a:=X) hp (by omega);generalize goI X ((l.drop a).take (i-a))=g at *;generalize goI X ((l.drop a).take (aS l a i-a))=e at *;have hpa:=B2 (K:=K) hv hc hG i h0 g (by omega);have hx:l[i]? = some l[i]:=aac h0;have e1:=fun st'=>dt hv h0 .i64 st';have e2:=fun st'=>fk hv hx (off:=0) (by omega) st';have e3:=fun H K=>ju hv hx H K;generalize l[i]=x at *;by_cases hk:x.k=2
   · refine⟨[(115,.bool false)],?_⟩;simp[hr,e0,h0,hpa,e1,e2,e3,hk]
   · refine⟨[],?_⟩;simp[hr,e0,h0,hpa,e1,e2,e3,hk]
 · simp only[h0,if_false];refine⟨[(102,.bool false)],?_⟩;simp[hr,e0,h0]
theorem Ew (hv:Its st l lv) (hc:bp l=0) (hG:BrS st.heap.length lv sv ov rest G) (a:Nat) (ha:a<l.length) (X W:Int) (hX:0≤X∧X≤4095) (h:Nat) (hh:rowAt G h=some (.plain,[.int .i64 X,.int .i64 W])) :
 ∀ (m i:Nat) (best:Option Nat) (y9 y10:DV),i+m=l.length+1→a≤i→(i≤l.length→y9=.int .i64 (goI X ((l.drop a).take (i-a)))∧y10=.int .i64 (goI X ((l.drop a).take (aS l a i-a)))) →
 ∀ b w,oc l a X W m i best=some (b,w)→∃ fr,(E tab).C hZ [(0,.ptr (st.heap.length+2) 0),(1,.int .i64 a),(5,.ptr (st.heap.length+h) 0),(6,.int .i64 (dF best)),(7,.int .i64 (gn l a X best)),(8,.bool false),(9,y9),(10,y10),(11,.int .i64 i)] (pst st G K) =
   some (.exit 0,[(0,.ptr (st.heap.length+2) 0),(1,.int .i64 a),(5,.ptr (st.heap.length+h) 0),(6,.int .i64 b),(7,.int .i64 (dI l a b X)),(8,.bool w)]++fr,pst st G K):=by
 obtain⟨hok,hlen⟩:=gi hc;have e0:=fun st'=>cw hv st';have hr:=hG.r2;intro m
 induction m with
 | zero=>
   intro i best y9 y10 hi hai hy b w ho;have h0:¬ i≤l.length:=by omega
   cases best with
   | none=>simp[oc] at ho
   | some c=>
     simp only[oc,abd,aaa.injEq,Prod.mk.injEq] at ho;obtain⟨rfl,rfl⟩:=ho;refine⟨[(9,y9),(10,y10),(11,.int .i64 i),(35,.bool false)],?_⟩;rw[al (L:=hZ) rfl];simp[mK,hr,e0,h0,dF,gn]
 | succ m ih=>
   intro i best y9 y10 hi hai hy b w ho;have h0:i≤l.length:=by omega
   obtain⟨rfl,rfl⟩:=hy h0;have hw1:IntKind.i64.wrap ((i:Int)+1)=((i+1:Nat):Int):=by rw[aG (by omega)];simp
   obtain⟨ex,hA⟩:=Fo (K:=K) hv hc hG a ha X W hX h hh i h0 hai best (.int .i64 (goI X ((l.drop a).take (i-a)))) [(35,.bool true)]
   have h6:(E tab).C (.seq (.region yX [0,1,5,6,7,8,9,10,11,35]) (.cond (.t 35) .skip (.exit 0))) (Fr.bl [(0,.ptr (st.heap.length+2) 0),(1,.int .i64 a),(5,.ptr (st.heap.length+h) 0),(6,.int .i64 (dF best)),(7,.int .i64 (gn l a X best)),(8,.bool false),(9,.int .i64 (goI X ((l.drop a).take (i-a)))),(10,.int .i64 (goI X ((l.drop a).take (aS l a i-a)))),(11,.int .i64 i)] [0,1,5,6,7,8,9,10,11]) (pst st G K) =
    some (.normal,[(0,.ptr (st.heap.length+2) 0),(1,.int .i64 a),(5,.ptr (st.heap.length+h) 0),(6,.int .i64 (dF best)),(7,.int .i64 (gn l a X best)),(8,.bool false),(9,.int .i64 (goI X ((l.drop a).take (i-a)))),(10,.int .i64 (goI X ((l.drop a).take (aS l a i-a)))),(11,.int .i64 i)]++[(35,.bool true)],pst st G K):=by simp[hr,e0,h0]
   have turn:∀ (best':Option Nat) (ex:Fr) ,(E tab).C (.seq (.region qU [0,1,5,6,7,8,9,10,11,45]) (.cond (.t 45) (.seq (.region qK [0,1,5,6,7,8,9,10,11,12]) (.seq (.seq (.region rK [0,1,5,6,7,8,9,10,11,12,67]) (.cond (.t 67) (.region l7 [0,1,5,6,7,8,9,10,11,12]) .skip)) (.seq (.seq (.region qW [0,1,5,6,7,8,9,10,11,12,85]) (.cond (.t 85) (.seq (.seq (.region rp [0,1,5,8,9,10,11,12,89]) (.cond (.t 89) (.region qc [0,1,5,8,9,10,11,12]) .skip)) (.region qS [0,1,5,6,7,8,9,10,11,12])) .skip)) (.seq (.region pW [0,1,5,6,7,8,9,10,11,95]) (.cond (.t 95) (.exit 0) .skip))))) .skip)) ([(0,.ptr (st.heap.length+2) 0),(1,.int .i64 a),(5,.ptr (st.heap.length+h) 0),(6,.int .i64 (dF best)),(7,.int .i64 (gn l a X best)),(8,.bool false),(9,.int .i64 (goI X ((l.drop a).take (i-a)))),(10,.int .i64 (goI X ((l.drop a).take (aS l a i-a)))),(11,.int .i64 i)]++[(35,.bool true)]) (pst st G K) =
    some (.normal,[(0,.ptr (st.heap.length+2) 0),(1,.int .i64 a),(5,.ptr (st.heap.length+h) 0),(6,.int .i64 (dF best')),(7,.int .i64 (gn l a X best')),(8,.bool false),(9,.int .i64 (goI X ((l.drop a).take (i-a)))),(10,.int .i64 (goI X ((l.drop a).take (aS l a i-a)))),(11,.int .i64 i)]++ex,pst st G K) →
    oc l a X W m (i+1) best'=some (b,w)→∃ fr,(E tab).C hZ [(0,.ptr (st.heap.length+2) 0),(1,.int .i64 a),(5,.ptr (st.heap.length+h) 0),(6,.int .i64 (dF best)),(7,.int .i64 (gn l a X best)),(8,.bool false),(9,.int .i64 (goI X ((l.drop a).take (i-a)))),(10,.int .i64 (goI X ((l.drop a).take (aS l a i-a)))),(11,.int .i64 i)] (pst st G K) =
    some (.exit 0,[(0,.ptr (st.heap.length+2) 0),(1,.int .i64 a),(5,.ptr (st.heap.length+h) 0),(6,.int .i64 b),(7,.int .i64 (dI l a b X)),(8,.bool w)]++fr,pst st G K):=by
    intro best' ex hA' ho';obtain⟨ex2,hB⟩:=FR (K:=K) hv hc hG a X hX i h0 hai (.int .i64 a) (.ptr (st.heap.length+h) 0) (.int .i64 (dF best')) (.int .i64 (gn l a X best')) (.bool false) ex;obtain⟨fr,hJ⟩:=ih (i+1) best' (.int .i64 (goI X ((l.drop a).take ((if i<l.length then i+1 else i)-a)))) (.int .i64 (goI X ((l.drop a).take (aS l a (if i<l.length then i+1 else i)-a)))) (by omega) (by omega) (fun hle=>by rw[if_pos (by omega)];exact⟨rfl,rfl⟩) b w ho';refine⟨fr,?_⟩;rw[al (L:=hZ) rfl,mK,cp,h6];simp only;rw[cp,mc,cp,hA'];simp only;rw[hB];simp at hJ;simp[hw1,hJ]
   unfold oc at ho;by_cases hle:a<i∧lJ l i=true
   · rw[if_pos hle] at ho hA;by_cases hW:W<dI l a i X
     · rw[if_pos hW] at ho hA
       cases best with
       | none=>
         simp only[aaa.injEq,Prod.mk.injEq] at ho;obtain⟨rfl,rfl⟩:=ho;refine⟨ex,?_⟩;rw[al (L:=hZ) rfl,mK,cp,h6];simp only;rw[cp,mc,cp,hA];simp
       | some c=>
         simp only[aaa.injEq,Prod.mk.injEq] at ho;obtain⟨rfl,rfl⟩:=ho;refine⟨ex,?_⟩;rw[al (L:=hZ) rfl,mK,cp,h6];simp only;rw[cp,mc,cp,hA];simp
     · rw[if_neg hW] at ho hA;exact turn (some i) ex hA ho
   · rw[if_neg hle] at ho hA;exact turn best ex hA ho
end
section
variable {st:St} {l:List It} {lv sv ov:DV} {sl:List Sl} {rest:Sl} {G:List HO} {K:List Nat}
def qj (N h:Nat):List af:=[
 ⟨some 14,.mv (.t 0),none⟩,
 ⟨some 15,.aJ (.t 14),none⟩,
 ⟨some 16,.fh 1 (.t 15),none⟩,
 ⟨some 17,.load 1 false (.t 16),none⟩,
 ⟨some 18,.mv (.t 0),none⟩,
 ⟨some 19,.aJ (.t 18),none⟩,
 ⟨some 20,.fh 2 (.t 19),none⟩,
 ⟨some 21,.load 1 false (.t 20),none⟩,
 ⟨some 22,.len .slice (.t 21),none⟩,
 ⟨some 23,.bd (.t 17) [(.t 22)],none⟩,
 ⟨some 5,.got (.ptr (N+h) 0) [],none⟩,
 ⟨none,.store 2 (.t 5) (.t 23),none⟩]
theorem yp (hs:Sls st sl sv) (hG:BrS st.heap.length lv sv ov rest G) {ps:List Pc} (hA:Acc st K 5 (ps.map Pc.dv) ov) (y1:DV) :
 ∃ J,(E tab).C (.av ru [10] [] [0,1,5]) [(0,.ptr (st.heap.length+2) 0),(1,y1)] (pst st G K) =
   some (.normal,[(0,.ptr (st.heap.length+2) 0),(1,y1),(5,.ptr (st.heap.length+G.length) 0)],pst st (G++.cells .plain (bc sl rest ps.length).cs::J) K):=by
 have hr:=hG.r2;have hG2:=hG.app [.cells .plain [.int .i64 0,.int .i64 0]];have hr2:=hG2.r2;obtain⟨t,n',tk,nn,rfl⟩:=ib hA;have hc:=C1 (K:=K) hs hG2 ps.length;have hV:=cU (T:=tab) 127 [] [.ptr st.heap.length 0,.ptr (st.heap.length+1) 0] [.int .i64 (ps.length:Nat)] (pst st (G++[.cells .plain [.int .i64 0,.int .i64 0]]) K);simp only[aa5,List.singleton_append] at hV;rw[hc] at hV
 have hp:fg [(0,.ptr (st.heap.length+2) 0),(1,y1)] [10] (pst st G K) ru=some (pst st (G++[.cells .plain [.int .i64 0,.int .i64 0]]) K,qj st.heap.length G.length):=by
  simp[fg,AB,yN,aP,oq,gv,kz,qj,hr]
 refine⟨[.cells .plain (bc sl rest ps.length).cs],?_⟩;rw[uZ hp];generalize bc sl rest ps.length=s at *;simp only[Sl.cs,Sl.dv] at hV;simp[gj,qj,aP,hr2,hV,Sl.cs]
theorem BrS.L0 {N:Nat} (h:BrS N lv sv ov rest G) (ov':DV):BrS N lv sv ov' rest (G.set 2 (.cells .plain [lv,.fn 127 [] [.ptr N 0,.ptr (N+1) 0],ov'])):=by
 have k2:=kq h.r2;refine⟨?_,?_,eU k2 _ _⟩
 · have:=h.r0;unfold rowAt at this ⊢;rw[aax (by omega)];exact this
 · have:=h.r1;unfold rowAt at this ⊢;rw[aax (by omega)];exact this
theorem CX (hs:Sls st sl sv) (hv:Its st l lv) (hc:bp l=0) (hG:BrS st.heap.length lv sv ov rest G) {ps:List Pc} (hA:Acc st K 5 (ps.map Pc.dv) ov) (hps:ps.length≤10000) (a:Nat) (ha:a<l.length)
 (hX:0≤(bc sl rest ps.length).x∧(bc sl rest ps.length).x≤4095) :
 ∃ (b:Nat) (G':List HO) (K':List Nat) (ov':DV),a<b∧b≤l.length∧(eI l a (bc sl rest ps.length)).b=b∧(E tab).F 129 [.ptr (st.heap.length+2) 0,.int .i64 a] (pst st G K)=some (.int .i64 b,pst st G' K')∧BrS st.heap.length lv sv ov' rest G' ∧
   Acc st K' 5 ((ps++[eI l a (bc sl rest ps.length)]).map Pc.dv) ov':=by
 have e0:=fun st'=>cw hv st';obtain⟨hok,hlen⟩:=gi hc;obtain⟨J,hH⟩:=yp hs hG hA (.int .i64 a);generalize hsl:bc sl rest ps.length=s at *;obtain⟨b,w,ho,hab,hbl⟩:=lr l a s.x s.w ha (l.length+1-a) a none (by omega) (fun _=>by omega) (aai _) (fun c e=>by cases e);have hpc:eI l a s=⟨a,b,w,hyI l b,dI l a b s.x⟩:=by unfold eI;rw[ho]
 have hG1:=hG.app (.cells .plain s.cs::J);have hh:rowAt (G++.cells .plain s.cs::J) G.length=some (.plain,[.int .i64 s.x,.int .i64 s.w]):=by rw[show G.length=G.length+0 from rfl,tP];rfl
 generalize hG1e:G++HO.cells .plain s.cs::J=G1 at *
 obtain⟨fr,hL⟩:=Ew (K:=K) hv hc hG1 a ha s.x s.w hX G.length hh (l.length+1-a) a none (.int .i64 s.x) (.int .i64 s.x) (by omega) (aai _) (fun _=>by
  have ht:aS l a a=a:=by
   cases a with
   | zero=>rfl
   | succ k=>rw[aS,if_neg (by omega)]
  rw[ht];simp[goI]) b w ho
 have hG2:=hG1.app [.cells .plain (Pc.cs ⟨a,b,w,false,dI l a b s.x⟩)];have hG3:=hG1.app [.cells .plain (Pc.cs ⟨a,b,w,hyI l b,dI l a b s.x⟩)];obtain⟨ov',K',hap,hA'⟩:=jf (H:=G1++[.cells .plain (Pc.cs ⟨a,b,w,hyI l b,dI l a b s.x⟩)]) (by_:=32) (ag:=true) (tk:=.tight) (t:=st.cur) (ys:=[Pc.dv ⟨a,b,w,hyI l b,dI l a b s.x⟩]) hA (by omega) (by simp) (by simp[KJ]) (by simp[ay];omega) (by simp[ay];omega);refine⟨b,(G1++[HO.cells .plain (Pc.cs ⟨a,b,w,hyI l b,dI l a b s.x⟩)]).set 2 (.cells .plain [lv,.fn 127 [] [.ptr st.heap.length 0,.ptr (st.heap.length+1) 0],ov']),K',ov',hab,hbl,by rw[hpc],?_,hG3.L0 ov',by rw[hpc];simpa using hA'⟩;have hr2:=hG2.r2;have hr3:=hG3.r2;have k3:=kq hr3
 have hov:ov'.leaves=[ov']∧ov'.aT=true:=by
  rcases hA' with ⟨_,t,n',tk,rfl⟩ | ⟨k,s,rfl,_⟩<;>exact⟨rfl,rfl⟩
 have h22:(E tab).C (.region rq [0,6,13]) [(0,.ptr (st.heap.length+2) 0),(6,.int .i64 b),(13,.ptr (st.heap.length+G1.length) 0)] (pst st (G1++[.cells .plain (Pc.cs ⟨a,b,w,false,dI l a b s.x⟩)]) K) =
  some (.normal,[(0,.ptr (st.heap.length+2) 0),(6,.int .i64 b),(13,.ptr (st.heap.length+G1.length) 0)],pst st (G1++[.cells .plain (Pc.cs ⟨a,b,w,hyI l b,dI l a b s.x⟩)]) K):=by
  by_cases hb:b<l.length
  · have hx:l[b]? = some l[b]:=aac hb;have e1:=fun st'=>dt hv hb .i64 st';have e2:=fun st'=>fk hv hx (off:=7) (by omega) st';have e3:=fun H K=>Hy hv hx H K;have eh:hyI l b=l[b].y:=by simp[hyI,hx]
    rw[eh];generalize l[b]=x at *;simp only[Pc.cs] at hr2;simp[hr2,e0,hb,e1,e2,e3,Pc.cs]
  · have eh:hyI l b=false:=by simp[hyI,hb]
    rw[eh];simp only[Pc.cs] at hr2;simp[hr2,e0,hb,Pc.cs]
 have h23:(E tab).C (.av qL [] [] [6]) [(0,.ptr (st.heap.length+2) 0),(6,.int .i64 b),(13,.ptr (st.heap.length+G1.length) 0)] (pst st (G1++[.cells .plain (Pc.cs ⟨a,b,w,hyI l b,dI l a b s.x⟩)]) K) =
  some (.normal,[(6,.int .i64 b)],pst st ((G1++[HO.cells .plain (Pc.cs ⟨a,b,w,hyI l b,dI l a b s.x⟩)]).set 2 (.cells .plain [lv,.fn 127 [] [.ptr st.heap.length 0,.ptr (st.heap.length+1) 0],ov'])) K'):=by
  simp only[Pc.cs,Pc.dv] at hr3 hap k3;simp[hr3,aW,bk,chunk,Pc.cs,hap,hov.1,hov.2]
 rw[dV Jw rfl];have h0:(E tab).C (.region u9 [0,1]) (aX [.ptr (st.heap.length+2) 0,.int .i64 a] 0) (pst st G K)=some (.normal,[(0,.ptr (st.heap.length+2) 0),(1,.int .i64 a)],pst st G K):=by simp
 have hmid:(E tab).C (.seq (.region uc [0,1,5,6,7,8]) (.seq (.region ug [0,1,5,6,7,8,9]) (.seq (.region uV [0,1,5,6,7,8,9,10]) (.seq (.region vv [0,1,5,6,7,8,9,10,11]) (.block 0 hZ))))) [(0,.ptr (st.heap.length+2) 0),(1,.int .i64 a),(5,.ptr (st.heap.length+G.length) 0)] (pst st G1 K) =
  some (.normal,[(0,.ptr (st.heap.length+2) 0),(1,.int .i64 a),(5,.ptr (st.heap.length+G.length) 0),(6,.int .i64 b),(7,.int .i64 (dI l a b s.x)),(8,.bool w)]++fr,pst st G1 K):=by
  have e1:(-1:Int)=Int.negSucc 0:=rfl;simp[dF,gn] at hL;simp[hh,hL]
 have h21:(E tab).C (.region rI [0,6,13]) ([(0,.ptr (st.heap.length+2) 0),(1,.int .i64 a),(5,.ptr (st.heap.length+G.length) 0),(6,.int .i64 b),(7,.int .i64 (dI l a b s.x)),(8,.bool w)]++fr) (pst st G1 K) =
  some (.normal,[(0,.ptr (st.heap.length+2) 0),(6,.int .i64 b),(13,.ptr (st.heap.length+G1.length) 0)],pst st (G1++[.cells .plain (Pc.cs ⟨a,b,w,false,dI l a b s.x⟩)]) K):=by
  simp[Pc.cs]
 rw[show f129.body=(.seq (.region u9 [0,1]) (.seq (.av ru [10] [] [0,1,5]) (.seq (.region uc [0,1,5,6,7,8]) (.seq (.region ug [0,1,5,6,7,8,9]) (.seq (.region uV [0,1,5,6,7,8,9,10]) (.seq (.seq (.region vv [0,1,5,6,7,8,9,10,11]) (.block 0 hZ)) (.seq (.region rI [0,6,13]) (.seq (.region rq [0,6,13]) (.seq (.av qL [] [] [6]) (.seq (.region wj [4]) .ret)))))))))) from rfl,cp,h0];simp only;rw[cp,hH];simp only;obtain⟨fu1,S1,m1,m2⟩:=lu hmid;obtain⟨fu2,S2,m3,m4⟩:=lu m2;obtain⟨fu3,S3,m5,m6⟩:=lu m4;rw[cp,m1];simp only;rw[cp,m3];simp only;rw[cp,m5];simp only;rw[cp,m6];simp only;rw[cp,h21];simp only;rw[cp,h22];simp only;rw[cp,h23];simp[f129]
end
theorem iY (l:List It):∀ f i,i≤l.length→i≤bX l f i∧bX l f i≤l.length
 | 0,i,h=>⟨aai _,h⟩
 | f+1,i,h=>by
   unfold bX;split
   · rename_i x hx;have hi:=(aad.1 hx).1;split
     · have:=iY l f (i+1) hi;omega
     · exact⟨aai _,h⟩
   · exact⟨aai _,h⟩
theorem xO (l:List It) (i:Nat) (h:i≤l.length):i≤gV l i∧gV l i≤l.length:=by
 unfold gV
 cases hx:l[i]? with
 | none=>exact iY l _ _ h
 | some x=>
   have hi:=(aad.1 hx).1;simp only;split
   · have:=iY l l.length (i+1) hi;omega
   · exact iY l _ _ h
def ia (l:List It) (sl:List Sl) (rest:Sl):Nat→Nat→Nat→List Pc
 | 0,_,_=>[]
 | f+1,a,n=>if a<l.length then eI l a (bc sl rest n)::ia l sl rest f (gV l (eI l a (bc sl rest n)).b.toNat) (n+1) else []
def Fz (sl:List Sl) (rest:Sl):Prop:=∀ n:Nat,0≤(bc sl rest n).x∧(bc sl rest n).x≤4095∧0≤(bc sl rest n).w∧(bc sl rest n).w≤4095
theorem l8 {sl:List Sl} {rest:Sl} (h:c7 sl rest=0):Fz sl rest∧sl.length≤256:=by
 unfold c7 at h;split at h
 · omega
 · split at h
   · rename_i h1 h2;simp only[aab,aaf] at h2;refine⟨fun n=>?_,by omega⟩
     have hm:jn (bc sl rest n)=true:=by
      unfold bc mL;rw[if_neg (by omega)]
      cases hx:sl[((n:Nat):Int).toNat]? with
      | none=>exact h2.2
      | some s=>exact h2.1 s (aaN hx)
     simp[jn,bn] at hm;omega
   · omega
section
variable {st:St} {l:List It} {lv sv ov:DV} {sl:List Sl} {rest:Sl} {G:List HO} {K:List Nat}
theorem Fv (hs:Sls st sl sv) (hv:Its st l lv) (hc:bp l=0) (hso:Fz sl rest):∀ (f a:Nat) (ps:List Pc) (ov:DV) (G:List HO) (K:List Nat),l.length≤a+f→a≤l.length→ps.length≤a→BrS st.heap.length lv sv ov rest G→Acc st K 5 (ps.map Pc.dv) ov →
 ∃ G' K' ov' fr,(E tab).C nW [(1,.int .i64 l.length),(2,.fn 129 [.ptr (st.heap.length+2) 0] []),(3,.fn 130 [.ptr (st.heap.length+2) 0] []),(8,.int .i64 a)] (pst st G K)=some (.exit 0,fr,pst st G' K') ∧
   BrS st.heap.length lv sv ov' rest G'∧Acc st K' 5 ((ps++ia l sl rest f a ps.length).map Pc.dv) ov':=by
 obtain⟨hok,hlen⟩:=gi hc;intro f
 induction f with
 | zero=>
   intro a ps ov G K h1 h2 h3 hG hA;refine⟨G,K,ov,[(1,.int .i64 l.length),(2,.fn 129 [.ptr (st.heap.length+2) 0] []),(3,.fn 130 [.ptr (st.heap.length+2) 0] []),(8,.int .i64 a),(12,.bool false)],?_,hG,by simpa[ia] using hA⟩;have h0:¬ a<l.length:=by omega
   rw[al (L:=nW) rfl];simp[qa,h0]
 | succ f ih=>
   intro a ps ov G K h1 h2 h3 hG hA;by_cases h0:a<l.length
   · have hX:=hso ps.length;obtain⟨b,G1,K1,ov1,hab,hbl,hpb,hF,hG1,hA1⟩:=CX hs hv hc hG hA (by omega) a h0 ⟨hX.1,hX.2.1⟩;have hS:=Bv (K:=K1) hv (by omega) hG1 b hbl;have hbe:=xO l b hbl;obtain⟨G2,K2,ov2,fr,hJ,hG2,hA2⟩:=ih (gV l b) (ps++[eI l a (bc sl rest ps.length)]) ov1 G1 K1 (by omega) hbe.2 (by simp;omega) hG1 hA1;refine⟨G2,K2,ov2,fr,?_,hG2,?_⟩
     · have hV1:=cU (T:=tab) 129 [.ptr (st.heap.length+2) 0] [] [.int .i64 (a:Nat)] (pst st G K);have hV2:=cU (T:=tab) 130 [.ptr (st.heap.length+2) 0] [] [.int .i64 (b:Nat)] (pst st G1 K1);simp only[List.singleton_append,aaJ] at hV1 hV2;rw[hF] at hV1;rw[hS] at hV2;rw[al (L:=nW) rfl];simp[qa,h0,hV1,hV2,hJ]
     · rw[ia,if_pos h0,hpb,Int.toNat_natCast];simpa using hA2
   · refine⟨G,K,ov,[(1,.int .i64 l.length),(2,.fn 129 [.ptr (st.heap.length+2) 0] []),(3,.fn 130 [.ptr (st.heap.length+2) 0] []),(8,.int .i64 a),(12,.bool false)],?_,hG,by simpa[ia,h0] using hA⟩;rw[al (L:=nW) rfl];simp[qa,h0]
theorem F8 (hv:Its st l lv) (hl:l.length≤140737488355328) (y10:DV) (H:List HO) (K:List Nat):∀ (f i:Nat),l.length≤i+f→i≤l.length →
 ∃ fr,(E tab).C kZ [(0,lv),(10,y10),(11,.int .i64 i)] (pst st H K)=some (.exit 0,[(0,lv),(10,y10),(11,.int .i64 (bX l f i:Nat))]++fr,pst st H K):=by
 have e0:=fun st'=>cw hv st';intro f
 induction f with
 | zero=>
   intro i h1 h2;obtain rfl:i=l.length:=by omega
   refine⟨[(38,.bool false)],?_⟩;rw[al (L:=kZ) rfl];simp[mh,e0,bX]
 | succ f ih=>
   intro i h1 h2;by_cases h0:i<l.length
   · have hx:l[i]? = some l[i]:=aac h0;have e1:=fun st'=>dt hv h0 .i64 st';have e2:=fun st'=>fk hv hx (off:=0) (by omega) st';have e3:=fun H K=>ju hv hx H K;have hw1:IntKind.i64.wrap ((i:Int)+1)=(i+1:Nat):=by rw[aG (by omega)];simp
     by_cases hk:l[i].k=2
     · have eg:bX l (f+1) i=bX l f (i+1):=by simp[bX,hx,hk]
       obtain⟨fr,hJ⟩:=ih (i+1) (by omega) (by omega);rw[eg];refine⟨fr,?_⟩;simp at hJ;rw[al (L:=kZ) rfl];simp[mh,e0,h0,e1,e2,e3,hk,hw1,hJ]
     · have eg:bX l (f+1) i=i:=by simp[bX,hx,hk]
       rw[eg];refine⟨[(38,.bool false)],?_⟩;rw[al (L:=kZ) rfl];simp[mh,e0,h0,e1,e2,e3,hk]
   · have eg:bX l (f+1) i=i:=by simp[bX,h0]
     rw[eg];refine⟨[(38,.bool false)],?_⟩;rw[al (L:=kZ) rfl];simp[mh,e0,h0]
def eJ (l:List It) (sl:List Sl) (rest:Sl):Int:=if bp l≠0 then bp l else c7 sl rest
def gI (l:List It) (sl:List Sl) (rest:Sl):List Pc:=
 if eJ l sl rest≠0 then [] else if bX l l.length 0=l.length then [⟨l.length,l.length,false,false,0⟩] else ia l sl rest l.length (bX l l.length 0) 0
theorem Bj (hs:Sls st sl sv) (hv:Its st l lv):∃ v,(E tab).F 113 [lv,sv,rest.dv] st=some (.tuple [v,.int .i64 (eJ l sl rest)],st)∧Lw 5 ((gI l sl rest).map Pc.dv) v:=by
 rw[aK HA rfl];have e0:=fun st'=>cw hv st';have c1:=s7 (hv.inn [.cells .plain [sv],.cells .plain rest.cs] []);have c2:=sS (rest:=rest) (hs.inn [.cells .plain [sv],.cells .plain rest.cs] []);have hsv:sv.leaves=[sv]∧sv.aT=true:=by cases hs<;>exact⟨rfl,rfl⟩
 have hlv:lv.leaves=[lv]∧lv.aT=true:=by cases hv<;>exact⟨rfl,rfl⟩
 unfold gI;by_cases hc:bp l=0
 · have hE:eJ l sl rest=c7 sl rest:=by simp[eJ,hc]
   rw[hE];by_cases hd:c7 sl rest=0
   · obtain⟨hok,hlen⟩:=gi hc;obtain⟨hso,_⟩:=l8 hd;have hG:BrS st.heap.length lv sv (.list 0 0 .no false []) rest [.cells .plain [sv],.cells .plain rest.cs,.cells .plain [lv,.fn 127 [] [.ptr st.heap.length 0,.ptr (st.heap.length+1) 0],.list 0 0 .no false []]]:=⟨rfl,rfl,rfl⟩;obtain⟨fr,hL0⟩:=F8 hv (by omega) (.ptr (st.heap.length+2) 0) [.cells .plain [sv],.cells .plain rest.cs,.cells .plain [lv,.fn 127 [] [.ptr st.heap.length 0,.ptr (st.heap.length+1) 0],.list 0 0 .no false []]] [] l.length 0 (by omega) (by omega);have hg:=iY l l.length 0 (by omega);simp only[hd,ne_eq,not_true_eq_false,if_false];generalize bX l l.length 0=g at *;by_cases hgl:g=l.length
     · simp only[hgl,if_true];rw[hgl] at hL0;refine⟨.list st.cur 5 .tight true [Pc.dv ⟨l.length,l.length,false,false,0⟩],?_,.list _ _ _ _ (fun _=>rfl) (fun e=>by cases e)⟩;simp only[Sl.cs,Sl.dv] at c1 c2 hL0;simp at hL0;simp[f113,Sl.cs,Sl.dv,hsv.1,hsv.2,hlv.1,hlv.2,c1,c2,hc,hd,hL0,e0,aW,bk,chunk,Pc.dv,Pc.cs]
     · simp only[hgl,if_false];obtain⟨G',K',ov',fr2,hL,hG',hA'⟩:=Fv hs hv hc hso l.length g [] (.list 0 0 .no false []) _ [] (by omega) (by omega) (by simp) hG (fR st [] 5 0 0 .no);obtain⟨t,n',tk,nn,hx,hx1,hx2,_⟩:=pY (st':=pst st G' K') hA'
       have hF:(E tab).F 128 [.int .i64 g,.int .i64 l.length,.fn 129 [.ptr (st.heap.length+2) 0] [],.fn 130 [.ptr (st.heap.length+2) 0] []] (pst st [.cells .plain [sv],.cells .plain rest.cs,.cells .plain [lv,.fn 127 [] [.ptr st.heap.length 0,.ptr (st.heap.length+1) 0],.list 0 0 .no false []]] [])=some (.tuple [],pst st G' K'):=by
        rw[dV J9 rfl];simp[f128,hL]
       have hr2:=hG'.r2;have hgl':¬ (g:Int)=l.length:=by omega
       refine⟨.list t n' tk nn ((ia l sl rest l.length g 0).map Pc.dv),?_,.list _ _ _ _ (fun h=>hx2 h) (fun h=>hx1 h)⟩;simp only[Sl.cs,Sl.dv] at c1 c2 hL0 hF;simp at hL0 hx
       have hxA:bE st (pst st G' K') ov'=aL st (pst st G' K') ov':=by
        rcases hA' with ⟨_,t,n',tk,rfl⟩ | ⟨k,s,rfl,_⟩<;>rfl
       simp[f113,Sl.cs,Sl.dv,hsv.1,hsv.2,hlv.1,hlv.2,c1,c2,hc,hd,hL0,e0,hgl,hgl',hF,hr2,hxA,hx]
   · simp only[ne_eq,hd,not_false_eq_true,if_true];refine⟨.list 0 0 .no false [],?_,.list _ _ _ _ (fun e=>by cases e) (fun _=>rfl)⟩;simp only[Sl.cs,Sl.dv] at c1 c2;simp[f113,Sl.cs,Sl.dv,hsv.1,hsv.2,c1,c2,hc,hd]
 · have hE:eJ l sl rest=bp l:=by simp[eJ,hc]
   rw[hE];simp only[ne_eq,hc,not_false_eq_true,if_true];refine⟨.list 0 0 .no false [],?_,.list _ _ _ _ (fun e=>by cases e) (fun _=>rfl)⟩;simp only[Sl.cs,Sl.dv] at c1;simp[f113,Sl.cs,Sl.dv,hsv.1,hsv.2,c1,hc]
end
end Go.D.Tab
end
section
namespace Go.D.Tab
theorem En:tab 307=some (.code yF):=by kernel_rfl
theorem Hd:tab 319=some (.code A0):=by kernel_rfl
theorem K0:tab 320=some (.code CN):=by kernel_rfl
theorem Ik:tab 321=some (.code Bg):=by kernel_rfl
theorem Hj:tab 330=some (.code B1):=by kernel_rfl
theorem Js:tab 331=some (.code Cj):=by kernel_rfl
theorem HU:tab 343=some (.code BW):=by kernel_rfl
theorem JB:tab 344=some (.code Al):=by kernel_rfl
theorem Kg:tab 345=some (.code yY):=by kernel_rfl
theorem KY:tab 346=some (.code BP):=by kernel_rfl
theorem Jd (k:IntKind) (x y:Int):ey mQ [.int k x,.int k y]=some (.int k (max x y)):=by
 have:(if y>x then y else x)=max x y:=by split<;>omega
 simp[ey,mQ,this]
theorem DR (k:IntKind) (x y:Int):ey jB [.int k x,.int k y]=some (.int k (min x y)):=by
 have:(if y<x then y else x)=min x y:=by split<;>omega
 simp[ey,jB,this]
def iW (p:bb):Int:=if p.label=[] then 0 else tw p.pr.size 0 p.label+4
def bW (p:bb):Nat→Int→Int
 | 0,_=>p.pr.inn
 | 1,n=>if 0<n then 0 else p.pr.first+iW p
 | _,n=>if p.pr.drop≤n then 0 else lY p
def rR (p:bb) (n:Int):Int:=bW p 0 n+bW p 1 n+bW p 2 n
def gd (p:bb) (s:Sl) (n:Int):Sl:=⟨min (s.x+rR p n) 4095,max (s.w-rR p n-p.pr.out) 0⟩
section
variable {st:St} {p:bb} {w u:LW}
theorem pV {n:Int} (hn:1≤n∧n≤64):∀ (l:List UInt8) (a:Int),0≤a→a+64*l.length≤1000000→a≤tw n a l∧tw n a l≤a+64*l.length
 | [],a,_,_=>by simp[tw]
 | c::r,a,h,h2=>by
   have hb:=oH c hn.1 hn.2;simp only[aaw] at h2 ⊢;simp only[tw];rw[aG (by omega)];have:=pV hn r (a+wd c n) (by omega) (by omega);omega
theorem pq (h0:az p=0):p.label.length≤16:=by
 have h:=(cN h0).2.2.2.2.1;unfold dm at h;simp only[aab,decide_eq_true_eq] at h;omega
theorem rW (h0:az p=0):0≤iW p∧iW p≤1028:=by
 have hl:=pq h0;have hc:=cY h0;have ht:=pV ⟨hc.1,hc.2.1⟩ p.label 0 (by omega) (by omega);unfold iW;split<;>omega
theorem BM (h0:az p=0):(E tab).F 345 [.agg (aj p w u)] st=some (.int .i64 (iW p),st):=by
 rw[aK Kg rfl];have hc:=cY h0;have hw:=fun st=>rC p.label p.pr.size st;unfold iW;by_cases h:p.label=[]
 · simp[yY,h]
 · have hl:=pq h0;have h2:¬ 4096<p.label.length:=by omega
   have ht:=pV ⟨hc.1,hc.2.1⟩ p.label 0 (by omega) (by omega);have w1:IntKind.i64.wrap (tw p.pr.size 0 p.label+4)=tw p.pr.size 0 p.label+4:=aG (by omega);unfold dW at hw;rw[if_pos ⟨hc.1,hc.2.1⟩,if_neg h2] at hw;simp[yY,h,hw,w1]
def prH (p:bb) (w u:LW) (N:Nat):List HO:=[.cells .plain (aj p w u),.cells .plain [.int .i64 (lY p)],.cells .plain [.fn 343 [] [.ptr N 0],.fn 344 [] [.ptr N 0],.fn 346 [] [.ptr N 0,.ptr (N+1) 0]]]
theorem Bf (h0:az p=0) (hp:p.small) (hw:w.ok 4 p.aI) (hu:u.ok 1 p.marks) (H:List HO) (K:List Nat):(E tab).F 330 [.agg (aj p w u)] (pst st H K)=some (.hsl 1 false (st.heap.length+(H.length+2)) 0 3 (some 3),pst st (H++prH p w u (st.heap.length+H.length)) K):=by
 rw[dV Hj rfl];have hd:=fun st=>Dc (st:=st) hp hw hu;rw[h0] at hd;simp[B1,hd,Dj,bk,chunk,prH,abo]
structure p8 (st:St) (p:bb) (w u:LW) (H:List HO) (k:Nat):Prop where
 r0:rowAt H k=some (.plain,aj p w u)
 r1:rowAt H (k+1)=some (.plain,[.int .i64 (lY p)])
 r2:rowAt H (k+2)=some (.plain,[.fn 343 [] [.ptr (st.heap.length+k) 0],.fn 344 [] [.ptr (st.heap.length+k) 0],.fn 346 [] [.ptr (st.heap.length+k) 0,.ptr (st.heap.length+(k+1)) 0]])
theorem p8.add {H:List HO} {k:Nat} (h:p8 st p w u H k) (X:List HO):p8 st p w u (H++X) k:=⟨gH h.r0 X,gH h.r1 X,gH h.r2 X⟩
theorem ie (h0:az p=0):0≤p.pr.first∧p.pr.first≤255∧0≤p.pr.inn∧p.pr.inn≤255∧0≤p.pr.out∧p.pr.out≤255:=by
 have h:=(cN h0).2.2.2.1;simp only[cu,fb,aab,decide_eq_true_eq] at h;omega
theorem DE {H:List HO} {K:List Nat} {k:Nat} (hk:p8 st p w u H k) (n:Int):(E tab).F 343 [.int .i64 n,.ptr (st.heap.length+k) 0] (pst st H K)=some (.int .i64 (bW p 0 n),pst st H K):=by
 rw[dV HU rfl];have r0:=hk.r0;have e:(aj p w u)[6]? = some (.int .i64 p.pr.inn):=rfl;simp[BW,r0,e,bW]
theorem CU (h0:az p=0) {H:List HO} {K:List Nat} {k:Nat} (hk:p8 st p w u H k) (n:Int):(E tab).F 344 [.int .i64 n,.ptr (st.heap.length+k) 0] (pst st H K)=some (.int .i64 (bW p 1 n),pst st H K):=by
 rw[dV JB rfl];have r0:=hk.r0;have hl:=rW h0;have hm:=ie h0;have h3:=fun st=>BM (st:=st) (w:=w) (u:=u) h0;have e:(aj p w u)[5]? = some (.int .i64 p.pr.first):=rfl;have w1:IntKind.i64.wrap (p.pr.first+iW p)=p.pr.first+iW p:=aG (by omega);by_cases hn:0<n
 · simp[Al,hn,bW]
 · simp[Al,hn,bW,cO,gj,iU,iJ,aP,r0,e,h3,w1]
theorem C3 {H:List HO} {K:List Nat} {k:Nat} (hk:p8 st p w u H k) (n:Int):(E tab).F 346 [.int .i64 n,.ptr (st.heap.length+k) 0,.ptr (st.heap.length+(k+1)) 0] (pst st H K)=some (.int .i64 (bW p 2 n),pst st H K):=by
 rw[dV KY rfl];have r0:=hk.r0;have r1:=hk.r1;have e:(aj p w u)[16]? = some (.int .i64 p.pr.drop):=rfl;by_cases hn:p.pr.drop≤n
 · simp[BP,hn,bW,r0,e]
 · simp[BP,hn,bW,r0,r1,e]
theorem vL (h0:az p=0) (n:Int):0≤bW p 0 n∧bW p 0 n≤255∧0≤bW p 1 n∧bW p 1 n≤1283∧0≤bW p 2 n∧bW p 2 n≤68:=by
 have hl:=rW h0;have hm:=ie h0;have hc:=Cs p;simp only[bW];refine⟨by omega,by omega,?_,?_,?_,?_⟩<;>split<;>omega
theorem tf (h0:az p=0) {H:List HO} {K:List Nat} {k:Nat} (hk:p8 st p w u H k) (s:Sl) (hs:0≤s.x∧s.x≤4095∧0≤s.w∧s.w≤4095) (n:Int):∃ J,(E tab).F 331 [.agg (aj p w u),.hsl 1 false (st.heap.length+(k+2)) 0 3 (some 3),s.dv,.int .i64 n] (pst st H K)=some ((gd p s n).dv,pst st (H++J) K):=by
 have hpl:=vL h0 n;have hm:=ie h0;have hk2:=hk.add [.cells .plain (aj p w u),.cells .plain s.cs,.cells .plain [.int .i64 0,.int .i64 0]];have h1:=DE (K:=K) hk2 n;have h2:=CU (K:=K) h0 hk2 n;have h3:=C3 (K:=K) hk2 n;have r2:=hk2.r2;have e:(aj p w u)[7]? = some (.int .i64 p.pr.out):=rfl;refine⟨[.cells .plain (aj p w u),.cells .plain s.cs,.cells .plain (gd p s n).cs],?_⟩;rw[dV Js rfl];unfold gd rR;generalize bW p 0 n=A at *;generalize bW p 1 n=B at *;generalize bW p 2 n=C at *;have w0:IntKind.i64.wrap A=A:=aG (by omega);have w1:IntKind.i64.wrap (A+B)=A+B:=aG (by omega);have w2:IntKind.i64.wrap (A+B+C)=A+B+C:=aG (by omega);have w3:IntKind.i64.wrap (s.x+(A+B+C))=s.x+(A+B+C):=aG (by omega);have w4:IntKind.i64.wrap (s.w-(A+B+C))=s.w-(A+B+C):=aG (by omega);have w5:IntKind.i64.wrap (s.w-(A+B+C)-p.pr.out)=s.w-(A+B+C)-p.pr.out:=aG (by omega);simp only[Sl.cs] at h1 h2 h3 r2;generalize hS:pst st (H++[.cells .plain (aj p w u),.cells .plain [.int .i64 s.x,.int .i64 s.w],.cells .plain [.int .i64 0,.int .i64 0]]) K=S at h1 h2 h3
 have hld:∀ i (v:DV),[DV.fn 343 [] [.ptr (st.heap.length+k) 0],.fn 344 [] [.ptr (st.heap.length+k) 0],.fn 346 [] [.ptr (st.heap.length+k) 0,.ptr (st.heap.length+(k+1)) 0]][i]? = some v→cL S 1 false (.ptr (st.heap.length+(k+2)) i)=some v:=by
  intro i v hv;subst hS;simp[r2,hv]
 have l0:=hld 0 _ rfl;have l1:=hld 1 _ rfl;have l2:=hld 2 _ rfl
 have t3:(E tab).C gJ [(3,.int .i64 n),(4,.ptr (st.heap.length+H.length) 0),(6,.ptr (st.heap.length+(H.length+1)) 0),(8,.ptr (st.heap.length+(H.length+2)) 0),(9,.int .i64 (A+B+C)),(12,.hsl 1 false (st.heap.length+(k+2)) 0 3 (some 3)),(13,.int .i64 3),(14,.int .i64 3)] S=some (.exit 0,[(3,.int .i64 n),(4,.ptr (st.heap.length+H.length) 0),(6,.ptr (st.heap.length+(H.length+1)) 0),(8,.ptr (st.heap.length+(H.length+2)) 0),(9,.int .i64 (A+B+C)),(12,.hsl 1 false (st.heap.length+(k+2)) 0 3 (some 3)),(13,.int .i64 3),(14,.int .i64 3),(15,.bool false)],S):=by
  rw[al (L:=gJ) rfl];simp[m7]
 have t2:(E tab).C gJ [(3,.int .i64 n),(4,.ptr (st.heap.length+H.length) 0),(6,.ptr (st.heap.length+(H.length+1)) 0),(8,.ptr (st.heap.length+(H.length+2)) 0),(9,.int .i64 (A+B)),(12,.hsl 1 false (st.heap.length+(k+2)) 0 3 (some 3)),(13,.int .i64 3),(14,.int .i64 2)] S=some (.exit 0,[(3,.int .i64 n),(4,.ptr (st.heap.length+H.length) 0),(6,.ptr (st.heap.length+(H.length+1)) 0),(8,.ptr (st.heap.length+(H.length+2)) 0),(9,.int .i64 (A+B+C)),(12,.hsl 1 false (st.heap.length+(k+2)) 0 3 (some 3)),(13,.int .i64 3),(14,.int .i64 3),(15,.bool false)],S):=by
  rw[al (L:=gJ) rfl];simp[m7,cU,l2,h3,w2,show IntKind.i64.wrap 3=3 by decide,t3]
 have t1:(E tab).C gJ [(3,.int .i64 n),(4,.ptr (st.heap.length+H.length) 0),(6,.ptr (st.heap.length+(H.length+1)) 0),(8,.ptr (st.heap.length+(H.length+2)) 0),(9,.int .i64 A),(12,.hsl 1 false (st.heap.length+(k+2)) 0 3 (some 3)),(13,.int .i64 3),(14,.int .i64 1)] S=some (.exit 0,[(3,.int .i64 n),(4,.ptr (st.heap.length+H.length) 0),(6,.ptr (st.heap.length+(H.length+1)) 0),(8,.ptr (st.heap.length+(H.length+2)) 0),(9,.int .i64 (A+B+C)),(12,.hsl 1 false (st.heap.length+(k+2)) 0 3 (some 3)),(13,.int .i64 3),(14,.int .i64 3),(15,.bool false)],S):=by
  rw[al (L:=gJ) rfl];simp[m7,cU,l1,h2,w1,show IntKind.i64.wrap 2=2 by decide,t2]
 have t0:(E tab).C gJ [(3,.int .i64 n),(4,.ptr (st.heap.length+H.length) 0),(6,.ptr (st.heap.length+(H.length+1)) 0),(8,.ptr (st.heap.length+(H.length+2)) 0),(9,.int .i64 0),(12,.hsl 1 false (st.heap.length+(k+2)) 0 3 (some 3)),(13,.int .i64 3),(14,.int .i64 0)] S=some (.exit 0,[(3,.int .i64 n),(4,.ptr (st.heap.length+H.length) 0),(6,.ptr (st.heap.length+(H.length+1)) 0),(8,.ptr (st.heap.length+(H.length+2)) 0),(9,.int .i64 (A+B+C)),(12,.hsl 1 false (st.heap.length+(k+2)) 0 3 (some 3)),(13,.int .i64 3),(14,.int .i64 3),(15,.bool false)],S):=by
  rw[al (L:=gJ) rfl];simp[m7,cU,l0,h1,w0,show IntKind.i64.wrap 1=1 by decide,t1]
 subst hS;simp[Cj,Sl.dv,Sl.cs,t0,w3,w4,w5,e,Jd,DR]
end
theorem IN (k:IntKind) (x y z:Int):ey mQ [.int k x,.int k y,.int k z]=some (.int k (max (max x y) z)):=by
 have h1:(if y>x then y else x)=max x y:=by split<;>omega
 have h2:(if z>max x y then z else max x y)=max (max x y) z:=by split<;>omega
 simp[ey,mQ,h1,h2]
def manyN (p:bb) (sl:List Sl):Nat:=(max (max (sl.length:Int) 1) p.pr.drop).toNat
def inF (p:bb) (sl:List Sl) (rest:Sl) (n:Nat):Sl:=gd p (bc sl rest n) n
def inL (p:bb) (sl:List Sl) (rest:Sl):List Sl:=(aal (manyN p sl)).map (inF p sl rest)
def jJ (p:bb) (sl:List Sl) (rest:Sl):Sl:=gd p rest (manyN p sl)
section
variable {st:St} {p:bb} {w u:LW} {sl:List Sl} {sv:DV} {rest:Sl}
theorem me (h0:az p=0) (hl:sl.length≤256):1≤manyN p sl∧manyN p sl≤256∧((manyN p sl:Nat):Int)=max (max (sl.length:Int) 1) p.pr.drop:=by
 have hc:=cY h0;unfold manyN;omega
theorem EB (h0:az p=0) (hs:Sls st sl sv) (hso:Fz sl rest) (hl:sl.length≤256) (x2:HO):∀ (k i:Nat) (J:List HO) (K:List Nat) (ov:DV),i+k=manyN p sl →
 p8 st p w u (.cells .plain (aj p w u)::.cells .plain rest.cs::x2::J) 3 →
 Acc st K 2 (((aal i).map (inF p sl rest)).map Sl.dv) ov→∃ ov' K' J' fr,
 (E tab).C rz [(1,sv),(3,.ptr st.heap.length 0),(5,.ptr (st.heap.length+1) 0),(7,.ptr (st.heap.length+2) 0),(8,.hsl 1 false (st.heap.length+5) 0 3 (some 3)),(9,.int .i64 (manyN p sl)),(10,ov),(20,.int .i64 (manyN p sl)),(21,.int .i64 i)] (pst st (.cells .plain (aj p w u)::.cells .plain rest.cs::x2::J) K) =
  some (.exit 0,(1,sv)::(3,.ptr st.heap.length 0)::(5,.ptr (st.heap.length+1) 0)::(7,.ptr (st.heap.length+2) 0)::(8,.hsl 1 false (st.heap.length+5) 0 3 (some 3))::(9,.int .i64 (manyN p sl))::(10,ov')::fr,pst st (.cells .plain (aj p w u)::.cells .plain rest.cs::x2::(J++J')) K') ∧
  Acc st K' 2 ((inL p sl rest).map Sl.dv) ov':=by
 have hm:=me (p:=p) h0 hl;intro k
 induction k with
 | zero=>
   intro i J K ov hi hk hA;obtain rfl:i=manyN p sl:=by omega
   refine⟨ov,K,[],[(20,.int .i64 (manyN p sl)),(21,.int .i64 (manyN p sl)),(22,.bool false)],?_,hA⟩;rw[al (L:=rz) rfl];simp[ve]
 | succ k ih=>
   intro i J K ov hi hk hA;have his:(i:Int)<manyN p sl:=by omega
   have his':i<manyN p sl:=by omega
   have hw:IntKind.i64.wrap ((i:Int)+1)=((i+1:Nat):Int):=by rw[aG (by omega)];simp
   have hrange:(aal (i+1)).map (inF p sl rest)=(aal i).map (inF p sl rest)++[inF p sl rest i]:=by rw[List.range_succ];simp
   have h114:=qk (rest:=rest) (hs.inn (.cells .plain (aj p w u)::.cells .plain rest.cs::x2::J) K) i;obtain⟨J1,h331⟩:=tf (K:=K) h0 hk (bc sl rest i) (hso i) i;have hk2:=hk.add J1;obtain⟨ov2,K2,hap,hA2⟩:=jf (H:=.cells .plain (aj p w u)::.cells .plain rest.cs::x2::(J++J1)) (by_:=16) (ag:=true) (tk:=.tight) (t:=st.cur) (ys:=[(inF p sl rest i).dv]) hA (by omega) (by simp) (by simp[vQ]) (by simp[ay];omega) (by simp[ay];omega);obtain⟨ov',K',J',fr,hJ,hR⟩:=ih (i+1) (J++J1) K2 ov2 (by omega) hk2 (by rw[hrange];simpa using hA2);refine⟨ov',K',J1++J',fr,?_,hR⟩;rw[al (L:=rz) rfl];rw[show gd p (bc sl rest i) i=inF p sl rest i from rfl] at h331;generalize inF p sl rest i=g at *;generalize bc sl rest i=s at *;simp only[Sl.cs,Sl.dv] at h114 h331 hap hJ ⊢;simp at h331 hap hJ;simp[ve,his,cO,gj,iU,iJ,aP,h114,h331,aW,bk,chunk,hap,hw,hJ]
theorem yx (h0:az p=0) (hp:p.small) (hw:w.ok 4 p.aI) (hu:u.ok 1 p.marks) (hs:Sls st sl sv) (hc:c7 sl rest=0) :
 ∃ v,(E tab).F 320 [.agg (aj p w u),sv,rest.dv] st=some (.tuple [v,(jJ p sl rest).dv],st)∧Lw 2 ((inL p sl rest).map Sl.dv) v:=by
 rw[aK K0 rfl];obtain⟨hso,hl⟩:=l8 hc;have hm:=me (p:=p) h0 hl;have hcp:=cY h0;have e0:=fun st'=>Vw.len hs st';simp only[aaU] at e0;have hsv:sv.leaves=[sv]∧sv.aT=true:=by cases hs<;>exact⟨rfl,rfl⟩
 have h330:=Bf (st:=st) h0 hp hw hu [.cells .plain (aj p w u),.cells .plain rest.cs,.cells .plain [.int .i64 0,.int .i64 0]] [];have hk:p8 st p w u (.cells .plain (aj p w u)::.cells .plain rest.cs::.cells .plain [.int .i64 0,.int .i64 0]::prH p w u (st.heap.length+3)) 3:=⟨rfl,rfl,rfl⟩;obtain⟨ov,K1,J1,fr1,hJ,hA⟩:=EB (st:=st) h0 hs hso hl (.cells .plain [.int .i64 0,.int .i64 0]) (manyN p sl) 0 (prH p w u (st.heap.length+3)) [] (.list 0 0 .no false []) (by omega) hk (fR _ _ _ _ _ _);have hk1:=hk.add J1
 have hrest:0≤rest.x∧rest.x≤4095∧0≤rest.w∧rest.w≤4095:=by
  have:=hso sl.length;unfold bc mL at this;rw[if_neg (by omega)] at this;simpa using this
 obtain⟨J2,h331⟩:=tf (K:=K1) h0 hk1 rest hrest (manyN p sl)
 obtain⟨t,n,tk,nn,rfl,c1,c2⟩:∃ t n tk nn,ov=.list t n tk nn ((inL p sl rest).map Sl.dv)∧(nn=true→n=2)∧(nn=false→(inL p sl rest).map Sl.dv=[]):=by
  rcases hA with ⟨hx,t,n',tk,rfl⟩ | ⟨k,s,rfl,hk⟩
  · exact⟨_,_,_,_,by rw[hx],(fun h=>by cases h),fun _=>hx⟩
  · exact⟨_,_,_,_,rfl,fun _=>rfl,(fun h=>by cases h)⟩
 refine⟨.list t n (og tk) nn ((inL p sl rest).map Sl.dv),?_,.list _ _ _ _ c1 c2⟩;have e14:(aj p w u)[16]? = some (.int .i64 p.pr.drop):=rfl;have wl:IntKind.i64.wrap (sl.length:Int)=sl.length:=aG (by omega);have hmx:=IN .i64 (sl.length:Int) 1 p.pr.drop;rw[← hm.2.2] at hmx;rw[show gd p rest (manyN p sl)=jJ p sl rest from rfl] at h331;generalize (inL p sl rest).map Sl.dv=VI at *;generalize jJ p sl rest=R at *;generalize manyN p sl=MN at *;simp only[Sl.cs,Sl.dv,prH] at h330 hJ h331 ⊢;simp at h330 hJ h331;simp[-eT,exl,CN,e0,e14,hmx,h330,hJ,h331]
theorem BG (hp:p.small) (hw:w.ok 4 p.aI) (hu:u.ok 1 p.marks) (hs:Sls st sl sv):(E tab).F 319 [.agg (aj p w u),sv,rest.dv] st=some (.int .i64 (if az p≠0 then az p else c7 sl rest),st):=by
 rw[aK Hd rfl];have h13:=fun st=>v8 p hp w u hw hu st;have h126:=sS (rest:=rest) (hs.inn [.cells .plain (aj p w u),.cells .plain rest.cs] []);by_cases h0:az p=0
 · simp only[Sl.cs,Sl.dv] at h126 ⊢;simp[A0,h13,h0,h126]
 · simp only[Sl.cs,Sl.dv] at h126 ⊢;simp[A0,h13,h0]
theorem yD (hl1:p.pr.least≠1) {l:List It} {lv:DV} (hv:Its st l lv) (hs:Sls st sl sv) :
 ∃ v,(E tab).F 321 [.agg (aj p w u),lv,sv,rest.dv] st=some (.agg [v,.bool true,.bool (decide (eJ l sl rest≠0))],st)∧Lw 5 ((gI l sl rest).map Pc.dv) v:=by
 rw[aK Ik rfl];have e15:(aj p w u)[15]? = some (.int .i64 p.pr.least):=rfl;obtain⟨v,hb,hv5⟩:=Bj (rest:=rest) (hs.inn [.cells .plain (aj p w u),.cells .plain rest.cs,.cells .plain [.list 0 0 .no false [],.bool false,.bool false]] []) (hv.inn [.cells .plain (aj p w u),.cells .plain rest.cs,.cells .plain [.list 0 0 .no false [],.bool false,.bool false]] []);have hlv:lv.leaves=[lv]∧lv.aT=true:=by cases hv<;>exact⟨rfl,rfl⟩
 have hsv:sv.leaves=[sv]∧sv.aT=true:=by cases hs<;>exact⟨rfl,rfl⟩
 obtain⟨t,n,tk,nn,rfl,c0,c1,c2⟩:=z9 hv5;refine⟨.list t n (og tk) nn ((gI l sl rest).map Pc.dv),?_,.list _ _ _ _ c1 c2⟩;generalize (gI l sl rest).map Pc.dv=VB at *;by_cases hE:eJ l sl rest=0
 · rw[hE] at hb;simp only[Sl.cs,Sl.dv] at hb ⊢;simp[-eT,exl,Bg,e15,hl1,cU,hb,hE]
 · simp only[Sl.cs,Sl.dv] at hb ⊢;simp[-eT,exl,Bg,e15,hl1,cU,hb,hE]
end
def iz0:It:=⟨0,0,0,0,0,0,0,false⟩
def toP (T:Int) (it:List It):List Pc→Int
 | []=>T
 | y::_=>(it.getD y.a.toNat iz0).f
def lnP (fr to:Int) (s:Sl) (x:Pc):Ln:=⟨fr,to,s.x,s.w,x.n,x.hy,if x.wide then 1 else 0⟩
def mA (T:Int) (it:List It) (sl:List Sl) (rest:Sl):Nat→Int→List Pc→List Ln
 | _,_,[]=>[]
 | n,fr,x::r=>lnP fr (toP T it r) (bc sl rest n) x::mA T it sl rest (n+1) (toP T it r) r
section
variable {st:St} {p:bb} {w u:LW} {sl:List Sl} {sv:DV} {rest:Sl}
theorem xA (l:List It) (a b:Int):∃ x y z:Int,vR l a b=.tuple [.int .i64 x,.int .i64 y,.int .i64 z]:=by
 unfold vR;split<;>exact⟨_,_,_,rfl⟩
theorem Jm (l:Ln):eG 7 true l.dv:=⟨rfl,rfl,rfl⟩
theorem oT (T:Int) (it:List It) (sl:List Sl) (rest:Sl):∀ (P:List Pc) (n:Nat) (fr:Int),(mA T it sl rest n fr P).length=P.length
 | [],_,_=>rfl
 | x::r,n,fr=>by simp[mA,oT T it sl rest r]
theorem Gj {it:List It} {iv:DV} {c1:List DV} (hi:Its st it iv) (hs:Sls st sl sv) {P:List Pc} (hP:P.length≤20000) (hPa:∀ y∈P,0≤y.a) (hPb:2≤P.length→∀ y∈P,y.a<it.length) {t n:Nat} {tk:Tk} {nn:Bool} (h5:P≠[]→n=5) {lo:Bool} (hlo:P≠[]→lo=false) :
 ∀ (r d:List Pc) (J:List HO) (K:List Nat) (ov:DV) (fr0:Int) (ls:List Ln),P=d++r→ls.length=d.length →
 Acc st K 7 (ls.map Ln.dv) ov→∃ ov' K' J' fr,
 (E tab).C p7 [(3,.ptr st.heap.length 0),(9,iv),(11,sv),(12,.ptr (st.heap.length+2) 0),(13,.ptr (st.heap.length+3) 0),(14,ov),(15,.int .i64 fr0),(49,.list t n tk nn (P.map Pc.dv)),(50,.int .i64 P.length),(51,.int .i64 d.length)] (pst st (.cells .plain (aj p w u)::.cells .plain c1::.cells .plain rest.cs::.cells .plain [.list t n tk nn (P.map Pc.dv),.bool true,.bool lo]::J) K) =
  some (.exit 0,(3,.ptr st.heap.length 0)::(9,iv)::(11,sv)::(12,.ptr (st.heap.length+2) 0)::(13,.ptr (st.heap.length+3) 0)::(14,ov')::fr,pst st (.cells .plain (aj p w u)::.cells .plain c1::.cells .plain rest.cs::.cells .plain [.list t n tk nn (P.map Pc.dv),.bool true,.bool lo]::(J++J')) K') ∧
  Acc st K' 7 ((ls++mA p.text.length it sl rest d.length fr0 r).map Ln.dv) ov':=by
 intro r
 induction r with
 | nil=>
   intro d J K ov fr0 ls hd hls hA;rw[aaJ] at hd;subst hd;refine⟨ov,K,[],[(15,.int .i64 fr0),(49,.list t n tk nn (P.map Pc.dv)),(50,.int .i64 P.length),(51,.int .i64 P.length),(52,.bool false)],?_,by simpa[mA] using hA⟩;rw[al (L:=p7) rfl];simp[kP]
 | cons x r ih=>
   intro d J K ov fr0 ls hd hls hA;have hlt:d.length<P.length:=by simp[hd]
   obtain rfl:=h5 (by intro e;rw[e] at hlt;simp at hlt);obtain rfl:=hlo (by intro e;rw[e] at hlt;simp at hlt);have hlt':(d.length:Int)<P.length:=by omega
   have hw:IntKind.i64.wrap ((d.length:Int)+1)=((d++[x]).length:Nat):=by rw[aG (by omega)];simp
   have hVl:(P.map Pc.dv).length=P.length:=by simp
   have l0:d.length<(P.map Pc.dv).length:=by rw[hVl];exact hlt
   have g0:(P.map Pc.dv)[d.length]'l0=x.dv:=by simp[hd]
   have h114:=qk (rest:=rest) (hs.inn (.cells .plain (aj p w u)::.cells .plain c1::.cells .plain rest.cs::.cells .plain [.list t 5 tk nn (P.map Pc.dv),.bool true,.bool false]::(J++[.cells .plain x.cs])) K) d.length;obtain⟨g1,g2,g3,hgv⟩:=xA it x.a x.b;have h322:=B8 (hi.inn (.cells .plain (aj p w u)::.cells .plain c1::.cells .plain rest.cs::.cells .plain [.list t 5 tk nn (P.map Pc.dv),.bool true,.bool false]::(J++[.cells .plain x.cs,.cells .plain (bc sl rest d.length).cs,.cells .plain ([.int .i64 fr0,.int .i64 (toP p.text.length it r),.int .i64 (bc sl rest d.length).x,.int .i64 (bc sl rest d.length).w,.int .i64 x.n,.bool x.hy,.int .i64 0])])) K) x.a x.b;rw[hgv] at h322;obtain⟨ov2,K2,hap,hA2⟩:=jf (H:=.cells .plain (aj p w u)::.cells .plain c1::.cells .plain rest.cs::.cells .plain [.list t 5 tk nn (P.map Pc.dv),.bool true,.bool false]::(J++[.cells .plain x.cs,.cells .plain (bc sl rest d.length).cs,.cells .plain (lnP fr0 (toP p.text.length it r) (bc sl rest d.length) x).cs])) (by_:=56) (ag:=true) (tk:=.tight) (t:=st.cur) (ys:=[(lnP fr0 (toP p.text.length it r) (bc sl rest d.length) x).dv]) hA (by omega) (by simp) (by simp[Jm]) (by simp[ay];omega) (by simp[ay];omega);obtain⟨ov',K',J',fr,hJ,hR⟩:=ih (d++[x]) (J++[.cells .plain x.cs,.cells .plain (bc sl rest d.length).cs,.cells .plain (lnP fr0 (toP p.text.length it r) (bc sl rest d.length) x).cs]) K2 ov2 (toP p.text.length it r) (ls++[lnP fr0 (toP p.text.length it r) (bc sl rest d.length) x]) (by simp[hd]) (by simp[hls]) (by simpa using hA2)
   refine⟨ov',K',.cells .plain x.cs::.cells .plain (bc sl rest d.length).cs::.cells .plain (lnP fr0 (toP p.text.length it r) (bc sl rest d.length) x).cs::J',fr,?_,by
    simpa[mA] using hR⟩
   rw[al (L:=p7) rfl];have hxa:=hPa x (by simp[hd])
   cases r with
   | nil=>
     have hlen:P.length=d.length+1:=by simp[hd]
     have hlt2:(d.length:Int)<(d.length:Int)+1:=by omega
     generalize P.map Pc.dv=V at *;unfold lnP at hap hJ ⊢;simp only[toP] at hap hJ h322 ⊢;generalize bc sl rest d.length=s at *;simp only[Sl.dv,Sl.cs,Ln.dv,Ln.cs,Pc.dv,Pc.cs] at h114 h322 hap hJ g0 ⊢;simp at h114 h322 hap hJ
     cases hwd:x.wide with
     | false=>
       rw[hwd] at g0 h114 h322 hap hJ;simp at hap hJ;simp[kP,hlt2,g0,l0,h114,hVl,hlen,h322,hw,aW,bk,chunk,hap];simpa[hlen] using hJ
     | true=>
       rw[hwd] at g0 h114 h322 hap hJ;simp at hap hJ;simp[kP,hlt2,g0,l0,h114,hVl,hlen,h322,hw,show IntKind.i64.wrap 1=1 by decide,aW,bk,chunk,hap];simpa[hlen] using hJ
   | cons y r'=>
     have hlen:P.length=d.length+1+1+r'.length:=by simp[hd];omega
     have hlt2:(d.length:Int)<(d.length:Int)+1+1+r'.length:=by omega
     have hge:(0:Int)≤(d.length:Int)+1:=by omega
     have hlt4:d.length<d.length+1+1+r'.length:=by omega
     have hlt5:d.length+1<d.length+1+1+r'.length:=by omega
     have hlt3:(d.length:Int)+1<(d.length:Int)+1+1+r'.length:=by omega
     have l1:d.length+1<(P.map Pc.dv).length:=by rw[hVl,hlen];omega
     have g1':(P.map Pc.dv)[d.length+1]'l1=y.dv:=by simp[hd]
     have hya:=hPa y (by simp[hd]);have hyb:=hPb (by rw[hlen];omega) y (by simp[hd]);obtain⟨ya,hy⟩:∃ ya:Nat,y.a=ya:=⟨y.a.toNat,by omega⟩;have hyl:ya<it.length:=by omega
     have hx:it[ya]? = some (it.getD ya iz0):=by rw[aak,aac hyl];rfl
     have i1:=fun st'=>dt hi hyl .i64 st';have i2:=fun st'=>fk hi hx (off:=1) (by omega) st';have i3:=fun H K=>ry hi hx (off:=1) (y:=.int .i64 (it.getD ya iz0).f) rfl H K;have et:toP p.text.length it (y::r')=(it.getD ya iz0).f:=by simp only[toP,hy];rfl
     rw[et] at hap hJ h322 ⊢;generalize it.getD ya iz0=q at *;generalize P.map Pc.dv=V at *;unfold lnP at hap hJ ⊢;generalize bc sl rest d.length=s at *;simp only[Sl.dv,Sl.cs,Ln.dv,Ln.cs,Pc.dv,Pc.cs] at h114 h322 hap hJ g0 g1' ⊢;simp at h114 h322 hap hJ;have w1:IntKind.i64.wrap ((d.length:Int)+1)=(d.length:Int)+1:=aG (by omega);rw[hy] at g1'
     cases hwd:x.wide with
     | false=>
       rw[hwd] at g0 h114 h322 hap hJ;simp at hap hJ;simp[kP,hlt2,hlt3,hlt4,hlt5,hge,g0,l0,g1',h114,hVl,hlen,h322,w1,i1,i2,i3,aW,bk,chunk,hap];simpa[hlen] using hJ
     | true=>
       rw[hwd] at g0 h114 h322 hap hJ;simp at hap hJ;simp[kP,hlt2,hlt3,hlt4,hlt5,hge,g0,l0,g1',h114,hVl,hlen,h322,w1,i1,i2,i3,show IntKind.i64.wrap 1=1 by decide,aW,bk,chunk,hap];simpa[hlen] using hJ
end
section
variable {p:bb} {sl:List Sl} {rest:Sl}
theorem Ah (h0:az p=0) (hl:sl.length≤256) (n:Nat):bc (inL p sl rest) (jJ p sl rest) n=inF p sl rest n:=by
 have hm:=me (p:=p) h0 hl;unfold bc mL;rw[if_neg (by omega),show (n:Int).toNat=n from rfl];by_cases h:n<manyN p sl
 · unfold inL;simp[h]
 · have e:(inL p sl rest)[n]? = none:=by
    rw[List.getElem?_eq_none_iff];simp[inL];omega
   rw[e];unfold inF bc mL
   have e2:sl[(n:Int).toNat]? = none:=by
    rw[List.getElem?_eq_none_iff];show sl.length≤n;omega
   rw[if_neg (by omega),e2];simp only[Option.getD_none];unfold jJ gd rR;have p0:bW p 0 (manyN p sl)=bW p 0 n:=rfl
   have p1:bW p 1 (manyN p sl)=bW p 1 n:=by
    simp only[bW];rw[if_pos (by omega),if_pos (by omega)]
   have p2:bW p 2 (manyN p sl)=bW p 2 n:=by
    simp only[bW];rw[if_pos (by omega),if_pos (by omega)]
   rw[p0,p1,p2]
theorem tK (h0:az p=0) (s:Sl) (hs:0≤s.x∧s.x≤4095∧0≤s.w∧s.w≤4095) (n:Int):jn (gd p s n)=true:=by
 have hp:=vL h0 n;have hm:=ie h0;unfold jn bn gd rR;simp only[aab,decide_eq_true_eq];omega
theorem ID (h0:az p=0) (hc:c7 sl rest=0):c7 (inL p sl rest) (jJ p sl rest)=0:=by
 obtain⟨hso,hl⟩:=l8 hc;have hm:=me (p:=p) h0 hl
 have hrest:0≤rest.x∧rest.x≤4095∧0≤rest.w∧rest.w≤4095:=by
  have:=hso sl.length;unfold bc mL at this;rw[if_neg (by omega)] at this;simpa using this
 unfold c7;rw[if_neg (by simp[inL];omega),if_pos];rw[aab,aaf];refine⟨fun s hs=>?_,tK h0 rest hrest _⟩;obtain⟨n,_,rfl⟩:=aaQ.1 hs;exact tK h0 _ (hso n) _
def gl (l:List It) (F:Nat→Sl):Nat→Nat→Nat→List Pc
 | 0,_,_=>[]
 | f+1,a,n=>if a<l.length then eI l a (F n)::gl l F f (gV l (eI l a (F n)).b.toNat) (n+1) else []
theorem xi (l:List It) {sl:List Sl} {rest:Sl} {F:Nat→Sl} (h:∀ n:Nat,bc sl rest n=F n):∀ f a n,ia l sl rest f a n=gl l F f a n
 | 0,_,_=>rfl
 | f+1,a,n=>by simp only[ia,gl,h n,xi l h f]
def l6 (p:bb) (sl:List Sl) (rest:Sl):List Pc:=gI (dw p) (inL p sl rest) (jJ p sl rest)
def oi (p:bb) (sl:List Sl) (rest:Sl):List Ln:=mA p.text.length (dw p) (inL p sl rest) (jJ p sl rest) 0 0 (l6 p sl rest)
def gQ (l:List It) (F:Nat→Sl):List Pc:=
 if bp l≠0 then [] else if bX l l.length 0=l.length then [⟨l.length,l.length,false,false,0⟩] else gl l F l.length (bX l l.length 0) 0
theorem A8 (h0:az p=0) (hc:c7 sl rest=0):l6 p sl rest=gQ (dw p) (inF p sl rest):=by
 obtain⟨_,hl⟩:=l8 hc;have hin:=ID h0 hc
 have hE:eJ (dw p) (inL p sl rest) (jJ p sl rest)=bp (dw p):=by
  unfold eJ;by_cases h:bp (dw p)=0
  · rw[if_neg (by simp[h]),h,hin]
  · rw[if_pos h]
 unfold l6 gI gQ;rw[hE,xi _ (Ah h0 hl)]
theorem yL (l:List It) (a:Nat) (s:Sl):(eI l a s).a=a:=by
 unfold eI;split<;>rfl
theorem mR (l:List It) (F:Nat→Sl):∀ f a n,∀ y∈gl l F f a n,0≤y.a∧y.a<l.length
 | 0,_,_,y,h=>by simp[gl] at h
 | f+1,a,n,y,h=>by
   simp only[gl] at h;split at h
   · rename_i ha;rcases aaA.1 h with rfl | h
     · have e:=yL l a (F n);rw[e];omega
     · exact mR l F f _ _ y h
   · cases h
theorem oY (l:List It) (F:Nat→Sl):∀ f a n,(gl l F f a n).length≤f
 | 0,_,_=>by simp[gl]
 | f+1,a,n=>by
   simp only[gl];split
   · have:=oY l F f (gV l (eI l a (F n)).b.toNat) (n+1);simp;omega
   · simp
theorem oP (l:List It) (F:Nat→Sl):(∀ y∈gQ l F,0≤y.a)∧(2≤(gQ l F).length→∀ y∈gQ l F,y.a<l.length)∧(gQ l F).length≤8193:=by
 unfold gQ;split
 · simp
 · rename_i h1
   have hlen:l.length≤8192:=by
    apply abp;intro h;apply h1;unfold bp;rw[if_pos (by omega)];simp
   split
   · refine⟨?_,?_,?_⟩
     · simp
     · intro h;simp at h
     · simp
   · exact⟨fun y hy=>(mR l F _ _ _ y hy).1,fun _ y hy=>(mR l F _ _ _ y hy).2,by have:=oY l F l.length (bX l l.length 0) 0;omega⟩
end
section
variable {st:St} {p:bb} {w u:LW} {sl:List Sl} {sv:DV} {rest:Sl}
def od (p:bb) (sl:List Sl) (rest:Sl):Int:=if az p≠0 then az p else c7 sl rest
theorem Fp (hy:p.pr.bS=0) (hp:p.small) (hw:w.ok 4 p.aI) (hu:u.ok 1 p.marks) (hl1:p.pr.least≠1) (hs:Sls st sl sv) :
 ∃ v,(E tab).F 307 [.agg (aj p w u),sv,rest.dv] st=some (.tuple [v,.int .i64 (od p sl rest)],st)∧Lw 7 ((if od p sl rest=0 then oi p sl rest else []).map Ln.dv) v:=by
 rw[aK En rfl];have h319:=BG (rest:=rest) hp hw hu (hs.inn [.cells .plain (aj p w u),.cells .plain rest.cs] []);rw[show (if az p≠0 then az p else c7 sl rest)=od p sl rest from rfl] at h319;have hsv:sv.leaves=[sv]∧sv.aT=true:=by cases hs<;>exact⟨rfl,rfl⟩
 by_cases hE:od p sl rest=0;rotate_left
 · rw[if_neg hE];refine⟨.list 0 0 .no false [],?_,.list _ _ _ _ (fun h=>by cases h) (fun _=>rfl)⟩;simp only[Sl.dv,Sl.cs] at h319 ⊢;simp[yF,h319,hE]
 rw[if_pos hE,hE];rw[hE] at h319
 have h0:az p=0:=by
  apply abp;intro h;unfold od at hE;rw[if_pos h] at hE;exact h hE
 have hc:c7 sl rest=0:=by unfold od at hE;rw[if_neg (by simp[h0])] at hE;exact hE
 obtain⟨iv,h106,hiv⟩:=BJ (st:=pst st [.cells .plain (aj p w u),.cells .plain rest.cs] []) hy hp hw hu;rw[h0] at h106;rw[if_pos h0] at hiv;obtain⟨nv,h320,hnv⟩:=yx (st:=pst st [.cells .plain (aj p w u),.cells .plain rest.cs] []) h0 hp hw hu (hs.inn _ _) hc;obtain⟨bv,h321,hbv⟩:=yD (st:=pst st [.cells .plain (aj p w u),.cells .plain rest.cs,.cells .plain (jJ p sl rest).cs] []) (w:=w) (u:=u) (rest:=jJ p sl rest) hl1 (Lw.vw hiv:Its _ (dw p) iv) (Lw.vw hnv);obtain⟨t,n,tk,nn,rfl,c0,_,_⟩:=z9 hbv;have hP:=A8 h0 hc;obtain⟨q1,q2,q3⟩:=oP (dw p) (inF p sl rest);rw[← hP] at q1 q2 q3
 have hlo:l6 p sl rest≠[]→decide (eJ (dw p) (inL p sl rest) (jJ p sl rest)≠0)=false:=by
  intro h;apply decide_eq_false;intro h2;apply h;unfold l6 gI;rw[if_pos h2]
 rw[show gI (dw p) (inL p sl rest) (jJ p sl rest)=l6 p sl rest from rfl] at h321 c0
 obtain⟨ov,K1,J1,fr1,hJ,hA⟩:=Gj (st:=st) (p:=p) (w:=w) (u:=u) (rest:=jJ p sl rest) (c1:=rest.cs) (Lw.vw hiv:Its st (dw p) iv) (Lw.vw hnv) (P:=l6 p sl rest) (by omega) q1 q2 (t:=t) (tk:=tk) (nn:=nn) (fun h=>c0 (by
  intro e;rw[List.map_eq_nil_iff] at e;exact h e)) hlo (l6 p sl rest) [] [] [] (.list 0 0 .no false []) 0 [] rfl rfl (fR _ _ _ _ _ _)
 obtain⟨t2,n2,tk2,nn2,rfl,c1,c2⟩:∃ t n tk nn,ov=.list t n tk nn ((oi p sl rest).map Ln.dv)∧(nn=true→n=7)∧(nn=false→(oi p sl rest).map Ln.dv=[]):=by
  have hA':Acc st K1 7 ((oi p sl rest).map Ln.dv) ov:=by simpa[oi] using hA
  rcases hA' with ⟨hx,t,n',tk,rfl⟩ | ⟨k,s,rfl,hk⟩
  · exact⟨_,_,_,_,by rw[hx],(fun h=>by cases h),fun _=>hx⟩
  · exact⟨_,_,_,_,rfl,fun _=>rfl,(fun h=>by cases h)⟩
 refine⟨.list t2 n2 (og tk2) nn2 ((oi p sl rest).map Ln.dv),?_,.list _ _ _ _ c1 c2⟩;have hVl:((l6 p sl rest).map Pc.dv).length=(l6 p sl rest).length:=by simp
 generalize (oi p sl rest).map Ln.dv=VL at *;generalize jJ p sl rest=R2 at *;generalize decide (eJ (dw p) (inL p sl rest) R2≠0)=lo at *;generalize (l6 p sl rest).map Pc.dv=VP at *;simp only[Sl.dv,Sl.cs] at h319 h106 h320 h321 hJ ⊢;simp at h106 h320 h321 hJ;simp[-eT,exl,yF,h319,h106,h320,h321,hVl,hJ]
end
def gP (pr:eA) (s:List UInt8):bb:=⟨s,if s=[] then [] else [⟨s.length,⟨0,0,0⟩⟩],pr,[],[]⟩
def gW (st:St) (s:List UInt8):LW:=if s=[] then ⟨0,0,.no,false⟩ else ⟨st.cur,4,.tight,true⟩
theorem HF (st:St) (pr:eA) (s:List UInt8):(gW st s).ok 4 (gP pr s).aI:=by
 unfold gW gP;by_cases h:s=[]<;>simp[h,LW.ok]
theorem Am (pr:eA) (s:List UInt8):(gP pr s).small:=⟨by simp[gP],by simp[gP],by simp[gP]⟩
theorem Ib (pr:eA) (s:List UInt8):LW.ok ⟨0,0,.no,false⟩ 1 (gP pr s).marks:=⟨(fun h=>by cases h),fun _=>rfl⟩
def js (c:UInt8):Bool:=decide (32≤c.toNat)&&decide (c.toNat≤126)
abbrev Str:=List UInt8
theorem DW:tab 463=some (.code Ax):=by kernel_rfl
theorem Eb:tab 464=some (.code yU):=by kernel_rfl
theorem Kk:tab 465=some (.code AF):=by kernel_rfl
theorem JA:tab 472=some (.code zJ):=by kernel_rfl
theorem KK:tab 478=some (.eW gE):=by kernel_rfl
theorem Gi (v:DV) (st:St):(E tab).F 478 [v] st=some (v,st):=by
 rw[EF];simp only[cS,KK];rfl
def bV (s:Str):List DV:=s.map fun b=>.int .u8 b.toNat
theorem Bq (s:Str):(bV s).length=s.length:=by simp[bV]
theorem yW:∀ s:Str,dK (bV s)=some s
 | []=>rfl
 | c::r=>by
   have h:(bV (c::r))=.int .u8 c.toNat::bV r:=rfl;have hc:(c.toNat:Int)≤255:=by have:c.toNat<256:=c.toNat_lt;omega
   rw[h,dK,yW r];simp[hc]
def SB (N:Nat) (H:List HO) (k:Nat) (s:Str):Prop:=
 ∃ p l,H[k]? = some (.cells (.typed 65) [p,l])∧(p=.bG∨p=.ptr (N+k) 0)∧((s=[]∧l=.list 0 0 .no false [])∨(s≠[]∧∃ j,j≠k∧H[j]? = some (.cells (.frz 5) (bV s))∧l=.hsl 1 false (N+j) 0 s.length none))
def Kp (H:List HO) (k:Nat) (H':List HO):Prop:=H.length≤H'.length∧∀ j o,j≠k→H[j]? = some o→(∀ t vs,o≠.cells (.frz t) vs)→H'[j]? = some o
theorem Kp.refl (H:List HO) (k:Nat):Kp H k H:=⟨aai _,fun _ _ _ h _=>h⟩
theorem Kp.trans {H H' H'':List HO} {k:Nat} (h:Kp H k H') (h':Kp H' k H''):Kp H k H'':=⟨abk h.1 h'.1,fun j o hj ho hn=>h'.2 j o hj (h.2 j o hj ho hn) hn⟩
theorem Kp.app (H:List HO) (k:Nat) (X:List HO):Kp H k (H++X):=⟨by simp,fun j o _ h _=>by rw[aaj (aad.1 h).1];exact h⟩
theorem Kp.set (H:List HO) (k:Nat) (o:HO):Kp H k (H.set k o):=⟨by simp,fun j o' hj h _=>by rw[aax (fun e=>hj e.symm)];exact h⟩
theorem Kp.row {H H':List HO} {k j:Nat} {vs:List DV} (h:Kp H k H') (hj:j≠k) (hr:rowAt H j=some (.plain,vs)):rowAt H' j=some (.plain,vs):=by
 unfold rowAt at hr;split at hr
 · rename_i g vs' e;simp only[aaa.injEq,Prod.mk.injEq] at hr;obtain⟨rfl,rfl⟩:=hr;have:=h.2 j _ hj e (by intro t vs' e;injection e with e _;cases e);unfold rowAt;rw[this]
 · cases hr
theorem SB.app {N:Nat} {H:List HO} {k:Nat} {s:Str} (h:SB N H k s) (X:List HO):SB N (H++X) k s:=by
 obtain⟨p,l,h1,h2,h3⟩:=h;have e:∀ {j:Nat} {o:HO},H[j]? = some o→(H++X)[j]? = some o:=fun h=>by rw[aaj (aad.1 h).1];exact h
 refine⟨p,l,e h1,h2,?_⟩;rcases h3 with h3 | ⟨h3,j,hj,h4,h5⟩
 · exact .inl h3
 · exact .inr ⟨h3,j,hj,e h4,h5⟩
theorem qI {H:List HO} {k:Nat} {g:CK} {vs:List DV} (h:H[k]? = some (.cells g vs)):rowAt H k=some (g,vs):=by unfold rowAt;rw[h]
theorem IM (N:Nat) (H:List HO):SB N (H++[.cells (.typed 65) [.bG,.list 0 0 .no false []]]) H.length []:=⟨_,_,by simp,.inl rfl,.inl ⟨rfl,rfl⟩⟩
section
variable {st:St} {H:List HO} {K:List Nat} {k:Nat} {s:Str}
theorem tT {t n:Nat} {tk:Tk} {x:Str} (hx:x≠[]) (hl:x.length≤10000):df (pst st H K) 5 1 (.list t n tk false []) (.str x)=some (.hsl 1 false (st.heap.length+H.length) 0 x.length none,pst st (H++[.cells (.frz 5) (bV x)]) K):=by
 have hx0:¬ x.length=0:=fun e=>hx (aaY.1 e);have hroom:x.length≤ay:=by simp[ay];omega
 simp[df,bQ,hx0,hroom,bV];simp[pst]
theorem sj {j:Nat} {x:Str} (hx:x≠[]) (hl:s.length+x.length≤10000) (hj:H[j]? = some (.cells (.frz 5) (bV s))):df (pst st H K) 5 1 (.hsl 1 false (st.heap.length+j) 0 s.length none) (.str x)=some (.hsl 1 false (st.heap.length+H.length) 0 (s.length+x.length) none,pst st (H.set j .gone++[.cells (.frz 5) (bV (s++x))]) K):=by
 have hx0:¬ x.length=0:=fun e=>hx (aaY.1 e);have hroom:s.length+x.length≤ay:=by simp[ay];omega
 simp[df,bQ,hx0,hroom,qI hj,Bq];simp[pst,bV,List.set_append_right]
theorem wc {p l:DV} (h1:H[k]? = some (.cells (.typed 65) [p,l])) (h2:p=.bG∨p=.ptr (st.heap.length+k) 0) :
 (E tab).F 472 [.ptr (st.heap.length+k) 0] (pst st H K)=some (.tuple [],pst st (H.set k (.cells (.typed 65) [.ptr (st.heap.length+k) 0,l])) K):=by
 have hr:=qI h1;rw[dV JA rfl];rcases h2 with rfl | rfl
 · simp[zJ,hr,eqD,sg,h1,Gi]
 · have e:H.set k (.cells (.typed 65) [.ptr (st.heap.length+k) 0,l])=H:=by
    obtain⟨hk,h⟩:=aad.1 h1;rw[← h,List.set_getElem_self]
   simp[zJ,hr,eqD,e]
theorem Bk (h:SB st.heap.length H k s) (x:Str) (hx:x≠[]) (hl:s.length+x.length≤10000) :
 ∃ H',(E tab).F 463 [.ptr (st.heap.length+k) 0,.str x] (pst st H K)=some (.tuple [.int .i64 x.length,.aB],pst st H' K)∧SB st.heap.length H' k (s++x)∧Kp H k H':=by
 obtain⟨p,l,h1,h2,h3⟩:=h;have hc:=wc (K:=K) h1 h2;have hk:=(aad.1 h1).1;rcases h3 with ⟨rfl,rfl⟩ | ⟨hs,j,hj,h4,rfl⟩
 · refine⟨H.set k (.cells (.typed 65) [.ptr (st.heap.length+k) 0,.hsl 1 false (st.heap.length+H.length) 0 x.length none])++[.cells (.frz 5) (bV x)],?_,⟨.ptr (st.heap.length+k) 0,.hsl 1 false (st.heap.length+H.length) 0 x.length none,?_,.inr rfl,.inr ⟨by simpa using hx,H.length,by omega,by simp,rfl⟩⟩,(Kp.set _ _ _).trans (Kp.app _ _ _)⟩
   · rw[dV DW rfl];have ha:=tT (st:=st) (H:=H.set k (.cells (.typed 65) [.ptr (st.heap.length+k) 0,.list 0 0 .no false []])) (K:=K) (t:=0) (n:=0) (tk:=.no) hx (by simpa using hl);rw[List.length_set] at ha;simp[Ax,hc,eU hk,ha,gO hk,j9 hk]
   · rw[aaj (by simpa using hk),aa6 hk]
 · have hj':=(aad.1 h4).1;refine⟨(H.set k (.cells (.typed 65) [.ptr (st.heap.length+k) 0,.hsl 1 false (st.heap.length+H.length) 0 (s.length+x.length) none])).set j .gone++[.cells (.frz 5) (bV (s++x))],?_,⟨.ptr (st.heap.length+k) 0,.hsl 1 false (st.heap.length+H.length) 0 (s.length+x.length) none,?_,.inr rfl,.inr ⟨by simp[hx],H.length,by omega,by simp,by simp⟩⟩,?_⟩
   · rw[dV DW rfl];have ha:=sj (st:=st) (H:=H.set k (.cells (.typed 65) [.ptr (st.heap.length+k) 0,.hsl 1 false (st.heap.length+j) 0 s.length none])) (K:=K) (j:=j) hx hl (by rw[aax (fun e=>hj e.symm),h4]);rw[List.length_set,List.set_comm _ _ (fun e=>hj e.symm)] at ha;have hk2:k<(H.set j .gone).length:=by simpa using hk
     simp[Ax,hc,eU hk,ha,gO hk2,j9 hk2];rw[List.set_comm _ _ hj]
   · rw[aaj (by simpa using hk),aax hj,aa6 hk]
   · refine⟨by simp,fun i o hi ho hn=>?_⟩
     have hij:j≠i:=by
      rintro rfl;rw[h4] at ho;injection ho with ho;exact hn _ _ ho.symm
     rw[aaj (by simpa using(aad.1 ho).1),aax hij,aax (fun e=>hi e.symm)];exact ho
theorem py {st:St} {v:DV} {c:UInt8} {t:Nat} {tk:Tk} {S:St}:df S 5 1 v (.list t 1 tk true [.int .u8 c.toNat])=df S 5 1 v (.str [c]):=by
 unfold df;have e1:bQ S 1 (.list t 1 tk true [.int .u8 c.toNat])=bQ S 1 (.str [c]):=by simp[bQ,flat]
 rw[e1]
theorem CO (h:SB st.heap.length H k s) (c:UInt8) (hl:s.length+1≤10000) :
 ∃ H',(E tab).F 464 [.ptr (st.heap.length+k) 0,.int .u8 c.toNat] (pst st H K)=some (.aB,pst st H' K)∧SB st.heap.length H' k (s++[c])∧Kp H k H':=by
 obtain⟨p,l,h1,h2,h3⟩:=h;have hc:=wc (K:=K) h1 h2;have hk:=(aad.1 h1).1;rcases h3 with ⟨rfl,rfl⟩ | ⟨hs,j,hj,h4,rfl⟩
 · refine⟨H.set k (.cells (.typed 65) [.ptr (st.heap.length+k) 0,.hsl 1 false (st.heap.length+H.length) 0 1 none])++[.cells (.frz 5) (bV [c])],?_,⟨.ptr (st.heap.length+k) 0,.hsl 1 false (st.heap.length+H.length) 0 1 none,?_,.inr rfl,.inr ⟨by simp,H.length,by omega,by simp,rfl⟩⟩,(Kp.set _ _ _).trans (Kp.app _ _ _)⟩
   · rw[dV Eb rfl];have ha:=tT (st:=st) (H:=H.set k (.cells (.typed 65) [.ptr (st.heap.length+k) 0,.list 0 0 .no false []])) (K:=K) (t:=0) (n:=0) (tk:=.no) (x:=[c]) (by simp) (by simp);rw[List.length_set,← py (st:=st) (t:=st.cur) (tk:=.tight)] at ha;simp at ha hc;simp[yU,hc,eU hk,aW,bk,chunk,ha,gO hk,j9 hk]
   · rw[aaj (by simpa using hk),aa6 hk]
 · have hj':=(aad.1 h4).1;refine⟨(H.set k (.cells (.typed 65) [.ptr (st.heap.length+k) 0,.hsl 1 false (st.heap.length+H.length) 0 (s.length+1) none])).set j .gone++[.cells (.frz 5) (bV (s++[c]))],?_,⟨.ptr (st.heap.length+k) 0,.hsl 1 false (st.heap.length+H.length) 0 (s.length+1) none,?_,.inr rfl,.inr ⟨by simp,H.length,by omega,by simp,by simp⟩⟩,?_⟩
   · rw[dV Eb rfl];have ha:=sj (st:=st) (H:=H.set k (.cells (.typed 65) [.ptr (st.heap.length+k) 0,.hsl 1 false (st.heap.length+j) 0 s.length none])) (K:=K) (j:=j) (x:=[c]) (by simp) (by simpa using hl) (by rw[aax (fun e=>hj e.symm),h4]);rw[List.length_set,List.set_comm _ _ (fun e=>hj e.symm),← py (st:=st) (t:=st.cur) (tk:=.tight)] at ha;have hk2:k<(H.set j .gone).length:=by simpa using hk
     simp at ha hc;simp[yU,hc,eU hk,aW,bk,chunk,ha,gO hk2,j9 hk2];rw[List.set_comm _ _ hj]
   · rw[aaj (by simpa using hk),aax hj,aa6 hk]
   · refine⟨by simp,fun i o hi ho hn=>?_⟩
     have hij:j≠i:=by
      rintro rfl;rw[h4] at ho;injection ho with ho;exact hn _ _ ho.symm
     rw[aaj (by simpa using(aad.1 ho).1),aax hij,aax (fun e=>hi e.symm)];exact ho
theorem xD (h:SB st.heap.length H k s) (hl:s.length≤10000):(E tab).F 465 [.ptr (st.heap.length+k) 0] (pst st H K)=some (.str s,pst st H K):=by
 obtain⟨p,l,h1,h2,h3⟩:=h;have hr:=qI h1;rw[dV Kk rfl];rcases h3 with ⟨rfl,rfl⟩ | ⟨hs,j,hj,h4,rfl⟩
 · simp[AF,hr,jW,sC]
 · have h0:0<s.length:=List.length_pos_iff.2 hs;have h0':¬ s.length=0:=by omega
   have hroom:s.length≤ay:=by simp[ay];omega
   simp[AF,hr,jW,h0,sC,h0',qI h4,hroom,Bq,aa0,yW]
end
theorem Lg:tab 440=some (.code oo):=by kernel_rfl
theorem KX:tab 441=some (.code CT):=by kernel_rfl
theorem Ki:tab 442=some (.code Cg):=by kernel_rfl
theorem K6:tab 466=some (.code uf):=by kernel_rfl
theorem JY:tab 467=some (.code Dd):=by kernel_rfl
theorem Ia:tab 473=some (.code uj):=by kernel_rfl
theorem Jx:tab 474=some (.code xy):=by kernel_rfl
theorem Ii:tab 475=some (.code Dm):=by kernel_rfl
theorem KO:tab 479=some (.code B5):=by kernel_rfl
theorem Kb:tab 480=some (.code x4):=by kernel_rfl
structure Sec where
 w:Int
 h:Int
 top:Int
 bot:Int
 inn:Int
 out:Int
 bO:Int
 gap:Int
 start:Int
 bal:Int
 mir:Int
 h0:List UInt8
 h1:List UInt8
 h2:List UInt8
 t0:List UInt8
 t1:List UInt8
 t2:List UInt8
def Sec.cs (s:Sec):List DV:=[.int .i64 s.w,.int .i64 s.h,.int .i64 s.top,.int .i64 s.bot,.int .i64 s.inn,.int .i64 s.out,.int .i64 s.bO,.int .i64 s.gap,.int .i64 s.start,.int .i64 s.bal,.int .i64 s.mir,.str s.h0,.str s.h1,.str s.h2,.str s.t0,.str s.t1,.str s.t2]
abbrev Bd:=Int×Int×Int×Int
def Bd.dv (b:Bd):DV:=.agg [.int .i64 b.1,.int .i64 b.2.1,.int .i64 b.2.2.1,.int .i64 b.2.2.2]
def bF:List Bd→Option Int
 | []=>none
 | b::r=>if b.1<b.2.1∨b.2.2.1<b.1 then some b.2.2.2 else bF r
def Sec.bs (s:Sec):List Bd:=[(s.w,1,4095,5),(s.h,1,4095,5),(s.top,0,4095,5),(s.bot,0,4095,5),(s.inn,0,4095,5),(s.out,0,4095,5),(s.gap,0,4095,5),(s.bO,1,8,2),(s.start,0,2,2),(s.bal,0,1,2),(s.mir,0,1,2)]
def eL (s:Sec):Int:=(s.w-s.inn-s.out-s.gap*(s.bO-1)).tdiv s.bO
def vU (s:Sec):Int:=s.h-s.top-s.bot
def dZ (c:UInt8):Bool:=decide (c=3)||js c
def txE (L:List (List UInt8)):Int:=if L.any (fun t=>decide (100<t.length)) then 3 else if L.all (fun t=>t.all dZ) then 0 else 4
def Sec.tx (s:Sec):List (List UInt8):=[s.h0,s.h1,s.h2,s.t0,s.t1,s.t2]
def oh (s:Sec):Int:=match bF s.bs with | some e=>e | none=>if eL s<10∨vU s<20 then 5 else txE s.tx
structure nD (s:Sec):Prop where
 w:1≤s.w∧s.w≤4095
 h:1≤s.h∧s.h≤4095
 top:0≤s.top∧s.top≤4095
 bot:0≤s.bot∧s.bot≤4095
 inn:0≤s.inn∧s.inn≤4095
 out:0≤s.out∧s.out≤4095
 gap:0≤s.gap∧s.gap≤4095
 bO:1≤s.bO∧s.bO≤8
 start:0≤s.start∧s.start≤2
 bal:0≤s.bal∧s.bal≤1
 mir:0≤s.mir∧s.mir≤1
theorem D6 {s:Sec} (h:bF s.bs=none):nD s:=by
 have go:∀ L:List Bd,bF L=none→∀ b∈L,b.2.1≤b.1∧b.1≤b.2.2.1:=by
  intro L
  induction L with
  | nil=>intro _ b hb;cases hb
  | cons x r ih=>
    intro h b hb;simp only[bF] at h;split at h
    · cases h
    · rename_i hx;rcases aaA.1 hb with rfl | hb
      · omega
      · exact ih h b hb
 have g:=go _ h;have a:=g (s.w,1,4095,5) (by simp[Sec.bs]);have b:=g (s.h,1,4095,5) (by simp[Sec.bs]);have c:=g (s.top,0,4095,5) (by simp[Sec.bs]);have d:=g (s.bot,0,4095,5) (by simp[Sec.bs]);have e:=g (s.inn,0,4095,5) (by simp[Sec.bs]);have f:=g (s.out,0,4095,5) (by simp[Sec.bs]);have i:=g (s.gap,0,4095,5) (by simp[Sec.bs]);have j:=g (s.bO,1,8,2) (by simp[Sec.bs]);have k:=g (s.start,0,2,2) (by simp[Sec.bs]);have l:=g (s.bal,0,1,2) (by simp[Sec.bs]);have m:=g (s.mir,0,1,2) (by simp[Sec.bs]);exact⟨a,b,c,d,e,f,i,j,k,l,m⟩
theorem vX {s:Sec} {e:Int} (h:bF s.bs=some e):e=5∨e=2:=by
 have go:∀ L:List Bd,(∀ b∈L,b.2.2.2=5∨b.2.2.2=2)→∀ e,bF L=some e→e=5∨e=2:=by
  intro L
  induction L with
  | nil=>intro _ e h;cases h
  | cons b r ih=>
    intro hL e h;simp only[bF] at h;split at h
    · injection h with h;subst h;exact hL b (aap ..)
    · exact ih (fun x hx=>hL x (aao _ hx)) e h
 refine go s.bs ?_ e h;intro b hb;simp only[Sec.bs,aaA,abr,or_false] at hb;rcases hb with rfl | rfl | rfl | rfl | rfl | rfl | rfl | rfl | rfl | rfl | rfl<;>simp
structure RdS (st:St) (L:List (List UInt8)) (v:DV):Prop where
 len:∀ st',qJ st' .slice v=some (.int .i64 L.length,st')
 at_:∀ i,i<L.length→∀ st',lj st' 1 v (.int .i64 (i:Nat))=some (elP 1 v i,st')
 ld:∀ i x,L[i]? = some x→∀ H K,cL (pst st H K) 1 false (elP 1 v i)=some (.str x)
theorem RdS.row {st:St} {G:List HO} {K:List Nat} {k:Nat} {g:CK} {L:List (List UInt8)} (h:G[k]? = some (.cells g (L.map DV.str))):RdS (pst st G K) L (.hsl 1 false (st.heap.length+k) 0 L.length none) where
 len:=fun st'=>by simp
 at_:=fun i hi st'=>by simp[hi,elP]
 ld:=fun i x hx H' K'=>by
  have hc:(pst st G K).cells (st.heap.length+k)=some (g,L.map DV.str):=by
   unfold St.cells;show (match (st.heap++G)[st.heap.length+k]? with | some (.cells g vs)=>some (g,vs) | _=>none)=_;rw[aaq (by omega),Nat.add_sub_cancel_left,h]
  have hc':=pG (H:=H') (K:=K') hc;show (match (pst (pst st G K) H' K').cells (st.heap.length+k) with | some (_,vs)=>takeN vs (0+i*1) 1 false | none=>none)=_;rw[hc'];simp[takeN,hx]
section
variable {st:St} {s:Sec}
theorem EI (B:List Bd) (hB:B.length≤100) (x1:HO) (K:List Nat) (c0:Nat):∀ (r d:List Bd) (J:List HO),B=d++r →
 ∃ J' fr,(E tab).C lz [(1,.ptr st.heap.length 0),(38,.list c0 4 .tight true (B.map Bd.dv)),(39,.int .i64 B.length),(40,.int .i64 d.length)] (pst st (x1::J) K) =
   some (match bF r with | none=>(.exit 0,(1,.ptr st.heap.length 0)::fr,pst st (x1::(J++J')) K) | some e=>(.ret,[(2,.int .i64 e)],pst st (x1::(J++J')) K)):=by
 intro r
 induction r with
 | nil=>
   intro d J hd;rw[aaJ] at hd;subst hd;refine⟨[],[(38,.list c0 4 .tight true (B.map Bd.dv)),(39,.int .i64 B.length),(40,.int .i64 B.length),(41,.bool false)],?_⟩;rw[al (L:=lz) rfl];simp[nk,bF]
 | cons b r ih=>
   intro d J hd;have h0:d.length<B.length:=by simp[hd]
   have hg:B[d.length]=b:=by simp[hd]
   have hw:IntKind.i64.wrap ((d.length:Int)+1)=((d++[b]).length:Nat):=by rw[aG (by omega)];simp
   obtain⟨J',fr,hJ⟩:=ih (d++[b]) (J++[.cells .plain [.int .i64 b.1,.int .i64 b.2.1,.int .i64 b.2.2.1,.int .i64 b.2.2.2]]) (by simp[hd]);simp only[aah,aan] at hJ hw;simp only[bF];by_cases c1:b.1<b.2.1
   · refine⟨[.cells .plain [.int .i64 b.1,.int .i64 b.2.1,.int .i64 b.2.2.1,.int .i64 b.2.2.2]],[],?_⟩;rw[al (L:=lz) rfl];rw[if_pos (.inl c1)];simp[nk,h0,hg,Bd.dv,c1]
   · by_cases c2:b.2.2.1<b.1
     · refine⟨[.cells .plain [.int .i64 b.1,.int .i64 b.2.1,.int .i64 b.2.2.1,.int .i64 b.2.2.2]],[],?_⟩;rw[al (L:=lz) rfl];rw[if_pos (.inr c2)];simp[nk,h0,hg,Bd.dv,c1,c2]
     · refine⟨[.cells .plain [.int .i64 b.1,.int .i64 b.2.1,.int .i64 b.2.2.1,.int .i64 b.2.2.2]]++J',fr,?_⟩;rw[al (L:=lz) rfl];rw[if_neg (by omega)];simp at hJ;simp[nk,h0,hg,Bd.dv,c1,c2,hw];simpa[Bd.dv] using hJ
theorem pO (h:nD s):0≤s.gap*(s.bO-1)∧s.gap*(s.bO-1)≤28665 ∧ -36855≤eL s∧eL s≤4095:=by
 obtain⟨w,hh,top,bot,inn,out,gap,bO,_,_,_⟩:=h;have h1:0≤s.gap*(s.bO-1):=Int.mul_nonneg gap.1 (by omega);have h2:s.gap*(s.bO-1)≤4095*7:=Int.mul_le_mul gap.2 (by omega) (by omega) (by omega);refine⟨h1,by omega,?_⟩;unfold eL;generalize s.gap*(s.bO-1)=g at *
 have hq:((s.w-s.inn-s.out-g).tdiv s.bO).natAbs≤(s.w-s.inn-s.out-g).natAbs:=by
  rw[Int.natAbs_tdiv];exact Nat.div_le_self _ _
 have hn:s.w-s.inn-s.out-g<0→(s.w-s.inn-s.out-g).tdiv s.bO≤0:=by
  intro hx;have h3:0≤(-(s.w-s.inn-s.out-g)).tdiv s.bO:=Int.tdiv_nonneg (by omega) (by omega);rw[Int.neg_tdiv] at h3;omega
 generalize (s.w-s.inn-s.out-g).tdiv s.bO=q at *;by_cases hx:s.w-s.inn-s.out-g<0
 · have:=hn hx;omega
 · omega
theorem vO (h:nD s):(E tab).F 475 [.agg s.cs] st=some (.int .i64 (eL s),st):=by
 rw[aK Ii rfl];have hl:=pO h;obtain⟨w,hh,top,bot,inn,out,gap,bO,_,_,_⟩:=h;have w0:IntKind.i64.wrap (s.w-s.inn)=s.w-s.inn:=aG (by omega);have w1:IntKind.i64.wrap (s.w-s.inn-s.out)=s.w-s.inn-s.out:=aG (by omega);have w2:IntKind.i64.wrap (s.bO-1)=s.bO-1:=aG (by omega);have w3:IntKind.i64.wrap (s.gap*(s.bO-1))=s.gap*(s.bO-1):=aG (by omega);have w4:IntKind.i64.wrap (s.w-s.inn-s.out-s.gap*(s.bO-1))=s.w-s.inn-s.out-s.gap*(s.bO-1):=aG (by omega);have w5:IntKind.i64.wrap ((s.w-s.inn-s.out-s.gap*(s.bO-1)).tdiv s.bO)=eL s:=aG (by unfold eL at hl;omega);have hc:¬ s.bO=0:=by omega
 simp[Dm,Sec.cs,w0,w1,w2,w3,w4,w5,hc]
theorem DD (h:nD s):(E tab).F 479 [.agg s.cs] st=some (.int .i64 (vU s),st):=by
 rw[aK KO rfl];obtain⟨w,hh,top,bot,inn,out,gap,bO,_,_,_⟩:=h;have w0:IntKind.i64.wrap (s.h-s.top)=s.h-s.top:=aG (by omega);have w1:IntKind.i64.wrap (s.h-s.top-s.bot)=s.h-s.top-s.bot:=aG (by omega);simp[B5,Sec.cs,w0,w1,vU]
theorem F3 {L:List (List UInt8)} {v:DV} (hv:RdS st L v) (hl:L.length≤100) (c0:DV) (H:List HO) (K:List Nat):∀ (r d:List (List UInt8)),L=d++r →
 ∃ fr,(E tab).C qN [(0,c0),(9,v),(10,.int .i64 L.length),(11,.int .i64 d.length)] (pst st H K) =
   some (if r.any (fun t=>decide (100<t.length)) then (.ret,[(2,.int .i64 3)],pst st H K) else (.exit 0,(0,c0)::fr,pst st H K)):=by
 intro r
 induction r with
 | nil=>
   intro d hd;rw[aaJ] at hd;subst hd;refine⟨[(9,v),(10,.int .i64 L.length),(11,.int .i64 L.length),(12,.bool false)],?_⟩;rw[al (L:=qN) rfl];simp[qH]
 | cons x r ih=>
   intro d hd;have h0:d.length<L.length:=by simp[hd]
   have hg:L[d.length]? = some x:=by simp[hd]
   have a1:=hv.at_ d.length h0;have a2:=hv.ld d.length x hg H K;have hw:IntKind.i64.wrap ((d.length:Int)+1)=((d++[x]).length:Nat):=by rw[aG (by omega)];simp
   obtain⟨fr,hJ⟩:=ih (d++[x]) (by simp[hd]);refine⟨fr,?_⟩;rw[al (L:=qN) rfl];simp only[aah,aan] at hJ hw;by_cases c:100<x.length
   · have c':(100:Int)<x.length:=by omega
     simp[qH,h0,a1,a2,c,c']
   · have c':¬ (100:Int)<x.length:=by omega
     simp at hJ;simp[qH,h0,a1,a2,c,c',hw];simpa using hJ
theorem FH {t:List UInt8} (hl:t.length≤100) (c19 c20 c21:DV) (S:St):∀ (r d:List UInt8),t=d++r →
 ∃ fr,(E tab).C pQ [(6,.str t),(19,c19),(20,c20),(21,c21),(26,.int .i64 t.length),(27,.int .i64 d.length)] S =
   some (if r.all dZ then (.exit 4,(6,.str t)::(19,c19)::(20,c20)::(21,c21)::fr,S) else (.ret,[(2,.int .i64 4)],S)):=by
 intro r
 induction r with
 | nil=>
   intro d hd;rw[aaJ] at hd;subst hd;refine⟨[(26,.int .i64 t.length),(27,.int .i64 t.length),(28,.bool false)],?_⟩;rw[al (L:=pQ) rfl];simp[kN]
 | cons c r ih=>
   intro d hd;have h0:d.length<t.length:=by simp[hd]
   have hg:t[d.length]=c:=by simp[hd]
   have hw:IntKind.i64.wrap ((d.length:Int)+1)=((d++[c]).length:Nat):=by rw[aG (by omega)];simp
   obtain⟨fr,hJ⟩:=ih (d++[c]) (by simp[hd]);refine⟨fr,?_⟩;rw[al (L:=pQ) rfl];simp only[aah,aan] at hJ hw;by_cases h3:c=3
   · subst h3;have hb:dZ 3=true:=by decide
     simp[kN,h0,hg,hb,hw];simpa using hJ
   have h3':¬ (c.toNat:Int)=3:=by
    intro e;apply h3;have:c.toNat=3:=by omega
    exact UInt8.toNat_inj.1 (by simpa using this)
   have h3'':¬ c.toNat=3:=by omega
   by_cases h1:c.toNat<32
   · have hb:dZ c=false:=by simp[dZ,js,h3];omega
     have h1':(c.toNat:Int)<32:=by omega
     simp[kN,h0,hg,h1,h1',hb,h3,h3',h3'']
   · have h1':¬ (c.toNat:Int)<32:=by omega
     by_cases h2:126<c.toNat
     · have hb:dZ c=false:=by simp[dZ,js,h3];omega
       have h2':126<(c.toNat:Int):=by omega
       simp[kN,h0,hg,h1,h1',h2,h2',hb,h3,h3',h3'']
     · have hb:dZ c=true:=by simp[dZ,js];right;omega
       have h2':¬ 126<(c.toNat:Int):=by omega
       simp[kN,h0,hg,h1,h1',h2,h2',hb,h3,h3',h3'',hw];simpa using hJ
theorem Ep {L:List (List UInt8)} {v:DV} (hv:RdS st L v) (hl:L.length≤100) (hs:∀ t∈L,t.length≤100) (H:List HO) (K:List Nat):∀ (r d:List (List UInt8)) (ex:Fr),L=d++r →
 ∃ fr,(E tab).C rn ((19,v)::(20,.int .i64 L.length)::(21,.int .i64 d.length)::ex) (pst st H K) =
   some (if r.all (fun t=>t.all dZ) then (.exit 2,fr,pst st H K) else (.ret,[(2,.int .i64 4)],pst st H K)):=by
 intro r
 induction r with
 | nil=>
   intro d ex hd;rw[aaJ] at hd;subst hd;refine⟨[(19,v),(20,.int .i64 L.length),(21,.int .i64 L.length),(22,.bool false)],?_⟩;rw[al (L:=rn) rfl];simp[rk]
 | cons x r ih=>
   intro d ex hd;have h0:d.length<L.length:=by simp[hd]
   have hg:L[d.length]? = some x:=by simp[hd]
   have a1:=hv.at_ d.length h0;have a2:=hv.ld d.length x hg H K;have hw:IntKind.i64.wrap ((d.length:Int)+1)=((d++[x]).length:Nat):=by rw[aG (by omega)];simp
   obtain⟨fr1,hL⟩:=FH (hs x (by rw[hd];simp)) v (.int .i64 L.length) (.int .i64 d.length) (pst st H K) x [] rfl;obtain⟨fr,hJ⟩:=ih (d++[x]) [] (by simp[hd]);refine⟨fr,?_⟩;rw[al (L:=rn) rfl];simp only[aah,aan,aaX] at hJ hw hL
   cases ha:x.all dZ with
   | false=>
     rw[ha] at hL;simp at hL;simp[rk,h0,a1,a2,ha,hL]
   | true=>
     rw[ha] at hL;simp at hL hJ;simp[rk,h0,a1,a2,ha,hL,hw];simpa using hJ
theorem AQ {L:List (List UInt8)} {v:DV} (hv:RdS st L v) (hl:L.length≤100):(E tab).F 480 [v] st=some (.int .i64 (txE L),st):=by
 rw[aK Kb rfl];have hn:=hv.len;obtain⟨fr0,hL0⟩:=F3 hv hl v [] [] L [] rfl;unfold txE
 cases ha:L.any (fun t=>decide (100<t.length)) with
 | true=>
   rw[ha] at hL0;simp at hL0;simp[x4,hn,hL0]
 | false=>
   rw[ha] at hL0
   have hs:∀ t∈L,t.length≤100:=by
    intro t ht;have:=List.any_eq_false.1 ha t ht;simpa using this
   obtain⟨fr,hL⟩:=Ep hv hl hs [] [] L [] [] rfl;simp at hL0
   cases hb:L.all (fun t=>t.all dZ) with
   | true=>
     rw[hb] at hL;simp at hL;simp[x4,hn,hL0,hL]
   | false=>
     rw[hb] at hL;simp at hL;simp[x4,hn,hL0,hL]
theorem As:(E tab).F 473 [.agg s.cs] st=some (.int .i64 (oh s),st):=by
 rw[aK Ia rfl];obtain⟨J',fr,hL⟩:=EI (st:=st) s.bs (by simp[Sec.bs]) (.cells .plain s.cs) [] st.cur s.bs [] [] rfl;unfold oh;simp only[aaX] at hL
 cases hb:bF s.bs with
 | some e=>
   rw[hb] at hL;simp[Sec.bs,Bd.dv,Sec.cs] at hL;simp[uj,Sec.cs,aW,bk,chunk,hL]
 | none=>
   rw[hb] at hL;have hok:=D6 hb;have h475:=fun st=>vO (st:=st) hok;have h479:=fun st=>DD (st:=st) hok;have h480:=AQ (st:=pst st (.cells .plain s.cs::(J'++[.cells .grown (s.tx.map DV.str)])) []) (RdS.row (k:=J'.length+1) (g:=.grown) (L:=s.tx) (by simp)) (by simp[Sec.tx]);simp only;simp[Sec.bs,Bd.dv,Sec.cs] at hL;simp only[Sec.cs] at h475 h479;by_cases c1:eL s<10
   · rw[if_pos (.inl c1)];simp[uj,Sec.cs,aW,bk,chunk,hL,h475,c1]
   by_cases c2:vU s<20
   · rw[if_pos (.inr c2)];simp[uj,Sec.cs,aW,bk,chunk,hL,h475,h479,c1,c2]
   rw[if_neg (by omega)];simp[Sec.tx,Sec.cs] at h480;simp[uj,Sec.cs,aW,bk,chunk,hL,h475,h479,c1,c2,Sec.tx,cO,gj,iU,iJ,aP,bJ,bQ,ay];simp[pst] at h480 ⊢;simp[h480]
def pgE (s:Sec) (n least:Int):Int:=if oh s≠0 then oh s else if n<least∨4096<n then 5 else 0
theorem p6 (n least:Int):(E tab).F 466 [.agg s.cs,.int .i64 n,.int .i64 least] st=some (.int .i64 (pgE s n least),st):=by
 rw[aK K6 rfl];have h:=fun st=>As (st:=st) (s:=s);unfold pgE;simp only[Sec.cs] at h ⊢;by_cases c:oh s=0
 · by_cases c1:n<least
   · simp[uf,h,c,c1]
   by_cases c2:4096<n
   · simp[uf,h,c,c1,c2]
   simp[uf,h,c,c1,c2]
 · simp[uf,h,c]
def cG (s:Sec) (n:Int) (first:Bool):Int:=if first=true∧(s.h0≠[]∨s.t0≠[]) then 0 else if n.tmod 2=1 then 1 else 2
theorem na (n:Int) (first:Bool):(E tab).F 440 [.agg s.cs,.int .i64 n,.bool first] st=some (.tuple [.int .i64 (if pgE s n 1=0 then cG s n first else 0),.int .i64 (pgE s n 1)],st):=by
 rw[aK Lg rfl];have h:=fun st=>p6 (st:=st) (s:=s) n 1;simp only[Sec.cs] at h ⊢;by_cases c:pgE s n 1=0
 · cases first with
   | false=>
     by_cases c3:n.tmod 2=1
     · simp[oo,h,c,c3,cG]
     · simp[oo,h,c,c3,cG]
   | true=>
     by_cases c1:s.h0=[]
     · have c1':s.h0.isEmpty=true:=by simpa using c1
       by_cases c2:s.t0=[]
       · have c2':s.t0.isEmpty=true:=by simpa using c2
         by_cases c3:n.tmod 2=1
         · have hv:cG s n true=1:=by unfold cG;simp[c1,c2,c3]
           rw[hv];simp[-List.isEmpty_iff,oo,h,c,c1',c2',c3]
         · have hv:cG s n true=2:=by unfold cG;simp[c1,c2,c3]
           rw[hv];simp[-List.isEmpty_iff,oo,h,c,c1',c2',c3]
       · have c2':s.t0.isEmpty=false:=by simpa using c2
         have hv:cG s n true=0:=by unfold cG;simp[c2]
         rw[hv];simp[-List.isEmpty_iff,oo,h,c,c1',c2',c2]
     · have c1':s.h0.isEmpty=false:=by simpa using c1
       have hv:cG s n true=0:=by unfold cG;simp[c1]
       rw[hv];simp[oo,h,c,c1,c1']
 · simp[oo,h,c]
def tt (s:Sec) (n:Int):Int:=if s.mir=1∧n.tmod 2=0 then s.out else s.inn
theorem C8 (n:Int):(E tab).F 474 [.agg s.cs,.int .i64 n] st=some (.int .i64 (tt s n),st):=by
 rw[aK Jx rfl];unfold tt;by_cases c:s.mir=1
 · by_cases c2:n.tmod 2=0
   · simp[xy,Sec.cs,c,c2]
   · simp[xy,Sec.cs,c,c2]
 · simp[xy,Sec.cs,c]
structure Rc where
 x:Int
 y:Int
 w:Int
 h:Int
def Rc.cs (r:Rc):List DV:=[.int .i64 r.x,.int .i64 r.y,.int .i64 r.w,.int .i64 r.h]
def wS (s:Sec):Int:=eL s*s.bO+s.gap*(s.bO-1)
theorem CG (h:nD s):-400000≤eL s*s.bO∧eL s*s.bO≤400000:=by
 have hl:=pO h;obtain⟨w,hh,top,bot,inn,out,gap,bO,_,_,_⟩:=h;have h1:eL s*s.bO≤4095*s.bO:=Int.mul_le_mul_of_nonneg_right hl.2.2.2 (by omega);have h2:-36855*s.bO≤eL s*s.bO:=Int.mul_le_mul_of_nonneg_right hl.2.2.1 (by omega);omega
theorem o5 (h:nD s) (n y z:Int):(E tab).F 467 [.agg s.cs,.int .i64 n,.int .i64 y,.int .i64 z] st=some (.agg (⟨tt s n,y,wS s,z⟩:Rc).cs,st):=by
 rw[aK JY rfl];have hl:=pO h;have hsp:=CG h;have h474:=fun st=>C8 (st:=st) (s:=s) n;have h475:=fun st=>vO (st:=st) h;obtain⟨w,hh,top,bot,inn,out,gap,bO,_,_,_⟩:=h;have w1:IntKind.i64.wrap (eL s*s.bO)=eL s*s.bO:=aG (by omega);have w2:IntKind.i64.wrap (s.bO-1)=s.bO-1:=aG (by omega);have w3:IntKind.i64.wrap (s.gap*(s.bO-1))=s.gap*(s.bO-1):=aG (by omega);have w4:IntKind.i64.wrap (eL s*s.bO+s.gap*(s.bO-1))=wS s:=aG (by omega);simp only[Sec.cs] at h474 h475 ⊢;simp[Dd,cO,gj,iU,iJ,aP,h474,h475,w1,w2,w3,w4,Rc.cs]
theorem pn {n:Int} (h:pgE s n 1=0):nD s∧oh s=0∧1≤n∧n≤4096:=by
 unfold pgE at h;split at h
 · rename_i h1;exact absurd h h1
 · rename_i h1;split at h
   · omega
   · rename_i h2;have h1:oh s=0:=by simpa using h1
     refine⟨?_,h1,by omega⟩;unfold oh at h1
     cases hb:bF s.bs with
     | none=>exact D6 hb
     | some e=>
       rw[hb] at h1;rcases vX hb with rfl | rfl<;>cases h1
def ka (s:Sec) (n:Int):Rc:=⟨tt s n,s.top.tdiv 2,wS s,s.top-s.top.tdiv 2⟩
def lP (s:Sec) (n:Int):Rc:=⟨tt s n,s.h-s.bot,wS s,s.bot.tdiv 2⟩
theorem C9 {n:Int} (h:pgE s n 1=0):(E tab).F 441 [.agg s.cs,.int .i64 n] st=some (.tuple [.agg (ka s n).cs,.int .i64 0],st):=by
 rw[aK KX rfl];obtain⟨hok,_⟩:=pn h;have h466:=fun st=>p6 (st:=st) (s:=s) n 1;have h467:=fun st=>o5 (st:=st) hok n (s.top.tdiv 2) (s.top-s.top.tdiv 2);obtain⟨w,hh,top,bot,inn,out,gap,bO,_,_,_⟩:=hok;have ht:0≤s.top.tdiv 2∧s.top.tdiv 2≤s.top:=by rw[aa8 top.1];omega
 have w1:IntKind.i64.wrap (s.top.tdiv 2)=s.top.tdiv 2:=aG (by omega);have w2:IntKind.i64.wrap (s.top-s.top.tdiv 2)=s.top-s.top.tdiv 2:=aG (by omega);rw[h] at h466;simp only[Sec.cs,Rc.cs] at h466 h467 ⊢;simp[CT,h466,h467,w1,w2,ka]
theorem CD {n:Int} (h:pgE s n 1=0):(E tab).F 442 [.agg s.cs,.int .i64 n] st=some (.tuple [.agg (lP s n).cs,.int .i64 0],st):=by
 rw[aK Ki rfl];obtain⟨hok,_⟩:=pn h;have h466:=fun st=>p6 (st:=st) (s:=s) n 1;have h467:=fun st=>o5 (st:=st) hok n (s.h-s.bot) (s.bot.tdiv 2);obtain⟨w,hh,top,bot,inn,out,gap,bO,_,_,_⟩:=hok;have ht:0≤s.bot.tdiv 2∧s.bot.tdiv 2≤s.bot:=by rw[aa8 bot.1];omega
 have w1:IntKind.i64.wrap (s.bot.tdiv 2)=s.bot.tdiv 2:=aG (by omega);have w2:IntKind.i64.wrap (s.h-s.bot)=s.h-s.bot:=aG (by omega);rw[h] at h466;simp only[Sec.cs,Rc.cs] at h466 h467 ⊢;simp[Cg,h466,h467,w1,w2,lP]
end
theorem Lw.sc {n:Nat} {xs:List DV} {u:DV} (h:Lw n xs u):u.leaves=[u]∧u.aT=true:=by cases h;exact⟨rfl,rfl⟩
theorem DL:tab 414=some (.code At):=by kernel_rfl
theorem Hg:tab 416=some (.code rG):=by kernel_rfl
theorem HY:tab 438=some (.code yr):=by kernel_rfl
theorem Em:tab 439=some (.code AZ):=by kernel_rfl
theorem IC:tab 443=some (.code zK):=by kernel_rfl
theorem Jv:tab 445=some (.code AR):=by kernel_rfl
theorem D2:tab 446=some (.code xR):=by kernel_rfl
def bq (d:List UInt8):List UInt8→List UInt8
 | []=>[]
 | c::r=>(if c=3 then d else [c])++bq d r
theorem lx (d:List UInt8):∀ a b:List UInt8,bq d (a++b)=bq d a++bq d b
 | [],b=>rfl
 | c::a,b=>by simp only[aaH,bq,lx d a b,aas]
theorem kL {d:List UInt8} (hd:d.length≤5):∀ s:List UInt8,(bq d s).length≤5*s.length
 | []=>by simp[bq]
 | c::r=>by
   have:=kL hd r;simp only[bq,aah,aaw];split<;>simp<;>omega
theorem sL:∀ (f n:Nat),(p3 f n).length≤f
 | 0,_=>by simp[p3]
 | f+1,n=>by
   have:=sL f (n/10);simp only[p3];split<;>simp<;>omega
theorem nu (n:Nat):(cE n).length≤5:=sL 5 n
theorem Da:∀ (f n:Nat),p3 (f+1) n≠[]
 | f,n=>by
   simp only[p3];split<;>simp
theorem C2 (n:Nat):cE n≠[]:=Da 4 n
section
variable {st:St}
theorem E1 {s:List UInt8} (hs:s.length≤100) {n:Nat} (hn:n<4224) (c0:Nat) (K:List Nat):∀ (r d:List UInt8) (H:List HO),s=d++r→SB st.heap.length H 0 (bq (cE n) d) →
 ∃ H' fr,(E tab).C mP [(1,.int .i64 n),(5,.ptr st.heap.length 0),(9,.list c0 1 .no true (s.map fun b=>.int .u8 b.toNat)),(10,.int .i64 s.length),(11,.int .i64 d.length)] (pst st H K) =
   some (.exit 0,(1,.int .i64 n)::(5,.ptr st.heap.length 0)::fr,pst st H' K)∧SB st.heap.length H' 0 (bq (cE n) s):=by
 intro r
 induction r with
 | nil=>
   intro d H hd hS;rw[aaJ] at hd;subst hd;refine⟨H,[(9,.list c0 1 .no true (s.map fun b=>.int .u8 b.toNat)),(10,.int .i64 s.length),(11,.int .i64 s.length),(12,.bool false)],?_,hS⟩;rw[al (L:=mP) rfl];simp[qE]
 | cons c r ih=>
   intro d H hd hS;have h0:d.length<s.length:=by simp[hd]
   have hg:s[d.length]=c:=by simp[hd]
   have hw:IntKind.i64.wrap ((d.length:Int)+1)=((d++[c]).length:Nat):=by rw[aG (by omega)];simp
   have hfl:=kL (nu n) d;have hdl:=nu n;by_cases h3:c=3
   · subst h3;obtain⟨H1,hW,hS1,_⟩:=Bk (K:=K) hS (cE n) (C2 n) (by omega);have hi:=fun st=>zn hn st;have e:bq (cE n) (d++[3])=bq (cE n) d++cE n:=by rw[lx];simp[bq]
     obtain⟨H',fr,hJ,hR⟩:=ih (d++[3]) H1 (by simp[hd]) (by rw[e];exact hS1);refine⟨H',fr,?_,hR⟩;rw[al (L:=mP) rfl];simp only[aah,aan] at hJ hw;simp at hJ hW;simp[qE,h0,hg,hi,hW,hw,hJ]
   · have h3':¬ (c.toNat:Int)=3:=by
      intro e;apply h3;have:c.toNat=3:=by omega
      exact UInt8.toNat_inj.1 (by simpa using this)
     have h3'':¬ c.toNat=3:=by omega
     obtain⟨H1,hW,hS1,_⟩:=CO (K:=K) hS c (by omega);have e:bq (cE n) (d++[c])=bq (cE n) d++[c]:=by rw[lx];simp[bq,h3]
     obtain⟨H',fr,hJ,hR⟩:=ih (d++[c]) H1 (by simp[hd]) (by rw[e];exact hS1);refine⟨H',fr,?_,hR⟩;rw[al (L:=mP) rfl];simp only[aah,aan] at hJ hw;simp at hJ hW;simp[qE,h0,hg,h3,h3',h3'',hW,hw,hJ]
theorem oS {s:List UInt8} (hs:s.length≤100) {n:Nat} (hn:n<4224):(E tab).F 439 [.str s,.int .i64 n] st=some (.str (bq (cE n) s),st):=by
 rw[aK Em rfl];obtain⟨H',fr,hL,hS⟩:=E1 (st:=st) hs hn st.cur [] s [] [.cells (.typed 65) [.bG,.list 0 0 .no false []]] rfl (IM st.heap.length []);have hfl:=kL (nu n) s;have h465:=xD (K:=[]) hS (by omega);simp at hL h465;simp[AZ,hL,h465]
def dO:eA:=⟨8,10,3,0,0,0,0,0,0,0,1,1,0,0,0,0,0⟩
theorem BY (s:List UInt8):(E tab).F 446 [.str s] st=some (.agg (aj (gP dO s) (gW st s) ⟨0,0,.no,false⟩),st):=by
 rw[aK D2 rfl];by_cases h:s=[]
 · subst h;simp[xR,aj,gP,gW,dO,eA.cs,LW.dv]
 · have h2:s.isEmpty=false:=by simpa using h
   simp[xR,h,h2,aj,gP,gW,dO,eA.cs,LW.dv,Span.dv,Span.cs,aW,bk,chunk]
theorem BL (c:UInt8):(E tab).F 438 [.int .u8 c.toNat] st=some (.bool (js c),st):=by
 rw[aK HY rfl];unfold js;by_cases h:32≤c.toNat
 · have h':(32:Int)≤c.toNat:=by omega
   by_cases h2:c.toNat≤126
   · have h2':(c.toNat:Int)≤126:=by omega
     simp[yr,h,h',h2,h2']
   · have h2':¬ (c.toNat:Int)≤126:=by omega
     simp[yr,h,h',h2,h2']
 · have h':¬ (32:Int)≤c.toNat:=by omega
   simp[yr,h,h']
def uv (x:Int):Bool:=decide (0≤x)&&decide (x≤4095)
theorem yj (x:Int):(E tab).F 445 [.int .i64 x] st=some (.bool (uv x),st):=by
 rw[aK Jv rfl];unfold uv;by_cases h:0≤x
 · simp[AR,h]
 · simp[AR,h]
theorem ED {s:List UInt8} (hs:s.length≤4096) (c0:Nat) (c3:DV) (H:List HO) (K:List Nat):∀ (r d:List UInt8),s=d++r →
 ∃ fr,(E tab).C q0 [(0,.str s),(3,c3),(16,.list c0 1 .no true (s.map fun b=>.int .u8 b.toNat)),(17,.int .i64 s.length),(18,.int .i64 d.length)] (pst st H K) =
   some (if r.all js then (.exit 0,(0,.str s)::(3,c3)::fr,pst st H K) else (.ret,[(4,.list 0 0 .no false []),(5,.bool false),(6,.int .i64 4)],pst st H K)):=by
 intro r
 induction r with
 | nil=>
   intro d hd;rw[aaJ] at hd;subst hd;refine⟨[(16,.list c0 1 .no true (s.map fun b=>.int .u8 b.toNat)),(17,.int .i64 s.length),(18,.int .i64 s.length),(19,.bool false)],?_⟩;rw[al (L:=q0) rfl];simp[pZ]
 | cons c r ih=>
   intro d hd;have h0:d.length<s.length:=by simp[hd]
   have hg:s[d.length]=c:=by simp[hd]
   have hw:IntKind.i64.wrap ((d.length:Int)+1)=((d++[c]).length:Nat):=by rw[aG (by omega)];simp
   have h438:=fun st=>BL (st:=st) c;obtain⟨fr,hJ⟩:=ih (d++[c]) (by simp[hd]);refine⟨fr,?_⟩;rw[al (L:=q0) rfl];simp only[aah,aan] at hJ hw
   cases hb:js c with
   | false=>simp[pZ,h0,hg,h438,hb]
   | true=>
     simp at hJ;simp[pZ,h0,hg,h438,hb,hw];simpa using hJ
def lk (s:List UInt8) (r:Rc):Int:=if 4096<s.length then 3 else if s.all js then (if uv r.w&&uv r.h then 0 else 5) else 4
def jK (s:List UInt8) (w:Int):List Ln:=if od (gP dO s) [] ⟨0,w⟩=0 then oi (gP dO s) [] ⟨0,w⟩ else []
def Ay (s:List UInt8) (r:Rc):List Ln:=if lk s r=0∧s≠[] then (jK s r.w).take (min (jK s r.w).length (r.h.toNat/10)) else []
def xC (s:List UInt8) (r:Rc):Bool:=if lk s r=0∧s≠[] then decide (min (jK s r.w).length (r.h.toNat/10)<(jK s r.w).length) else false
theorem r8:Lw 7 (([]:List Ln).map Ln.dv) (.list 0 0 .no false []):=.list _ _ _ _ (fun h=>by cases h) (fun _=>rfl)
theorem yP (s:List UInt8) (w:Int):(jK s w).length≤8193:=by
 unfold jK;split
 · rename_i h;unfold od at h;split at h
   · rename_i h2;exact absurd h h2
   · rename_i h2;have h0:az (gP dO s)=0:=by simpa using h2
     have e:(oi (gP dO s) [] ⟨0,w⟩).length=(l6 (gP dO s) [] ⟨0,w⟩).length:=oT _ _ _ _ _ _ _;rw[e,A8 h0 h];exact(oP _ _).2.2
 · simp
theorem Dg {n:Nat} {xs:List DV} {u:DV} (h:Lw n xs u) {m:Nat} (hm:m≤xs.length) (k k':IntKind):∃ u',b6 false n u none (some (.int k m)) (some (.int k' m))=some u'∧Lw n (xs.take m) u'∧∀ st st',bE st st' u'=some u':=by
 cases h with
 | list t n' tk nn h1 h2=>
   refine⟨.list t n' .tight nn (xs.take m),?_,.list _ _ _ _ h1 fun e=>by rw[h2 e];simp,fun _ _=>by simp⟩;have hb:¬ (nn=true∧n'≠n):=fun ⟨a,b⟩=>b (h1 a);simp only[b6];rw[if_neg hb];have b1:bnd (.int k' m) xs.length=some m:=by simp[bnd,hm]
   have b2:bnd (.int k m) m=some m:=by simp[bnd]
   simp[b1,b2]
theorem EJ (s:List UInt8) (r:Rc):∃ v,(E tab).F 416 [.str s,.agg r.cs] st=some (.tuple [v,.bool (xC s r),.int .i64 (lk s r)],st)∧Lw 7 ((Ay s r).map Ln.dv) v:=by
 rw[aK Hg rfl];have h445:=fun x st=>yj (st:=st) x;unfold xC Ay;by_cases h1:4096<s.length
 · have h1':(4096:Int)<s.length:=by omega
   have e:lk s r=3:=by unfold lk;rw[if_pos h1]
   rw[e];refine⟨_,?_,r8⟩;simp[rG,h1,h1',Rc.cs]
 have h1':¬ (4096:Int)<s.length:=by omega
 obtain⟨fr,hL⟩:=ED (st:=st) (s:=s) (by omega) st.cur (.ptr st.heap.length 0) [.cells .plain r.cs] [] s [] rfl;simp only[aaX] at hL
 cases ha:s.all js with
 | false=>
   rw[ha] at hL;have e:lk s r=4:=by unfold lk;rw[if_neg h1,ha];rfl
   rw[e];refine⟨_,?_,r8⟩;simp[Rc.cs] at hL;simp[rG,h1,h1',Rc.cs,hL]
 | true=>
   rw[ha] at hL
   cases hw:uv r.w with
   | false=>
     have e:lk s r=5:=by unfold lk;rw[if_neg h1,ha,hw];rfl
     rw[e];refine⟨_,?_,r8⟩;simp[Rc.cs] at hL;simp[rG,h1,h1',Rc.cs,hL,h445,hw]
   | true=>
   cases hh:uv r.h with
   | false=>
     have e:lk s r=5:=by unfold lk;rw[if_neg h1,ha,hw,hh];rfl
     rw[e];refine⟨_,?_,r8⟩;simp[Rc.cs] at hL;simp[rG,h1,h1',Rc.cs,hL,h445,hw,hh]
   | true=>
     have e:lk s r=0:=by unfold lk;rw[if_neg h1,ha,hw,hh];rfl
     rw[e];by_cases hs:s=[]
     · subst hs;refine⟨_,?_,r8⟩;simp[Rc.cs] at hL;simp[rG,Rc.cs,hL,h445,hw,hh]
     · have hs2:s.isEmpty=false:=by simpa using hs
       rw[if_pos ⟨rfl,hs⟩,if_pos ⟨rfl,hs⟩];have h446:=BY (st:=pst st [.cells .plain r.cs] []) s;rw[show gW (pst st [.cells .plain r.cs] []) s=gW st s from rfl] at h446;obtain⟨vl,h307,hvl⟩:=Fp (st:=pst st [.cells .plain r.cs] []) (p:=gP dO s) (w:=gW st s) (u:=⟨0,0,.no,false⟩) (sl:=[]) (sv:=.list 0 0 .no false []) (rest:=⟨0,r.w⟩) rfl (Am _ _) (HF _ _ _) (Ib _ _) (by simp[gP,dO]) (.list _ _ _ _ (fun h=>by cases h) (fun _=>rfl));rw[show (if od (gP dO s) [] ⟨0,r.w⟩=0 then oi (gP dO s) [] ⟨0,r.w⟩ else [])=jK s r.w from rfl] at hvl;have hlen:=yP s r.w;have hln:=fun st'=>(hvl.vw (st:=st) (ag:=true)).len st';simp only[aaU] at hln;have hh2:0≤r.h∧r.h≤4095:=by simpa[uv] using hh
       have wq:IntKind.i64.wrap (r.h.tdiv 10)=((r.h.toNat/10:Nat):Int):=by
        rw[aa8 hh2.1,aG (by omega)];omega
       have hmin:ey jB [.int .i64 ((jK s r.w).length:Int),.int .i64 ((r.h.toNat/10:Nat):Int)]=some (.int .i64 ((min (jK s r.w).length (r.h.toNat/10):Nat):Int)):=by
        rw[DR];congr 2;omega
       obtain⟨u',hsl,hu',hex⟩:=Dg hvl (m:=min (jK s r.w).length (r.h.toNat/10)) (by simp;omega) .i64 .i64;rw[← List.map_take] at hu';refine⟨u',?_,hu'⟩
       have hdec:decide (((min (jK s r.w).length (r.h.toNat/10):Nat):Int)<((jK s r.w).length:Int))=decide (min (jK s r.w).length (r.h.toNat/10)<(jK s r.w).length):=by
        apply decide_eq_decide.2;omega
       have hsc:=Lw.sc hu';generalize (jK s r.w).length=FL at *;generalize r.h.toNat/10=q at *;generalize od (gP dO s) [] ⟨0,r.w⟩=EE at *;generalize min FL q=mn at *;clear hvl;generalize aj (gP dO s) (gW st s) ⟨0,0,.no,false⟩=PC at *;simp only[Sl.dv,Sl.cs,Rc.cs] at hL h446 h307 ⊢;simp at hL;simp[rG,h1,h1',hL,h445,hw,hh,hs,hs2,cO,gj,iU,iJ,aP,h446,h307,hln,wq,hmin,hsl,hdec,hex,lq D2,show xR.ez=true from rfl,lq En,show yF.ez=true from rfl]
end
def hdS (s:Sec) (v:Int):List UInt8:=if v=0 then s.h0 else if v=1 then s.h1 else s.h2
def ftS (s:Sec) (v:Int):List UInt8:=if v=0 then s.t0 else if v=1 then s.t1 else s.t2
def da (hd ft:List UInt8) (a b:Rc) (va vb:DV) (c:Bool):List DV:=[.str hd,.str ft,.int .i64 a.x,.int .i64 a.y,.int .i64 a.w,.int .i64 a.h,.int .i64 b.x,.int .i64 b.y,.int .i64 b.w,.int .i64 b.h,va,vb,.bool c]
theorem xa {s:Sec} (h:oh s=0) {t:List UInt8} (ht:t∈s.tx):t.length≤100∧t.all dZ=true:=by
 unfold oh at h
 cases hb:bF s.bs with
 | some e=>rw[hb] at h;rcases vX hb with rfl | rfl<;>cases h
 | none=>
   rw[hb] at h;simp only at h;split at h
   · omega
   · unfold txE at h;split at h
     · omega
     · rename_i h2;split at h
       · rename_i h3;refine⟨?_,aaf.1 h3 t ht⟩;exact abp fun hc=>h2 (List.any_eq_true.2 ⟨t,ht,by simp;omega⟩)
       · omega
theorem wi (s:Sec) (v:Int):hdS s v∈s.tx∧ftS s v∈s.tx:=by
 unfold hdS ftS Sec.tx;split
 · simp
 · split<;>simp
def exV:DV→DV
 | .list t n tk nn xs=>.list t n (og tk) nn xs
 | v=>v
theorem AD {n:Nat} {xs:List DV} {w:DV} (h:Lw n xs w) (st st':St):aL st st' w=some (exV w):=by
 cases h with
 | list t n' tk nn h1 h2=>exact exl st st' t n' tk nn xs
theorem AG {n:Nat} {xs:List DV} {w:DV} (h:Lw n xs w):Lw n xs (exV w):=by
 cases h with
 | list t n' tk nn h1 h2=>exact .list _ _ _ _ h1 h2
section
variable {st:St} {s:Sec}
theorem Ag {H:List HO} {K:List Nat} {k:Nat} {hd ft:List UInt8} {a b:Rc} {va vb:DV} {c:Bool} (h:rowAt H k=some (.plain,da hd ft a b va vb c)) (t:List UInt8) (r:Rc) :
 ∃ v J,(E tab).F 443 [.str t,.agg r.cs,.ptr (st.heap.length+k) 0] (pst st H K)=some (v,pst st (H.set k (.cells .plain (da hd ft a b va vb (c||xC t r)))++J) K)∧Lw 7 ((Ay t r).map Ln.dv) v:=by
 have hk:=kq h;obtain⟨v,h416,hv⟩:=EJ (st:=pst st (H++[.cells .plain r.cs]) K) t r;refine⟨v,[.cells .plain r.cs],?_,hv⟩;rw[dV IC rfl];have h0:=fun X=>gH h X;have hset:∀ o,(H++[HO.cells .plain r.cs]).set k o=H.set k o++[.cells .plain r.cs]:=fun o=>List.set_append_left _ _ hk;simp only[da,Rc.cs] at h0 hset h416 ⊢
 cases c with
 | false=>simp[zK,h416,h0,hset]
 | true=>simp[zK,h416,h0,hset]
def gm (s:Sec) (n:Nat) (first:Bool) (va vb:DV):List DV:=
 da (bq (cE n) (hdS s (cG s n first))) (bq (cE n) (ftS s (cG s n first))) (ka s n) (lP s n) va vb (xC (bq (cE n) (hdS s (cG s n first))) (ka s n)||xC (bq (cE n) (ftS s (cG s n first))) (lP s n))
theorem C0 (n:Int) (first:Bool):cG s n first=0∨cG s n first=1∨cG s n first=2:=by
 unfold cG;split
 · exact .inl rfl
 · split<;>simp
theorem lC (n:Int) (first:Bool) (h:pgE s n 1≠0):(E tab).F 414 [.agg s.cs,.int .i64 n,.bool first] st=some (.tuple [.agg (da [] [] ⟨0,0,0,0⟩ ⟨0,0,0,0⟩ (.list 0 0 .no false []) (.list 0 0 .no false []) false),.int .i64 (pgE s n 1)],st):=by
 rw[aK DL rfl];have h440:=fun st=>na (st:=st) (s:=s) n first;rw[if_neg h] at h440;simp only[Sec.cs] at h440 ⊢;simp[At,h440,h,da]
theorem zY {n:Nat} (first:Bool) (h:pgE s n 1=0):∃ va vb,(E tab).F 414 [.agg s.cs,.int .i64 n,.bool first] st=some (.tuple [.agg (gm s n first va vb),.int .i64 0],st) ∧
 Lw 7 ((Ay (bq (cE n) (hdS s (cG s n first))) (ka s n)).map Ln.dv) va∧Lw 7 ((Ay (bq (cE n) (ftS s (cG s n first))) (lP s n)).map Ln.dv) vb:=by
 obtain⟨hok,hs0,hn1,hn2⟩:=pn h;have h440:=fun st=>na (st:=st) (s:=s) n first;rw[h,if_pos rfl] at h440;have hv:=C0 (s:=s) n first;have hm:=wi s (cG s n first);have h439a:=fun st=>oS (st:=st) (xa hs0 hm.1).1 (n:=n) (by omega);have h439b:=fun st=>oS (st:=st) (xa hs0 hm.2).1 (n:=n) (by omega);have h441:=fun st=>C9 (st:=st) h;have h442:=fun st=>CD (st:=st) h
 have hha:([s.h0,s.h1,s.h2,s.t0,s.t1,s.t2].map DV.str)[(cG s n first).toNat]? = some (.str (hdS s (cG s n first))):=by
  unfold hdS;rcases hv with e | e | e<;>rw[e]<;>rfl
 have hhb:([s.h0,s.h1,s.h2,s.t0,s.t1,s.t2].map DV.str)[3+(cG s n first).toNat]? = some (.str (ftS s (cG s n first))):=by
  unfold ftS;rcases hv with e | e | e<;>rw[e]<;>rfl
 unfold gm;generalize hA:hdS s (cG s n first)=A at *;generalize hB:ftS s (cG s n first)=B at *;generalize bq (cE n) A=FA at *;generalize bq (cE n) B=FB at *;obtain⟨va,J1,hL1,hva⟩:=Ag (st:=st) (K:=[]) (k:=2) (H:=[.cells .plain s.cs,.cells .plain [.str [],.str [],.int .i64 0,.int .i64 0,.int .i64 0,.int .i64 0,.int .i64 0,.int .i64 0,.int .i64 0,.int .i64 0,.list 0 0 .no false [],.list 0 0 .no false [],.bool false],.cells .plain (da FA FB (ka s n) (lP s n) (.list 0 0 .no false []) (.list 0 0 .no false []) false)]) rfl FA (ka s n);have hsa:=Lw.sc hva;obtain⟨vb,J2,hL2,hvb⟩:=Ag (st:=st) (K:=[]) (k:=2) (H:=[.cells .plain s.cs,.cells .plain [.str [],.str [],.int .i64 0,.int .i64 0,.int .i64 0,.int .i64 0,.int .i64 0,.int .i64 0,.int .i64 0,.int .i64 0,.list 0 0 .no false [],.list 0 0 .no false [],.bool false],.cells .plain (da FA FB (ka s n) (lP s n) va (.list 0 0 .no false []) (false||xC FA (ka s n)))]++J1) rfl FB (lP s n);have hsb:=Lw.sc hvb;refine⟨exV va,exV vb,?_,AG hva,AG hvb⟩;have hea:=AD hva;have heb:=AD hvb;rw[aK DL rfl];simp only[Sec.cs,Rc.cs,da] at h440 h441 h442 hL1 hL2 ⊢;rcases hv with e | e | e
 all_goals
  rw[e] at h440 hha hhb;simp at hha hhb;subst hha hhb;simp at hL1 hL2;simp[At,cU,h440,cO,gj,iU,iJ,aP,h439a,h439b,h441,h442,hL1,hL2,hsa,hsb,hea,heb,lq Em,show AZ.ez=true from rfl]
end
theorem DT:tab 643=some (.code pN):=by kernel_rfl
theorem HH:tab 644=some (.code Bo):=by kernel_rfl
def zP (l:List UInt8):Nat:=l.foldl (fun a c=>10*a+(c.toNat-48)) 0
theorem zo (a:List UInt8) (c:UInt8):zP (a++[c])=10*zP a+(c.toNat-48):=by simp[zP]
theorem xZ {n:Nat} (h:n<10):(abj (48+n)).toNat-48=n:=by
 rw[UInt8.toNat_ofNat'];omega
theorem mJ:∀ (f n:Nat),n<10 ^ f→zP (p3 f n)=n
 | 0,n,h=>by simp at h;subst h;rfl
 | f+1,n,h=>by
   simp only[p3];split
   · rename_i h1;simp[zP];omega
   · rw[zo,mJ f (n/10) (by rw[Nat.pow_succ] at h;omega),xZ (Nat.mod_lt _ (by omega))];omega
theorem zf {a b:Nat} (ha:a<100000) (hb:b<100000) (h:cE a=cE b):a=b:=by
 have h1:=mJ 5 a (by omega);have h2:=mJ 5 b (by omega);unfold cE at h;rw[← h1,h,h2]
def ja (s:List UInt8):Bool:=s.any (fun c=>decide (c=3))
theorem mj (d e:List UInt8):∀ s:List UInt8,ja s=false→bq d s=bq e s
 | [],_=>rfl
 | c::r,h=>by
   simp only[ja,List.any_cons,Bool.or_eq_false_iff,decide_eq_false_iff_not] at h;simp only[bq,if_neg h.1];rw[mj d e r h.2]
theorem lf (d:List UInt8):∀ s:List UInt8,(bq d s).length+s.count 3=s.length+s.count 3*d.length
 | []=>by simp[bq]
 | c::r=>by
   have h:=lf d r;by_cases hc:c=3
   · subst hc;simp only[bq,if_true,aah,aaw,List.count_cons_self,Nat.succ_mul];omega
   · have e:(c::r).count 3=r.count 3:=by simp[List.count_cons,hc]
     simp only[bq,if_neg hc,aah,aaw,e];simp;omega
theorem pA:∀ {d e:List UInt8} (s:List UInt8),d.length=e.length→ja s=true→bq d s=bq e s→d=e
 | d,e,[],_,h,_=>by simp[ja] at h
 | d,e,c::r,hl,h,he=>by
   by_cases hc:c=3
   · simp only[bq,if_pos hc] at he;exact(List.append_inj he hl).1
   · simp only[bq,if_neg hc,aaH,aa5,List.cons.injEq,true_and] at he;simp only[ja,List.any_cons,hc,decide_false,Bool.false_or] at h;exact pA r hl h he
theorem yG {s:List UInt8} (h:ja s=true):0<s.count 3:=by
 rw[List.count_pos_iff];obtain⟨c,hc,h2⟩:=List.any_eq_true.1 h;simp at h2;subst h2;exact hc
theorem Ds {a b:Nat} (ha:a<100000) (hb:b<100000) (hab:a≠b) (s:List UInt8):decide (bq (cE a) s=bq (cE b) s) = !ja s:=by
 cases h:ja s with
 | false=>simp[mj (cE a) (cE b) s h]
 | true=>
   simp only[Bool.not_true,decide_eq_false_iff_not];intro he;by_cases hl:(cE a).length=(cE b).length
   · exact hab (zf ha hb (pA s hl h he))
   · have h1:=lf (cE a) s;have h2:=lf (cE b) s;have hp:=yG h;rw[he] at h1;have:s.count 3*(cE a).length=s.count 3*(cE b).length:=by omega
     exact hl (Nat.eq_of_mul_eq_mul_left hp this)
section
variable {st:St} {s:Sec}
theorem Gk {t:List UInt8} (hl:t.length≤100) (S:St):∀ (r d:List UInt8),t=d++r →
 ∃ fr,(E tab).C rF [(0,.str t),(3,.int .i64 d.length)] S=some (if ja r then (.ret,[(2,.bool true)],S) else (.exit 0,fr,S)):=by
 intro r
 induction r with
 | nil=>
   intro d hd;rw[aaJ] at hd;subst hd;refine⟨[(0,.str t),(3,.int .i64 t.length),(7,.bool false)],?_⟩;rw[al (L:=rF) rfl];simp[qt,ja]
 | cons c r ih=>
   intro d hd;have h0:d.length<t.length:=by simp[hd]
   have hg:t[d.length]=c:=by simp[hd]
   have hw:IntKind.i64.wrap ((d.length:Int)+1)=((d++[c]).length:Nat):=by rw[aG (by omega)];simp
   obtain⟨fr,hJ⟩:=ih (d++[c]) (by simp[hd]);refine⟨fr,?_⟩;rw[al (L:=rF) rfl];simp only[aah,aan] at hJ hw;by_cases h3:c=3
   · subst h3;simp[qt,h0,hg,ja]
   · have h3':¬ (c.toNat:Int)=3:=by
      intro e;apply h3;have:c.toNat=3:=by omega
      exact UInt8.toNat_inj.1 (by simpa using this)
     have h3'':¬ c.toNat=3:=by omega
     have e:ja (c::r)=ja r:=by simp[ja,h3]
     rw[e];simp[qt,h0,hg,h3,h3',h3'',hw];simpa using hJ
theorem o0 {t:List UInt8} (hl:t.length≤100):(E tab).F 644 [.str t] st=some (.bool (ja t),st):=by
 rw[aK HH rfl];obtain⟨fr,hL⟩:=Gk hl (pst st [] []) t [] rfl
 cases h:ja t with
 | true=>rw[h] at hL;simp at hL;simp[Bo,hL]
 | false=>rw[h] at hL;simp at hL;simp[Bo,hL]
def Eg:List (Bool×List Sh):=[(true,[.int .i64,.int .i64,.int .i64,.int .i64,.int .i64,.int .i64,.int .i64,.int .i64,.int .i64,.int .i64,.int .i64,.str,.str,.str,.str,.str,.str]),(false,[.int .i64]),(false,[.int .i64])]
theorem DB {vs:List DV} (h:Fits [.int .i64,.int .i64,.int .i64,.int .i64,.int .i64,.int .i64,.int .i64,.int .i64,.int .i64,.int .i64,.int .i64,.str,.str,.str,.str,.str,.str] vs):∃ s:Sec,vs=s.cs:=by
 obtain⟨_,_,rfl,⟨a,rfl,_⟩,_,_,rfl,⟨b,rfl,_⟩,_,_,rfl,⟨c,rfl,_⟩,_,_,rfl,⟨d,rfl,_⟩,_,_,rfl,⟨e,rfl,_⟩,_,_,rfl,⟨f,rfl,_⟩,_,_,rfl,⟨g,rfl,_⟩,_,_,rfl,⟨h,rfl,_⟩,_,_,rfl,⟨i,rfl,_⟩,_,_,rfl,⟨j,rfl,_⟩,_,_,rfl,⟨k,rfl,_⟩,_,_,rfl,⟨l,rfl,_⟩,_,_,rfl,⟨m,rfl,_⟩,_,_,rfl,⟨n,rfl,_⟩,_,_,rfl,⟨o,rfl,_⟩,_,_,rfl,⟨p,rfl,_⟩,_,_,rfl,⟨q,rfl,_⟩,rfl⟩:=h;exact⟨⟨a,b,c,d,e,f,g,h,i,j,k,l,m,n,o,p,q⟩,rfl⟩
theorem rU {a b:Nat} (ha:a<100000) (hb:b<100000) (hab:a≠b) (s:List UInt8):(bq (cE a) s==bq (cE b) s) = !ja s:=by
 have h:=Ds ha hb hab s;rw[← h];rw[aaW];simp
theorem Ct (us:List DV) (hf:rh Eg us):∃ st',(E tab).F 643 us st0=some (.bool true,st'):=by
 obtain⟨_,_,rfl,hs,_,_,rfl,⟨_,_,rfl,⟨one,rfl,_⟩,rfl⟩,_,_,rfl,⟨_,_,rfl,⟨two,rfl,_⟩,rfl⟩,rfl⟩:=hf;obtain⟨s,rfl⟩:=DB hs;refine⟨st0,?_⟩;rw[aK DT rfl];simp only[elemOf,List.headD_cons,aam,if_false,if_true];have hk:=uM;by_cases h1:pgE s one 1=0;rotate_left
 · have e1:=fun st=>lC (st:=st) one false h1;by_cases h2:pgE s two 1=0
   · obtain⟨_,_,hn1,hn2⟩:=pn h2;obtain⟨b,rfl⟩:=aaM (show 0≤two by omega);obtain⟨vc,vd,e2,hvc,hvd⟩:=zY (st:=pst st0 [.cells .plain s.cs,.cells .plain (da [] [] ⟨0,0,0,0⟩ ⟨0,0,0,0⟩ (.list 0 0 .no false []) (.list 0 0 .no false []) false)] []) false h2;have hc:=Lw.sc hvc;have hd:=Lw.sc hvd;simp only[gm,da,Sec.cs] at e1 e2 ⊢
     try simp at e2
     simp[pN,hk,e1,e2,hc,hd,h1]
   · have e2:=fun st=>lC (st:=st) two false h2;simp only[gm,da,Sec.cs] at e1 e2 ⊢;simp[pN,hk,e1,e2,h1]
 obtain⟨_,hs0,hn1,hn2⟩:=pn h1;obtain⟨a,rfl⟩:=aaM (show 0≤one by omega);obtain⟨va,vb,e1,hva,hvb⟩:=zY (st:=pst st0 [.cells .plain s.cs] []) false h1;have ha:=Lw.sc hva;have hb:=Lw.sc hvb;by_cases h2:pgE s two 1=0;rotate_left
 · have e2:=fun st=>lC (st:=st) two false h2;simp only[gm,da,Sec.cs] at e1 e2 ⊢
   try simp at e1
   simp[pN,hk,e1,e2,ha,hb,h2]
 obtain⟨_,_,hm1,hm2⟩:=pn h2;obtain⟨b,rfl⟩:=aaM (show 0≤two by omega);obtain⟨vc,vd,e2,hvc,hvd⟩:=zY (st:=pst st0 [.cells .plain s.cs,.cells .plain (gm s a false va vb)] []) false h2;have hc:=Lw.sc hvc;have hd:=Lw.sc hvd;have ta:(a:Int).tmod 2=((a%2:Nat):Int):=by rw[Int.tmod_eq_emod_of_nonneg (by omega)];rfl
 have tb:(b:Int).tmod 2=((b%2:Nat):Int):=by rw[Int.tmod_eq_emod_of_nonneg (by omega)];rfl
 by_cases hab:a=b
 · subst hab;simp only[gm,da,Sec.cs] at e1 e2 ⊢
   try simp at e1 e2
   simp[pN,hk,e1,e2,ha,hb,hc,hd]
 have habI:¬ (a:Int)=(b:Int):=by omega
 by_cases hpar:a%2=b%2;rotate_left
 · have hpar':¬ (a:Int)%2=(b:Int)%2:=by omega
   simp only[gm,da,Sec.cs] at e1 e2 ⊢
   try simp at e1 e2
   simp[pN,hk,e1,e2,ha,hb,hc,hd,hab,habI,ta,tb,hpar']
 have hvv:cG s b false=cG s a false:=by
  unfold cG;rw[ta,tb,hpar]
 have hva2:(a%2=1∧cG s a false=1)∨(a%2=0∧cG s a false=2):=by
  unfold cG;rw[ta];rcases Nat.mod_two_eq_zero_or_one a with h | h
  · exact .inr ⟨h,by simp[h]⟩
  · exact .inl ⟨h,by simp[h]⟩
 have hm:=wi s (cG s a false);have l1:=(xa hs0 hm.1).1;have l2:=(xa hs0 hm.2).1;have g1:=fun st=>o0 (st:=st) l1;have g2:=fun st=>o0 (st:=st) l2;have i1:=rU (a:=a) (b:=b) (by omega) (by omega) hab (hdS s (cG s a false));have i2:=rU (a:=a) (b:=b) (by omega) (by omega) hab (ftS s (cG s a false));unfold gm at e1 e2;rw[hvv] at e2;rcases hva2 with ⟨hp,hv⟩ | ⟨hp,hv⟩
 all_goals
  rw[hv] at e1 e2 i1 i2 g1 g2;have hpb:b%2=a%2:=hpar.symm;have w1:IntKind.i64.wrap 1=1:=by decide
  have w2:IntKind.i64.wrap 2=2:=by decide
  simp only[hdS,ftS,gm,da,Sec.cs,hv] at e1 e2 i1 i2 g1 g2 ⊢
  try simp at e1 e2
  try simp at i1 i2 g1 g2
  simp[pN,hk,e1,e2,ha,hb,hc,hd,hab,habI,ta,tb,hp,hpb,w1,w2,g1,g2,i1,i2,eqD,aU,gf]
end
end Go.D.Tab
end
section
namespace Go.D
open Go.RowKit
variable {P:Program}
theorem tH {w:World}:∀ (l:List (String×DataW Unit)) (ps:List MemPlace),DataW.LaidVars P w l ps→∀ x∈l,∃ g t cs fuel p,P.globalNamed x.1=some g∧(P.globals[g]?).map (·.type)=some t∧w.var? P x.1=some cs ∧
 DataW.trod (fun _=>()) P w 0 (fun _=>true) false fuel t cs.toList=some (x.2,p)
 | [],_,_,x,hx=>by simp at hx
 | y::l,ps,h,x,hx=>by
   obtain⟨g,t,cs,fuel,p,q,h1,h2,h3,h4,h5,h6⟩:=h;rcases aaA.1 hx with rfl|hx
   · exact⟨g,t,cs,fuel,p,h1,h2,h3,h4⟩
   · exact tH l _ h5 x hx
theorem sk {laid:List (String×DataW Unit)} {w:World} {name:String} {k:IntKind} {tab:List Nat} {g n:Nat} {t e:TypeId} (hg:P.globalNamed name=some g) (hty:(P.globals[g]?).map (·.type)=some t) (ht:P.underlying t=some (.array n e))
 (he:P.underlying e=some (.int k)) (hce:P.cellsOf e=1) (hct:P.cellsOf t=n) (hx:(name,Lib.tabData k (tab.map abh))∈laid) (h:laidMet P laid w):∀ i (h:i<tab.length),w.cell? ⟨g,i,none⟩=some (.int k (abh tab[i])):=by
 obtain⟨ps,h1,_⟩:=h;obtain⟨g',t',cs,fuel,p,hg',ht',hvar,hd⟩:=tH laid ps h1 _ hx;obtain rfl:=aaa.inj (hg.symm.trans hg');obtain rfl:=aaa.inj (hty.symm.trans ht');have hcs:=Lib.cells_of_tab ht he hce hct hd;intro i hi;rw[World.var?_cell hg hvar i,← abi,hcs];simp[hi]
end Go.D
end
