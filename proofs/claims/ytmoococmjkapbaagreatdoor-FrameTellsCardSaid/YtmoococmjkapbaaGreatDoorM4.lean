import Derived.Test.YtmoococmjkapbaaGreatDoorM3
/-! Texts 4 of this claim, joined. -/
section
set_option linter.unusedSimpArgs false
set_option linter.unusedVariables false
set_option linter.unnecessarySimpa false
namespace Go.D.Tab
structure It where
 k:Int
 f:Int
 t:Int
 w:Int
 s:Int
 h:Int
 c:Int
 y:Bool
def It.cs (x:It):List DV:=[.int .i64 x.k,.int .i64 x.f,.int .i64 x.t,.int .i64 x.w,.int .i64 x.s,.int .i64 x.h,.int .i64 x.c,.bool x.y]
def It.dv (x:It):DV:=.agg x.cs
theorem FG (x:It):dq 8 true x.dv:=⟨rfl,rfl,rfl⟩
theorem pM {l:List It}:∀ y∈l.map It.dv,dq 8 true y:=fun y hy=>by obtain ⟨x,_,rfl⟩:=List.mem_map.1 hy;exact FG x
abbrev Its (st:St) (l:List It) (v:DV):Prop:=Vw st 8 true (l.map It.dv) v
section
variable {st:St} {l:List It} {v:DV}
theorem bH (h:Its st l v) (st':St):o7 st' .slice v=some (.int .i64 l.length,st'):=by simpa using Vw.len h st'
theorem b7 (h:Its st l v) {i:Nat} (hi:i<l.length) (k:IntKind) (st':St):gZ st' 8 v (.int k i)=some (elP 8 v i,st'):=Vw.aK h (by simpa using hi) k st'
theorem qY (h:Its st l v) {i:Nat} {x:It} (hx:l[i]? = some x) (H:List HO) (K:List Nat):cF (pst st H K) 8 true (elP 8 v i)=some x.dv:=Vw.load (Vw.inn h H K) pM rfl (by simp [hx])
theorem cE (h:Its st l v) {i:Nat} {x:It} (hx:l[i]? = some x) {off:Nat} (ho:off≤8) (st':St):kg st' off (elP 8 v i)=some (faP off (elP 8 v i),st'):=Vw.fy h pM (by simpa using (List.getElem?_eq_some_iff.1 hx).1) ho st'
theorem lQ (h:Its st l v) {i:Nat} {x:It} (hx:l[i]? = some x) {off:Nat} {y:DV} (ho:x.cs[off]? = some y) (H:List HO) (K:List Nat):cF (pst st H K) 1 false (faP off (elP 8 v i))=some y:=Vw.Al (x:=x.dv) (Vw.inn h H K) pM (by simp [hx]) ho
theorem fk (h:Its st l v) {i:Nat} {x:It} (hx:l[i]? = some x) (H:List HO) (K:List Nat):cF (pst st H K) 1 false (faP 0 (elP 8 v i))=some (.int .i64 x.k):=lQ h hx rfl H K
theorem xt (h:Its st l v) {i:Nat} {x:It} (hx:l[i]? = some x) (H:List HO) (K:List Nat):cF (pst st H K) 1 false (faP 3 (elP 8 v i))=some (.int .i64 x.w):=lQ h hx rfl H K
theorem adE (h:Its st l v) {i:Nat} {x:It} (hx:l[i]? = some x) (H:List HO) (K:List Nat):cF (pst st H K) 1 false (faP 4 (elP 8 v i))=some (.int .i64 x.s):=lQ h hx rfl H K
theorem adl (h:Its st l v) {i:Nat} {x:It} (hx:l[i]? = some x) (H:List HO) (K:List Nat):cF (pst st H K) 1 false (faP 5 (elP 8 v i))=some (.int .i64 x.h):=lQ h hx rfl H K
theorem MG (h:Its st l v) {i:Nat} {x:It} (hx:l[i]? = some x) (H:List HO) (K:List Nat):cF (pst st H K) 1 false (faP 7 (elP 8 v i))=some (.bool x.y):=lQ h hx rfl H K
end
theorem adB:tab 109=some (.code f109):=by kernel_rfl
theorem ajt:tab 120=some (.code f120):=by kernel_rfl
theorem ak2:tab 122=some (.code f122):=by kernel_rfl
theorem afb:tab 110=some (.code f110):=by kernel_rfl
theorem aly:tab 121=some (.code f121):=by kernel_rfl
theorem agC:tab 123=some (.code f123):=by kernel_rfl
def bn (n:Int):Bool:=decide (0≤n)&&decide (n≤4095)
theorem sC (n:Int) (st:St):(E tab).F 122 [.int .i64 n] st=some (.bool (bn n),st):=by
 rw [av ak2 rfl]
 by_cases h:0≤n
 · simp [f122,bn,h]
 · simp [f122,bn,h]
def oP (x:It):Bool:=decide (x.k<1)||decide (4<x.k)||decide (x.f<0)||decide (x.t<x.f)||decide (x.w<0)||decide (2097152<x.w) || !bn x.s || !bn x.h || !bn x.c
def j4 (x:It):Bool:=(x.k != 3&&(x.y||x.c != 0))||(x.k != 2&&(x.s != 0||x.h != 0))||(x.k==4&&x.w != 0)
def fw (x:It):Bool:=oP x||j4 x
theorem YY (x:It) (st:St):(E tab).F 120 [x.dv] st=some (.bool (fw x),st):=by
 rw [av ajt rfl]
 have hw:=sC
 cases hA:oP x with
 | true=>
   have e:fw x=true:=by simp [fw,hA]
   rw [e]
   unfold oP at hA
   by_cases h1:x.k<1
   · simp [f120,It.dv,It.cs,h1]
   by_cases h2:4<x.k
   · simp [f120,It.dv,It.cs,h1,h2]
   by_cases h3:x.f<0
   · simp [f120,It.dv,It.cs,h1,h2,h3]
   by_cases h4:x.t<x.f
   · simp [f120,It.dv,It.cs,h1,h2,h3,h4]
   by_cases h5:x.w<0
   · simp [f120,It.dv,It.cs,h1,h2,h3,h4,h5]
   by_cases h6:2097152<x.w
   · simp [f120,It.dv,It.cs,h1,h2,h3,h4,h5,h6]
   by_cases h7:bn x.s=false
   · simp [f120,It.dv,It.cs,h1,h2,h3,h4,h5,h6,hw,h7]
   by_cases h8:bn x.h=false
   · simp at h7;simp [f120,It.dv,It.cs,h1,h2,h3,h4,h5,h6,hw,h7,h8]
   by_cases h9:bn x.c=false
   · simp at h7 h8;simp [f120,It.dv,It.cs,h1,h2,h3,h4,h5,h6,hw,h7,h8,h9]
   · simp at h7 h8 h9;simp [h1,h2,h3,h4,h5,h6,h7,h8,h9] at hA
 | false=>
   have e:fw x=j4 x:=by simp [fw,hA]
   rw [e]
   unfold oP at hA
   simp only [Bool.or_eq_false_iff,decide_eq_false_iff_not,Bool.not_eq_false'] at hA
   obtain ⟨⟨⟨⟨⟨⟨⟨⟨h1,h2⟩,h3⟩,h4⟩,h5⟩,h6⟩,h7⟩,h8⟩,h9⟩:=hA
   have w0:bn 0=true:=rfl
   have c3:x.k=3∨x.k≠3:=Decidable.em _
   have c2:x.k=2∨x.k≠2:=Decidable.em _
   have c4:x.k=4∨x.k≠4:=Decidable.em _
   have cc:x.c=0∨x.c≠0:=Decidable.em _
   have cs:x.s=0∨x.s≠0:=Decidable.em _
   rcases c3 with c3 | c3
   · rcases cs with cs | cs
     · by_cases ch:x.h=0<;>simp [f120,It.dv,It.cs,h1,h2,h3,h4,h5,h6,hw,h7,h8,h9,w0,j4,c3,cs,ch]
     · simp [f120,It.dv,It.cs,h1,h2,h3,h4,h5,h6,hw,h7,h8,h9,w0,j4,c3,cs]
   · cases hy:x.y with
     | true=>simp [f120,It.dv,It.cs,h1,h2,h3,h4,h5,h6,hw,h7,h8,h9,w0,j4,c3,hy]
     | false=>
       rcases cc with cc | cc
       · rcases c2 with c2 | c2
         · simp [f120,It.dv,It.cs,h1,h2,h3,h4,h5,h6,hw,h7,h8,h9,w0,j4,c2,hy,cc]
         · rcases cs with cs | cs
           · by_cases ch:x.h=0
             · rcases c4 with c4 | c4
               · simp [f120,It.dv,It.cs,h1,h2,h3,h4,h5,h6,hw,h7,h8,h9,w0,j4,c4,hy,cc,cs,ch]
               · simp [f120,It.dv,It.cs,h1,h2,h3,h4,h5,h6,hw,h7,h8,h9,w0,j4,c3,c2,c4,hy,cc,cs,ch]
             · simp [f120,It.dv,It.cs,h1,h2,h3,h4,h5,h6,hw,h7,h8,h9,w0,j4,c3,c2,hy,cc,cs,ch]
           · simp [f120,It.dv,It.cs,h1,h2,h3,h4,h5,h6,hw,h7,h8,h9,w0,j4,c3,c2,hy,cc,cs]
       · simp [f120,It.dv,It.cs,h1,h2,h3,h4,h5,h6,hw,h7,h8,h9,w0,j4,c3,hy,cc]
def bb (l:List It):Int:=if 8192<l.length then 3 else if l.any fw then 2 else 0
section
variable {st:St} {l:List It} {v:DV}
theorem QB (hv:Its st l v) (hl:l.length≤8192) (K:List Nat):∀ (r d:List It) (H:List HO),l=d++r →
 ∃ J fr,(E tab).C qh [(8,v),(9,.int .i64 l.length),(10,.int .i64 d.length)] (pst st H K) =
   some (if r.any fw then (.ret,[(2,.int .i64 2)],pst st (H++J) K) else (.exit 0,fr,pst st (H++J) K)):=by
 intro r
 induction r with
 | nil=>
   intro d H hd
   refine ⟨[],[(8,v),(9,.int .i64 l.length),(10,.int .i64 l.length),(11,.bool false)],?_⟩
   rw [ab (L:=qh) rfl]
   simp [uD,hd]
 | cons x r ih=>
   intro d H hd
   have h0:d.length<l.length:=by simp [hd]
   have hx:l[d.length]? = some x:=by simp [hd]
   have hw1:IntKind.i64.wrap ((d.length:Int)+1)=((d++[x]).length:Nat):=by rw [ar (by omega)];simp
   have e1:=fun st'=>b7 hv h0 .i64 st'
   have e2:=fun H K=>qY hv hx H K
   have e3:=fun st=>YY x st
   simp only [It.dv,It.cs] at e2 e3
   rw [List.any_cons]
   cases ho:fw x with
   | true=>
     refine ⟨[.cells .plain x.cs],[],?_⟩
     rw [ab (L:=qh) rfl]
     simp [uD,h0,e1,e2,e3,ho,It.cs]
   | false=>
     obtain ⟨J,fr,hJ⟩:=ih (d++[x]) (H++[.cells .plain x.cs]) (by simp [hd])
     refine ⟨.cells .plain x.cs::J,fr,?_⟩
     rw [Bool.false_or]
     generalize r.any fw=b at hJ ⊢
     simp only [List.length_append,List.length_singleton] at hJ hw1
     simp [It.cs] at hJ
     rw [ab (L:=qh) rfl]
     simp [uD,h0,e1,e2,e3,ho,It.cs,hw1,hJ]
theorem wo (hv:Its st l v):(E tab).F 109 [v] st=some (.int .i64 (bb l),st):=by
 rw [av adB rfl]
 have e0:=fun st'=>bH hv st'
 by_cases h:8192<l.length
 · have h':(8192:Int)<l.length:=by omega
   simp [f109,e0,h,h',bb]
 · have h':¬ (8192:Int)<l.length:=by omega
   obtain ⟨J,fr,hL⟩:=QB hv (by omega) [] l [] [] rfl
   have e:bb l=if l.any fw then 2 else 0:=by simp only [bb,if_neg h]
   rw [e]
   generalize l.any fw=b at hL ⊢
   simp at hL
   cases b<;>simp at hL<;>simp [f109,e0,h',hL]
def ew (l:List It) (a b:Int):Int:=if bb l=0∧(a<0∨b<a∨l.length<b) then 5 else bb l
theorem si (hv:Its st l v) (a b:Int):(E tab).F 121 [v,.int .i64 a,.int .i64 b] st=some (.int .i64 (ew l a b),st):=by
 rw [av aly rfl]
 have e0:=fun st'=>bH hv st'
 have e1:=wo (hv.inn [] [])
 unfold ew
 by_cases h:bb l=0
 · by_cases h1:a<0
   · simp [f121,e0,e1,h,h1]
   · by_cases h2:b<a
     · simp [f121,e0,e1,h,h1,h2]
     · by_cases h3:(l.length:Int)<b
       · simp [f121,e0,e1,h,h1,h2,h3]
       · simp [f121,e0,e1,h,h1,h2,h3]
 · simp [f121,e1,h]
def aG (l:List It) (a:Nat):Nat→Nat
 | 0=>0
 | b+1=>if a≤b∧(l[b]?.map (·.k))=some 2 then aG l a b else b+1
theorem gU (l:List It) (a:Nat):∀ b,aG l a b≤b
 | 0=>Nat.le_refl _
 | b+1=>by
   unfold aG
   split
   · exact Nat.le_succ_of_le (gU l a b)
   · exact Nat.le_refl _
theorem mf (l:List It) (a:Nat):∀ b,a≤b→a≤aG l a b
 | 0,h=>by simp [aG];omega
 | b+1,h=>by
   unfold aG
   split
   · rename_i hc;exact mf l a b hc.1
   · exact h
theorem Ow (hv:Its st l v) (a:Nat) (hl:l.length≤140737488355328) (H:List HO) (K:List Nat):∀ b,b≤l.length→a≤b →
 ∃ fr,(E tab).C nJ [(0,v),(1,.int .i64 a),(2,.int .i64 b)] (pst st H K)=some (.exit 0,[(0,v),(1,.int .i64 a),(2,.int .i64 (aG l a b:Nat))]++fr,pst st H K):=by
 intro b
 induction b with
 | zero=>
   intro hb ha
   obtain rfl:a=0:=by omega
   refine ⟨[(18,.bool false)],?_⟩
   rw [ab (L:=nJ) rfl]
   simp [pb,aG]
 | succ b ih=>
   intro hb ha
   by_cases hab:a≤b
   · have hw:IntKind.i64.wrap (((b+1:Nat):Int)-1)=b:=by rw [ar (by omega)];omega
     have hlt:(a:Int)<b+1:=by omega
     have hbl:b<l.length:=by omega
     have hx:l[b]? = some l[b]:=List.getElem?_eq_getElem hbl
     have e1:=fun st'=>b7 hv hbl .i64 st'
     have e2:=fun st'=>cE hv hx (off:=0) (by omega) st'
     have e3:=fun H K=>fk hv hx H K
     simp at hw
     by_cases hk:l[b].k=2
     · obtain ⟨fr,hJ⟩:=ih (by omega) hab
       refine ⟨fr,?_⟩
       rw [ab (L:=nJ) rfl]
       have et:aG l a (b+1)=aG l a b:=by rw [aG,if_pos ⟨hab,by simp [hx,hk]⟩]
       rw [et]
       simp at hJ
       simp [pb,hlt,hw,e1,e2,e3,hk,hJ]
     · have et:aG l a (b+1)=b+1:=by rw [aG,if_neg];rintro ⟨_,h⟩;simp [hx] at h;exact hk h
       rw [et]
       refine ⟨[(18,.bool false)],?_⟩
       rw [ab (L:=nJ) rfl]
       simp [pb,hlt,hw,e1,e2,e3,hk]
   · obtain rfl:a=b+1:=by omega
     have et:aG l (b+1) (b+1)=b+1:=by rw [aG,if_neg];omega
     rw [et]
     refine ⟨[(18,.bool false)],?_⟩
     rw [ab (L:=nJ) rfl]
     simp [pb]
theorem Vw.ex {n:Nat} {ag:Bool} {xs:List DV} {w:DV} (h:Vw st n ag xs w) (H:List HO) (K:List Nat):∃ w',aX st (pst st H K) w=some w'∧Vw st n ag xs w':=by
 cases h with
 | list t n' tk nn h1 h2=>exact ⟨_,rfl,.list _ _ _ _ h1 h2⟩
 | hsl b off c g vs hc hl hx hcap=>
   have hh:=jq hc
   have hb:st.oD b=true:=by unfold St.oD;rw [hh]
   refine ⟨_,by simp only [aX,hb,if_true],.hsl b off c g vs hc hl hx hcap⟩
theorem FI {n:Nat} {ag:Bool} {xs:List DV} {w:DV} {st0 st1 st2:St} (h:Vw st0 n ag xs w):bD st1 st2 w=aX st1 st2 w:=by
 cases h<;>rfl
theorem pF (hv:Its st l v) (hl:l.length≤140737488355328) (a b:Nat) (hab:a≤b) (hb:b≤l.length):∃ v',(E tab).F 123 [v,.int .i64 a,.int .i64 b] st=some (v',st)∧Its st ((l.drop a).take (aG l a b-a)) v':=by
 rw [av agC rfl]
 obtain ⟨fr,hL⟩:=Ow hv a hl [] [] b hb hab
 obtain ⟨v',hs,hv'⟩:=Vw.slice hv (by omega) pM (lo:=a) (hi:=aG l a b) (mf l a b hab) (by have:=gU l a b;simp;omega) .i64 .i64
 obtain ⟨v2,hx,hv2⟩:=Vw.ex hv' [] []
 rw [← List.map_drop,← List.map_take] at hv2
 refine ⟨v2,?_,hv2⟩
 simp at hL
 have hxT:bD st (pst st [] []) v'=some v2:=by rw [FI hv',hx]
 simp [f123,hL,hs,hxT]
end
theorem ahM:tab 124=some (.code f124):=by kernel_rfl
theorem aeH:tab 139=some (.code f139):=by kernel_rfl
theorem ag6:tab 145=some (.code f145):=by kernel_rfl
theorem ae7:tab 146=some (.code f146):=by kernel_rfl
theorem aiB:tab 153=some (.code f153):=by kernel_rfl
def gh (x:Int):Int:=(x/48+1)*48
theorem sk (st:St):(E tab).F 145 [.list 0 0 .no false []] st=some (.int .i64 0,st):=by
 rw [av ag6 rfl]
 have hL:∀ st:St,(E tab).C yu [(3,.int .i64 0),(9,.list 0 0 .no false []),(10,.int .i64 0),(11,.int .i64 0)] st=some (.exit 0,[(3,.int .i64 0),(9,.list 0 0 .no false []),(10,.int .i64 0),(11,.int .i64 0),(12,.bool false)],st):=by
  intro st
  rw [ab (L:=yu) rfl]
  simp [DR]
 simp [f145,hL]
theorem yW (x f:DV) (st:St):(E tab).F 153 [.list 0 0 .no false [],x,f] st=some (.tuple [.int .i64 0,.bool false],st):=by
 rw [gm aiB rfl]
 have hL:∀ st:St,(E tab).C yz [(0,.list 0 0 .no false []),(1,x),(2,f),(8,.int .i64 0),(9,.int .i64 0),(10,.int .i64 0)] st=some (.exit 0,[(0,.list 0 0 .no false []),(1,x),(2,f),(8,.int .i64 0),(9,.int .i64 0),(10,.int .i64 0),(17,.bool false)],st):=by
  intro st
  rw [ab (L:=yz) rfl]
  simp [Ff]
 simp [f153,hL]
theorem BX (x:Int) (hx:0≤x∧x≤1000000000000) (st:St):(E tab).F 146 [.list 0 0 .no false [],.int .i64 x] st=some (.agg [.int .i64 (gh x),.int .i64 0],st):=by
 rw [av ae7 rfl]
 have e1:IntKind.i64.wrap (x.tdiv 48)=x/48:=IntWalk.i64_quo _ _ (by omega)
 have e2:IntKind.i64.wrap (x/48+1)=x/48+1:=ar (by omega)
 have e3:IntKind.i64.wrap ((x/48+1)*48)=gh x:=ar (by omega)
 simp [f146,yW,e1,e2,e3]
theorem Il (x:Int) (hx:0≤x∧x≤1000000000000) (st:St):(E tab).F 139 [.list 0 0 .no false [],.int .i64 x] st=some (if x≤8190 then .tuple [.agg [.int .i64 (gh x),.int .i64 0],.int .i64 0] else .tuple [.agg [.int .i64 0,.int .i64 0],.int .i64 5],st):=by
 rw [av aeH rfl]
 have h0:¬ x<0:=by omega
 have e1:=fun st=>BX x hx st
 by_cases h:x≤8190
 · have h1:¬ 8190<x:=by omega
   simp [f139,sk,h0,h1,e1,h]
 · have h1:8190<x:=by omega
   simp [f139,sk,h0,h1,h]
theorem Kd (x:Int) (hx:0≤x∧x≤1000000000000) (st:St):(E tab).F 124 [.int .i64 x] st=some (.int .i64 (gh x),st):=by
 rw [av ahM rfl]
 have e0:=fun st=>Il x hx st
 have e1:IntKind.i64.wrap (x.tdiv 48)=x/48:=IntWalk.i64_quo _ _ (by omega)
 have e2:IntKind.i64.wrap (x/48+1)=x/48+1:=ar (by omega)
 have e3:IntKind.i64.wrap ((x/48+1)*48)=gh x:=ar (by omega)
 by_cases h:x≤8190
 · simp only [h,if_true] at e0
   simp [f124,e0]
 · simp only [h,if_false] at e0
   simp [f124,e0,e1,e2,e3]
def bW (at_:Int) (x:It):Int:=if x.k=1∨x.k=2 then at_+x.w else if x.k=4 then gh at_ else at_
def goI (at_:Int):List It→Int
 | []=>at_
 | x::r=>goI (bW at_ x) r
def okW (l:List It):Prop:=∀ x∈l,0≤x.w∧x.w≤2097152
theorem dS {l:List It} (h:bb l=0):okW l∧l.length≤8192:=by
 unfold bb at h
 split at h
 · omega
 · rename_i h1
   split at h
   · omega
   · rename_i h2
     refine ⟨fun x hx => ?_,by omega⟩
     rw [Bool.not_eq_true,List.any_eq_false] at h2
     have:=h2 x hx
     simp [fw,oP] at this
     omega
theorem lW {x:It} (h:0≤x.w∧x.w≤2097152) {a:Int} (ha:0≤a):a≤bW a x∧bW a x≤a+2097152:=by
 unfold bW gh
 split
 · omega
 · split<;>omega
theorem qj:∀ {l:List It} {a:Int},okW l→0≤a→a≤goI a l∧goI a l≤a+2097152*l.length
 | [],a,_,_=>by simp [goI]
 | x::r,a,h,ha=>by
   have h1:=lW (h x (List.mem_cons_self ..)) ha
   have h2:=qj (l:=r) (a:=bW a x) (fun y hy=>h y (List.mem_cons_of_mem _ hy)) (by omega)
   simp only [goI,List.length_cons]
   omega
theorem A7:∀ (l r:List It) (a:Int),goI a (l++r)=goI (goI a l) r
 | [],r,a=>rfl
 | x::l,r,a=>by simp only [List.cons_append,goI,A7 l r]
def iq (l:List It) (b:Nat):Int:=match l[b]? with | some x=>if x.k=3 then x.w else 0 | none=>0
def cl (l:List It) (a b:Nat) (x:Int):Int:=goI x ((l.drop a).take (aG l a b-a))+iq l b-x
section
variable {st:St} {l:List It} {v:DV}
theorem abB (l':List It) {v':DV} (hv':Its st l' v') (hok:okW l') (hl:l'.length≤8192) (y0 y2 y3:DV) (K:List Nat):∀ (r d:List It) (H:List HO) (a:Int),l'=d++r→0≤a→a≤4095+2097152*d.length →
 ∃ J fr,(E tab).C tf [(0,y0),(2,y2),(3,y3),(11,.int .i64 a),(28,v'),(29,.int .i64 l'.length),(30,.int .i64 d.length)] (pst st H K) =
   some (.exit 0,[(0,y0),(2,y2),(3,y3),(11,.int .i64 (goI a r))]++fr,pst st (H++J) K):=by
 intro r
 induction r with
 | nil=>
   intro d H a hd h1 h2
   refine ⟨[],[(28,v'),(29,.int .i64 l'.length),(30,.int .i64 l'.length),(31,.bool false)],?_⟩
   rw [ab (L:=tf) rfl]
   simp [nK,hd,goI]
 | cons x r ih=>
   intro d H a hd h1 h2
   have h0:d.length<l'.length:=by simp [hd]
   have hx:l'[d.length]? = some x:=by simp [hd]
   have hxm:=hok x (by simp [hd])
   have hw1:IntKind.i64.wrap ((d.length:Int)+1)=((d++[x]).length:Nat):=by rw [ar (by omega)];simp
   have e1:=fun st'=>b7 hv' h0 .i64 st'
   have e2:=fun H K=>qY hv' hx H K
   simp only [It.dv,It.cs] at e2
   have hs:=lW hxm h1
   obtain ⟨J,fr,hJ⟩:=ih (d++[x]) (H++[.cells .plain x.cs]) (bW a x) (by simp [hd]) (by omega) (by simp;omega)
   refine ⟨.cells .plain x.cs::J,fr,?_⟩
   rw [goI]
   simp only [List.length_append,List.length_singleton] at hJ hw1
   simp [It.cs] at hJ
   rw [ab (L:=tf) rfl]
   by_cases k1:x.k=1
   · have w1:IntKind.i64.wrap (a+x.w)=bW a x:=by rw [ar (by omega)];simp [bW,k1]
     rw [k1] at e2 hJ
     simp [nK,h0,e1,e2,k1,It.cs,hw1,w1,hJ]
   · by_cases k2:x.k=2
     · have w1:IntKind.i64.wrap (a+x.w)=bW a x:=by rw [ar (by omega)];simp [bW,k2]
       rw [k2] at e2 hJ
       simp [nK,h0,e1,e2,k1,k2,It.cs,hw1,w1,hJ]
     · by_cases k4:x.k=4
       · have w1:gh a=bW a x:=by simp [bW,k4]
         have e3:=fun st=>Kd a (by omega) st
         rw [w1] at e3
         rw [k4] at e2 hJ
         simp [nK,h0,e1,e2,e3,k1,k2,k4,It.cs,hw1,hJ]
       · have w1:bW a x=a:=by simp [bW,k1,k2,k4]
         rw [w1] at hJ
         simp [nK,h0,e1,e2,k1,k2,k4,It.cs,hw1,w1,hJ]
def GY (l:List It) (a b x:Int):DV:=
 if ew l a b≠0 then .tuple [.int .i64 0,.int .i64 (ew l a b)]
 else if bn x=false then .tuple [.int .i64 0,.int .i64 5]
 else .tuple [.int .i64 (cl l a.toNat b.toNat x),.int .i64 0]
theorem l4 {a b:Int} (h:ew l a b=0):bb l=0∧0≤a∧a≤b∧b≤l.length:=by
 unfold ew at h
 split at h
 · omega
 · rename_i h1
   refine ⟨h,?_⟩
   have:¬ (a<0∨b<a∨l.length<b):=fun h2=>h1 ⟨h,h2⟩
   omega
theorem Dk (hv:Its st l v) (a b x:Int):(E tab).F 110 [v,.int .i64 a,.int .i64 b,.int .i64 x] st=some (GY l a b x,st):=by
 rw [av afb rfl]
 have e0:=fun st'=>bH hv st'
 have e1:=si (hv.inn [] []) a b
 have e2:=fun st=>sC x st
 unfold GY
 by_cases h1:ew l a b=0
 · cases h2:bn x with
   | false=>simp [f110,e1,e2,h1,h2]
   | true=>
     obtain ⟨h3,h4,h5,h6⟩:=l4 h1
     obtain ⟨hok,hlen⟩:=dS h3
     obtain ⟨A,rfl⟩:=Int.eq_ofNat_of_zero_le h4
     obtain ⟨B,rfl⟩:=Int.eq_ofNat_of_zero_le (show 0≤b by omega)
     simp [bn] at h2
     obtain ⟨v',et,hv'⟩:=pF (hv.inn [] []) (by omega) A B (by omega) (by omega)
     have hv':=Vw.out hv'
     have hlt:=gU l A B
     have hok':okW ((l.drop A).take (aG l A B-A)):=fun y hy=>hok y (List.mem_of_mem_drop (List.mem_of_mem_take hy))
     have hlen':((l.drop A).take (aG l A B-A)).length≤8192:=by simp;omega
     have hg:=qj (a:=x) hok' (by omega)
     obtain ⟨J,fr,hL⟩:=abB _ hv' hok' hlen' v (.int .i64 B) (.int .i64 x) [] _ [] [] x rfl (by omega) (by omega)
     have e3:=fun st'=>bH hv' st'
     unfold cl
     simp only [Int.toNat_natCast]
     generalize hG:goI x ((l.drop A).take (aG l A B-A))=G at *
     generalize ((l.drop A).take (aG l A B-A))=l' at *
     simp at hL
     by_cases hb:B<l.length
     · have hx:l[B]? = some l[B]:=List.getElem?_eq_getElem hb
       have q1:=fun st'=>b7 hv hb .i64 st'
       have q2:=fun st'=>cE hv hx (off:=0) (by omega) st'
       have q3:=fun H K=>fk hv hx H K
       have q4:=fun st'=>cE hv hx (off:=3) (by omega) st'
       have q5:=fun H K=>xt hv hx H K
       have hB:=hok _ (List.getElem_mem hb)
       by_cases k3:l[B].k=3
       · have ep:iq l B=l[B].w:=by simp [iq,hx,k3]
         have w1:IntKind.i64.wrap (G+l[B].w)=G+l[B].w:=ar (by omega)
         have w2:IntKind.i64.wrap (G+l[B].w-x)=G+l[B].w-x:=ar (by omega)
         simp [f110,e0,e1,e2,e3,h1,bn,h2,et,hL,hb,q1,q2,q3,q4,q5,k3,w1,w2,ep,hG]
       · have ep:iq l B=0:=by simp [iq,hx,k3]
         have w2:IntKind.i64.wrap (G-x)=G-x:=ar (by omega)
         simp [f110,e0,e1,e2,e3,h1,bn,h2,et,hL,hb,q1,q2,q3,k3,w2,ep,hG]
     · have ep:iq l B=0:=by simp [iq,hb]
       have w2:IntKind.i64.wrap (G-x)=G-x:=ar (by omega)
       simp [f110,e0,e1,e2,e3,h1,bn,h2,et,hL,hb,w2,ep,hG]
 · simp [f110,e1,h1]
end
theorem aiZ:tab 353=some (.code wN):=by kernel_rfl
theorem agv:tab 342=some (.code Lh):=by kernel_rfl
theorem ah4:tab 352=some (.code BR):=by kernel_rfl
theorem aiK:tab 340=some (.code Cb):=by kernel_rfl
theorem alQ:tab 241=some (.code f241):=by kernel_rfl
section
variable {st:St} {l:List It} {v:DV}
def kD (l:List It) (i:Nat):Bool:=
 i==l.length||(match l[i]? with | some x=>x.k==3||(x.k==2&&decide (0<i)&&(match l[i-1]? with | some y=>y.k != 2 | none=>false)) | none=>false)
theorem Hs (hv:Its st l v) (i:Nat) (hi:i≤l.length) (hl:l.length≤140737488355328):(E tab).F 353 [v,.int .i64 i] st=some (.bool (kD l i),st):=by
 have e0:=fun st'=>bH hv st'
 rw [av aiZ rfl]
 unfold kD
 by_cases h:i=l.length
 · simp [wN,e0,h]
 have h0:i<l.length:=by omega
 have hb:(i==l.length)=false:=by simp [h]
 have h':¬ (i:Int)=l.length:=by omega
 have hx:l[i]? = some l[i]:=List.getElem?_eq_getElem h0
 have e1:=fun st'=>b7 hv h0 .i64 st'
 have e2:=fun st'=>cE hv hx (off:=0) (by omega) st'
 have e3:=fun H K=>fk hv hx H K
 rw [hx,hb]
 generalize l[i]=x at *
 by_cases k3:x.k=3
 · simp [wN,e0,h,h',e1,e2,e3,k3]
 by_cases k2:x.k=2
 · by_cases hp:0<i
   · have h1:i-1<l.length:=by omega
     have hy:l[i-1]? = some l[i-1]:=List.getElem?_eq_getElem h1
     have q1:=fun st'=>b7 hv h1 .i64 st'
     have q2:=fun st'=>cE hv hy (off:=0) (by omega) st'
     have q3:=fun H K=>fk hv hy H K
     have w:IntKind.i64.wrap ((i:Int)-1)=((i-1:Nat):Int):=by rw [ar (by omega)];omega
     rw [hy]
     generalize l[i-1]=y at *
     simp [wN,e0,h,h',e1,e2,e3,k2,hp,w,q1,q2,q3]
   · simp [wN,e0,h,h',e1,e2,e3,k2,hp]
 · simp [wN,e0,h,h',e1,e2,e3,k3,k2]
theorem Oo (hv:Its st l v) (a:Nat) (hl:l.length≤140737488355328) (H:List HO) (K:List Nat):∀ b,b≤l.length→a≤b →
 ∃ fr,(E tab).C nu [(0,v),(1,.int .i64 a),(2,.int .i64 b)] (pst st H K)=some (.exit 0,[(0,v),(1,.int .i64 a),(2,.int .i64 (aG l a b:Nat))]++fr,pst st H K):=by
 intro b
 induction b with
 | zero=>
   intro hb ha
   obtain rfl:a=0:=by omega
   refine ⟨[(18,.bool false)],?_⟩
   rw [ab (L:=nu) rfl]
   simp [pk,aG]
 | succ b ih=>
   intro hb ha
   by_cases hab:a≤b
   · have hw:IntKind.i64.wrap (((b+1:Nat):Int)-1)=b:=by rw [ar (by omega)];omega
     have hlt:(a:Int)<b+1:=by omega
     have hbl:b<l.length:=by omega
     have hx:l[b]? = some l[b]:=List.getElem?_eq_getElem hbl
     have e1:=fun st'=>b7 hv hbl .i64 st'
     have e2:=fun st'=>cE hv hx (off:=0) (by omega) st'
     have e3:=fun H K=>fk hv hx H K
     simp at hw
     by_cases hk:l[b].k=2
     · obtain ⟨fr,hJ⟩:=ih (by omega) hab
       refine ⟨fr,?_⟩
       rw [ab (L:=nu) rfl]
       have et:aG l a (b+1)=aG l a b:=by rw [aG,if_pos ⟨hab,by simp [hx,hk]⟩]
       rw [et]
       simp at hJ
       simp [pk,hlt,hw,e1,e2,e3,hk,hJ]
     · have et:aG l a (b+1)=b+1:=by rw [aG,if_neg];rintro ⟨_,h⟩;simp [hx] at h;exact hk h
       rw [et]
       refine ⟨[(18,.bool false)],?_⟩
       rw [ab (L:=nu) rfl]
       simp [pk,hlt,hw,e1,e2,e3,hk]
   · obtain rfl:a=b+1:=by omega
     have et:aG l (b+1) (b+1)=b+1:=by rw [aG,if_neg];omega
     rw [et]
     refine ⟨[(18,.bool false)],?_⟩
     rw [ab (L:=nu) rfl]
     simp [pk]
theorem Am (hv:Its st l v) (hl:l.length≤140737488355328) (a b:Nat) (hab:a≤b) (hb:b≤l.length):(E tab).F 342 [v,.int .i64 a,.int .i64 b] st=some (.int .i64 (aG l a b:Nat),st):=by
 rw [av agv rfl]
 obtain ⟨fr,hL⟩:=Oo hv a hl [] [] b hb hab
 simp at hL
 simp [Lh,hL]
theorem Eo (x:Int) (hx:0≤x∧x≤1000000000000) (st:St):(E tab).F 241 [.list 0 0 .no false [],.int .i64 x] st=some (.agg [.int .i64 (gh x),.int .i64 0],st):=by
 rw [av alQ rfl]
 have hL:∀ (st:St) (p:DV),(E tab).C yX [(0,.list 0 0 .no false []),(1,.int .i64 x),(4,p),(5,.int .i64 0)] st=some (.exit 0,[(0,.list 0 0 .no false []),(1,.int .i64 x),(4,p),(5,.int .i64 0),(9,.bool false)],st):=by
  intro st p
  rw [ab (L:=yX) rfl]
  simp [DM]
 have e1:IntKind.i64.wrap (x.tdiv 48)=x/48:=IntWalk.i64_quo _ _ (by omega)
 have e2:IntKind.i64.wrap (x/48+1)=x/48+1:=ar (by omega)
 have e3:IntKind.i64.wrap ((x/48+1)*48)=gh x:=ar (by omega)
 simp [f241,hL,e1,e2,e3]
theorem TG (hv:Its st l v) (hok:okW l) (hl:l.length≤8192) (A B:Nat) (hAB:A≤B) (hB:B≤l.length) (y3:DV) (H:List HO) (K:List Nat):∀ (m i:Nat) (a:Int),i+m=aG l A B→A≤i→0≤a→a≤4095+2097152*i →
 ∃ fr,(E tab).C tE [(0,v),(1,.int .i64 A),(2,.int .i64 B),(3,y3),(9,.int .i64 a),(10,.int .i64 i)] (pst st H K) =
   some (.exit 0,[(0,v),(1,.int .i64 A),(2,.int .i64 B),(3,y3),(9,.int .i64 (goI a ((l.drop i).take m)))]++fr,pst st H K):=by
 have hT:=fun st' (h:Its st' l v)=>Am h (by omega) A B hAB hB
 have hle:=gU l A B
 intro m
 induction m with
 | zero=>
   intro i a hi hA h1 h2
   refine ⟨[(10,.int .i64 i),(18,.bool false)],?_⟩
   rw [ab (L:=tE) rfl]
   have h0:¬ i<aG l A B:=by omega
   simp [nw,hT _ (hv.inn H K),h0,goI]
 | succ m ih=>
   intro i a hi hA h1 h2
   have h0:i<aG l A B:=by omega
   have hil:i<l.length:=by omega
   have hx:l[i]? = some l[i]:=List.getElem?_eq_getElem hil
   have hxm:=hok _ (List.getElem_mem hil)
   have hd:(l.drop i).take (m+1)=l[i]::(l.drop (i+1)).take m:=by rw [List.drop_eq_getElem_cons hil,List.take_succ_cons]
   rw [hd,goI]
   have hw1:IntKind.i64.wrap ((i:Int)+1)=(i+1:Nat):=by rw [ar (by omega)];simp
   have e1:=fun st'=>b7 hv hil .i64 st'
   have e2:=fun st'=>cE hv hx (off:=0) (by omega) st'
   have e3:=fun H K=>fk hv hx H K
   have e4:=fun st'=>cE hv hx (off:=3) (by omega) st'
   have e5:=fun H K=>xt hv hx H K
   have hs:=lW hxm h1
   obtain ⟨fr,hJ⟩:=ih (i+1) (bW a l[i]) (by omega) (by omega) (by omega) (by omega)
   refine ⟨fr,?_⟩
   generalize l[i]=x at *
   simp at hJ
   rw [ab (L:=tE) rfl]
   by_cases k1:x.k=1
   · have w1:IntKind.i64.wrap (a+x.w)=bW a x:=by rw [ar (by omega)];simp [bW,k1]
     simp [nw,hT _ (hv.inn H K),h0,e1,e2,e3,e4,e5,k1,hw1,w1,hJ]
   · by_cases k2:x.k=2
     · have w1:IntKind.i64.wrap (a+x.w)=bW a x:=by rw [ar (by omega)];simp [bW,k2]
       simp [nw,hT _ (hv.inn H K),h0,e1,e2,e3,e4,e5,k1,k2,hw1,w1,hJ]
     · by_cases k4:x.k=4
       · have w1:gh a=bW a x:=by simp [bW,k4]
         have e6:=fun st=>Eo a (by omega) st
         rw [w1] at e6
         simp [nw,hT _ (hv.inn H K),h0,e1,e2,e3,e6,k1,k2,k4,hw1,hJ]
       · have w1:bW a x=a:=by simp [bW,k1,k2,k4]
         rw [w1] at hJ
         simp [nw,hT _ (hv.inn H K),h0,e1,e2,e3,k1,k2,k4,hw1,w1,hJ]
theorem zn (hv:Its st l v) (h:bb l=0) (A B:Nat) (hAB:A≤B) (hB:B≤l.length) (x:Int) (hx:0≤x∧x≤4095):(E tab).F 352 [v,.int .i64 A,.int .i64 B,.int .i64 x] st=some (.int .i64 (cl l A B x),st):=by
 obtain ⟨hok,hlen⟩:=dS h
 have e0:=fun st'=>bH hv st'
 rw [av ah4 rfl]
 have t1:=mf l A B hAB
 have t2:=gU l A B
 obtain ⟨fr,hL⟩:=TG hv hok hlen A B hAB hB (.int .i64 x) [] [] (aG l A B-A) A x (by omega) (Nat.le_refl _) hx.1 (by omega)
 have hok':okW ((l.drop A).take (aG l A B-A)):=fun y hy=>hok y (List.mem_of_mem_drop (List.mem_of_mem_take hy))
 have hlen':((l.drop A).take (aG l A B-A)).length≤8192:=by simp;omega
 have hg:=qj (a:=x) hok' (by omega)
 unfold cl
 generalize goI x ((l.drop A).take (aG l A B-A))=G at *
 simp at hL
 by_cases hb:B<l.length
 · have hx:l[B]? = some l[B]:=List.getElem?_eq_getElem hb
   have q1:=fun st'=>b7 hv hb .i64 st'
   have q2:=fun st'=>cE hv hx (off:=0) (by omega) st'
   have q3:=fun H K=>fk hv hx H K
   have q4:=fun st'=>cE hv hx (off:=3) (by omega) st'
   have q5:=fun H K=>xt hv hx H K
   have hB:=hok _ (List.getElem_mem hb)
   by_cases k3:l[B].k=3
   · have ep:iq l B=l[B].w:=by simp [iq,hx,k3]
     have w1:IntKind.i64.wrap (G+l[B].w)=G+l[B].w:=ar (by omega)
     have w2:IntKind.i64.wrap (G+l[B].w-x)=G+l[B].w-x:=ar (by omega)
     simp [BR,e0,hL,hb,q1,q2,q3,q4,q5,k3,w1,w2,ep]
   · have ep:iq l B=0:=by simp [iq,hx,k3]
     have w2:IntKind.i64.wrap (G-x)=G-x:=ar (by omega)
     simp [BR,e0,hL,hb,q1,q2,q3,k3,w2,ep]
 · have ep:iq l B=0:=by simp [iq,hb]
   have w2:IntKind.i64.wrap (G-x)=G-x:=ar (by omega)
   simp [BR,e0,hL,hb,w2,ep]
def bu (l:List It):Nat→Nat→Nat
 | 0,i=>i
 | f+1,i=>match l[i]? with | some x=>if x.k=2 then bu l f (i+1) else i | none=>i
def du (l:List It) (i:Nat):Nat:=bu l l.length (match l[i]? with | some x=>if x.k=3 then i+1 else i | none=>i)
theorem zH (hv:Its st l v) (hl:l.length≤140737488355328) (H:List HO) (K:List Nat):∀ (f i:Nat),l.length≤i+f→i≤l.length →
 ∃ fr,(E tab).C jx [(0,v),(1,.int .i64 i)] (pst st H K)=some (.exit 0,[(0,v),(1,.int .i64 (bu l f i:Nat))]++fr,pst st H K):=by
 have e0:=fun st'=>bH hv st'
 intro f
 induction f with
 | zero=>
   intro i h1 h2
   obtain rfl:i=l.length:=by omega
   refine ⟨[(30,.bool false)],?_⟩
   rw [ab (L:=jx) rfl]
   simp [pn,e0,bu]
 | succ f ih=>
   intro i h1 h2
   by_cases h0:i<l.length
   · have hx:l[i]? = some l[i]:=List.getElem?_eq_getElem h0
     have e1:=fun st'=>b7 hv h0 .i64 st'
     have e2:=fun st'=>cE hv hx (off:=0) (by omega) st'
     have e3:=fun H K=>fk hv hx H K
     have hw1:IntKind.i64.wrap ((i:Int)+1)=(i+1:Nat):=by rw [ar (by omega)];simp
     by_cases hk:l[i].k=2
     · have eg:bu l (f+1) i=bu l f (i+1):=by simp [bu,hx,hk]
       obtain ⟨fr,hJ⟩:=ih (i+1) (by omega) (by omega)
       rw [eg]
       refine ⟨fr,?_⟩
       simp at hJ
       rw [ab (L:=jx) rfl]
       simp [pn,e0,h0,e1,e2,e3,hk,hw1,hJ]
     · have eg:bu l (f+1) i=i:=by simp [bu,hx,hk]
       rw [eg]
       refine ⟨[(30,.bool false)],?_⟩
       rw [ab (L:=jx) rfl]
       simp [pn,e0,h0,e1,e2,e3,hk]
   · have eg:bu l (f+1) i=i:=by simp [bu,h0]
     have h0':¬ (i:Int)<l.length:=by omega
     rw [eg]
     refine ⟨[(30,.bool false)],?_⟩
     rw [ab (L:=jx) rfl]
     simp [pn,e0,h0,h0']
theorem Ej (x y z:DV) (st:St):(E tab).C jx [(0,x),(1,y),(16,z)] st=(E tab).C jx [(0,x),(1,y)] st:=by
 unfold jx;rw [ka];rfl
theorem EG (hv:Its st l v) (hl:l.length≤140737488355328) (i:Nat) (hi:i≤l.length):(E tab).F 340 [v,.int .i64 i] st=some (.int .i64 (du l i:Nat),st):=by
 have e0:=fun st'=>bH hv st'
 rw [av aiK rfl]
 unfold du
 by_cases h0:i<l.length
 · have hx:l[i]? = some l[i]:=List.getElem?_eq_getElem h0
   have e1:=fun st'=>b7 hv h0 .i64 st'
   have e2:=fun st'=>cE hv hx (off:=0) (by omega) st'
   have e3:=fun H K=>fk hv hx H K
   have hw1:IntKind.i64.wrap ((i:Int)+1)=(i+1:Nat):=by rw [ar (by omega)];simp
   rw [hx]
   by_cases hk:l[i].k=3
   · obtain ⟨fr,hL⟩:=zH hv hl [] [] l.length (i+1) (by omega) (by omega)
     simp at hL
     simp [Cb,e0,h0,e1,e2,e3,hk,hw1,hL]
   · obtain ⟨fr,hL⟩:=zH hv hl [] [] l.length i (by omega) hi
     simp at hL
     simp [Cb,e0,h0,e1,e2,e3,hk,Ej,hL]
 · obtain ⟨fr,hL⟩:=zH hv hl [] [] l.length i (by omega) hi
   simp at hL
   simp [Cb,e0,h0,Ej,hL]
end
theorem afr:tab 106=some (.code f106):=by kernel_rfl
theorem aea:tab 117=some (.code f117):=by kernel_rfl
theorem acQ:tab 118=some (.code f118):=by kernel_rfl
theorem MS:tab 131=some (.code f131):=by kernel_rfl
theorem aiM:tab 132=some (.code f132):=by kernel_rfl
theorem aek:tab 133=some (.code f133):=by kernel_rfl
theorem ajG:tab 134=some (.code f134):=by kernel_rfl
theorem ake:tab 135=some (.code f135):=by kernel_rfl
theorem adt:tab 136=some (.code f136):=by kernel_rfl
theorem aih:tab 137=some (.code f137):=by kernel_rfl
theorem ae5:tab 138=some (.code f138):=by kernel_rfl
theorem acO:tab 238=some (.code f238):=by kernel_rfl
theorem ahC:tab 258=some (.code f258):=by kernel_rfl
theorem alc:tab 259=some (.code f259):=by kernel_rfl
theorem ah6:tab 260=some (.code f260):=by kernel_rfl
theorem akD:tab 261=some (.code f261):=by kernel_rfl
theorem akK:tab 262=some (.code f262):=by kernel_rfl
theorem af0:tab 263=some (.code f263):=by kernel_rfl
theorem alB:tab 264=some (.code f264):=by kernel_rfl
theorem ajY:tab 274=some (.code yb):=by kernel_rfl
def mz:aa:=⟨0,0,0,0,0,0⟩
def iY (m:aa):Bool:=m.k != 3&&(m.k != 4&&m.k != 5)
def hyW (s:Int):Int:=wd 45 s
def cU (L:List aa) (fr to:Nat):It:=⟨1,(L.getD fr mz).a,(L.getD (to-1) mz).b,fA true 0 ((L.drop fr).take (to-fr)),0,0,0,false⟩
def fZ (m:aa):It:=if m.k=3 then ⟨2,m.a,m.b,m.w,m.w/2,m.w/3,0,false⟩ else if m.k=4 then ⟨4,m.a,m.b,0,0,0,0,false⟩ else ⟨3,m.a,m.b,hyW m.s,0,0,50,true⟩
def eb (s:List UInt8) (m:aa):Bool:=m.k==2&&bAt s m.a.toNat==45
def rj (m:aa):It:=⟨3,m.a,m.a,hyW m.s,0,0,100,true⟩
def rH (m:aa):It:=⟨3,m.a,m.a,0,0,0,50,false⟩
def aM (s:List UInt8) (L:List aa) (pl:List Bool):Nat→Nat→Nat→List aa→List It
 | k,run,fr,[]=>if fr<k then [cU L fr k] else []
 | k,run,fr,m::r=>
   if iY m=false then (if fr<k then [cU L fr k] else [])++fZ m::aM s L pl (k+1) (k+1) (k+1) r
   else if k=fr then aM s L pl (k+1) run fr r
   else if pl.getD k false=true then cU L fr k::rj m::aM s L pl (k+1) run k r
   else if (eb s (L.getD (k-1) mz) && !eb s m&&decide (run<k-1))=true then cU L fr k::rH m::aM s L pl (k+1) run k r
   else aM s L pl (k+1) run fr r
structure MOk (s:List UInt8) (L:List aa):Prop where
 len:L.length≤4096
 ok:L.all okM=true
 at_:∀ m∈L,0≤m.a∧m.a<s.length
 sz:∀ m∈L,1≤m.s∧m.s≤64
theorem xQ {m:aa} (h:okM m=true):0≤m.w∧m.w≤4095:=by
 simp only [okM,decide_eq_true_eq] at h;omega
section
variable {st:St}
theorem Ed (m:aa):(E tab).F 136 [m.dv] st=some (.bool (iY m),st):=by
 rw [av adt rfl]
 by_cases h1:m.k=3
 · simp [f136,iY,aa.cs,h1]
 by_cases h2:m.k=4
 · simp [f136,iY,aa.cs,h2]
 by_cases h3:m.k=5
 · simp [f136,iY,aa.cs,h3]
 · have b1:(m.k != 3)=true:=by simp [h1]
   have b2:(m.k != 4)=true:=by simp [h2]
   simp [f136,iY,aa.cs,h1,h2,b1,b2]
theorem QR (m:aa):(E tab).F 261 [m.dv] st=some (.bool (iY m),st):=by
 rw [av akD rfl]
 by_cases h1:m.k=3
 · simp [f261,iY,aa.cs,h1]
 by_cases h2:m.k=4
 · simp [f261,iY,aa.cs,h2]
 by_cases h3:m.k=5
 · simp [f261,iY,aa.cs,h3]
 · have b1:(m.k != 3)=true:=by simp [h1]
   have b2:(m.k != 4)=true:=by simp [h2]
   simp [f261,iY,aa.cs,h1,h2,b1,b2]
theorem sI {n:Int} (hn:1≤n∧n≤64):(E tab).F 138 [.int .i64 n] st=some (.int .i64 (hyW n),st):=by
 rw [av ae5 rfl]
 have hb:=pN 45 hn.1 hn.2
 have h:∀ st,(E tab).F 17 [.str [45],.int .i64 n] st=some (.tuple [.int .i64 (hyW n),.int .i64 0],st):=by
  intro st
  rw [s6]
  have hw:IntKind.i64.wrap (wd 45 n)=wd 45 n:=ar (by omega)
  simp only [fE,if_pos hn]
  simp [tw,hw,hyW]
 simp [f138,h]
theorem xd (n:Int):(E tab).F 37 [.int .u8 45,.int .i64 n] st=some (.int .i64 (hyW n),st):=by
 have:=iN 45 n st
 exact this
theorem JO (m:aa) (hm:okM m=true) (hs:1≤m.s∧m.s≤64):(E tab).F 137 [m.dv] st=some ((fZ m).dv,st):=by
 rw [av aih rfl]
 have hw:=xQ hm
 have h2:IntKind.i64.wrap (m.w.tdiv 2)=m.w/2:=by rw [Int.tdiv_eq_ediv_of_nonneg hw.1,ar (by omega)]
 have h3:IntKind.i64.wrap (m.w.tdiv 3)=m.w/3:=by rw [Int.tdiv_eq_ediv_of_nonneg hw.1,ar (by omega)]
 have hh:=fun st=>sI (st:=st) hs
 by_cases k3:m.k=3
 · simp [f137,fZ,It.dv,It.cs,aa.cs,k3,h2,h3]
 by_cases k4:m.k=4
 · simp [f137,fZ,It.dv,It.cs,aa.cs,k4]
 · simp [f137,fZ,It.dv,It.cs,aa.cs,k3,k4,hh]
theorem IU (m:aa) (hm:okM m=true):(E tab).F 264 [m.dv] st=some ((fZ m).dv,st):=by
 rw [av alB rfl]
 have hw:=xQ hm
 have h2:IntKind.i64.wrap (m.w.tdiv 2)=m.w/2:=by rw [Int.tdiv_eq_ediv_of_nonneg hw.1,ar (by omega)]
 have h3:IntKind.i64.wrap (m.w.tdiv 3)=m.w/3:=by rw [Int.tdiv_eq_ediv_of_nonneg hw.1,ar (by omega)]
 have hh:=fun st=>xd (st:=st) m.s
 by_cases k3:m.k=3
 · simp [f264,fZ,It.dv,It.cs,aa.cs,k3,h2,h3]
 by_cases k4:m.k=4
 · simp [f264,fZ,It.dv,It.cs,aa.cs,k4]
 · simp [f264,fZ,It.dv,It.cs,aa.cs,k3,k4,hh]
theorem getM {L:List aa} {i:Nat} (h:i<L.length):L[i]? = some (L.getD i mz):=by rw [List.getD_eq_getElem?_getD,List.getElem?_eq_getElem h];rfl
theorem iI {L:List aa} {i:Nat} (h:i<L.length):(L.map aa.dv)[i]? = some (L.getD i mz).dv:=by rw [List.getElem?_map,getM h];rfl
theorem SJ {s:List UInt8} {L:List aa} (hL:MOk s L) {t n:Nat} {tk:Tk} {nn:Bool} (h6:L≠[]→n=6) (h7:nn=true→n=6) {fr to:Nat} (h1:fr<to) (h2:to≤L.length):(E tab).F 135 [.list t n tk nn (L.map aa.dv),.int .i64 fr,.int .i64 to] st=some ((cU L fr to).dv,st):=by
 rw [av ake rfl]
 have hn:=fun st=>CM L fr to t n tk nn h6 h7 st
 rw [KT hL.len hL.ok fr to (by omega) h2] at hn
 obtain rfl:=h6 (by intro e;simp [e] at h2;omega)
 have hw1:IntKind.i64.wrap ((to:Int)-1)=((to-1:Nat):Int):=by have:=hL.len;rw [ar (by omega)];omega
 have g1:=iI (L:=L) (i:=fr) (by omega)
 have g2:=iI (L:=L) (i:=to-1) (by omega)
 have l1:fr<(L.map aa.dv).length:=by simp;omega
 have l2:to-1<(L.map aa.dv).length:=by simp;omega
 generalize L.map aa.dv=V at *
 have g1':V[fr]'l1=(L.getD fr mz).dv:=by rw [List.getElem?_eq_getElem l1] at g1;exact Option.some.inj g1
 have g2':V[to-1]'l2=(L.getD (to-1) mz).dv:=by rw [List.getElem?_eq_getElem l2] at g2;exact Option.some.inj g2
 simp only [cU]
 generalize L.getD fr mz=a at *
 generalize L.getD (to-1) mz=b at *
 generalize fA true 0 ((L.drop fr).take (to-fr))=rg at *
 simp [f135,It.dv,It.cs,hn,g1,g2,g1',g2',l1,l2,hw1,aa.dv,aa.cs]
theorem xG {s:List UInt8} {L:List aa} (hL:MOk s L) {t n:Nat} {tk:Tk} {nn:Bool} (h6:L≠[]→n=6) {fr to:Nat} (h1:fr<to) (h2:to≤L.length):(E tab).F 263 [.list t n tk nn (L.map aa.dv),.int .i64 fr,.int .i64 to] st=some ((cU L fr to).dv,st):=by
 rw [av af0 rfl]
 have hn:=fun st=>acd L hL.len hL.ok fr to (by omega) h2 t n tk nn h6 st
 obtain rfl:=h6 (by intro e;simp [e] at h2;omega)
 have hw1:IntKind.i64.wrap ((to:Int)-1)=((to-1:Nat):Int):=by have:=hL.len;rw [ar (by omega)];omega
 have g1:=iI (L:=L) (i:=fr) (by omega)
 have g2:=iI (L:=L) (i:=to-1) (by omega)
 have l1:fr<(L.map aa.dv).length:=by simp;omega
 have l2:to-1<(L.map aa.dv).length:=by simp;omega
 generalize L.map aa.dv=V at *
 have g1':V[fr]'l1=(L.getD fr mz).dv:=by rw [List.getElem?_eq_getElem l1] at g1;exact Option.some.inj g1
 have g2':V[to-1]'l2=(L.getD (to-1) mz).dv:=by rw [List.getElem?_eq_getElem l2] at g2;exact Option.some.inj g2
 simp only [cU]
 generalize L.getD fr mz=a at *
 generalize L.getD (to-1) mz=b at *
 generalize fA true 0 ((L.drop fr).take (to-fr))=rg at *
 simp [f263,It.dv,It.cs,hn,g1,g2,g1',g2',l1,l2,hw1,aa.dv,aa.cs]
end
def loI (st:St) (s:Nat):HO:=.loop (fh [(6,.ptr (st.heap.length+1) 0),(18,.fn 131 [] [.ptr (st.heap.length+2) 0,.ptr (st.heap.length+3) 0])] [19] (.region tc [6,7]) (.block 1 (.region tI [])) s none)
def HI (st:St) (P0 P1:List DV) (ov lv:DV) (fr s:Nat) (J:List HO):List HO:=
 .cells .plain P0::.cells .plain [ov]::.cells .plain P1::.cells .plain [lv]::loI st s::.cells .plain [.yield (st.heap.length+4)]::.cells .plain [.int .i64 fr]::J
section
variable {st:St} {P0 P1:List DV} {lv:DV} {J:List HO} {K:List Nat}
theorem xF {xs:List It} {ov:DV} {fr:Nat} (x:It) (hx:xs.length≤100000) (hA:Acc st K 8 (xs.map It.dv) ov) :
 ∃ ov' K',(E tab).V (.yield (st.heap.length+4)) [x.dv] (pst st (HI st P0 P1 ov lv fr 0 J) K)=some (.bool true,pst st (HI st P0 P1 ov' lv fr 0 (J++[.cells .plain x.cs])) K')∧Acc st K' 8 ((xs++[x]).map It.dv) ov':=by
 obtain ⟨v2,K2,e2,hA2⟩:=dh (H:=HI st P0 P1 ov lv fr 1 (J++[.cells .plain x.cs])) (t:=st.cur) (by_:=64) (ag:=true) (tk:=.tight) (ys:=[x.dv]) hA (by omega) (by simp) (by simp [FG]) (by simp [aw];omega) (by simp [aw];omega)
 refine ⟨v2,K2,?_,by simpa using hA2⟩
 have hA1:(E tab).C (.region tc [6,7]) (da [(6,.ptr (st.heap.length+1) 0),(18,.fn 131 [] [.ptr (st.heap.length+2) 0,.ptr (st.heap.length+3) 0])] [19] [x.dv]) (pst st (HI st P0 P1 ov lv fr 0 J) K) =
  some (.normal,[(6,.ptr (st.heap.length+1) 0),(7,.ptr (st.heap.length+(J.length+7)) 0)],pst st (HI st P0 P1 ov lv fr 0 (J++[.cells .plain x.cs])) K):=by
  simp [HI,It.dv,It.cs]
 have hB:(E tab).C (.block 1 (.region tI [])) [(6,.ptr (st.heap.length+1) 0),(7,.ptr (st.heap.length+(J.length+7)) 0)] (pst st ((HI st P0 P1 ov lv fr 0 (J++[.cells .plain x.cs])).set 4 (loI st 1)) K) =
  some (.normal,[],pst st (HI st P0 P1 v2 lv fr 1 (J++[.cells .plain x.cs])) K2):=by
  obtain ⟨t',n',tk',nn',rfl⟩:=bR hA2
  simp [HI,It.dv,It.cs] at e2 ⊢
  simp [aD,aR,chunk,e2]
 exact v5 (T:=tab) (k:=4) (H:=HI st P0 P1 ov lv fr 0 J) rfl rfl hA1 rfl ⟨_,hB⟩ rfl
theorem Md {L:List aa} {p:bk} {w u:LW} (hL:MOk p.text L) {t n:Nat} {tk:Tk} {nn:Bool} (h6:L≠[]→n=6) {ov:DV} {fr s k:Nat} (hk:k<L.length) :
 (E tab).F 133 [.int .i64 k,.ptr (st.heap.length+3) 0,.ptr (st.heap.length+2) 0] (pst st (HI st P0 (af p w u) ov (.list t n tk nn (L.map aa.dv)) fr s J) K)=some (.bool (eb p.text (L.getD k mz)),pst st (HI st P0 (af p w u) ov (.list t n tk nn (L.map aa.dv)) fr s J) K):=by
 rw [gm aek rfl]
 obtain rfl:=h6 (by intro e;simp [e] at hk)
 have g1:=iI (L:=L) hk
 have l1:k<(L.map aa.dv).length:=by simpa using hk
 have hm:=hL.at_ _ (List.mem_of_getElem? (getM hk))
 generalize L.map aa.dv=V at *
 have g1':V[k]'l1=(L.getD k mz).dv:=by rw [List.getElem?_eq_getElem l1] at g1;exact Option.some.inj g1
 generalize L.getD k mz=m at *
 have hb:p.text[m.a.toNat]? = some (bAt p.text m.a.toNat):=qD (by omega)
 have hlt:m.a.toNat<p.text.length:=by omega
 have hge:p.text[m.a.toNat]'hlt=bAt p.text m.a.toNat:=by rw [List.getElem?_eq_getElem hlt] at hb;exact Option.some.inj hb
 by_cases h2:m.k=2
 · by_cases h45:bAt p.text m.a.toNat=45
   · simp [f133,HI,g1,g1',l1,aa.dv,aa.cs,h2,hb,hge,hlt,hm.1,h45,eb]
   · have h45':(((bAt p.text m.a.toNat).toNat:Int)==45)=(bAt p.text m.a.toNat==45):=BA _ 45
     simp [f133,HI,g1,g1',l1,aa.dv,aa.cs,h2,hb,hge,hlt,hm.1,h45',eb]
 · simp [f133,HI,g1,g1',l1,aa.dv,aa.cs,h2,eb]
theorem Bl {L:List aa} {s:List UInt8} (hL:MOk s L) {t n:Nat} {tk:Tk} {nn:Bool} (h6:L≠[]→n=6) (h7:nn=true→n=6) {xs:List It} {ov:DV} {fr k:Nat} (hk:k≤L.length) (hx:xs.length≤100000) (hA:Acc st K 8 (xs.map It.dv) ov) :
 ∃ ov' J' K',(E tab).F 134 [.int .i64 k,.ptr (st.heap.length+6) 0,.ptr (st.heap.length+5) 0,.ptr (st.heap.length+3) 0] (pst st (HI st P0 P1 ov (.list t n tk nn (L.map aa.dv)) fr 0 J) K) =
   some (.bool true,pst st (HI st P0 P1 ov' (.list t n tk nn (L.map aa.dv)) fr 0 (J++J')) K')∧Acc st K' 8 ((xs++if fr<k then [cU L fr k] else []).map It.dv) ov':=by
 rw [gm ajG rfl]
 by_cases h:fr<k
 · have h':¬ (k:Int)≤fr:=by omega
   obtain ⟨ov',K',hy,hA'⟩:=xF (P0:=P0) (P1:=P1) (lv:=.list t n tk nn (L.map aa.dv)) (J:=J) (fr:=fr) (cU L fr k) hx hA
   have hb:=fun st=>SJ (st:=st) hL (t:=t) (n:=n) (tk:=tk) h6 h7 h hk
   refine ⟨ov',[.cells .plain (cU L fr k).cs],K',?_,by simpa [h] using hA'⟩
   generalize cU L fr k=x at *
   generalize L.map aa.dv=V at *
   simp [HI] at hy
   have h'':¬ k≤fr:=by omega
   simp [f134,HI,h',h'',hb,hy]
 · have h':(k:Int)≤fr:=by omega
   have h'':k≤fr:=by omega
   refine ⟨ov,[],K,?_,by simpa [h] using hA⟩
   generalize L.map aa.dv=V at *
   simp [f134,HI,h',h'']
end
def plV (t:Nat) (tk:Tk) (pl:List Bool):DV:=.list t 1 tk true (pl.map DV.bool)
section
variable {st:St} {P0:List DV}
theorem QT {L:List aa} {p:bk} {w u:LW} (hL:MOk p.text L) {t n:Nat} {tk:Tk} {nn:Bool} (h6:L≠[]→n=6) (h7:nn=true→n=6) {pl:List Bool} (hpl:pl.length=L.length+1) {t2:Nat} {tk2:Tk} :
 ∀ (r d:List aa) (run fr:Nat) (J:List HO) (K:List Nat) (xs:List It) (ov:DV),L=d++r→fr≤d.length→run≤d.length→xs.length≤3*d.length→Acc st K 8 (xs.map It.dv) ov →
 ∃ (ov':DV) (fr':Nat) (J':List HO) (K':List Nat) (X:List It) (y6:DV) (tl:Fr),
   (E tab).C im [(2,.ptr (st.heap.length+3) 0),(3,.ptr (st.heap.length+5) 0),(4,plV t2 tk2 pl),(5,.fn 133 [] [.ptr (st.heap.length+3) 0,.ptr (st.heap.length+2) 0]),(6,.int .i64 run),(7,.ptr (st.heap.length+6) 0),(8,.fn 134 [] [.ptr (st.heap.length+6) 0,.ptr (st.heap.length+5) 0,.ptr (st.heap.length+3) 0]),(17,.list t n tk nn (L.map aa.dv)),(18,.int .i64 L.length),(19,.int .i64 d.length)]
    (pst st (HI st P0 (af p w u) ov (.list t n tk nn (L.map aa.dv)) fr 0 J) K) =
   some (.exit 0,[(2,.ptr (st.heap.length+3) 0),(3,.ptr (st.heap.length+5) 0),(4,plV t2 tk2 pl),(5,.fn 133 [] [.ptr (st.heap.length+3) 0,.ptr (st.heap.length+2) 0]),(6,y6),(7,.ptr (st.heap.length+6) 0),(8,.fn 134 [] [.ptr (st.heap.length+6) 0,.ptr (st.heap.length+5) 0,.ptr (st.heap.length+3) 0])]++tl,
    pst st (HI st P0 (af p w u) ov' (.list t n tk nn (L.map aa.dv)) fr' 0 J') K')∧Acc st K' 8 ((xs++X).map It.dv) ov'∧(xs++X).length≤3*L.length∧aM p.text L pl d.length run fr r=X++(if fr'<L.length then [cU L fr' L.length] else []):=by
 have hlen:=hL.len
 intro r
 induction r with
 | nil=>
   intro d run fr J K xs ov hd hf hr hx hA
   obtain rfl:L=d:=by simpa using hd
   refine ⟨ov,fr,J,K,[],.int .i64 run,[(17,.list t n tk nn (L.map aa.dv)),(18,.int .i64 L.length),(19,.int .i64 L.length),(20,.bool false)],?_,by simpa using hA,by simpa using hx,by simp [aM]⟩
   generalize L.map aa.dv=V at *
   rw [ab (L:=im) rfl]
   simp [jM]
 | cons m r ih=>
   intro d run fr J K xs ov hd hf hr hx hA
   have h0:d.length<L.length:=by simp [hd]
   have hmem:m∈L:=by simp [hd]
   have hok:=List.all_eq_true.1 hL.ok m hmem
   have hsz:=hL.sz m hmem
   have hgm:L.getD d.length mz=m:=by simp [hd]
   have hw1:IntKind.i64.wrap ((d.length:Int)+1)=(d.length:Int)+1:=by rw [ar (by omega)]
   have hwm:IntKind.i64.wrap ((d.length:Int)-1)=(d.length:Int)-1:=by rw [ar (by omega)]
   obtain rfl:=h6 (by intro e;simp [e] at h0)
   have g1:=iI (L:=L) h0
   rw [hgm] at g1
   have l1:d.length<(L.map aa.dv).length:=by simpa using h0
   have hbx:=fun st=>Ed (st:=st) m
   have hln:=fun st=>JO (st:=st) m hok hsz
   have hhy:=fun st=>sI (st:=st) hsz
   have hsh:=fun (J:List HO)=>Bl (st:=st) (P0:=P0) (P1:=af p w u) (J:=J) (K:=K) (t:=t) (n:=6) (tk:=tk) (nn:=nn) hL (fun _=>rfl) (fun _=>rfl) (k:=d.length) (fr:=fr) (by omega) (by omega) hA
   have hds:=fun (J:List HO) (k:Nat) (hk:k<L.length)=>Md (st:=st) (P0:=P0) (w:=w) (u:=u) (J:=J) (K:=K) (ov:=ov) (fr:=fr) (s:=0) (t:=t) (n:=6) (tk:=tk) (nn:=nn) hL (fun _=>rfl) (k:=k) hk
   have hpd:(pl.map DV.bool)[d.length]? = some (.bool (pl.getD d.length false)):=by
    rw [List.getElem?_map,List.getElem?_eq_getElem (show d.length<pl.length by omega),List.getD_eq_getElem?_getD,List.getElem?_eq_getElem (show d.length<pl.length by omega)];rfl
   have lpd:d.length<(pl.map DV.bool).length:=by simp;omega
   cases hb:iY m with
   | false=>
     obtain ⟨ov1,J1,K1,hS,hA1⟩:=hsh (J++[.cells .plain m.cs])
     have hxl:(xs++if fr<d.length then [cU L fr d.length] else []).length≤3*d.length+1:=by split<;>simp<;>omega
     obtain ⟨ov2,K2,hY,hA2⟩:=xF (st:=st) (P0:=P0) (P1:=af p w u) (lv:=.list t 6 tk nn (L.map aa.dv)) (J:=(J++[.cells .plain m.cs])++J1) (fr:=fr) (fZ m) (by omega) hA1
     obtain ⟨ov',fr',J',K',X,y6,tl,hJ,a1,a2,a3⟩:=ih (d++[m]) (d.length+1) (d.length+1) (((J++[.cells .plain m.cs])++J1)++[.cells .plain (fZ m).cs]) K2 ((xs++if fr<d.length then [cU L fr d.length] else [])++[fZ m]) ov2 (by simp [hd]) (by simp) (by simp) (by
      rw [List.length_append];simp only [List.length_append,List.length_singleton] at hxl ⊢;omega) hA2
     refine ⟨ov',fr',J',K',(if fr<d.length then [cU L fr d.length] else [])++fZ m::X,y6,tl,?_,by simpa using a1,by simpa using a2,?_⟩
     · generalize L.map aa.dv=V at *
       have g1':V[d.length]'l1=m.dv:=by rw [List.getElem?_eq_getElem l1] at g1;exact Option.some.inj g1
       rw [hb] at hbx
       simp only [HI,List.append_assoc,List.cons_append,List.nil_append] at hS hY hJ ⊢
       simp only [aa.dv,aa.cs] at hbx hln hS hY hJ g1'
       simp at hS hY hJ
       rw [ab (L:=im) rfl]
       simp [jM,h0,g1,g1',l1,hbx,hln,hS,hY,dT,hw1,hJ,aa.dv,aa.cs]
     · simp only [List.length_append,List.length_singleton] at a3
       simp only [aM,hb,if_true,a3,List.append_assoc,List.cons_append]
   | true=>
     by_cases hkf:fr=d.length
     · obtain ⟨ov',fr',J',K',X,y6,tl,hJ,a1,a2,a3⟩:=ih (d++[m]) run fr (J++[.cells .plain m.cs]) K xs ov (by simp [hd]) (by simp;omega) (by simp;omega) (by simp;omega) hA
       refine ⟨ov',fr',J',K',X,y6,tl,?_,a1,a2,?_⟩
       · generalize L.map aa.dv=V at *
         have g1':V[d.length]'l1=m.dv:=by rw [List.getElem?_eq_getElem l1] at g1;exact Option.some.inj g1
         rw [hb] at hbx
         subst hkf
         simp only [HI,List.append_assoc,List.cons_append,List.nil_append] at hJ ⊢
         simp only [aa.dv,aa.cs] at hbx hJ g1'
         simp at hJ
         rw [ab (L:=im) rfl]
         simp [jM,h0,g1,g1',l1,hbx,hw1,hJ,aa.dv,aa.cs]
       · simp only [List.length_append,List.length_singleton] at a3
         simp only [aM,hb,hkf,if_true,Bool.true_eq_false,if_false]
         rw [← hkf] at a3 ⊢
         rw [← a3,hkf]
     · have hkf':¬ (d.length:Int)=fr:=by omega
       have hkf2:¬ d.length=fr:=by omega
       have hfl:fr<d.length:=by omega
       have hif:(if fr<d.length then [cU L fr d.length] else [])=[cU L fr d.length]:=if_pos hfl
       rw [hif] at hsh
       have fin:∀ q:It,(aM p.text L pl d.length run fr (m::r)=cU L fr d.length::q::aM p.text L pl (d.length+1) run d.length r) →
        ∃ (ov':DV) (fr':Nat) (J':List HO) (K':List Nat) (X:List It) (y6:DV) (tl:Fr) (ov1 ov2:DV) (J1:List HO) (K1 K2:List Nat),
        (E tab).F 134 [.int .i64 d.length,.ptr (st.heap.length+6) 0,.ptr (st.heap.length+5) 0,.ptr (st.heap.length+3) 0] (pst st (HI st P0 (af p w u) ov (.list t 6 tk nn (L.map aa.dv)) fr 0 (J++[.cells .plain m.cs,.cells .plain q.cs])) K) =
         some (.bool true,pst st (HI st P0 (af p w u) ov1 (.list t 6 tk nn (L.map aa.dv)) fr 0 ((J++[.cells .plain m.cs,.cells .plain q.cs])++J1)) K1) ∧
        (E tab).V (.yield (st.heap.length+4)) [q.dv] (pst st (HI st P0 (af p w u) ov1 (.list t 6 tk nn (L.map aa.dv)) fr 0 ((J++[.cells .plain m.cs,.cells .plain q.cs])++J1)) K1) =
         some (.bool true,pst st (HI st P0 (af p w u) ov2 (.list t 6 tk nn (L.map aa.dv)) fr 0 (((J++[.cells .plain m.cs,.cells .plain q.cs])++J1)++[.cells .plain q.cs])) K2) ∧
        (E tab).C im [(2,.ptr (st.heap.length+3) 0),(3,.ptr (st.heap.length+5) 0),(4,plV t2 tk2 pl),(5,.fn 133 [] [.ptr (st.heap.length+3) 0,.ptr (st.heap.length+2) 0]),(6,.int .i64 run),(7,.ptr (st.heap.length+6) 0),(8,.fn 134 [] [.ptr (st.heap.length+6) 0,.ptr (st.heap.length+5) 0,.ptr (st.heap.length+3) 0]),(17,.list t 6 tk nn (L.map aa.dv)),(18,.int .i64 L.length),(19,.int .i64 (d.length+1:Nat))]
         (pst st (HI st P0 (af p w u) ov2 (.list t 6 tk nn (L.map aa.dv)) d.length 0 (((J++[.cells .plain m.cs,.cells .plain q.cs])++J1)++[.cells .plain q.cs])) K2) =
        some (.exit 0,[(2,.ptr (st.heap.length+3) 0),(3,.ptr (st.heap.length+5) 0),(4,plV t2 tk2 pl),(5,.fn 133 [] [.ptr (st.heap.length+3) 0,.ptr (st.heap.length+2) 0]),(6,y6),(7,.ptr (st.heap.length+6) 0),(8,.fn 134 [] [.ptr (st.heap.length+6) 0,.ptr (st.heap.length+5) 0,.ptr (st.heap.length+3) 0])]++tl,
         pst st (HI st P0 (af p w u) ov' (.list t 6 tk nn (L.map aa.dv)) fr' 0 J') K')∧Acc st K' 8 ((xs++X).map It.dv) ov'∧(xs++X).length≤3*L.length∧aM p.text L pl d.length run fr (m::r)=X++(if fr'<L.length then [cU L fr' L.length] else []):=by
        intro q hq
        obtain ⟨ov1,J1,K1,hS,hA1⟩:=hsh (J++[.cells .plain m.cs,.cells .plain q.cs])
        obtain ⟨ov2,K2,hY,hA2⟩:=xF (st:=st) (P0:=P0) (P1:=af p w u) (lv:=.list t 6 tk nn (L.map aa.dv)) (J:=(J++[.cells .plain m.cs,.cells .plain q.cs])++J1) (fr:=fr) q (by simp;omega) hA1
        obtain ⟨ov',fr',J',K',X,y6,tl,hJ,a1,a2,a3⟩:=ih (d++[m]) run d.length (((J++[.cells .plain m.cs,.cells .plain q.cs])++J1)++[.cells .plain q.cs]) K2 ((xs++[cU L fr d.length])++[q]) ov2 (by simp [hd]) (by simp) (by simp;omega) (by simp;omega) hA2
        simp only [List.length_append,List.length_singleton] at hJ a3
        refine ⟨ov',fr',J',K',cU L fr d.length::q::X,y6,tl,ov1,ov2,J1,K1,K2,hS,hY,hJ,by simpa using a1,by simpa using a2,?_⟩
        rw [hq,a3];rfl
       cases hp:pl.getD d.length false with
       | true=>
         have hq:aM p.text L pl d.length run fr (m::r)=cU L fr d.length::rj m::aM p.text L pl (d.length+1) run d.length r:=by
          simp only [aM,hb,hkf2,hp,if_false,if_true,Bool.true_eq_false]
         obtain ⟨ov',fr',J',K',X,y6,tl,ov1,ov2,J1,K1,K2,hS,hY,hJ,a1,a2,a3⟩:=fin (rj m) hq
         refine ⟨ov',fr',J',K',X,y6,tl,?_,a1,a2,a3⟩
         rw [hp] at hpd
         generalize L.map aa.dv=V at *
         have g1':V[d.length]'l1=m.dv:=by rw [List.getElem?_eq_getElem l1] at g1;exact Option.some.inj g1
         simp only [plV] at hJ ⊢
         generalize pl.map DV.bool=PL at *
         have p1':PL[d.length]'lpd=.bool true:=by rw [List.getElem?_eq_getElem lpd] at hpd;exact Option.some.inj hpd
         rw [hb] at hbx
         simp only [HI,List.append_assoc,List.cons_append,List.nil_append] at hS hY hJ ⊢
         simp only [aa.dv,aa.cs,rj,It.dv,It.cs] at hbx hS hY hJ g1'
         simp at hS hY hJ
         rw [ab (L:=im) rfl]
         simp [jM,h0,g1,g1',l1,hbx,hkf',hkf2,hpd,p1',lpd,hhy,hS,hY,dT,hw1,hJ,aa.dv,aa.cs]
       | false=>
         have hd1:=hds (J++[.cells .plain m.cs,.cells .plain [.int .i64 3,.int .i64 m.a,.int .i64 m.a,.int .i64 0,.int .i64 0,.int .i64 0,.int .i64 0,.bool false]]) (d.length-1) (by omega)
         have hd2:=hds (J++[.cells .plain m.cs,.cells .plain [.int .i64 3,.int .i64 m.a,.int .i64 m.a,.int .i64 0,.int .i64 0,.int .i64 0,.int .i64 0,.bool false]]) d.length h0
         have hcz:((d.length-1:Nat):Int)=(d.length:Int)-1:=by omega
         rw [hcz] at hd1
         rw [hgm] at hd2
         cases hdash:eb p.text (L.getD (d.length-1) mz) && !eb p.text m&&decide (run<d.length-1) with
         | true=>
           have hq:aM p.text L pl d.length run fr (m::r)=cU L fr d.length::rH m::aM p.text L pl (d.length+1) run d.length r:=by
            simp only [aM,hb,hkf2,hp,hdash,if_false,if_true,Bool.true_eq_false,Bool.false_eq_true]
           obtain ⟨ov',fr',J',K',X,y6,tl,ov1,ov2,J1,K1,K2,hS,hY,hJ,a1,a2,a3⟩:=fin (rH m) hq
           refine ⟨ov',fr',J',K',X,y6,tl,?_,a1,a2,a3⟩
           simp only [Bool.and_eq_true,Bool.not_eq_true',decide_eq_true_eq] at hdash
           obtain ⟨⟨q1,q2⟩,q3⟩:=hdash
           have q3':(run:Int)<(d.length:Int)-1:=by omega
           rw [q1] at hd1
           rw [q2] at hd2
           rw [hp] at hpd
           generalize L.map aa.dv=V at *
           have g1':V[d.length]'l1=m.dv:=by rw [List.getElem?_eq_getElem l1] at g1;exact Option.some.inj g1
           simp only [plV] at hJ ⊢
           generalize pl.map DV.bool=PL at *
           have p1':PL[d.length]'lpd=.bool false:=by rw [List.getElem?_eq_getElem lpd] at hpd;exact Option.some.inj hpd
           rw [hb] at hbx
           simp only [HI,List.append_assoc,List.cons_append,List.nil_append] at hS hY hJ hd1 hd2 ⊢
           simp only [aa.dv,aa.cs,rH,It.dv,It.cs] at hbx hS hY hJ hd1 hd2 g1'
           simp at hS hY hJ hd1 hd2
           rw [ab (L:=im) rfl]
           simp [jM,h0,g1,g1',l1,hbx,hkf',hkf2,hpd,p1',lpd,hwm,hd1,hd2,q3',hS,hY,dT,hw1,hJ,aa.dv,aa.cs]
         | false=>
           have hq:aM p.text L pl d.length run fr (m::r)=aM p.text L pl (d.length+1) run fr r:=by
            simp only [aM,hb,hkf2,hp,hdash,if_false,Bool.true_eq_false,Bool.false_eq_true]
           obtain ⟨ov',fr',J',K',X,y6,tl,hJ,a1,a2,a3⟩:=ih (d++[m]) run fr (J++[.cells .plain m.cs,.cells .plain [.int .i64 3,.int .i64 m.a,.int .i64 m.a,.int .i64 0,.int .i64 0,.int .i64 0,.int .i64 0,.bool false]]) K xs ov (by simp [hd]) (by simp;omega) (by simp;omega) (by simp;omega) hA
           simp only [List.length_append,List.length_singleton] at hJ a3
           refine ⟨ov',fr',J',K',X,y6,tl,?_,a1,a2,by rw [hq,a3]⟩
           rw [hp] at hpd
           generalize L.map aa.dv=V at *
           have g1':V[d.length]'l1=m.dv:=by rw [List.getElem?_eq_getElem l1] at g1;exact Option.some.inj g1
           simp only [plV] at hJ ⊢
           generalize pl.map DV.bool=PL at *
           have p1':PL[d.length]'lpd=.bool false:=by rw [List.getElem?_eq_getElem lpd] at hpd;exact Option.some.inj hpd
           rw [hb] at hbx
           simp only [HI,List.append_assoc,List.cons_append,List.nil_append] at hJ hd1 hd2 ⊢
           simp only [aa.dv,aa.cs] at hbx hJ hd1 hd2 g1'
           cases q1:eb p.text (L.getD (d.length-1) mz) with
           | false=>
             rw [q1] at hd1
             simp at hJ hd1
             rw [ab (L:=im) rfl]
             simp [jM,h0,g1,g1',l1,hbx,hkf',hkf2,hpd,p1',lpd,hwm,hd1,dT,hw1,hJ,aa.dv,aa.cs]
           | true=>
             rw [q1] at hd1 hdash
             cases q2:eb p.text m with
             | true=>
               rw [q2] at hd2
               simp at hJ hd1 hd2
               rw [ab (L:=im) rfl]
               simp [jM,h0,g1,g1',l1,hbx,hkf',hkf2,hpd,p1',lpd,hwm,hd1,hd2,dT,hw1,hJ,aa.dv,aa.cs]
             | false=>
               rw [q2] at hd2 hdash
               have q3:¬ run<d.length-1:=by simpa using hdash
               have q3':¬ (run:Int)<(d.length:Int)-1:=by omega
               simp at hJ hd1 hd2
               rw [ab (L:=im) rfl]
               simp [jM,h0,g1,g1',l1,hbx,hkf',hkf2,hpd,p1',lpd,hwm,hd1,hd2,q3',dT,hw1,hJ,aa.dv,aa.cs]
end
def gd (_s:List UInt8) (L:List aa) (_hy:Int):List Bool:=List.replicate (L.length+1) false
theorem mD (s:List UInt8) (L:List aa) (hy:Int):(gd s L hy).length=L.length+1:=by simp [gd]
section
variable {st:St}
theorem En {L:List aa} {p:bk} {w u:LW} (hy:p.pr.a0=0) (hL:MOk p.text L) {t n:Nat} {tk:Tk} {nn:Bool} (h6:L≠[]→n=6) :
 ∃ t',(E tab).F 132 [.agg (af p w u),.list t n tk nn (L.map aa.dv)] st=some (.list t' 1 .tight true ((gd p.text L p.pr.a0).map DV.bool),st):=by
 have hlen:=hL.len
 have hV0:(L.map aa.dv).length=L.length:=by simp
 have hel:∀ (b:List Bool),∀ y∈b.map DV.bool,dq 1 false y:=by intro b y hy;obtain ⟨c,_,rfl⟩:=List.mem_map.1 hy;exact ⟨rfl,rfl,rfl⟩
 have hw1:IntKind.i64.wrap ((L.length:Int)+1)=(L.length:Int)+1:=by rw [ar (by omega)]
 have hroom:((L.length:Int)+1)≤140737488355328:=by omega
 have hroom2:L.length+1≤140737488355328:=by omega
 have hpos:(0:Int)≤(L.length:Int)+1:=by omega
 have htn:((L.length:Int)+1).toNat=L.length+1:=by omega
 have hrep:aR [DV.bool false] (L.length+1)=(List.replicate (L.length+1) false).map DV.bool:=by rw [me,List.map_replicate]
 have ph:(af p w u)[14]? = some (.int .i64 p.pr.a0):=rfl
 have hpl:=mD p.text L p.pr.a0
 have hex:∀ (G:List HO) (K:List Nat),rowAt G 1=some (.plain,(gd p.text L p.pr.a0).map DV.bool)→aX st (pst st G K) (.hsl 1 false (st.heap.length+1) 0 (L.length+1) (some (L.length+1)))=some (.list st.cur 1 .tight true ((gd p.text L p.pr.a0).map DV.bool)):=by
  intro G K h
  have hfl:=kQ _ (hel (gd p.text L p.pr.a0))
  have:=xS (st:=st) (H:=G) (K:=K) (k:=1) (n:=1) (ag:=false) (g:=.plain) (ys:=(gd p.text L p.pr.a0).map DV.bool) (cap:=some (L.length+1)) (by rw [hfl];exact h) (by omega) (.inr rfl) (hel _)
  rw [List.length_map,hpl,if_pos rfl] at this
  exact this
 refine ⟨st.cur,?_⟩
 rw [av aiM rfl]
 have e:gd p.text L p.pr.a0=List.replicate (L.length+1) false:=rfl
 have hx:=hex [.cells .plain (af p w u),.cells .plain ((List.replicate (L.length+1) false).map DV.bool)] [] (by rw [e];rfl)
 rw [e] at hx ⊢
 rw [hy] at ph
 generalize (List.replicate (L.length+1) false).map DV.bool=Z at *
 generalize L.map aa.dv=V at *
 simp [f132,hV0,hw1,aw,hroom,hroom2,hpos,htn,hrep,ph,hx]
end
def dY (p:bk):Bool:=decide (2≤p.pr.drop)&&(decide (0<(aA p).length)&&((aA p).getD 0 mz).k==1)
def bJ (p:bk):List aa:=if dY p=true then (aA p).drop 1 else aA p
def bE (p:bk):List It:=aM p.text (bJ p) (gd p.text (bJ p) p.pr.a0) 0 0 0 (bJ p)
theorem lS (p:bk):∀ (l:List Clu) (kr:Bool) (bf:UInt8) (ps:Int) (mk:List (List UInt8)),∀ m∈cN p kr bf ps mk l,∃ c∈l,m.a=c.a∧m.s=sizeOf p c.a
 | [],_,_,_,_,m,h=>by cases h
 | c::r,kr,bf,ps,mk,m,h=>by
   simp only [cN] at h
   rcases List.mem_cons.1 h with rfl | h
   · exact ⟨c,by simp,rfl,rfl⟩
   · obtain ⟨c',h1,h2⟩:=lS p r _ _ _ _ m h
     exact ⟨c',by simp [h1],h2⟩
theorem kZ (p:bk):MOk p.text (aA p):=by
 refine ⟨Ch p,Fq p,?_,?_⟩
 · intro m hm
   unfold aA at hm
   split at hm
   · obtain ⟨c,hc,h1,_⟩:=lS p _ _ _ _ _ m hm
     have:=qf (kq p.text p.text.length 0).1 c hc
     rw [h1];omega
   · cases hm
 · intro m hm
   unfold aA at hm
   split at hm
   · rename_i h0
     obtain ⟨_,_,hsp,hpr,_⟩:=cH h0
     obtain ⟨c,hc,_,h2⟩:=lS p _ _ _ _ _ m hm
     have hS:kL p.aC:=by
      unfold cB at hsp
      cases e:cu p.text.length p.aC with
      | none=>rw [e] at hsp;simp at hsp
      | some k=>exact (jm _ _ _ e).1
     have:=k9 p hpr hS c.a
     rw [h2];exact ⟨this.1,this.2.1⟩
   · cases hm
theorem MOk.drop {s:List UInt8} {L:List aa} (h:MOk s L) (n:Nat):MOk s (L.drop n):=
 ⟨by rw [List.length_drop];have:=h.len;omega,List.all_eq_true.2 fun m hm=>List.all_eq_true.1 h.ok m (List.mem_of_mem_drop hm),fun m hm=>h.at_ m (List.mem_of_mem_drop hm),fun m hm=>h.sz m (List.mem_of_mem_drop hm)⟩
theorem ni (p:bk):MOk p.text (bJ p):=by
 unfold bJ;split
 · exact (kZ p).drop 1
 · exact kZ p
def mX (tk:Tk):Tk:=match tk with | .own _ _=>.no | k=>k
theorem exl (st st':St) (tag n:Nat) (tk:Tk) (nn:Bool) (xs:List DV):aX st st' (.list tag n tk nn xs)=some (.list tag n (mX tk) nn xs):=by cases tk<;>rfl
@[simp] theorem KD (l:Nat):(DV.yield l).leaves=[.yield l]:=rfl
section
variable {st:St} {p:bk} {w u:LW}
theorem xU:(af p w u)[16]? = some (.int .i64 p.pr.drop):=rfl
theorem KS (hp:p.small) (hw:w.ok 4 p.aC) (hu:u.ok 1 p.marks):∃ v:LW,(E tab).F 117 [.agg (af p w u)] st=some (.tuple [.list v.t v.n v.tk v.nn ((if ax p=0 then bJ p else []).map aa.dv),.int .i64 (ax p)],st)∧v.ok 6 (if ax p=0 then bJ p else []):=by
 rw [av aea rfl]
 obtain ⟨_,hm,v,rfl,hv⟩:=vC p hp w u hw hu (pst st [.cells .plain (af p w u)] [])
 have hpd:=xU (p:=p) (w:=w) (u:=u)
 by_cases h0:ax p=0
 · have hV0:((aA p).map aa.dv).length=(aA p).length:=by simp
   rw [if_pos h0]
   unfold bJ dY
   by_cases h1:2≤p.pr.drop
   · by_cases h2:0<(aA p).length
     · have h2':(0:Int)<(aA p).length:=by omega
       have hvn:=hv.n (by intro e;rw [e] at h2;simp at h2)
       have g0:=iI (L:=aA p) h2
       have l0:0<((aA p).map aa.dv).length:=by simpa using h2
       by_cases h3:((aA p).getD 0 mz).k=1
       · rw [if_pos (by simp only [h1,h2,h3,decide_true,Bool.true_and,beq_self_eq_true])]
         have hs:=l8 (n:=6) (en:=v.n) (t:=v.t) (tk:=v.tk) (nn:=v.nn) (xs:=(aA p).map aa.dv) (k:=.i64) (lo:=1) (fun _=>hvn) (by omega) (by simp;omega)
         refine ⟨⟨v.t,v.n,mX (qA v.tk ((aA p).map aa.dv).length 1 ((aA p).map aa.dv).length),v.nn⟩,?_,fun e=>hvn,fun e=>by have:=hv.2 e;simp [this]⟩
         have hdr:((aA p).map aa.dv).drop (1:Int).toNat=((aA p).drop 1).map aa.dv:=by rw [List.map_drop];rfl
         rw [hdr] at hs
         generalize ((aA p).drop 1).map aa.dv=D at *
         generalize (aA p).getD 0 mz=m at *
         generalize (aA p).map aa.dv=V at *
         have g0':V[0]'l0=m.dv:=by rw [List.getElem?_eq_getElem l0] at g0;exact Option.some.inj g0
         rw [hvn] at hm hs ⊢
         have hVl:V.length=(aA p).length:=hV0
         rw [hVl] at hs ⊢
         simp only [show (1:Int).toNat=1 from rfl] at hs
         simp [-dJ,exl,f117,hm,h0,hpd,h1,hV0,h2,h2',g0,g0',l0,aa.dv,aa.cs,h3,hs]
       · have h3b:(((aA p).getD 0 mz).k==1)=false:=by rw [beq_eq_false_iff_ne];exact h3
         rw [if_neg (by rw [h3b];simp)]
         refine ⟨⟨v.t,v.n,mX v.tk,v.nn⟩,?_,hv⟩
         generalize (aA p).getD 0 mz=m at *
         generalize (aA p).map aa.dv=V at *
         have g0':V[0]'l0=m.dv:=by rw [List.getElem?_eq_getElem l0] at g0;exact Option.some.inj g0
         rw [hvn] at hm
         simp [-dJ,exl,f117,hm,h0,hpd,h1,hV0,h2,h2',g0,g0',l0,aa.dv,aa.cs,h3,hvn]
     · have h2':¬ (0:Int)<(aA p).length:=by omega
       rw [if_neg (by simp [h2])]
       refine ⟨⟨v.t,v.n,mX v.tk,v.nn⟩,?_,hv⟩
       generalize (aA p).map aa.dv=V at *
       simp [-dJ,exl,f117,hm,h0,hpd,h1,hV0,h2,h2']
   · rw [if_neg (by simp [h1])]
     refine ⟨⟨v.t,v.n,mX v.tk,v.nn⟩,?_,hv⟩
     generalize (aA p).map aa.dv=V at *
     simp [-dJ,exl,f117,hm,h0,hpd,h1]
 · have hm0:aA p=[]:=by unfold aA;rw [if_neg h0]
   rw [hm0] at hm hv
   rw [if_neg h0]
   refine ⟨⟨v.t,v.n,mX v.tk,v.nn⟩,?_,hv⟩
   simp at hm
   simp [-dJ,exl,f117,hm,h0]
theorem Ib {L:List aa} (hy:p.pr.a0=0) (hL:MOk p.text L) {t n:Nat} {tk:Tk} {nn:Bool} (h6:L≠[]→n=6) (h7:nn=true→n=6) (P0:List DV):∃ (ov:DV) (fr:Nat) (J:List HO) (K:List Nat),
 (E tab).F 131 [.yield (st.heap.length+4),.ptr (st.heap.length+2) 0,.ptr (st.heap.length+3) 0] (pst st [.cells .plain P0,.cells .plain [.list 0 0 .no false []],.cells .plain (af p w u),.cells .plain [.list t n tk nn (L.map aa.dv)],loI st 0] []) =
  some (.tuple [],pst st (HI st P0 (af p w u) ov (.list t n tk nn (L.map aa.dv)) fr 0 J) K)∧Acc st K 8 ((aM p.text L (gd p.text L p.pr.a0) 0 0 0 L).map It.dv) ov:=by
 obtain ⟨t2,hwd⟩:=En (st:=pst st [.cells .plain P0,.cells .plain [.list 0 0 .no false []],.cells .plain (af p w u),.cells .plain [.list t n tk nn (L.map aa.dv)],loI st 0,.cells .plain [.yield (st.heap.length+4)]] []) (w:=w) (u:=u) hy hL (t:=t) (n:=n) (tk:=tk) (nn:=nn) h6
 obtain ⟨ov',fr',J',K',X,y6,tl,hJ,a1,a2,a3⟩:=QT (st:=st) (P0:=P0) (w:=w) (u:=u) hL (t:=t) (n:=n) (tk:=tk) (nn:=nn) h6 h7 (mD p.text L p.pr.a0) (t2:=t2) (tk2:=.tight) L [] 0 0 [] [] [] (.list 0 0 .no false []) rfl (Nat.le_refl _) (Nat.le_refl _) (by simp) (bX _ _ _ _ _ _)
 simp only [List.nil_append] at a1 a2
 obtain ⟨ov2,J2,K2,hS,hA2⟩:=Bl (st:=st) (P0:=P0) (P1:=af p w u) (J:=J') (t:=t) (n:=n) (tk:=tk) (nn:=nn) (fr:=fr') hL h6 h7 (k:=L.length) (Nat.le_refl _) (by have:=hL.len;omega) a1
 refine ⟨ov2,fr',J'++J2,K2,?_,by rw [List.length_nil] at a3;rw [a3];exact hA2⟩
 rw [gm MS rfl]
 have hV0:(L.map aa.dv).length=L.length:=by simp
 simp only [plV] at hJ
 generalize (gd p.text L p.pr.a0).map DV.bool=PL at *
 generalize L.map aa.dv=V at *
 simp only [HI] at hS hJ ⊢
 simp at hS hJ
 have hpa:takeN (af p w u) 0 21 true=some (.agg (af p w u)):=rfl
 simp [f131,hwd,hV0,hJ,dT,hS]
theorem Fo (hy:p.pr.a0=0) (hp:p.small) (hw:w.ok 4 p.aC) (hu:u.ok 1 p.marks):∃ v,(E tab).F 106 [.agg (af p w u)] st=some (.tuple [v,.int .i64 (ax p)],st)∧Lw 8 ((if ax p=0 then bE p else []).map It.dv) v:=by
 rw [av afr rfl]
 obtain ⟨v,hb,hv⟩:=KS (st:=pst st [.cells .plain (af p w u)] []) hp hw hu
 by_cases h0:ax p=0
 · rw [if_pos h0] at hb hv ⊢
   obtain ⟨ov,fr,J,K,hwk,hA⟩:=Ib (st:=st) (p:=p) (w:=w) (u:=u) hy (ni p) (t:=v.t) (tk:=v.tk) hv.n hv.1 (af p w u)
   have hrf:=kj (T:=tab) (st:=st) (H:=[.cells .plain (af p w u),.cells .plain [.list 0 0 .no false []],.cells .plain (af p w u),.cells .plain [.list v.t v.n v.tk v.nn ((bJ p).map aa.dv)]]) (K:=[]) (f:=.t 18) (params:=[19]) (live:=[6,18]) (assign:=.region tc [6,7]) (body:=.block 1 (.region tI []))
    (fr:=[(6,.ptr (st.heap.length+1) 0),(18,.fn 131 [] [.ptr (st.heap.length+2) 0,.ptr (st.heap.length+3) 0])]) (g:=131) (first:=[]) (captured:=[.ptr (st.heap.length+2) 0,.ptr (st.heap.length+3) 0]) rfl MS hwk rfl (by decide)
   have h118:(E tab).F 118 [.agg (af p w u),.list v.t v.n v.tk v.nn ((bJ p).map aa.dv)] (pst st [.cells .plain (af p w u),.cells .plain [.list 0 0 .no false []]] [])=some (.fn 131 [] [.ptr (st.heap.length+2) 0,.ptr (st.heap.length+3) 0],pst st [.cells .plain (af p w u),.cells .plain [.list 0 0 .no false []],.cells .plain (af p w u),.cells .plain [.list v.t v.n v.tk v.nn ((bJ p).map aa.dv)]] []):=by
    rw [gm acQ rfl]
    simp [f118]
   have hA':=gR (st':=pst st ((HI st (af p w u) (af p w u) ov (.list v.t v.n v.tk v.nn ((bJ p).map aa.dv)) fr 0 J).set 4 (loI st 3)) K) hA
   obtain ⟨t',n',tk',nn',e1,e2,e3,e4⟩:=hA'
   refine ⟨.list t' n' tk' nn' ((bE p).map It.dv),?_,.list _ _ _ _ e3 e2⟩
   obtain ⟨q1,q2,q3,q4,rfl⟩:=bR hA
   rw [h0] at hb ⊢
   have e1':bZ st (pst st ((HI st (af p w u) (af p w u) (.list q1 q2 q3 q4 ((aM p.text (bJ p) (gd p.text (bJ p) p.pr.a0) 0 0 0 (bJ p)).map It.dv)) (.list v.t v.n v.tk v.nn ((bJ p).map aa.dv)) fr 0 J).set 4 (loI st 3)) K) (.list q1 q2 q3 q4 ((aM p.text (bJ p) (gd p.text (bJ p) p.pr.a0) 0 0 0 (bJ p)).map It.dv))=_:=e1
   unfold bE
   generalize (aM p.text (bJ p) (gd p.text (bJ p) p.pr.a0) 0 0 0 (bJ p)).map It.dv=X at *
   generalize (bJ p).map aa.dv=V at *
   simp only [HI] at hrf e1'
   simp only [loI] at hrf e1'
   simp at hrf e1'
   simp [f106,hb,h118,hrf,e1']
 · rw [if_neg h0] at hb hv ⊢
   refine ⟨.list 0 0 .no false [],?_,.list _ _ _ _ (fun h=>by cases h) (fun _=>rfl)⟩
   simp at hb
   simp [f106,hb,h0]
end
def tv (L:List aa) (k:Nat):Bool:=decide (0<k)&&((L.getD k mz).k==1&&((L.getD (k-1) mz).k==1&&(L.getD k mz).s==(L.getD (k-1) mz).s))
section
variable {st:St}
theorem Co {L:List aa} {t n:Nat} {tk:Tk} {nn:Bool} (h6:L≠[]→n=6) (hlen:L.length≤4096) {k:Nat} (hk:k<L.length):(E tab).F 274 [.list t n tk nn (L.map aa.dv),.int .i64 k] st=some (.bool (tv L k),st):=by
 rw [av ajY rfl]
 obtain rfl:=h6 (by intro e;simp [e] at hk)
 have hw1:IntKind.i64.wrap ((k:Int)-1)=(k:Int)-1:=by rw [ar (by omega)]
 have g1:=iI (L:=L) hk
 have l1:k<(L.map aa.dv).length:=by simpa using hk
 have g2:=iI (L:=L) (i:=k-1) (by omega)
 have l2:k-1<(L.map aa.dv).length:=by simp;omega
 generalize L.map aa.dv=V at *
 have g1':V[k]'l1=(L.getD k mz).dv:=by rw [List.getElem?_eq_getElem l1] at g1;exact Option.some.inj g1
 have g2':V[k-1]'l2=(L.getD (k-1) mz).dv:=by rw [List.getElem?_eq_getElem l2] at g2;exact Option.some.inj g2
 unfold tv
 generalize L.getD k mz=x at *
 generalize L.getD (k-1) mz=y at *
 by_cases h0:0<k
 · have ht:((k:Int)-1).toNat=k-1:=by omega
   have hp:(1:Int)≤(k:Int):=by omega
   by_cases h1:x.k=1
   · by_cases h2:y.k=1
     · simp [yb,h0,g1,g1',l1,g2,g2',l2,hw1,ht,hp,aa.dv,aa.cs,h1,h2]
     · simp [yb,h0,g1,g1',l1,g2,g2',l2,hw1,ht,hp,aa.dv,aa.cs,h1,h2]
   · simp [yb,h0,g1,g1',l1,aa.dv,aa.cs,h1]
 · simp [yb,h0]
theorem Xc {L:List aa} {p:bk} {w u:LW} (hy:p.pr.a0=0) (hL:MOk p.text L) (htl:p.text.length≤4096) {t n:Nat} {tk:Tk} {nn:Bool} (h6:L≠[]→n=6):∀ (f a:Nat) (pl:List Bool) (G:List HO) (K:List Nat),a+f=L.length→pl.length=L.length+1→rowAt G 0=some (.plain,af p w u)→rowAt G 1=some (.plain,pl.map DV.bool) →
 ∃ (G':List HO) (K':List Nat) (tl:Fr),(E tab).C nU [(1,.list t n tk nn (L.map aa.dv)),(2,.ptr st.heap.length 0),(5,.hsl 1 false (st.heap.length+1) 0 (L.length+1) (some (L.length+1))),(6,.int .i64 a)] (pst st G K) =
   some (.exit 0,[(1,.list t n tk nn (L.map aa.dv)),(2,.ptr st.heap.length 0),(5,.hsl 1 false (st.heap.length+1) 0 (L.length+1) (some (L.length+1)))]++tl,pst st G' K')∧rowAt G' 1=some (.plain,pl.map DV.bool):=by
 have hlen:=hL.len
 have hV0:(L.map aa.dv).length=L.length:=by simp
 have ph:(af p w u)[14]? = some (.int .i64 p.pr.a0):=rfl
 intro f
 induction f with
 | zero=>
   intro a pl G K h1 h3 hr0 hr1
   obtain rfl:a=L.length:=by omega
   refine ⟨G,K,[(6,.int .i64 L.length),(19,.bool false)],?_,hr1⟩
   generalize L.map aa.dv=V at *
   rw [ab (L:=nU) rfl]
   simp [pP,hV0]
 | succ f ih=>
   intro a pl G K h1 h3 hr0 hr1
   have hw1:IntKind.i64.wrap ((a:Int)+1)=(a:Int)+1:=by rw [ar (by omega)]
   have ha:a<L.length:=by omega
   obtain rfl:=h6 (by intro e;simp [e] at ha)
   have hm:=getM ha
   have gb:=iI ha
   have lb:a<(L.map aa.dv).length:=by simpa using ha
   have hat:=hL.at_ _ (List.mem_of_getElem? hm)
   have hj:=fun st=>Co (st:=st) (t:=t) (tk:=tk) (nn:=nn) (L:=L) (n:=6) (fun _=>rfl) hlen ha
   have idle:=ih (a+1) pl G K (by omega) h3 hr0 hr1
   by_cases hk:(L.getD a mz).k=1
   · cases hjb:tv L a with
     | true=>
       obtain ⟨G',K',tl,hJ,hG'⟩:=idle
       refine ⟨G',K',tl,?_,hG'⟩
       rw [hjb] at hj
       generalize L.getD a mz=m at *
       generalize L.map aa.dv=V at *
       have gb':V[a]'lb=m.dv:=by rw [List.getElem?_eq_getElem lb] at gb;exact Option.some.inj gb
       simp at hJ
       rw [ab (L:=nU) rfl]
       simp [pP,hV0,ha,gb,gb',lb,aa.dv,aa.cs,hk,hj,hw1,hJ]
     | false=>
       obtain ⟨G',K',tl,hJ,hG'⟩:=idle
       refine ⟨G',K',tl,?_,hG'⟩
       rw [hjb] at hj
       rw [hy] at ph
       generalize L.getD a mz=m at *
       generalize L.map aa.dv=V at *
       have gb':V[a]'lb=m.dv:=by rw [List.getElem?_eq_getElem lb] at gb;exact Option.some.inj gb
       simp at hJ
       rw [ab (L:=nU) rfl]
       simp [pP,hV0,ha,gb,gb',lb,aa.dv,aa.cs,hk,hj,hr0,ph,hw1,hJ]
   · obtain ⟨G',K',tl,hJ,hG'⟩:=idle
     refine ⟨G',K',tl,?_,hG'⟩
     generalize L.getD a mz=m at *
     generalize L.map aa.dv=V at *
     have gb':V[a]'lb=m.dv:=by rw [List.getElem?_eq_getElem lb] at gb;exact Option.some.inj gb
     simp at hJ
     rw [ab (L:=nU) rfl]
     simp [pP,hV0,ha,gb,gb',lb,aa.dv,aa.cs,hk,hw1,hJ]
theorem Cp {L:List aa} {p:bk} {w u:LW} (hy:p.pr.a0=0) (hL:MOk p.text L) (htl:p.text.length≤4096) {t n:Nat} {tk:Tk} {nn:Bool} (h6:L≠[]→n=6) :
 ∃ t',(E tab).F 260 [.agg (af p w u),.list t n tk nn (L.map aa.dv)] st=some (.list t' 1 .tight true ((gd p.text L p.pr.a0).map DV.bool),st):=by
 have hlen:=hL.len
 have hV0:(L.map aa.dv).length=L.length:=by simp
 have hel:∀ (b:List Bool),∀ y∈b.map DV.bool,dq 1 false y:=by intro b y hy;obtain ⟨c,_,rfl⟩:=List.mem_map.1 hy;exact ⟨rfl,rfl,rfl⟩
 have hw1:IntKind.i64.wrap ((L.length:Int)+1)=(L.length:Int)+1:=by rw [ar (by omega)]
 have hroom:((L.length:Int)+1)≤140737488355328:=by omega
 have hroom2:L.length+1≤140737488355328:=by omega
 have hpos:(0:Int)≤(L.length:Int)+1:=by omega
 have htn:((L.length:Int)+1).toNat=L.length+1:=by omega
 have hrep:aR [DV.bool false] (L.length+1)=(List.replicate (L.length+1) false).map DV.bool:=by rw [me,List.map_replicate]
 have hpl:=mD p.text L p.pr.a0
 have hex:∀ (G:List HO) (K:List Nat),rowAt G 1=some (.plain,(gd p.text L p.pr.a0).map DV.bool)→aX st (pst st G K) (.hsl 1 false (st.heap.length+1) 0 (L.length+1) (some (L.length+1)))=some (.list st.cur 1 .tight true ((gd p.text L p.pr.a0).map DV.bool)):=by
  intro G K h
  have hfl:=kQ _ (hel (gd p.text L p.pr.a0))
  have:=xS (st:=st) (H:=G) (K:=K) (k:=1) (n:=1) (ag:=false) (g:=.plain) (ys:=(gd p.text L p.pr.a0).map DV.bool) (cap:=some (L.length+1)) (by rw [hfl];exact h) (by omega) (.inr rfl) (hel _)
  rw [List.length_map,hpl,if_pos rfl] at this
  exact this
 refine ⟨st.cur,?_⟩
 rw [av ah6 rfl]
 obtain ⟨G',K',tl,hL2,hG'⟩:=Xc (st:=st) (w:=w) (u:=u) hy hL htl (t:=t) (tk:=tk) (nn:=nn) h6 L.length 0 (List.replicate (L.length+1) false) [.cells .plain (af p w u),.cells .plain ((List.replicate (L.length+1) false).map DV.bool)] [] (by omega) (by simp) rfl rfl
 have e:gd p.text L p.pr.a0=List.replicate (L.length+1) false:=rfl
 have hx:=hex G' K' (by rw [e];exact hG')
 generalize (gd p.text L p.pr.a0).map DV.bool=Y at *
 generalize (List.replicate (L.length+1) false).map DV.bool=Z at *
 generalize L.map aa.dv=V at *
 simp at hL2
 simp [f260,hV0,hw1,aw,hroom,hroom2,hpos,htn,hrep,hL2,hx]
end
section
variable {st:St} {p:bk} {w u:LW}
theorem zR {L:List aa} (hL:MOk p.text L) {m:aa} (hmem:m∈L):(E tab).F 262 [.agg (af p w u),m.dv] st=some (.bool (eb p.text m),st):=by
 rw [av akK rfl]
 have hm:=hL.at_ m hmem
 have hb:p.text[m.a.toNat]? = some (bAt p.text m.a.toNat):=qD (by omega)
 have hlt:m.a.toNat<p.text.length:=by omega
 have hge:p.text[m.a.toNat]'hlt=bAt p.text m.a.toNat:=by rw [List.getElem?_eq_getElem hlt] at hb;exact Option.some.inj hb
 have h45:(((bAt p.text m.a.toNat).toNat:Int)==45)=(bAt p.text m.a.toNat==45):=BA _ 45
 by_cases h2:m.k=2
 · simp [f262,aa.cs,h2,hb,hge,hlt,hm.1,h45,eb]
 · simp [f262,aa.cs,h2,eb]
theorem DS {L:List aa} {t n:Nat} {tk:Tk} {nn:Bool} (h6:L≠[]→n=6):(E tab).F 258 [.agg (af p w u),.list t n tk nn (L.map aa.dv)] st=some (.bool (decide (2≤p.pr.drop)&&(decide (0<L.length)&&(L.getD 0 mz).k==1)),st):=by
 rw [av ahC rfl]
 have hV0:(L.map aa.dv).length=L.length:=by simp
 have hpd:=xU (p:=p) (w:=w) (u:=u)
 by_cases h1:2≤p.pr.drop
 · by_cases h2:0<L.length
   · have h2':(0:Int)<L.length:=by omega
     obtain rfl:=h6 (by intro e;rw [e] at h2;simp at h2)
     have g0:=iI (L:=L) h2
     have l0:0<(L.map aa.dv).length:=by simpa using h2
     generalize L.getD 0 mz=m at *
     generalize L.map aa.dv=V at *
     have g0':V[0]'l0=m.dv:=by rw [List.getElem?_eq_getElem l0] at g0;exact Option.some.inj g0
     simp [f258,hpd,h1,hV0,h2,h2',g0,g0',l0,aa.dv,aa.cs]
   · have h2':¬ (0:Int)<L.length:=by omega
     generalize L.getD 0 mz=m at *
     generalize L.map aa.dv=V at *
     simp [f258,hpd,h1,hV0,h2,h2']
 · generalize L.getD 0 mz=m at *
   generalize L.map aa.dv=V at *
   simp [f258,hpd,h1]
theorem LV (hp:p.small) (hw:w.ok 4 p.aC) (hu:u.ok 1 p.marks):∃ v:LW,(E tab).F 259 [.agg (af p w u)] st=some (.list v.t v.n v.tk v.nn ((bJ p).map aa.dv),st)∧v.ok 6 (bJ p):=by
 rw [av alc rfl]
 obtain ⟨_,hm,v,rfl,hv⟩:=El p hp w u hw hu (pst st [.cells .plain (af p w u)] [])
 have hd:=fun st=>DS (st:=st) (p:=p) (w:=w) (u:=u) (L:=aA p) (t:=v.t) (n:=v.n) (tk:=v.tk) (nn:=v.nn) hv.n
 have hdB:(decide (2≤p.pr.drop)&&(decide (0<(aA p).length)&&((aA p).getD 0 mz).k==1))=dY p:=rfl
 rw [hdB] at hd
 unfold bJ
 cases hb:dY p with
 | true=>
   rw [hb] at hd
   have hb':=hb
   simp only [dY,Bool.and_eq_true,decide_eq_true_eq] at hb'
   have hvn:=hv.n (by intro e;have:=hb'.2.1;rw [e] at this;simp at this)
   have hV0:((aA p).map aa.dv).length=(aA p).length:=by simp
   have hs:=l8 (n:=6) (en:=v.n) (t:=v.t) (tk:=v.tk) (nn:=v.nn) (xs:=(aA p).map aa.dv) (k:=.i64) (lo:=1) (fun _=>hvn) (by omega) (by simp;omega)
   have hdr:((aA p).map aa.dv).drop (1:Int).toNat=((aA p).drop 1).map aa.dv:=by rw [List.map_drop];rfl
   rw [hdr,hV0] at hs
   refine ⟨⟨v.t,v.n,mX (qA v.tk (aA p).length (1:Int).toNat (aA p).length),v.nn⟩,?_,fun e=>hvn,fun e=>by have:=hv.2 e;simp [this]⟩
   simp only [if_true]
   generalize ((aA p).drop 1).map aa.dv=D at *
   generalize (aA p).map aa.dv=V at *
   simp at hs
   rw [hvn] at hm hs ⊢
   rw [hvn] at hd
   simp [-dJ,exl,f259,hm,hd,hs]
 | false=>
   rw [hb] at hd
   refine ⟨⟨v.t,v.n,mX v.tk,v.nn⟩,?_,hv⟩
   simp only [Bool.false_eq_true,if_false]
   generalize (aA p).map aa.dv=V at *
   simp [-dJ,exl,f259,hm,hd]
theorem Wo {L:List aa} (hL:MOk p.text L) {t n:Nat} {tk:Tk} {nn:Bool} (h6:L≠[]→n=6) {pl:List Bool} (hpl:pl.length=L.length+1) {t2:Nat} {tk2:Tk} :
 ∀ (r d:List aa) (run fr:Nat) (J:List HO) (K:List Nat) (xs:List It) (ov:DV),L=d++r→fr≤d.length→run≤d.length→xs.length≤3*d.length→Acc st K 8 (xs.map It.dv) ov →
 ∃ (ov':DV) (J':List HO) (K':List Nat) (tl:Fr),
   (E tab).C gn [(1,.ptr st.heap.length 0),(5,.list t n tk nn (L.map aa.dv)),(6,.list t2 1 tk2 true (pl.map DV.bool)),(7,ov),(8,.int .i64 run),(9,.int .i64 fr),(10,.int .i64 d.length)] (pst st (.cells .plain (af p w u)::J) K) =
   some (.exit 0,[(1,.ptr st.heap.length 0),(5,.list t n tk nn (L.map aa.dv)),(6,.list t2 1 tk2 true (pl.map DV.bool)),(7,ov')]++tl,pst st (.cells .plain (af p w u)::J') K')∧Acc st K' 8 ((xs++aM p.text L pl d.length run fr r).map It.dv) ov':=by
 have hlen:=hL.len
 have hV0:(L.map aa.dv).length=L.length:=by simp
 have app:∀ (J:List HO) (K:List Nat) (xs:List It) (ov:DV) (x:It),xs.length≤100000→Acc st K 8 (xs.map It.dv) ov→∃ v' K',bt (pst st J K) 8 true 64 ov (.list st.cur 8 .tight true [x.dv])=some (v',pst st J K')∧Acc st K' 8 ((xs++[x]).map It.dv) v':=by
  intro J K xs ov x hx hA
  obtain ⟨v',K',h1,h2⟩:=dh (st:=st) (H:=J) (by_:=64) (ag:=true) (ys:=[x.dv]) (t:=st.cur) (tk:=.tight) hA (by omega) (by simp) (by simp [FG]) (by simp [aw];omega) (by simp [aw];omega)
  exact ⟨v',K',h1,by simpa using h2⟩
 intro r
 induction r with
 | nil=>
   intro d run fr J K xs ov hd hf hr hx hA
   obtain rfl:L=d:=by simpa using hd
   have hw1:IntKind.i64.wrap ((L.length:Int)+1)=(L.length:Int)+1:=by rw [ar (by omega)]
   have hn1:¬ ((L.length:Int)+1≤L.length):=by omega
   by_cases h:fr<L.length
   · obtain ⟨v1,K1,ha,hA1⟩:=app (.cells .plain (af p w u)::J) K xs ov (cU L fr L.length) (by omega) hA
     have hb:=fun st=>xG (st:=st) hL (t:=t) (n:=n) (tk:=tk) (nn:=nn) h6 h (Nat.le_refl _)
     refine ⟨v1,J,K1,[(8,.int .i64 ((L.length:Int)+1)),(9,.int .i64 ((L.length:Int)+1)),(10,.int .i64 ((L.length:Int)+1)),(26,.bool false)],?_,by simpa [aM,h] using hA1⟩
     generalize cU L fr L.length=x at *
     generalize L.map aa.dv=V at *
     simp only [It.dv,It.cs] at ha hb
     rw [ab (L:=gn) rfl]
     simp [fO,hV0,h,hb,aD,aR,chunk,ha,hw1]
     rw [ab (L:=gn) rfl]
     simp [fO,hV0,hn1]
   · refine ⟨ov,J,K,[(8,.int .i64 ((L.length:Int)+1)),(9,.int .i64 ((L.length:Int)+1)),(10,.int .i64 ((L.length:Int)+1)),(26,.bool false)],?_,by simpa [aM,h] using hA⟩
     have h':¬ (fr:Int)<L.length:=by omega
     generalize L.map aa.dv=V at *
     rw [ab (L:=gn) rfl]
     simp [fO,hV0,h,h',hw1]
     rw [ab (L:=gn) rfl]
     simp [fO,hV0,hn1]
 | cons m r ih=>
   intro d run fr J K xs ov hd hf hr hx hA
   have h0:d.length<L.length:=by simp [hd]
   have h0':(d.length:Int)≤L.length:=by omega
   have h0n:d.length≤L.length:=by omega
   have hmem:m∈L:=by simp [hd]
   have hok:=List.all_eq_true.1 hL.ok m hmem
   have hgm:L.getD d.length mz=m:=by simp [hd]
   have hw1:IntKind.i64.wrap ((d.length:Int)+1)=(d.length:Int)+1:=by rw [ar (by omega)]
   have hwm:IntKind.i64.wrap ((d.length:Int)-1)=(d.length:Int)-1:=by rw [ar (by omega)]
   obtain rfl:=h6 (by intro e;simp [e] at h0)
   have g1:=iI (L:=L) h0
   rw [hgm] at g1
   have l1:d.length<(L.map aa.dv).length:=by simpa using h0
   have hbx:=fun st=>QR (st:=st) m
   have hln:=fun st=>IU (st:=st) m hok
   have hhy:=fun st=>xd (st:=st) m.s
   have hpd:(pl.map DV.bool)[d.length]? = some (.bool (pl.getD d.length false)):=by
    rw [List.getElem?_map,List.getElem?_eq_getElem (show d.length<pl.length by omega),List.getD_eq_getElem?_getD,List.getElem?_eq_getElem (show d.length<pl.length by omega)];rfl
   have lpd:d.length<(pl.map DV.bool).length:=by simp;omega
   cases hb:iY m with
   | false=>
     have hstep:∃ v1 K1,(if fr<d.length then bt (pst st (.cells .plain (af p w u)::J) K) 8 true 64 ov (.list st.cur 8 .tight true [(cU L fr d.length).dv]) else some (ov,pst st (.cells .plain (af p w u)::J) K))=some (v1,pst st (.cells .plain (af p w u)::J) K1)∧Acc st K1 8 ((xs++if fr<d.length then [cU L fr d.length] else []).map It.dv) v1:=by
      by_cases h:fr<d.length
      · obtain ⟨v1,K1,ha,hA1⟩:=app (.cells .plain (af p w u)::J) K xs ov (cU L fr d.length) (by omega) hA
        exact ⟨v1,K1,by rw [if_pos h];exact ha,by rw [if_pos h];exact hA1⟩
      · exact ⟨ov,K,by rw [if_neg h],by rw [if_neg h];simpa using hA⟩
     obtain ⟨v1,K1,ha1,hA1⟩:=hstep
     have hxl:(xs++if fr<d.length then [cU L fr d.length] else []).length≤3*d.length+1:=by split<;>simp<;>omega
     obtain ⟨v2,K2,ha2,hA2⟩:=app (.cells .plain (af p w u)::J) K1 _ v1 (fZ m) (by omega) hA1
     obtain ⟨ov',J',K',tl,hJ,a1⟩:=ih (d++[m]) (d.length+1) (d.length+1) J K2 ((xs++if fr<d.length then [cU L fr d.length] else [])++[fZ m]) v2 (by simp [hd]) (by simp) (by simp) (by
      rw [List.length_append];simp only [List.length_append,List.length_singleton] at hxl ⊢;omega) hA2
     refine ⟨ov',J',K',tl,?_,?_⟩
     · rw [hb] at hbx
       have hbox:=fun (h:fr<d.length) st=>xG (st:=st) hL (t:=t) (n:=6) (tk:=tk) (nn:=nn) (fun _=>rfl) h (by omega)
       generalize L.map aa.dv=V at *
       have g1':V[d.length]'l1=m.dv:=by rw [List.getElem?_eq_getElem l1] at g1;exact Option.some.inj g1
       simp only [aa.dv,aa.cs] at hbx hln g1'
       generalize cU L fr d.length=x at *
       simp only [It.dv,It.cs] at ha1 ha2 hbox hln
       simp at hJ
       rw [ab (L:=gn) rfl]
       by_cases h:fr<d.length
       · rw [if_pos h] at ha1
         have hbox:=hbox h
         simp [fO,hV0,h0,h0',h0n,g1,g1',l1,hbx,h,hbox,aD,aR,chunk,ha1,hln,ha2,hw1,hJ,aa.dv,aa.cs]
       · rw [if_neg h] at ha1
         simp only [Option.some.injEq,Prod.mk.injEq] at ha1
         obtain ⟨rfl,hK⟩:=ha1
         rw [← hK] at ha2
         have h':¬ (fr:Int)<d.length:=by omega
         simp [fO,hV0,h0,h0',h0n,g1,g1',l1,hbx,h,h',aD,aR,chunk,hln,ha2,hw1,hJ,aa.dv,aa.cs]
     · simp only [List.length_append,List.length_singleton] at a1
       simpa only [aM,hb,if_true,List.append_assoc,List.cons_append,List.nil_append] using a1
   | true=>
     by_cases hkf:fr=d.length
     · obtain ⟨ov',J',K',tl,hJ,a1⟩:=ih (d++[m]) run fr J K xs ov (by simp [hd]) (by simp;omega) (by simp;omega) (by simp;omega) hA
       refine ⟨ov',J',K',tl,?_,?_⟩
       · generalize L.map aa.dv=V at *
         have g1':V[d.length]'l1=m.dv:=by rw [List.getElem?_eq_getElem l1] at g1;exact Option.some.inj g1
         rw [hb] at hbx
         subst hkf
         simp only [aa.dv,aa.cs] at hbx g1'
         simp at hJ
         rw [ab (L:=gn) rfl]
         simp [fO,hV0,h0,h0',h0n,g1,g1',l1,hbx,hw1,hJ,aa.dv,aa.cs]
       · simp only [List.length_append,List.length_singleton] at a1
         simp only [aM,hb,hkf,if_true,Bool.true_eq_false,if_false]
         rw [← hkf] at a1 ⊢
         simpa [hkf] using a1
     · have hkf':¬ (d.length:Int)=fr:=by omega
       have hkf2:¬ d.length=fr:=by omega
       have hfl:fr<d.length:=by omega
       have hd0:¬ d.length=0:=by omega
       have hd0':¬ (d.length:Int)=0:=by omega
       have hdne:¬ d=[]:=fun e=>hd0 (by rw [e];rfl)
       have hpv:=iI (L:=L) (i:=d.length-1) (by omega)
       have lpv:d.length-1<(L.map aa.dv).length:=by simp;omega
       have hmp:L.getD (d.length-1) mz∈L:=List.mem_of_getElem? (getM (by omega))
       have hs1:=fun st=>zR (st:=st) (w:=w) (u:=u) hL hmp
       have hs2:=fun st=>zR (st:=st) (w:=w) (u:=u) hL hmem
       have hbox:=fun st=>xG (st:=st) hL (t:=t) (n:=6) (tk:=tk) (nn:=nn) (fun _=>rfl) hfl (by omega)
       have htn:((d.length:Int)-1).toNat=d.length-1:=by omega
       have hpos:(1:Int)≤(d.length:Int):=by omega
       have hpa:takeN (af p w u) 0 21 true=some (.agg (af p w u)):=rfl
       have fin:∀ q:It,(aM p.text L pl d.length run fr (m::r)=cU L fr d.length::q::aM p.text L pl (d.length+1) run d.length r) →
        ∃ (ov':DV) (J':List HO) (K':List Nat) (tl:Fr) (v1 v2:DV) (K1 K2:List Nat),
        bt (pst st (.cells .plain (af p w u)::J) K) 8 true 64 ov (.list st.cur 8 .tight true [(cU L fr d.length).dv])=some (v1,pst st (.cells .plain (af p w u)::J) K1) ∧
        bt (pst st (.cells .plain (af p w u)::(J++[.cells .plain q.cs])) K1) 8 true 64 v1 (.list st.cur 8 .tight true [q.dv])=some (v2,pst st (.cells .plain (af p w u)::(J++[.cells .plain q.cs])) K2) ∧
        (E tab).C gn [(1,.ptr st.heap.length 0),(5,.list t 6 tk nn (L.map aa.dv)),(6,.list t2 1 tk2 true (pl.map DV.bool)),(7,v2),(8,.int .i64 run),(9,.int .i64 d.length),(10,.int .i64 (d.length+1:Nat))] (pst st (.cells .plain (af p w u)::(J++[.cells .plain q.cs])) K2) =
         some (.exit 0,[(1,.ptr st.heap.length 0),(5,.list t 6 tk nn (L.map aa.dv)),(6,.list t2 1 tk2 true (pl.map DV.bool)),(7,ov')]++tl,pst st (.cells .plain (af p w u)::J') K')∧Acc st K' 8 ((xs++aM p.text L pl d.length run fr (m::r)).map It.dv) ov':=by
        intro q hq
        obtain ⟨v1,K1,ha1,hA1⟩:=app (.cells .plain (af p w u)::J) K xs ov (cU L fr d.length) (by omega) hA
        obtain ⟨v2,K2,ha2,hA2⟩:=app (.cells .plain (af p w u)::(J++[.cells .plain q.cs])) K1 _ v1 q (by simp;omega) hA1
        obtain ⟨ov',J',K',tl,hJ,a1⟩:=ih (d++[m]) run d.length (J++[.cells .plain q.cs]) K2 ((xs++[cU L fr d.length])++[q]) v2 (by simp [hd]) (by simp) (by simp;omega) (by simp;omega) hA2
        simp only [List.length_append,List.length_singleton] at hJ a1
        exact ⟨ov',J',K',tl,v1,v2,K1,K2,ha1,ha2,hJ,by rw [hq];simpa using a1⟩
       cases hp:pl.getD d.length false with
       | true=>
         have hq:aM p.text L pl d.length run fr (m::r)=cU L fr d.length::rj m::aM p.text L pl (d.length+1) run d.length r:=by
          simp only [aM,hb,hkf2,hp,if_false,if_true,Bool.true_eq_false]
         obtain ⟨ov',J',K',tl,v1,v2,K1,K2,ha1,ha2,hJ,a1⟩:=fin (rj m) hq
         refine ⟨ov',J',K',tl,?_,a1⟩
         rw [hp] at hpd
         rw [hb] at hbx
         generalize hmm:L.getD (d.length-1) mz=mp at *
         generalize L.map aa.dv=V at *
         have g1':V[d.length]'l1=m.dv:=by rw [List.getElem?_eq_getElem l1] at g1;exact Option.some.inj g1
         have gp':V[d.length-1]'lpv=mp.dv:=by rw [List.getElem?_eq_getElem lpv] at hpv;exact Option.some.inj hpv
         generalize pl.map DV.bool=PL at *
         have p1':PL[d.length]'lpd=.bool true:=by rw [List.getElem?_eq_getElem lpd] at hpd;exact Option.some.inj hpd
         generalize cU L fr d.length=x at *
         simp only [aa.dv,aa.cs] at hbx hs1 hs2 g1' gp'
         simp only [It.dv,It.cs,rj] at ha1 ha2 hbox
         simp only [It.cs,rj] at hJ
         simp at hJ ha2
         rw [ab (L:=gn) rfl]
         cases q1:eb p.text mp<;>cases q2:eb p.text m<;>rw [q1] at hs1<;>rw [q2] at hs2 <;>
          simp [fO,hV0,h0,h0',h0n,g1,g1',l1,hpv,gp',lpv,hbx,hkf',hkf2,hd0,hd0',hdne,hwm,htn,hpos,hs1,hs2,hpd,p1',lpd,hbox,aF,bL,bQ,bP,aH,aD,aR,chunk,ha1,hhy,ha2,hw1,hJ,aa.dv,aa.cs]
       | false=>
         cases hdash:eb p.text (L.getD (d.length-1) mz) && !eb p.text m&&decide (run<d.length-1) with
         | true=>
           have hq:aM p.text L pl d.length run fr (m::r)=cU L fr d.length::rH m::aM p.text L pl (d.length+1) run d.length r:=by
            simp only [aM,hb,hkf2,hp,hdash,if_false,if_true,Bool.true_eq_false,Bool.false_eq_true]
           obtain ⟨ov',J',K',tl,v1,v2,K1,K2,ha1,ha2,hJ,a1⟩:=fin (rH m) hq
           refine ⟨ov',J',K',tl,?_,a1⟩
           simp only [Bool.and_eq_true,Bool.not_eq_true',decide_eq_true_eq] at hdash
           obtain ⟨⟨q1,q2⟩,q3⟩:=hdash
           have q3':(run:Int)<(d.length:Int)-1:=by omega
           rw [q1] at hs1
           rw [q2] at hs2
           rw [hp] at hpd
           rw [hb] at hbx
           generalize hmm:L.getD (d.length-1) mz=mp at *
           generalize L.map aa.dv=V at *
           have g1':V[d.length]'l1=m.dv:=by rw [List.getElem?_eq_getElem l1] at g1;exact Option.some.inj g1
           have gp':V[d.length-1]'lpv=mp.dv:=by rw [List.getElem?_eq_getElem lpv] at hpv;exact Option.some.inj hpv
           generalize pl.map DV.bool=PL at *
           have p1':PL[d.length]'lpd=.bool false:=by rw [List.getElem?_eq_getElem lpd] at hpd;exact Option.some.inj hpd
           generalize cU L fr d.length=x at *
           simp only [aa.dv,aa.cs] at hbx hs1 hs2 g1' gp'
           simp only [It.dv,It.cs,rH] at ha1 ha2 hbox
           simp only [It.cs,rH] at hJ
           simp at hJ ha2
           rw [ab (L:=gn) rfl]
           simp [fO,hV0,h0,h0',h0n,g1,g1',l1,hpv,gp',lpv,hbx,hkf',hkf2,hd0,hd0',hdne,hwm,htn,hpos,hs1,hs2,q3',hpd,p1',lpd,hbox,aF,bL,bQ,bP,aH,aD,aR,chunk,ha1,hhy,ha2,hw1,hJ,aa.dv,aa.cs]
         | false=>
           have hq:aM p.text L pl d.length run fr (m::r)=aM p.text L pl (d.length+1) run fr r:=by
            simp only [aM,hb,hkf2,hp,hdash,if_false,Bool.true_eq_false,Bool.false_eq_true]
           obtain ⟨ov',J',K',tl,hJ,a1⟩:=ih (d++[m]) run fr J K xs ov (by simp [hd]) (by simp;omega) (by simp;omega) (by simp;omega) hA
           simp only [List.length_append,List.length_singleton] at hJ a1
           refine ⟨ov',J',K',tl,?_,by rw [hq];exact a1⟩
           rw [hp] at hpd
           rw [hb] at hbx
           generalize hmm:L.getD (d.length-1) mz=mp at *
           generalize L.map aa.dv=V at *
           have g1':V[d.length]'l1=m.dv:=by rw [List.getElem?_eq_getElem l1] at g1;exact Option.some.inj g1
           have gp':V[d.length-1]'lpv=mp.dv:=by rw [List.getElem?_eq_getElem lpv] at hpv;exact Option.some.inj hpv
           generalize pl.map DV.bool=PL at *
           have p1':PL[d.length]'lpd=.bool false:=by rw [List.getElem?_eq_getElem lpd] at hpd;exact Option.some.inj hpd
           simp only [aa.dv,aa.cs] at hbx hs1 hs2 g1' gp'
           simp at hJ
           have q3':eb p.text mp=true→eb p.text m=false→¬ (run:Int)<(d.length:Int)-1:=by
            intro e1 e2 h
            rw [e1,e2] at hdash
            have:¬ run<d.length-1:=by simpa using hdash
            omega
           rw [ab (L:=gn) rfl]
           cases q1:eb p.text mp with
           | false=>
             rw [q1] at hs1
             simp [fO,hV0,h0,h0',h0n,g1,g1',l1,hpv,gp',lpv,hbx,hkf',hkf2,hd0,hd0',hdne,hwm,htn,hpos,hs1,hs2,hpd,p1',lpd,hw1,hJ,aa.dv,aa.cs]
           | true=>
             cases q2:eb p.text m with
             | true=>
               rw [q1] at hs1;rw [q2] at hs2
               simp [fO,hV0,h0,h0',h0n,g1,g1',l1,hpv,gp',lpv,hbx,hkf',hkf2,hd0,hd0',hdne,hwm,htn,hpos,hs1,hs2,hpd,p1',lpd,hw1,hJ,aa.dv,aa.cs]
             | false=>
               have q3:=q3' q1 q2
               rw [q1] at hs1;rw [q2] at hs2
               simp [fO,hV0,h0,h0',h0n,g1,g1',l1,hpv,gp',lpv,hbx,hkf',hkf2,hd0,hd0',hdne,hwm,htn,hpos,hs1,hs2,q3,hpd,p1',lpd,hw1,hJ,aa.dv,aa.cs]
theorem DG (hy:p.pr.a0=0) (hp:p.small) (hw:w.ok 4 p.aC) (hu:u.ok 1 p.marks):∃ v,(E tab).F 238 [.agg (af p w u)] st=some (.tuple [v,.int .i64 (ax p)],st)∧Lw 8 ((if ax p=0 then bE p else []).map It.dv) v:=by
 rw [av acO rfl]
 have hc:=uS p hp w u hw hu (pst st [.cells .plain (af p w u)] [])
 by_cases h0:ax p=0
 · rw [if_pos h0]
   obtain ⟨v,hb,hv⟩:=LV (st:=pst st [.cells .plain (af p w u)] []) hp hw hu
   obtain ⟨hN,_⟩:=cH h0
   obtain ⟨htl,_⟩:=cM hN
   obtain ⟨t2,hpt⟩:=Cp (st:=pst st [.cells .plain (af p w u)] []) (w:=w) (u:=u) hy (ni p) htl (t:=v.t) (tk:=v.tk) (nn:=v.nn) hv.n
   obtain ⟨ov',J',K',tl,hJ,hA⟩:=Wo (st:=st) (p:=p) (w:=w) (u:=u) (ni p) (t:=v.t) (tk:=v.tk) (nn:=v.nn) hv.n (mD p.text (bJ p) p.pr.a0) (t2:=t2) (tk2:=.tight) (bJ p) [] 0 0 [] [] [] (.list 0 0 .no false []) rfl (Nat.le_refl _) (Nat.le_refl _) (by simp) (bX _ _ _ _ _ _)
   rw [List.nil_append] at hA
   obtain ⟨t',n',tk',nn',e1,e2,e3,e4⟩:=gR (st':=pst st (.cells .plain (af p w u)::J') K') hA
   refine ⟨.list t' n' tk' nn' ((bE p).map It.dv),?_,.list _ _ _ _ e3 e2⟩
   obtain ⟨q1,q2,q3,q4,rfl⟩:=bR hA
   rw [h0] at hc ⊢
   unfold bE
   simp only [List.length_nil] at e1 hJ
   have e1':bZ st (pst st (.cells .plain (af p w u)::J') K') (.list q1 q2 q3 q4 ((aM p.text (bJ p) (gd p.text (bJ p) p.pr.a0) 0 0 0 (bJ p)).map It.dv))=_:=e1
   generalize (aM p.text (bJ p) (gd p.text (bJ p) p.pr.a0) 0 0 0 (bJ p)).map It.dv=X at *
   generalize (gd p.text (bJ p) p.pr.a0).map DV.bool=PL at *
   generalize (bJ p).map aa.dv=V at *
   simp at hJ e1'
   simp [f238,hc,hb,hpt,hJ,e1']
 · rw [if_neg h0]
   refine ⟨.list 0 0 .no false [],?_,.list _ _ _ _ (fun h=>by cases h) (fun _=>rfl)⟩
   simp [f238,hc,h0]
end
theorem zh {n:Nat} {xs:List DV} {v:DV} (h:Lw n xs v):∃ t n' tk nn,v=.list t n' tk nn xs∧(xs≠[]→n'=n)∧(nn=true→n'=n)∧(nn=false→xs=[]):=by
 cases h with
 | list t n' tk nn h1 h2=>exact ⟨t,n',tk,nn,rfl,fun hx=>h1 (by cases nn with | true=>rfl | false=>exact absurd (h2 rfl) hx),h1,h2⟩
theorem ahh:tab 234=some (.code f234):=by kernel_rfl
theorem ahi:tab 211=some (.code f211):=by kernel_rfl
theorem amu (x y:Int):eK jn [.int .i64 x,.int .i64 y]=some (.int .i64 (min x y)):=by
 have:(if y<x then y else x)=min x y:=by split<;>omega
 simp [eK,jn,this]
def oR (p:bk):Int:=if dY p=true then wd (bAt p.text 0) (min (p.pr.size*p.pr.drop) 64)+4 else 0
theorem dD {p:bk} (h:ax p=0):1≤p.pr.size∧p.pr.size≤64∧0≤p.pr.drop∧p.pr.drop≤4∧0≤p.pr.align∧p.pr.align≤3∧p.text.length≤4096:=by
 obtain ⟨h1,_,_,hpr,_⟩:=cH h
 have:=(cM h1).1
 simp only [ca,fb,Bool.and_eq_true,decide_eq_true_eq] at hpr
 omega
theorem lI {p:bk} (h:dY p=true):ax p=0∧0<p.text.length∧0<(aA p).length:=by
 simp only [dY,Bool.and_eq_true,decide_eq_true_eq] at h
 have h0:ax p=0:=by
  refine Classical.byContradiction fun hc => ?_
  have:aA p=[]:=by unfold aA;rw [if_neg hc]
  rw [this] at h;simp at h
 have hm:=(kZ p).at_ ((aA p)[0]'h.2.1) (List.getElem_mem _)
 exact ⟨h0,by omega,h.2.1⟩
theorem HT (p:bk):0≤oR p∧oR p≤68∧(dY p=true→4≤oR p):=by
 unfold oR
 by_cases h:dY p=true
 · have hc:=dD (lI h).1
   have h2:2≤p.pr.drop:=by simp only [dY,Bool.and_eq_true,decide_eq_true_eq] at h;exact h.1
   have hm:(2:Int)≤p.pr.size*p.pr.drop:=by
    have:=Int.mul_le_mul hc.1 h2 (by omega) (by omega);omega
   have h1:1≤min (p.pr.size*p.pr.drop) 64:=by omega
   have h3:min (p.pr.size*p.pr.drop) 64≤64:=by omega
   have:=pN (bAt p.text 0) h1 h3
   rw [if_pos h];omega
 · rw [if_neg h];exact ⟨by omega,by omega,fun e=>absurd e h⟩
section
variable {st:St} {p:bk} {w u:LW}
theorem yy {t n:Nat} {tk:Tk} {nn:Bool} (h6:aA p≠[]→n=6):(E tab).F 234 [.agg (af p w u),.list t n tk nn ((aA p).map aa.dv)] st=some (.int .i64 (oR p),st):=by
 rw [av ahh rfl]
 have hV0:((aA p).map aa.dv).length=(aA p).length:=by simp
 have hpd:=xU (p:=p) (w:=w) (u:=u)
 unfold oR
 by_cases h1:2≤p.pr.drop
 · have h1':¬ p.pr.drop<2:=by omega
   by_cases h2:0<(aA p).length
   · have h2':¬ ((aA p).length:Int)=0:=by omega
     have h2b:¬ aA p=[]:=by intro e;rw [e] at h2;simp at h2
     obtain rfl:=h6 h2b
     have g0:=iI (L:=aA p) h2
     have l0:0<((aA p).map aa.dv).length:=by simpa using h2
     by_cases h3:((aA p).getD 0 mz).k=1
     · have hb:dY p=true:=by simp only [dY,h1,h2,h3,decide_true,Bool.true_and,beq_self_eq_true]
       rw [if_pos hb]
       obtain ⟨h0,ht,_⟩:=lI hb
       have hc:=dD h0
       have hm:(2:Int)≤p.pr.size*p.pr.drop∧p.pr.size*p.pr.drop≤256:=by
        have a:=Int.mul_le_mul hc.1 h1 (by omega) (by omega)
        have b:=Int.mul_le_mul hc.2.1 hc.2.2.2.1 hc.2.2.1 (by omega)
        omega
       have hm1:1≤min (p.pr.size*p.pr.drop) 64:=by omega
       have hm3:min (p.pr.size*p.pr.drop) 64≤64:=by omega
       have hww:=pN (bAt p.text 0) hm1 hm3
       have hmin:=amu (p.pr.size*p.pr.drop) 64
       have hsl:bF true 1 (.str p.text) none (some (.int .i64 1)) none=some (.str (p.text.take 1)):=by rw [vX (by omega) (by omega)];simp
       have hW:∀ st,(E tab).F 17 [.str (p.text.take 1),.int .i64 (min (p.pr.size*p.pr.drop) 64)] st=some (.tuple [.int .i64 (wd (bAt p.text 0) (min (p.pr.size*p.pr.drop) 64)),.int .i64 0],st):=by
        intro st
        have e:p.text.take 1=[bAt p.text 0]:=by
         cases hs:p.text with
         | nil=>rw [hs] at ht;simp at ht
         | cons a r=>simp [bAt]
        rw [s6,e]
        have hw:IntKind.i64.wrap (wd (bAt p.text 0) (min (p.pr.size*p.pr.drop) 64))=wd (bAt p.text 0) (min (p.pr.size*p.pr.drop) 64):=ar (by omega)
        simp only [fE]
        rw [if_pos ⟨hm1,hm3⟩]
        simp [tw,hw]
       have hw2:IntKind.i64.wrap (p.pr.size*p.pr.drop)=p.pr.size*p.pr.drop:=ar (by omega)
       have hw3:IntKind.i64.wrap (wd (bAt p.text 0) (min (p.pr.size*p.pr.drop) 64)+4)=wd (bAt p.text 0) (min (p.pr.size*p.pr.drop) 64)+4:=ar (by omega)
       generalize (aA p).getD 0 mz=m at *
       generalize (aA p).map aa.dv=V at *
       have g0':V[0]'l0=m.dv:=by rw [List.getElem?_eq_getElem l0] at g0;exact Option.some.inj g0
       generalize wd (bAt p.text 0) (min (p.pr.size*p.pr.drop) 64)=W at *
       have ht1:(1:Int)≤p.text.length:=by omega
       simp [f234,hpd,h1',hV0,h2b,h2',g0,g0',l0,aa.dv,aa.cs,h3,hw2,hw3,hW,hsl,hmin]
     · have hb:¬ dY p=true:=by
        simp only [dY,Bool.and_eq_true]
        rintro ⟨_,_,h⟩
        exact h3 (by simpa using h)
       rw [if_neg hb]
       generalize (aA p).getD 0 mz=m at *
       generalize (aA p).map aa.dv=V at *
       have g0':V[0]'l0=m.dv:=by rw [List.getElem?_eq_getElem l0] at g0;exact Option.some.inj g0
       simp [f234,hpd,h1',hV0,h2b,h2',g0,g0',l0,aa.dv,aa.cs,h3]
   · have h2':aA p=[]:=List.length_eq_zero_iff.1 (by omega)
     have hb:¬ dY p=true:=by simp [dY,h2']
     rw [if_neg hb,h2']
     simp [f234,hpd,h1']
 · have h1':p.pr.drop<2:=by omega
   have hb:¬ dY p=true:=by simp only [dY,Bool.and_eq_true,decide_eq_true_eq];rintro ⟨h,_⟩;exact h1 h
   rw [if_neg hb]
   generalize (aA p).map aa.dv=V at *
   simp [f234,hpd,h1']
theorem Lc (hp:p.small) (hw:w.ok 4 p.aC) (hu:u.ok 1 p.marks):(E tab).F 211 [.agg (af p w u)] st=some (.tuple [.int .i64 (oR p),.int .i64 (ax p)],st):=by
 rw [av ahi rfl]
 obtain ⟨_,hm,v,rfl,hv⟩:=vC p hp w u hw hu (pst st [.cells .plain (af p w u)] [])
 have hc:=fun st=>yy (st:=st) (p:=p) (w:=w) (u:=u) (t:=v.t) (tk:=v.tk) (nn:=v.nn) hv.n
 by_cases h0:ax p=0
 · generalize (aA p).map aa.dv=V at *
   simp [f211,hm,h0,hc]
 · have hb:¬ dY p=true:=fun h=>h0 (lI h).1
   have hcp:oR p=0:=by unfold oR;rw [if_neg hb]
   generalize (aA p).map aa.dv=V at *
   simp [f211,hm,h0,hcp]
structure Ln where
 f:Int
 t:Int
 x:Int
 w:Int
 n:Int
 h:Bool
 g:Int
def Ln.cs (l:Ln):List DV:=[.int .i64 l.f,.int .i64 l.t,.int .i64 l.x,.int .i64 l.w,.int .i64 l.n,.bool l.h,.int .i64 l.g]
def Ln.dv (l:Ln):DV:=.agg l.cs
end
section
variable {st:St} {l:List It} {v:DV} {H:List HO} {K:List Nat}
end
theorem aeu:tab 322=some (.code EI):=by kernel_rfl
theorem afZ:tab 329=some (.code Kb):=by kernel_rfl
def eV:List It→Int
 | []=>0
 | x::r=>x.s+eV r
def eW:List It→Int
 | []=>0
 | x::r=>x.h+eW r
theorem pO:∀ a b,eV (a++b)=eV a+eV b
 | [],b=>by simp [eV]
 | x::a,b=>by simp only [List.cons_append,eV,pO a b];omega
theorem qC:∀ a b,eW (a++b)=eW a+eW b
 | [],b=>by simp [eW]
 | x::a,b=>by simp only [List.cons_append,eW,qC a b];omega
def okS (l:List It):Prop:=∀ x∈l,0≤x.s∧x.s≤4095∧0≤x.h∧x.h≤4095
theorem E8 {l:List It} (h:bb l=0):okS l:=by
 unfold bb at h
 split at h
 · omega
 · split at h
   · omega
   · rename_i h2
     intro x hx
     rw [Bool.not_eq_true,List.any_eq_false] at h2
     have:=h2 x hx
     simp [fw,oP,bn] at this
     omega
theorem yD:∀ {l:List It},okS l→0≤eV l∧eV l≤4095*l.length∧0≤eW l∧eW l≤4095*l.length
 | [],_=>by simp [eV,eW]
 | x::r,h=>by
   have h1:=h x (List.mem_cons_self ..)
   have h2:=yD (l:=r) fun y hy=>h y (List.mem_cons_of_mem _ hy)
   simp only [eV,eW,List.length_cons]
   omega
def Ah (l:List It) (a b:Int):DV:=
 if ew l a b≠0 then .tuple [.int .i64 0,.int .i64 0,.int .i64 (ew l a b)]
 else .tuple [.int .i64 (eV ((l.drop a.toNat).take (aG l a.toNat b.toNat-a.toNat))),.int .i64 (eW ((l.drop a.toNat).take (aG l a.toNat b.toNat-a.toNat))),.int .i64 0]
section
variable {st:St} {l:List It} {v:DV}
theorem Vr (l':List It) {v':DV} (hv':Its st l' v') (hok:okS l') (hl:l'.length≤8192) (K:List Nat):∀ (r d:List It) (H:List HO),l'=d++r →
 ∃ J fr,(E tab).C uc [(10,.int .i64 (eV d)),(11,.int .i64 (eW d)),(24,v'),(25,.int .i64 l'.length),(26,.int .i64 d.length)] (pst st H K) =
   some (.exit 0,[(10,.int .i64 (eV l')),(11,.int .i64 (eW l'))]++fr,pst st (H++J) K):=by
 intro r
 induction r with
 | nil=>
   intro d H hd
   refine ⟨[],[(24,v'),(25,.int .i64 l'.length),(26,.int .i64 l'.length),(27,.bool false)],?_⟩
   rw [ab (L:=uc) rfl]
   simp [yG,hd]
 | cons x r ih=>
   intro d H hd
   have h0:d.length<l'.length:=by simp [hd]
   have hx:l'[d.length]? = some x:=by simp [hd]
   have hw1:IntKind.i64.wrap ((d.length:Int)+1)=((d++[x]).length:Nat):=by rw [ar (by omega)];simp
   have e1:=fun st'=>b7 hv' h0 .i64 st'
   have e2:=fun H K=>qY hv' hx H K
   simp only [It.dv,It.cs] at e2
   have hs:=yD (l:=d++[x]) fun y hy=>hok y (by rw [hd];simp at hy ⊢;rcases hy with h | h;exact .inl h;exact .inr (.inl h))
   have hlen:(d++[x]).length≤8192:=by have:=congrArg List.length hd;simp at this ⊢;omega
   have eS:eV (d++[x])=eV d+x.s:=by rw [pO];simp [eV]
   have eH:eW (d++[x])=eW d+x.h:=by rw [qC];simp [eW]
   have w2:IntKind.i64.wrap (eV d+x.s)=eV (d++[x]):=by rw [eS,ar (by omega)]
   have w3:IntKind.i64.wrap (eW d+x.h)=eW (d++[x]):=by rw [eH,ar (by omega)]
   obtain ⟨J,fr,hJ⟩:=ih (d++[x]) (H++[.cells .plain x.cs]) (by simp [hd])
   refine ⟨.cells .plain x.cs::J,fr,?_⟩
   simp only [List.length_append,List.length_singleton] at hJ hw1
   simp [It.cs] at hJ
   rw [ab (L:=uc) rfl]
   simp [yG,h0,e1,e2,It.cs,hw1,w2,w3,hJ]
theorem IT (hv:Its st l v) (a b:Int):(E tab).F 322 [v,.int .i64 a,.int .i64 b] st=some (Ah l a b,st):=by
 rw [av aeu rfl]
 have e0:=fun st'=>bH hv st'
 have e1:=si (hv.inn [] []) a b
 unfold Ah
 by_cases h1:ew l a b=0
 · obtain ⟨h3,h4,h5,h6⟩:=l4 h1
   obtain ⟨hok,hlen⟩:=dS h3
   have hok2:=E8 h3
   obtain ⟨A,rfl⟩:=Int.eq_ofNat_of_zero_le h4
   obtain ⟨B,rfl⟩:=Int.eq_ofNat_of_zero_le (show 0≤b by omega)
   obtain ⟨v',et,hv'⟩:=pF (hv.inn [] []) (by omega) A B (by omega) (by omega)
   have hv':=Vw.out hv'
   have hlt:=gU l A B
   have hok':okS ((l.drop A).take (aG l A B-A)):=fun y hy=>hok2 y (List.mem_of_mem_drop (List.mem_of_mem_take hy))
   have hlen':((l.drop A).take (aG l A B-A)).length≤8192:=by simp;omega
   obtain ⟨J,fr,hL⟩:=Vr _ hv' hok' hlen' [] _ [] [] rfl
   have e3:=fun st'=>bH hv' st'
   simp only [Int.toNat_natCast]
   generalize ((l.drop A).take (aG l A B-A))=l' at *
   simp [eV,eW] at hL
   simp [EI,e0,e1,e3,h1,et,hL]
 · simp [EI,e1,h1]
theorem Yg (hv:Its st l v) (hok:okS l) (hl:l.length≤8192) (A B:Nat) (hAB:A≤B) (hB:B≤l.length) (H:List HO) (K:List Nat):∀ (m i:Nat),i+m=aG l A B→A≤i →
 ∃ fr,(E tab).C uk [(0,v),(1,.int .i64 A),(2,.int .i64 B),(8,.int .i64 (eV ((l.drop A).take (i-A)))),(9,.int .i64 (eW ((l.drop A).take (i-A)))),(10,.int .i64 i)] (pst st H K) =
   some (.exit 0,[(0,v),(1,.int .i64 A),(2,.int .i64 B),(8,.int .i64 (eV ((l.drop A).take (aG l A B-A)))),(9,.int .i64 (eW ((l.drop A).take (aG l A B-A))))]++fr,pst st H K):=by
 have hT:=fun st' (h:Its st' l v)=>Am h (by omega) A B hAB hB
 have hle:=gU l A B
 intro m
 induction m with
 | zero=>
   intro i hi hA
   refine ⟨[(10,.int .i64 i),(17,.bool false)],?_⟩
   rw [ab (L:=uk) rfl]
   obtain rfl:i=aG l A B:=by omega
   simp [yJ,hT _ (hv.inn H K)]
 | succ m ih=>
   intro i hi hA
   have h0:i<aG l A B:=by omega
   have hil:i<l.length:=by omega
   have hx:l[i]? = some l[i]:=List.getElem?_eq_getElem hil
   have hw1:IntKind.i64.wrap ((i:Int)+1)=(i+1:Nat):=by rw [ar (by omega)];simp
   have e1:=fun st'=>b7 hv hil .i64 st'
   have e2:=fun st'=>cE hv hx (off:=4) (by omega) st'
   have e3:=fun H K=>adE hv hx H K
   have e4:=fun st'=>cE hv hx (off:=5) (by omega) st'
   have e5:=fun H K=>adl hv hx H K
   have ed:(l.drop A).take (i+1-A)=(l.drop A).take (i-A)++[l[i]]:=by
    rw [show i+1-A=(i-A)+1 by omega,List.take_succ_eq_append_getElem (by simp;omega)]
    congr 2
    rw [List.getElem_drop];congr 1;omega
   have hs:=yD (l:=(l.drop A).take (i+1-A)) fun y hy=>hok y (List.mem_of_mem_drop (List.mem_of_mem_take hy))
   have hlen:((l.drop A).take (i+1-A)).length≤8192:=by simp;omega
   have eS:eV ((l.drop A).take (i+1-A))=eV ((l.drop A).take (i-A))+l[i].s:=by rw [ed,pO];simp [eV]
   have eH:eW ((l.drop A).take (i+1-A))=eW ((l.drop A).take (i-A))+l[i].h:=by rw [ed,qC];simp [eW]
   have w2:IntKind.i64.wrap (eV ((l.drop A).take (i-A))+l[i].s)=eV ((l.drop A).take (i+1-A)):=by rw [eS,ar (by omega)]
   have w3:IntKind.i64.wrap (eW ((l.drop A).take (i-A))+l[i].h)=eW ((l.drop A).take (i+1-A)):=by rw [eH,ar (by omega)]
   obtain ⟨fr,hJ⟩:=ih (i+1) (by omega) (by omega)
   refine ⟨fr,?_⟩
   generalize eV ((l.drop A).take (i+1-A))=S1 at *
   generalize eW ((l.drop A).take (i+1-A))=H1 at *
   generalize eV ((l.drop A).take (i-A))=S0 at *
   generalize eW ((l.drop A).take (i-A))=H0 at *
   generalize l[i]=x at *
   simp at hJ
   rw [ab (L:=uk) rfl]
   simp [yJ,hT _ (hv.inn H K),h0,e1,e2,e3,e4,e5,hw1,w2,w3,hJ]
end
structure Sl where
 x:Int
 w:Int
def Sl.cs (s:Sl):List DV:=[.int .i64 s.x,.int .i64 s.w]
def Sl.dv (s:Sl):DV:=.agg s.cs
theorem pK (s:Sl):dq 2 true s.dv:=⟨rfl,rfl,rfl⟩
theorem qM {l:List Sl}:∀ y∈l.map Sl.dv,dq 2 true y:=fun y hy=>by obtain ⟨x,_,rfl⟩:=List.mem_map.1 hy;exact pK x
abbrev Sls (st:St) (l:List Sl) (v:DV):Prop:=Vw st 2 true (l.map Sl.dv) v
structure Pc where
 a:Int
 b:Int
 wide:Bool
 hy:Bool
 n:Int
def Pc.cs (p:Pc):List DV:=[.int .i64 p.a,.int .i64 p.b,.bool p.wide,.bool p.hy,.int .i64 p.n]
def Pc.dv (p:Pc):DV:=.agg p.cs
theorem M6 (p:Pc):dq 5 true p.dv:=⟨rfl,rfl,rfl⟩
theorem ahS:tab 113=some (.code f113):=by kernel_rfl
theorem ajL:tab 114=some (.code f114):=by kernel_rfl
theorem ah0:tab 126=some (.code f126):=by kernel_rfl
theorem ajO:tab 127=some (.code f127):=by kernel_rfl
theorem aiU:tab 128=some (.code f128):=by kernel_rfl
theorem akk:tab 129=some (.code f129):=by kernel_rfl
theorem aiI:tab 130=some (.code f130):=by kernel_rfl
theorem ako:tab 140=some (.code f140):=by kernel_rfl
theorem ada:tab 141=some (.code f141):=by kernel_rfl
theorem alv:tab 142=some (.code f142):=by kernel_rfl
def ik (s:Sl):Bool:=bn s.x&&bn s.w
theorem Nl (s:Sl) (st:St):(E tab).F 140 [s.dv] st=some (.bool (ik s),st):=by
 rw [av ako rfl]
 unfold ik bn
 by_cases h1:0≤s.x
 · by_cases h2:s.x≤4095
   · by_cases h3:0≤s.w
     · simp [f140,Sl.dv,Sl.cs,h1,h2,h3]
     · simp [f140,Sl.dv,Sl.cs,h1,h2,h3]
   · simp [f140,Sl.dv,Sl.cs,h1,h2]
 · simp [f140,Sl.dv,Sl.cs,h1]
def mM (l:List Sl) (rest:Sl) (n:Nat):Sl:=(l[n]?).getD rest
def aS (l:List Sl) (rest:Sl) (n:Int):Sl:=if n<0 then ⟨0,0⟩ else mM l rest n.toNat
section
variable {st:St} {l:List It} {v:DV} {sl:List Sl} {sv:DV} {rest:Sl}
theorem uf (hv:Sls st sl sv) (n:Int):(E tab).F 114 [sv,rest.dv,.int .i64 n] st=some ((aS sl rest n).dv,st):=by
 rw [av ajL rfl]
 have e0:=fun st'=>Vw.len hv st'
 simp only [List.length_map] at e0
 unfold aS mM
 by_cases h1:n<0
 · simp [f114,Sl.dv,Sl.cs,h1]
 · obtain ⟨n,rfl⟩:=Int.eq_ofNat_of_zero_le (show 0≤n by omega)
   by_cases h2:n<sl.length
   · have hx:sl[n]? = some sl[n]:=List.getElem?_eq_getElem h2
     have e1:=fun st'=>Vw.aK hv (i:=n) (by simpa using h2) .i64 st'
     have e2:=fun H K=>Vw.load (Vw.inn hv H K) qM rfl (i:=n) (x:=sl[n].dv) (by simp [hx])
     simp only [Sl.dv,Sl.cs] at e2
     simp [f114,Sl.dv,Sl.cs,e0,h2,e1,e2]
   · simp [f114,Sl.dv,Sl.cs,e0,h2]
def cR (sl:List Sl) (rest:Sl):Int:=if 256<sl.length then 3 else if sl.all ik&&ik rest then 0 else 2
theorem YN (all:List Sl) (hl:all.length≤1000) (t:Nat) (tk:Tk) (K:List Nat):∀ (r d:List Sl) (H:List HO),all=d++r →
 ∃ J fr,(E tab).C nq [(14,.list t 2 tk true (all.map Sl.dv)),(15,.int .i64 all.length),(16,.int .i64 d.length)] (pst st H K) =
   some (if r.all ik then (.exit 0,fr,pst st (H++J) K) else (.ret,[(4,.int .i64 2)],pst st (H++J) K)):=by
 intro r
 induction r with
 | nil=>
   intro d H hd
   refine ⟨[],[(14,.list t 2 tk true (all.map Sl.dv)),(15,.int .i64 all.length),(16,.int .i64 all.length),(17,.bool false)],?_⟩
   rw [ab (L:=nq) rfl]
   simp [uu,hd]
 | cons x r ih=>
   intro d H hd
   have h0:d.length<all.length:=by simp [hd]
   have hg:all[d.length]=x:=by simp [hd]
   have hw1:IntKind.i64.wrap ((d.length:Int)+1)=((d++[x]).length:Nat):=by rw [ar (by omega)];simp
   have e1:=fun st=>Nl x st
   simp only [Sl.dv,Sl.cs] at e1
   rw [List.all_cons]
   cases hm:ik x with
   | false=>
     rw [hm] at e1
     refine ⟨[.cells .plain x.cs],[],?_⟩
     rw [ab (L:=nq) rfl]
     simp [uu,h0,hg,Sl.dv,Sl.cs,e1]
   | true=>
     rw [hm] at e1
     obtain ⟨J,fr,hJ⟩:=ih (d++[x]) (H++[.cells .plain x.cs]) (by simp [hd])
     refine ⟨.cells .plain x.cs::J,fr,?_⟩
     rw [Bool.true_and]
     generalize r.all ik=b at hJ ⊢
     simp only [List.length_append,List.length_singleton] at hJ hw1
     simp [Sl.cs,Sl.dv] at hJ
     rw [ab (L:=nq) rfl]
     simp [uu,h0,hg,Sl.dv,Sl.cs,e1,hw1,hJ]
theorem vE (hv:Sls st sl sv):(E tab).F 126 [sv,rest.dv] st=some (.int .i64 (cR sl rest),st):=by
 rw [av ah0 rfl]
 have e0:=fun st'=>Vw.len hv st'
 simp only [List.length_map] at e0
 unfold cR
 by_cases h:256<sl.length
 · have h':(256:Int)<sl.length:=by omega
   simp [f126,Sl.dv,Sl.cs,e0,h,h']
 have h':¬ (256:Int)<sl.length:=by omega
 have hn:=Vw.news (Vw.inn hv [.cells .plain rest.cs] [])
 simp only [List.length_map] at hn
 have hfl:=jf (n:=2) (ag:=true) (ys:=sl.map Sl.dv) qM
 have hdm:=dM hfl
 have hch:=fH (n:=2) (ag:=true) (ys:=sl.map Sl.dv) qM
 simp only [List.length_map] at hch
 have hL:=YN (st:=st) (sl++[rest]) (by simp;omega) st.cur (.own st.aQ.length (if sl.length=0 then 0 else 1)) [if sl.length=0 then 0 else 1] (sl++[rest]) [] [.cells .plain rest.cs] rfl
 obtain ⟨J,fr,hL⟩:=hL
 have ea:((sl++[rest]).all ik)=(sl.all ik&&ik rest):=by simp
 rw [ea] at hL
 have hb1:sl.length*16≤140737488355328:=by omega
 have hb2:sl.length≤140737488355328:=by omega
 have hb3:(sl.length+1)*16≤140737488355328:=by omega
 have hb4:sl.length+1≤140737488355328:=by omega
 generalize (sl.all ik&&ik rest)=b at *
 have hreg:(E tab).C (.au yE [] [(2,[0]),(3,[0])] [14,15,16]) [(0,sv),(3,.ptr st.heap.length 0),(9,.bool false)] (pst st [.cells .plain rest.cs] []) =
  some (.normal,[(14,.list st.cur 2 (.own st.aQ.length (if sl.length=0 then 0 else 1)) true ((sl++[rest]).map Sl.dv)),(15,.int .i64 (sl++[rest]).length),(16,.int .i64 0)],pst st [.cells .plain rest.cs] [if sl.length=0 then 0 else 1]):=by
  have hvi:=hv.inn [.cells .plain rest.cs] []
  by_cases hz:sl=[]
  · subst hz
    have a1:=B5 (t:=0) (n':=0) (by_:=16) (tk:=.no) (nn:=false) (ys:=[]) hvi
    have a2:=oU (st:=st) (H:=[.cells .plain rest.cs]) (K:=[]) (n:=2) (n':=0) (t:=0) (t':=st.cur) (by_:=16) (ag:=true) (tk:=.no) (tk':=.tight) (nn:=false) (xs:=[]) (ys:=[rest.dv]) (.inl rfl) (by omega) (by simp) (by simp [pK]) (by simp [aw]) (by simp [aw])
    simp [Sl.dv,Sl.cs] at a1 a2
    have hp4:aH (ak tab) (.append 2 true 16 (.c (.list 0 0 .no false [])) (.t 10))=true:=rfl
    simp [aF,bL,bQ,bP,aH,aD,aR,chunk,Sl.dv,Sl.cs,a1,a2]
  · have hp:0<sl.length:=List.length_pos_iff.2 hz
    have hne:¬ sl.length=0:=by omega
    have a1:=F9 (t:=0) (n':=0) (by_:=16) (tk:=.no) hvi qM (by simpa using hz) (by omega) (by simp [aw];omega) (by simp [aw];omega)
    have a2:=tF (st:=st) (H:=[.cells .plain rest.cs]) (K:=[0]) (n:=2) (t:=st.cur) (t':=st.cur) (by_:=16) (k:=0) (s:=0) (ag:=true) (tk':=.tight) (xs:=sl.map Sl.dv) (ys:=[rest.dv]) rfl (by omega) (by simp) (by simp [pK]) (by simp [aw];omega) (by simp [aw];omega)
    simp [Sl.dv,Sl.cs] at a1 a2
    have w1:((sl.length:Int)+1)=((sl.length+1:Nat):Int):=by simp
    simp [aF,bL,bQ,bP,aH,aD,aR,chunk,Sl.dv,Sl.cs,a1,a2,hne,hz]
 have h0:(E tab).C (.region xN [0,3]) (bl [sv,rest.dv] 0) (pst st [] [])=some (.normal,[(0,sv),(3,.ptr st.heap.length 0)],pst st [.cells .plain rest.cs] []):=by simp [Sl.dv,Sl.cs]
 have h1:(E tab).C (.seq (.region xV [0,3,9]) (.cond (.t 9) (.seq (.region xE [4]) .ret) .skip)) [(0,sv),(3,.ptr st.heap.length 0)] (pst st [.cells .plain rest.cs] [])=some (.normal,[(0,sv),(3,.ptr st.heap.length 0),(9,.bool false)],pst st [.cells .plain rest.cs] []):=by simp [e0,h,h']
 rw [show f126.body=(.seq (.region xN [0,3]) (.seq (.seq (.region xV [0,3,9]) (.cond (.t 9) (.seq (.region xE [4]) .ret) .skip)) (.seq (.seq (.au yE [] [(2,[0]),(3,[0])] [14,15,16]) (.block 0 nq)) (.seq (.region FY [4]) .ret)))) from rfl,cg,h0]
 simp only
 rw [cg,h1]
 simp only
 rw [cg,cg,hreg]
 simp only [List.length_nil] at hL
 simp only [la]
 have hL':=hL
 simp only [Int.natCast_zero] at hL'
 erw [hL']
 cases b<;>simp [f126,h]
end
structure BrS (N:Nat) (lv sv ov:DV) (rest:Sl) (G:List HO):Prop where
 r0:rowAt G 0=some (.plain,[sv])
 r1:rowAt G 1=some (.plain,rest.cs)
 r2:rowAt G 2=some (.plain,[lv,.fn 127 [] [.ptr N 0,.ptr (N+1) 0],ov])
theorem BrS.app {N:Nat} {lv sv ov:DV} {rest:Sl} {G:List HO} (h:BrS N lv sv ov rest G) (X:List HO):BrS N lv sv ov rest (G++X):=⟨cO h.r0 X,cO h.r1 X,cO h.r2 X⟩
section
variable {st:St} {l:List It} {lv sv ov:DV} {sl:List Sl} {rest:Sl} {G:List HO} {K:List Nat}
theorem Ix (hs:Sls st sl sv) (hG:BrS st.heap.length lv sv ov rest G) (n:Int):(E tab).F 127 [.int .i64 n,.ptr st.heap.length 0,.ptr (st.heap.length+1) 0] (pst st G K)=some ((aS sl rest n).dv,pst st (G++[.cells .plain (aS sl rest n).cs]) K):=by
 rw [gm ajO rfl]
 have e1:=uf (rest:=rest) (hs.inn (G++[.cells .plain [.int .i64 0,.int .i64 0]]) K) n
 have hr0:=cO hG.r0 [.cells .plain [.int .i64 0,.int .i64 0]]
 have hr1:=cO hG.r1 [.cells .plain [.int .i64 0,.int .i64 0]]
 generalize aS sl rest n=s at *
 simp only [Sl.cs,Sl.dv] at hr1 e1
 simp [f127,hr0,hr1,e1,Sl.cs,Sl.dv]
theorem BM (hv:Its st l lv) (hl:l.length≤140737488355328) (hG:BrS st.heap.length lv sv ov rest G) (i:Nat) (hi:i≤l.length):(E tab).F 141 [.ptr (st.heap.length+2) 0,.int .i64 i] (pst st G K)=some (.bool (kD l i),pst st G K):=by
 have e0:=fun st'=>bH hv st'
 have hr:=hG.r2
 rw [gm ada rfl]
 unfold kD
 by_cases h:i=l.length
 · simp [f141,hr,e0,h]
 have h0:i<l.length:=by omega
 have hb:(i==l.length)=false:=by simp [h]
 have h':¬ (i:Int)=l.length:=by omega
 have hx:l[i]? = some l[i]:=List.getElem?_eq_getElem h0
 have e1:=fun st'=>b7 hv h0 .i64 st'
 have e2:=fun st'=>cE hv hx (off:=0) (by omega) st'
 have e3:=fun H K=>fk hv hx H K
 rw [hx,hb]
 generalize l[i]=x at *
 by_cases k3:x.k=3
 · simp [f141,hr,e0,h,h',e1,e2,e3,k3]
 by_cases k2:x.k=2
 · by_cases hp:0<i
   · have h1:i-1<l.length:=by omega
     have hy:l[i-1]? = some l[i-1]:=List.getElem?_eq_getElem h1
     have q1:=fun st'=>b7 hv h1 .i64 st'
     have q2:=fun st'=>cE hv hy (off:=0) (by omega) st'
     have q3:=fun H K=>fk hv hy H K
     have w:IntKind.i64.wrap ((i:Int)-1)=((i-1:Nat):Int):=by rw [ar (by omega)];omega
     rw [hy]
     generalize l[i-1]=y at *
     simp [f141,hr,e0,h,h',e1,e2,e3,k2,hp,w,q1,q2,q3]
   · simp [f141,hr,e0,h,h',e1,e2,e3,k2,hp]
 · simp [f141,hr,e0,h,h',e1,e2,e3,k3,k2]
theorem MB (hv:Its st l lv) (hc:bb l=0) (hG:BrS st.heap.length lv sv ov rest G) (i:Nat) (hi:i<l.length) (a:Int) (ha:0≤a∧a≤100000000000):(E tab).F 142 [.ptr (st.heap.length+2) 0,.int .i64 i,.int .i64 a] (pst st G K)=some (.int .i64 (bW a l[i]),pst st G K):=by
 have hr:=hG.r2
 obtain ⟨hok,hlen⟩:=dS hc
 rw [gm alv rfl]
 have hx:l[i]? = some l[i]:=List.getElem?_eq_getElem hi
 have hxm:=hok _ (List.getElem_mem hi)
 have e1:=fun st'=>b7 hv hi .i64 st'
 have e2:=fun st'=>cE hv hx (off:=0) (by omega) st'
 have e3:=fun H K=>fk hv hx H K
 have e4:=fun st'=>cE hv hx (off:=3) (by omega) st'
 have e5:=fun H K=>xt hv hx H K
 have hd:(l.drop i).take (i+1-i)=[l[i]]:=by rw [show i+1-i=1 by omega,List.drop_eq_getElem_cons hi];rfl
 have hs:=lW hxm ha.1
 by_cases k1:l[i].k=1
 · have w1:IntKind.i64.wrap (a+l[i].w)=bW a l[i]:=by simp only [bW,k1,true_or,if_true] at hs ⊢;exact ar (by omega)
   generalize l[i]=x at *
   simp [f142,hr,e1,e2,e3,e4,e5,k1,w1]
 by_cases k2:l[i].k=2
 · have w1:IntKind.i64.wrap (a+l[i].w)=bW a l[i]:=by simp only [bW,k2,or_true,if_true] at hs ⊢;exact ar (by omega)
   generalize l[i]=x at *
   simp [f142,hr,e1,e2,e3,e4,e5,k1,k2,w1]
 by_cases k4:l[i].k=4
 · obtain ⟨v',hsl,hv'⟩:=Vw.slice hv (by omega) pM (lo:=i) (hi:=i+1) (by omega) (by simp;omega) .i64 .i64
   have w1:IntKind.i64.wrap ((i:Int)+1)=((i+1:Nat):Int):=by rw [ar (by omega)];simp
   rw [← List.map_drop,← List.map_take,hd] at hv'
   have hc1:bb [l[i]]=0:=by
    have:l.any fw=false:=by
     unfold bb at hc
     split at hc
     · omega
     · split at hc
       · omega
       · rename_i h;simpa using h
    have ho:=List.any_eq_false.1 this _ (List.getElem_mem hi)
    simp only [Bool.not_eq_true] at ho
    simp [bb,ho]
   have eS:bW a l[i]=gh a:=by simp [bW,k4]
   have hmin:eK jn [.int .i64 a,.int .i64 4095]=some (.int .i64 (min a 4095)):=by
    have:(if (4095:Int)<a then (4095:Int) else a)=min a 4095:=by split<;>omega
    simp [eK,jn,this]
   have hmw:bn (min a 4095)=true:=by simp [bn];omega
   have hwid:=Dk (hv'.inn G K) 0 1 (min a 4095)
   have hrg:ew [l[i]] 0 1=0:=by unfold ew;rw [if_neg (by simp),hc1]
   have hwv:GY [l[i]] 0 1 (min a 4095)=.tuple [.int .i64 (gh (min a 4095)-min a 4095),.int .i64 0]:=by
    unfold GY
    rw [hrg,hmw]
    simp [cl,aG,iq,k4,goI,bW]
   rw [hwv] at hwid
   rw [eS]
   by_cases hm:4095<a
   · have q1:IntKind.i64.wrap (a.tdiv 48)=a/48:=IntWalk.i64_quo _ _ (by omega)
     have q2:IntKind.i64.wrap (a/48+1)=a/48+1:=ar (by omega)
     have q3:IntKind.i64.wrap ((a/48+1)*48)=gh a:=ar (by omega)
     simp at hsl w1
     simp [f142,hr,e1,e2,e3,k1,k2,k4,hsl,w1,hmin,hwid,hm,q1,q2,q3]
   · have em:min a 4095=a:=by omega
     rw [em] at hwid hmin
     have q1:IntKind.i64.wrap (a+(gh a-a))=gh a:=by rw [ar (by unfold gh;omega)];omega
     simp at hsl w1
     simp [f142,hr,e1,e2,e3,k1,k2,k4,hsl,w1,hmin,hwid,hm,q1]
 · have w1:bW a l[i]=a:=by simp [bW,k1,k2,k4]
   rw [w1]
   simp [f142,hr,e1,e2,e3,k1,k2,k4]
theorem yS (x y z:DV) (st:St):(E tab).C jv [(0,x),(1,y),(26,z)] st=(E tab).C jv [(0,x),(1,y)] st:=by
 unfold jv;rw [ka];rfl
theorem xX (hv:Its st l lv) (hl:l.length≤140737488355328) (hG:BrS st.heap.length lv sv ov rest G):∀ (f i:Nat),l.length≤i+f→i≤l.length →
 ∃ fr,(E tab).C jv [(0,.ptr (st.heap.length+2) 0),(1,.int .i64 i)] (pst st G K)=some (.exit 0,[(0,.ptr (st.heap.length+2) 0),(1,.int .i64 (bu l f i:Nat))]++fr,pst st G K):=by
 have e0:=fun st'=>bH hv st'
 have hr:=hG.r2
 intro f
 induction f with
 | zero=>
   intro i h1 h2
   obtain rfl:i=l.length:=by omega
   refine ⟨[(46,.bool false)],?_⟩
   rw [ab (L:=jv) rfl]
   simp [qE,hr,e0,bu]
 | succ f ih=>
   intro i h1 h2
   by_cases h0:i<l.length
   · have hx:l[i]? = some l[i]:=List.getElem?_eq_getElem h0
     have e1:=fun st'=>b7 hv h0 .i64 st'
     have e2:=fun st'=>cE hv hx (off:=0) (by omega) st'
     have e3:=fun H K=>fk hv hx H K
     have hw1:IntKind.i64.wrap ((i:Int)+1)=(i+1:Nat):=by rw [ar (by omega)];simp
     by_cases hk:l[i].k=2
     · have eg:bu l (f+1) i=bu l f (i+1):=by simp [bu,hx,hk]
       obtain ⟨fr,hJ⟩:=ih (i+1) (by omega) (by omega)
       rw [eg]
       refine ⟨fr,?_⟩
       simp at hJ
       rw [ab (L:=jv) rfl]
       simp [qE,hr,e0,h0,e1,e2,e3,hk,hw1,hJ]
     · have eg:bu l (f+1) i=i:=by simp [bu,hx,hk]
       rw [eg]
       refine ⟨[(46,.bool false)],?_⟩
       rw [ab (L:=jv) rfl]
       simp [qE,hr,e0,h0,e1,e2,e3,hk]
   · have eg:bu l (f+1) i=i:=by simp [bu,h0]
     have h0':¬ (i:Int)<l.length:=by omega
     rw [eg]
     refine ⟨[(46,.bool false)],?_⟩
     rw [ab (L:=jv) rfl]
     simp [qE,hr,e0,h0,h0']
theorem GR (hv:Its st l lv) (hl:l.length≤140737488355328) (hG:BrS st.heap.length lv sv ov rest G) (i:Nat) (hi:i≤l.length):(E tab).F 130 [.ptr (st.heap.length+2) 0,.int .i64 i] (pst st G K)=some (.int .i64 (du l i:Nat),pst st G K):=by
 have e0:=fun st'=>bH hv st'
 have hr:=hG.r2
 rw [gm aiI rfl]
 unfold du
 by_cases h0:i<l.length
 · have hx:l[i]? = some l[i]:=List.getElem?_eq_getElem h0
   have e1:=fun st'=>b7 hv h0 .i64 st'
   have e2:=fun st'=>cE hv hx (off:=0) (by omega) st'
   have e3:=fun H K=>fk hv hx H K
   have hw1:IntKind.i64.wrap ((i:Int)+1)=(i+1:Nat):=by rw [ar (by omega)];simp
   rw [hx]
   by_cases hk:l[i].k=3
   · obtain ⟨fr,hL⟩:=xX (K:=K) hv hl hG l.length (i+1) (by omega) (by omega)
     simp at hL
     simp [f130,hr,e0,h0,e1,e2,e3,hk,hw1,yS,hL]
   · obtain ⟨fr,hL⟩:=xX (K:=K) hv hl hG l.length i (by omega) hi
     simp at hL
     simp [f130,hr,e0,h0,e1,e2,e3,hk,yS,hL]
 · obtain ⟨fr,hL⟩:=xX (K:=K) hv hl hG l.length i (by omega) hi
   simp at hL
   simp [f130,hr,e0,h0,yS,hL]
end
def lM (l:List It) (a:Nat) (X W:Int):Nat→Nat→Option Nat→Option (Nat×Bool)
 | 0,_,best=>best.map (·,false)
 | f+1,i,best=>
   if a<i∧kD l i=true then
    if W<cl l a i X then (match best with | none=>some (i,true) | some c=>some (c,false))
    else lM l a X W f (i+1) (some i)
   else lM l a X W f (i+1) best
theorem EM (l:List It):kD l l.length=true:=by simp [kD]
theorem gG (l:List It) (a:Nat) (X W:Int) (h:a<l.length):∀ (f i:Nat) (best:Option Nat),i+f=l.length+1→(best=none→i≤l.length)→a≤i→(∀ c,best=some c→a<c∧c≤l.length)→∃ b w,lM l a X W f i best=some (b,w)∧a<b∧b≤l.length
 | 0,i,best,h1,h2,h3,h4=>by
   cases best with
   | none=>have:=h2 rfl;omega
   | some c=>exact ⟨c,false,rfl,h4 c rfl⟩
 | f+1,i,best,h1,h2,h3,h4=>by
   unfold lM
   split
   · rename_i hc
     split
     · cases best with
       | none=>exact ⟨i,true,rfl,hc.1,h2 rfl⟩
       | some c=>exact ⟨c,false,rfl,h4 c rfl⟩
     · exact gG l a X W h f (i+1) (some i) (by omega) (fun e=>by cases e) (by omega) (fun c e=>by cases e;omega)
   · rename_i hc
     refine gG l a X W h f (i+1) best (by omega) (fun e => ?_) (by omega) h4
     have:=h2 e
     by_cases hi:i=l.length
     · subst hi;exact absurd ⟨by omega,EM l⟩ hc
     · omega
def eU:Option Nat→Int
 | none => -1
 | some c=>c
def iW (l:List It) (a:Nat) (X:Int):Option Nat→Int
 | none=>0
 | some c=>cl l a c X
def hyI (l:List It) (b:Nat):Bool:=match l[b]? with | some x=>x.y | none=>false
def di (l:List It) (a:Nat) (s:Sl):Pc:=
 match lM l a s.x s.w (l.length+1-a) a none with
 | some (b,w)=>⟨a,b,w,hyI l b,cl l a b s.x⟩
 | none=>⟨a,-1,false,false,0⟩
section
variable {st:St} {l:List It} {lv sv ov:DV} {sl:List Sl} {rest:Sl} {G:List HO} {K:List Nat}
theorem LD (l:List It) (a:Nat) (X:Int) (i:Nat) (ha:a≤i) (hi:i<l.length) :
 goI X ((l.drop a).take (i+1-a))=bW (goI X ((l.drop a).take (i-a))) l[i] ∧
 goI X ((l.drop a).take (aG l a (i+1)-a))=(if l[i].k=2 then goI X ((l.drop a).take (aG l a i-a)) else bW (goI X ((l.drop a).take (i-a))) l[i]):=by
 have ed:(l.drop a).take (i+1-a)=(l.drop a).take (i-a)++[l[i]]:=by
  rw [show i+1-a=(i-a)+1 by omega,List.take_succ_eq_append_getElem (by simp;omega)]
  congr 2
  rw [List.getElem_drop];congr 1;omega
 have e1:goI X ((l.drop a).take (i+1-a))=bW (goI X ((l.drop a).take (i-a))) l[i]:=by rw [ed,A7];rfl
 refine ⟨e1,?_⟩
 have hx:l[i]? = some l[i]:=List.getElem?_eq_getElem hi
 by_cases hk:l[i].k=2
 · rw [if_pos hk,aG,if_pos ⟨ha,by simp [hx,hk]⟩]
 · rw [if_neg hk,aG,if_neg (by rintro ⟨_,h⟩;simp [hx] at h;exact hk h),e1]
theorem UY (hv:Its st l lv) (hc:bb l=0) (hG:BrS st.heap.length lv sv ov rest G) (i:Nat) (hi:i≤l.length) (w0:Int) (hw:-100000000000≤w0∧w0≤100000000000) (y1 y5 y6 y7 y8 y9 y10:DV) :
 ∃ ex,(E tab).C (.seq (.region um [0,1,5,6,7,8,9,10,11,12,67]) (.cond (.t 67) (.region oY [0,1,5,6,7,8,9,10,11,12]) .skip)) [(0,.ptr (st.heap.length+2) 0),(1,y1),(5,y5),(6,y6),(7,y7),(8,y8),(9,y9),(10,y10),(11,.int .i64 i),(12,.int .i64 w0)] (pst st G K) =
   some (.normal,[(0,.ptr (st.heap.length+2) 0),(1,y1),(5,y5),(6,y6),(7,y7),(8,y8),(9,y9),(10,y10),(11,.int .i64 i),(12,.int .i64 (w0+iq l i))]++ex,pst st G K):=by
 have e0:=fun st'=>bH hv st'
 have hr:=hG.r2
 by_cases h0:i<l.length
 · have hx:l[i]? = some l[i]:=List.getElem?_eq_getElem h0
   have e1:=fun st'=>b7 hv h0 .i64 st'
   have e2:=fun st'=>cE hv hx (off:=0) (by omega) st'
   have e3:=fun H K=>fk hv hx H K
   have e4:=fun st'=>cE hv hx (off:=3) (by omega) st'
   have e5:=fun H K=>xt hv hx H K
   have hb:=(dS hc).1 _ (List.getElem_mem h0)
   by_cases k3:l[i].k=3
   · have ep:iq l i=l[i].w:=by simp [iq,hx,k3]
     have w1:IntKind.i64.wrap (w0+l[i].w)=w0+l[i].w:=ar (by omega)
     rw [ep]
     generalize l[i]=x at *
     refine ⟨[],?_⟩
     simp [hr,e0,h0,e1,e2,e3,e4,e5,k3,w1]
   · have ep:iq l i=0:=by simp [iq,hx,k3]
     rw [ep]
     generalize l[i]=x at *
     refine ⟨[(67,.bool false)],?_⟩
     simp [hr,e0,h0,e1,e2,e3,k3]
 · have ep:iq l i=0:=by simp [iq,h0]
   rw [ep]
   refine ⟨[(67,.bool false)],?_⟩
   simp [hr,e0,h0]
theorem V6 (hv:Its st l lv) (hc:bb l=0) (hG:BrS st.heap.length lv sv ov rest G) (a:Nat) (ha:a<l.length) (X W:Int) (hX:0≤X∧X≤4095) (h:Nat) (hh:rowAt G h=some (.plain,[.int .i64 X,.int .i64 W])) (i:Nat) (hi:i≤l.length) (hai:a≤i) (best:Option Nat) (y9:DV) (ex0:Fr) :
 ∃ ex,(E tab).C (.seq (.region ue [0,1,5,6,7,8,9,10,11,45]) (.cond (.t 45) (.seq (.region tD [0,1,5,6,7,8,9,10,11,12]) (.seq (.seq (.region um [0,1,5,6,7,8,9,10,11,12,67]) (.cond (.t 67) (.region oY [0,1,5,6,7,8,9,10,11,12]) .skip)) (.seq (.seq (.region tL [0,1,5,6,7,8,9,10,11,12,85]) (.cond (.t 85) (.seq (.seq (.region tR [0,1,5,8,9,10,11,12,89]) (.cond (.t 89) (.region sV [0,1,5,8,9,10,11,12]) .skip)) (.region tY [0,1,5,6,7,8,9,10,11,12])) .skip)) (.seq (.region sX [0,1,5,6,7,8,9,10,11,95]) (.cond (.t 95) (.exit 0) .skip))))) .skip))
  ([(0,.ptr (st.heap.length+2) 0),(1,.int .i64 a),(5,.ptr (st.heap.length+h) 0),(6,.int .i64 (eU best)),(7,.int .i64 (iW l a X best)),(8,.bool false),(9,y9),(10,.int .i64 (goI X ((l.drop a).take (aG l a i-a)))),(11,.int .i64 i)]++ex0) (pst st G K) =
  some (if a<i∧kD l i=true then
   (if W<cl l a i X then (.exit 0,(match best with
       | none=>[(0,.ptr (st.heap.length+2) 0),(1,.int .i64 a),(5,.ptr (st.heap.length+h) 0),(6,.int .i64 i),(7,.int .i64 (cl l a i X)),(8,.bool true)]
       | some c=>[(0,.ptr (st.heap.length+2) 0),(1,.int .i64 a),(5,.ptr (st.heap.length+h) 0),(6,.int .i64 c),(7,.int .i64 (cl l a c X)),(8,.bool false)])++ex,pst st G K)
   else (.normal,[(0,.ptr (st.heap.length+2) 0),(1,.int .i64 a),(5,.ptr (st.heap.length+h) 0),(6,.int .i64 i),(7,.int .i64 (cl l a i X)),(8,.bool false),(9,y9),(10,.int .i64 (goI X ((l.drop a).take (aG l a i-a)))),(11,.int .i64 i)]++ex,pst st G K))
   else (.normal,[(0,.ptr (st.heap.length+2) 0),(1,.int .i64 a),(5,.ptr (st.heap.length+h) 0),(6,.int .i64 (eU best)),(7,.int .i64 (iW l a X best)),(8,.bool false),(9,y9),(10,.int .i64 (goI X ((l.drop a).take (aG l a i-a)))),(11,.int .i64 i)]++ex,pst st G K)):=by
 obtain ⟨hok,hlen⟩:=dS hc
 have hleg:=BM (K:=K) hv (by omega) hG i hi
 by_cases h1:a<i
 · cases h2:kD l i with
   | false=>
     rw [h2] at hleg
     simp only [Bool.false_eq_true,and_false,if_false]
     refine ⟨[(45,.bool false)],?_⟩
     simp [h1,hleg]
   | true=>
     rw [h2] at hleg
     simp only [h1,and_self,if_true]
     have hp:okW ((l.drop a).take (aG l a i-a)):=fun y hy=>hok y (List.mem_of_mem_drop (List.mem_of_mem_take hy))
     have hlen':((l.drop a).take (aG l a i-a)).length≤8192:=by simp;omega
     have hg:=qj (a:=X) hp (by omega)
     have hwid:cl l a i X=goI X ((l.drop a).take (aG l a i-a))-X+iq l i:=by unfold cl;omega
     generalize goI X ((l.drop a).take (aG l a i-a))=g at *
     obtain ⟨ex9,h9⟩:=UY (K:=K) hv hc hG i hi (g-X) (by omega) (.int .i64 a) (.ptr (st.heap.length+h) 0) (.int .i64 (eU best)) (.int .i64 (iW l a X best)) (.bool false) y9 (.int .i64 g)
     have w1:IntKind.i64.wrap (g-X)=g-X:=ar (by omega)
     have hr7:(E tab).C (.region ue [0,1,5,6,7,8,9,10,11,45]) ([(0,.ptr (st.heap.length+2) 0),(1,.int .i64 a),(5,.ptr (st.heap.length+h) 0),(6,.int .i64 (eU best)),(7,.int .i64 (iW l a X best)),(8,.bool false),(9,y9),(10,.int .i64 g),(11,.int .i64 i)]++ex0) (pst st G K) =
      some (.normal,[(0,.ptr (st.heap.length+2) 0),(1,.int .i64 a),(5,.ptr (st.heap.length+h) 0),(6,.int .i64 (eU best)),(7,.int .i64 (iW l a X best)),(8,.bool false),(9,y9),(10,.int .i64 g),(11,.int .i64 i),(45,.bool true)],pst st G K):=by simp [h1,hleg]
     have hr8:(E tab).C (.region tD [0,1,5,6,7,8,9,10,11,12]) [(0,.ptr (st.heap.length+2) 0),(1,.int .i64 a),(5,.ptr (st.heap.length+h) 0),(6,.int .i64 (eU best)),(7,.int .i64 (iW l a X best)),(8,.bool false),(9,y9),(10,.int .i64 g),(11,.int .i64 i),(45,.bool true)] (pst st G K) =
      some (.normal,[(0,.ptr (st.heap.length+2) 0),(1,.int .i64 a),(5,.ptr (st.heap.length+h) 0),(6,.int .i64 (eU best)),(7,.int .i64 (iW l a X best)),(8,.bool false),(9,y9),(10,.int .i64 g),(11,.int .i64 i),(12,.int .i64 (g-X))],pst st G K):=by simp [hh,w1]
     rw [← hwid] at h9
     rw [cg,hr7]
     simp only
     rw [QV _ _ _ _ _ true rfl]
     simp only [if_true]
     rw [cg,hr8]
     simp only
     rw [cg,h9]
     simp only
     generalize cl l a i X=w at *
     by_cases hW:W<w
     · have hW':¬ w≤W:=by omega
       simp only [hW,if_true]
       cases best with
       | none=>
         refine ⟨[(9,y9),(10,.int .i64 g),(11,.int .i64 i),(95,.bool true)],?_⟩
         simp [eU,iW,hh,hW]
       | some c=>
         refine ⟨[(9,y9),(10,.int .i64 g),(11,.int .i64 i),(95,.bool true)],?_⟩
         simp [eU,iW,hh,hW,hW']
     · have hW':w≤W:=by omega
       simp only [hW,if_false]
       cases best with
       | none=>
         refine ⟨[(95,.bool false)],?_⟩
         simp [eU,iW,hh,hW]
       | some c=>
         refine ⟨[(95,.bool false)],?_⟩
         simp [eU,iW,hh,hW,hW']
 · simp only [h1,false_and,if_false]
   refine ⟨[(45,.bool false)],?_⟩
   simp [h1]
end
section
variable {st:St} {l:List It} {lv sv ov:DV} {sl:List Sl} {rest:Sl} {G:List HO} {K:List Nat}
theorem Yl (hv:Its st l lv) (hc:bb l=0) (hG:BrS st.heap.length lv sv ov rest G) (a:Nat) (X:Int) (hX:0≤X∧X≤4095) (i:Nat) (hi:i≤l.length) (hai:a≤i) (y1 y5 y6 y7 y8:DV) (ex:Fr) :
 ∃ ex',(E tab).C (.seq (.region Bb [0,1,5,6,7,8,9,10,11,102]) (.cond (.t 102) (.seq (.region z9 [0,1,5,6,7,8,9,10,11]) (.seq (.region An [0,1,5,6,7,8,9,10,11,115]) (.cond (.t 115) (.region Au [0,1,5,6,7,8,9,10,11]) .skip))) .skip))
  ([(0,.ptr (st.heap.length+2) 0),(1,y1),(5,y5),(6,y6),(7,y7),(8,y8),(9,.int .i64 (goI X ((l.drop a).take (i-a)))),(10,.int .i64 (goI X ((l.drop a).take (aG l a i-a)))),(11,.int .i64 i)]++ex) (pst st G K) =
  some (.normal,[(0,.ptr (st.heap.length+2) 0),(1,y1),(5,y5),(6,y6),(7,y7),(8,y8),(9,.int .i64 (goI X ((l.drop a).take ((if i<l.length then i+1 else i)-a)))),(10,.int .i64 (goI X ((l.drop a).take (aG l a (if i<l.length then i+1 else i)-a)))),(11,.int .i64 i)]++ex',pst st G K):=by
 obtain ⟨hok,hlen⟩:=dS hc
 have e0:=fun st'=>bH hv st'
 have hr:=hG.r2
 by_cases h0:i<l.length
 · obtain ⟨g1,g2⟩:=LD l a X i hai h0
   simp only [h0,if_true]
   rw [g1,g2]
   have hp:okW ((l.drop a).take (i-a)):=fun y hy=>hok y (List.mem_of_mem_drop (List.mem_of_mem_take hy))
   have hlen':((l.drop a).take (i-a)).length≤8192:=by simp;omega
   have hg:=qj (a:=X) hp (by omega)
   generalize goI X ((l.drop a).take (i-a))=g at *
   generalize goI X ((l.drop a).take (aG l a i-a))=e at *
   have hpa:=MB (K:=K) hv hc hG i h0 g (by omega)
   have hx:l[i]? = some l[i]:=List.getElem?_eq_getElem h0
   have e1:=fun st'=>b7 hv h0 .i64 st'
   have e2:=fun st'=>cE hv hx (off:=0) (by omega) st'
   have e3:=fun H K=>fk hv hx H K
   generalize l[i]=x at *
   by_cases hk:x.k=2
   · refine ⟨[(115,.bool false)],?_⟩
     simp [hr,e0,h0,hpa,e1,e2,e3,hk]
   · refine ⟨[],?_⟩
     simp [hr,e0,h0,hpa,e1,e2,e3,hk]
 · simp only [h0,if_false]
   refine ⟨[(102,.bool false)],?_⟩
   simp [hr,e0,h0]
theorem VC (hv:Its st l lv) (hc:bb l=0) (hG:BrS st.heap.length lv sv ov rest G) (a:Nat) (ha:a<l.length) (X W:Int) (hX:0≤X∧X≤4095) (h:Nat) (hh:rowAt G h=some (.plain,[.int .i64 X,.int .i64 W])) :
 ∀ (m i:Nat) (best:Option Nat) (y9 y10:DV),i+m=l.length+1→a≤i→(i≤l.length→y9=.int .i64 (goI X ((l.drop a).take (i-a)))∧y10=.int .i64 (goI X ((l.drop a).take (aG l a i-a)))) →
 ∀ b w,lM l a X W m i best=some (b,w)→∃ fr,(E tab).C jr [(0,.ptr (st.heap.length+2) 0),(1,.int .i64 a),(5,.ptr (st.heap.length+h) 0),(6,.int .i64 (eU best)),(7,.int .i64 (iW l a X best)),(8,.bool false),(9,y9),(10,y10),(11,.int .i64 i)] (pst st G K) =
   some (.exit 0,[(0,.ptr (st.heap.length+2) 0),(1,.int .i64 a),(5,.ptr (st.heap.length+h) 0),(6,.int .i64 b),(7,.int .i64 (cl l a b X)),(8,.bool w)]++fr,pst st G K):=by
 obtain ⟨hok,hlen⟩:=dS hc
 have e0:=fun st'=>bH hv st'
 have hr:=hG.r2
 intro m
 induction m with
 | zero=>
   intro i best y9 y10 hi hai hy b w ho
   have h0:¬ i≤l.length:=by omega
   cases best with
   | none=>simp [lM] at ho
   | some c=>
     simp only [lM,Option.map_some,Option.some.injEq,Prod.mk.injEq] at ho
     obtain ⟨rfl,rfl⟩:=ho
     refine ⟨[(9,y9),(10,y10),(11,.int .i64 i),(35,.bool false)],?_⟩
     rw [ab (L:=jr) rfl]
     simp [qP,hr,e0,h0,eU,iW]
 | succ m ih=>
   intro i best y9 y10 hi hai hy b w ho
   have h0:i≤l.length:=by omega
   obtain ⟨rfl,rfl⟩:=hy h0
   have hw1:IntKind.i64.wrap ((i:Int)+1)=((i+1:Nat):Int):=by rw [ar (by omega)];simp
   obtain ⟨ex,hA⟩:=V6 (K:=K) hv hc hG a ha X W hX h hh i h0 hai best (.int .i64 (goI X ((l.drop a).take (i-a)))) [(35,.bool true)]
   have h6:(E tab).C (.seq (.region Eu [0,1,5,6,7,8,9,10,11,35]) (.cond (.t 35) .skip (.exit 0))) (Fr.bq [(0,.ptr (st.heap.length+2) 0),(1,.int .i64 a),(5,.ptr (st.heap.length+h) 0),(6,.int .i64 (eU best)),(7,.int .i64 (iW l a X best)),(8,.bool false),(9,.int .i64 (goI X ((l.drop a).take (i-a)))),(10,.int .i64 (goI X ((l.drop a).take (aG l a i-a)))),(11,.int .i64 i)] [0,1,5,6,7,8,9,10,11]) (pst st G K) =
    some (.normal,[(0,.ptr (st.heap.length+2) 0),(1,.int .i64 a),(5,.ptr (st.heap.length+h) 0),(6,.int .i64 (eU best)),(7,.int .i64 (iW l a X best)),(8,.bool false),(9,.int .i64 (goI X ((l.drop a).take (i-a)))),(10,.int .i64 (goI X ((l.drop a).take (aG l a i-a)))),(11,.int .i64 i)]++[(35,.bool true)],pst st G K):=by simp [hr,e0,h0]
   have turn:∀ (best':Option Nat) (ex:Fr) ,(E tab).C (.seq (.region ue [0,1,5,6,7,8,9,10,11,45]) (.cond (.t 45) (.seq (.region tD [0,1,5,6,7,8,9,10,11,12]) (.seq (.seq (.region um [0,1,5,6,7,8,9,10,11,12,67]) (.cond (.t 67) (.region oY [0,1,5,6,7,8,9,10,11,12]) .skip)) (.seq (.seq (.region tL [0,1,5,6,7,8,9,10,11,12,85]) (.cond (.t 85) (.seq (.seq (.region tR [0,1,5,8,9,10,11,12,89]) (.cond (.t 89) (.region sV [0,1,5,8,9,10,11,12]) .skip)) (.region tY [0,1,5,6,7,8,9,10,11,12])) .skip)) (.seq (.region sX [0,1,5,6,7,8,9,10,11,95]) (.cond (.t 95) (.exit 0) .skip))))) .skip)) ([(0,.ptr (st.heap.length+2) 0),(1,.int .i64 a),(5,.ptr (st.heap.length+h) 0),(6,.int .i64 (eU best)),(7,.int .i64 (iW l a X best)),(8,.bool false),(9,.int .i64 (goI X ((l.drop a).take (i-a)))),(10,.int .i64 (goI X ((l.drop a).take (aG l a i-a)))),(11,.int .i64 i)]++[(35,.bool true)]) (pst st G K) =
    some (.normal,[(0,.ptr (st.heap.length+2) 0),(1,.int .i64 a),(5,.ptr (st.heap.length+h) 0),(6,.int .i64 (eU best')),(7,.int .i64 (iW l a X best')),(8,.bool false),(9,.int .i64 (goI X ((l.drop a).take (i-a)))),(10,.int .i64 (goI X ((l.drop a).take (aG l a i-a)))),(11,.int .i64 i)]++ex,pst st G K) →
    lM l a X W m (i+1) best'=some (b,w)→∃ fr,(E tab).C jr [(0,.ptr (st.heap.length+2) 0),(1,.int .i64 a),(5,.ptr (st.heap.length+h) 0),(6,.int .i64 (eU best)),(7,.int .i64 (iW l a X best)),(8,.bool false),(9,.int .i64 (goI X ((l.drop a).take (i-a)))),(10,.int .i64 (goI X ((l.drop a).take (aG l a i-a)))),(11,.int .i64 i)] (pst st G K) =
    some (.exit 0,[(0,.ptr (st.heap.length+2) 0),(1,.int .i64 a),(5,.ptr (st.heap.length+h) 0),(6,.int .i64 b),(7,.int .i64 (cl l a b X)),(8,.bool w)]++fr,pst st G K):=by
    intro best' ex hA' ho'
    obtain ⟨ex2,hB⟩:=Yl (K:=K) hv hc hG a X hX i h0 hai (.int .i64 a) (.ptr (st.heap.length+h) 0) (.int .i64 (eU best')) (.int .i64 (iW l a X best')) (.bool false) ex
    obtain ⟨fr,hJ⟩:=ih (i+1) best' (.int .i64 (goI X ((l.drop a).take ((if i<l.length then i+1 else i)-a)))) (.int .i64 (goI X ((l.drop a).take (aG l a (if i<l.length then i+1 else i)-a)))) (by omega) (by omega) (fun hle=>by rw [if_pos (by omega)];exact ⟨rfl,rfl⟩) b w ho'
    refine ⟨fr,?_⟩
    rw [ab (L:=jr) rfl,qP,cg,h6]
    simp only
    rw [cg,la,cg,hA']
    simp only
    rw [hB]
    simp at hJ
    simp [hw1,hJ]
   unfold lM at ho
   by_cases hle:a<i∧kD l i=true
   · rw [if_pos hle] at ho hA
     by_cases hW:W<cl l a i X
     · rw [if_pos hW] at ho hA
       cases best with
       | none=>
         simp only [Option.some.injEq,Prod.mk.injEq] at ho
         obtain ⟨rfl,rfl⟩:=ho
         refine ⟨ex,?_⟩
         rw [ab (L:=jr) rfl,qP,cg,h6]
         simp only
         rw [cg,la,cg,hA]
         simp
       | some c=>
         simp only [Option.some.injEq,Prod.mk.injEq] at ho
         obtain ⟨rfl,rfl⟩:=ho
         refine ⟨ex,?_⟩
         rw [ab (L:=jr) rfl,qP,cg,h6]
         simp only
         rw [cg,la,cg,hA]
         simp
     · rw [if_neg hW] at ho hA
       exact turn (some i) ex hA ho
   · rw [if_neg hle] at ho hA
     exact turn best ex hA ho
end
section
variable {st:St} {l:List It} {lv sv ov:DV} {sl:List Sl} {rest:Sl} {G:List HO} {K:List Nat}
def uF (N h:Nat):List aj:=[
 ⟨some 14,.mv (.t 0),none⟩,
 ⟨some 15,.aT (.t 14),none⟩,
 ⟨some 16,.fy 1 (.t 15),none⟩,
 ⟨some 17,.load 1 false (.t 16),none⟩,
 ⟨some 18,.mv (.t 0),none⟩,
 ⟨some 19,.aT (.t 18),none⟩,
 ⟨some 20,.fy 2 (.t 19),none⟩,
 ⟨some 21,.load 1 false (.t 20),none⟩,
 ⟨some 22,.len .slice (.t 21),none⟩,
 ⟨some 23,.bC (.t 17) [(.t 22)],none⟩,
 ⟨some 5,.got (.ptr (N+h) 0) [],none⟩,
 ⟨none,.store 2 (.t 5) (.t 23),none⟩]
theorem BL (hs:Sls st sl sv) (hG:BrS st.heap.length lv sv ov rest G) {ps:List Pc} (hA:Acc st K 5 (ps.map Pc.dv) ov) (y1:DV) :
 ∃ J,(E tab).C (.au te [10] [] [0,1,5]) [(0,.ptr (st.heap.length+2) 0),(1,y1)] (pst st G K) =
   some (.normal,[(0,.ptr (st.heap.length+2) 0),(1,y1),(5,.ptr (st.heap.length+G.length) 0)],pst st (G++.cells .plain (aS sl rest ps.length).cs::J) K):=by
 have hr:=hG.r2
 have hG2:=hG.app [.cells .plain [.int .i64 0,.int .i64 0]]
 have hr2:=hG2.r2
 obtain ⟨t,n',tk,nn,rfl⟩:=bR hA
 have hc:=Ix (K:=K) hs hG2 ps.length
 have hV:=dT (T:=tab) 127 [] [.ptr st.heap.length 0,.ptr (st.heap.length+1) 0] [.int .i64 (ps.length:Nat)] (pst st (G++[.cells .plain [.int .i64 0,.int .i64 0]]) K)
 simp only [List.nil_append,List.singleton_append] at hV
 rw [hc] at hV
 have hp:il [(0,.ptr (st.heap.length+2) 0),(1,y1)] [10] (pst st G K) te=some (pst st (G++[.cells .plain [.int .i64 0,.int .i64 0]]) K,uF st.heap.length G.length):=by
  simp [il,GB,Ew,aH,q9,ja,mL,uF,hr]
 refine ⟨[.cells .plain (aS sl rest ps.length).cs],?_⟩
 rw [yp hp]
 generalize aS sl rest ps.length=s at *
 simp only [Sl.cs,Sl.dv] at hV
 simp [bL,uF,aH,hr2,hV,Sl.cs]
theorem BrS.amD {N:Nat} (h:BrS N lv sv ov rest G) (ov':DV):BrS N lv sv ov' rest (G.set 2 (.cells .plain [lv,.fn 127 [] [.ptr N 0,.ptr (N+1) 0],ov'])):=by
 have k2:=kG h.r2
 refine ⟨?_,?_,mV k2 _ _⟩
 · have:=h.r0;unfold rowAt at this ⊢;rw [List.getElem?_set_ne (by omega)];exact this
 · have:=h.r1;unfold rowAt at this ⊢;rw [List.getElem?_set_ne (by omega)];exact this
theorem IZ (hs:Sls st sl sv) (hv:Its st l lv) (hc:bb l=0) (hG:BrS st.heap.length lv sv ov rest G) {ps:List Pc} (hA:Acc st K 5 (ps.map Pc.dv) ov) (hps:ps.length≤10000) (a:Nat) (ha:a<l.length)
 (hX:0≤(aS sl rest ps.length).x∧(aS sl rest ps.length).x≤4095) :
 ∃ (b:Nat) (G':List HO) (K':List Nat) (ov':DV),a<b∧b≤l.length∧(di l a (aS sl rest ps.length)).b=b∧(E tab).F 129 [.ptr (st.heap.length+2) 0,.int .i64 a] (pst st G K)=some (.int .i64 b,pst st G' K')∧BrS st.heap.length lv sv ov' rest G' ∧
   Acc st K' 5 ((ps++[di l a (aS sl rest ps.length)]).map Pc.dv) ov':=by
 have e0:=fun st'=>bH hv st'
 obtain ⟨hok,hlen⟩:=dS hc
 obtain ⟨J,hH⟩:=BL hs hG hA (.int .i64 a)
 generalize hsl:aS sl rest ps.length=s at *
 obtain ⟨b,w,ho,hab,hbl⟩:=gG l a s.x s.w ha (l.length+1-a) a none (by omega) (fun _=>by omega) (Nat.le_refl _) (fun c e=>by cases e)
 have hpc:di l a s=⟨a,b,w,hyI l b,cl l a b s.x⟩:=by unfold di;rw [ho]
 have hG1:=hG.app (.cells .plain s.cs::J)
 have hh:rowAt (G++.cells .plain s.cs::J) G.length=some (.plain,[.int .i64 s.x,.int .i64 s.w]):=by rw [show G.length=G.length+0 from rfl,og];rfl
 generalize hG1e:G++HO.cells .plain s.cs::J=G1 at *
 obtain ⟨fr,hL⟩:=VC (K:=K) hv hc hG1 a ha s.x s.w hX G.length hh (l.length+1-a) a none (.int .i64 s.x) (.int .i64 s.x) (by omega) (Nat.le_refl _) (fun _=>by
  have ht:aG l a a=a:=by
   cases a with
   | zero=>rfl
   | succ k=>rw [aG,if_neg (by omega)]
  rw [ht];simp [goI]) b w ho
 have hG2:=hG1.app [.cells .plain (Pc.cs ⟨a,b,w,false,cl l a b s.x⟩)]
 have hG3:=hG1.app [.cells .plain (Pc.cs ⟨a,b,w,hyI l b,cl l a b s.x⟩)]
 obtain ⟨ov',K',hap,hA'⟩:=dh (H:=G1++[.cells .plain (Pc.cs ⟨a,b,w,hyI l b,cl l a b s.x⟩)]) (by_:=32) (ag:=true) (tk:=.tight) (t:=st.cur) (ys:=[Pc.dv ⟨a,b,w,hyI l b,cl l a b s.x⟩]) hA (by omega) (by simp) (by simp [M6]) (by simp [aw];omega) (by simp [aw];omega)
 refine ⟨b,(G1++[HO.cells .plain (Pc.cs ⟨a,b,w,hyI l b,cl l a b s.x⟩)]).set 2 (.cells .plain [lv,.fn 127 [] [.ptr st.heap.length 0,.ptr (st.heap.length+1) 0],ov']),K',ov',hab,hbl,by rw [hpc],?_,hG3.amD ov',by rw [hpc];simpa using hA'⟩
 have hr2:=hG2.r2
 have hr3:=hG3.r2
 have k3:=kG hr3
 have hov:ov'.leaves=[ov']∧ov'.bg=true:=by
  rcases hA' with ⟨_,t,n',tk,rfl⟩ | ⟨k,s,rfl,_⟩<;>exact ⟨rfl,rfl⟩
 have h22:(E tab).C (.region uE [0,6,13]) [(0,.ptr (st.heap.length+2) 0),(6,.int .i64 b),(13,.ptr (st.heap.length+G1.length) 0)] (pst st (G1++[.cells .plain (Pc.cs ⟨a,b,w,false,cl l a b s.x⟩)]) K) =
  some (.normal,[(0,.ptr (st.heap.length+2) 0),(6,.int .i64 b),(13,.ptr (st.heap.length+G1.length) 0)],pst st (G1++[.cells .plain (Pc.cs ⟨a,b,w,hyI l b,cl l a b s.x⟩)]) K):=by
  by_cases hb:b<l.length
  · have hx:l[b]? = some l[b]:=List.getElem?_eq_getElem hb
    have e1:=fun st'=>b7 hv hb .i64 st'
    have e2:=fun st'=>cE hv hx (off:=7) (by omega) st'
    have e3:=fun H K=>MG hv hx H K
    have eh:hyI l b=l[b].y:=by simp [hyI,hx]
    rw [eh]
    generalize l[b]=x at *
    simp only [Pc.cs] at hr2
    simp [hr2,e0,hb,e1,e2,e3,Pc.cs]
  · have eh:hyI l b=false:=by simp [hyI,hb]
    rw [eh]
    simp only [Pc.cs] at hr2
    simp [hr2,e0,hb,Pc.cs]
 have h23:(E tab).C (.au sY [] [] [6]) [(0,.ptr (st.heap.length+2) 0),(6,.int .i64 b),(13,.ptr (st.heap.length+G1.length) 0)] (pst st (G1++[.cells .plain (Pc.cs ⟨a,b,w,hyI l b,cl l a b s.x⟩)]) K) =
  some (.normal,[(6,.int .i64 b)],pst st ((G1++[HO.cells .plain (Pc.cs ⟨a,b,w,hyI l b,cl l a b s.x⟩)]).set 2 (.cells .plain [lv,.fn 127 [] [.ptr st.heap.length 0,.ptr (st.heap.length+1) 0],ov'])) K'):=by
  simp only [Pc.cs,Pc.dv] at hr3 hap k3
  simp [hr3,aD,aR,chunk,Pc.cs,hap,hov.1,hov.2]
 rw [gm akk rfl]
 have h0:(E tab).C (.region yt [0,1]) (bl [.ptr (st.heap.length+2) 0,.int .i64 a] 0) (pst st G K)=some (.normal,[(0,.ptr (st.heap.length+2) 0),(1,.int .i64 a)],pst st G K):=by simp
 have hmid:(E tab).C (.seq (.region yR [0,1,5,6,7,8]) (.seq (.region yh [0,1,5,6,7,8,9]) (.seq (.region zt [0,1,5,6,7,8,9,10]) (.seq (.region yf [0,1,5,6,7,8,9,10,11]) (.block 0 jr))))) [(0,.ptr (st.heap.length+2) 0),(1,.int .i64 a),(5,.ptr (st.heap.length+G.length) 0)] (pst st G1 K) =
  some (.normal,[(0,.ptr (st.heap.length+2) 0),(1,.int .i64 a),(5,.ptr (st.heap.length+G.length) 0),(6,.int .i64 b),(7,.int .i64 (cl l a b s.x)),(8,.bool w)]++fr,pst st G1 K):=by
  have e1:(-1:Int)=Int.negSucc 0:=rfl
  simp [eU,iW] at hL
  simp [hh,hL]
 have h21:(E tab).C (.region tq [0,6,13]) ([(0,.ptr (st.heap.length+2) 0),(1,.int .i64 a),(5,.ptr (st.heap.length+G.length) 0),(6,.int .i64 b),(7,.int .i64 (cl l a b s.x)),(8,.bool w)]++fr) (pst st G1 K) =
  some (.normal,[(0,.ptr (st.heap.length+2) 0),(6,.int .i64 b),(13,.ptr (st.heap.length+G1.length) 0)],pst st (G1++[.cells .plain (Pc.cs ⟨a,b,w,false,cl l a b s.x⟩)]) K):=by
  simp [Pc.cs]
 rw [show f129.body=(.seq (.region yt [0,1]) (.seq (.au te [10] [] [0,1,5]) (.seq (.region yR [0,1,5,6,7,8]) (.seq (.region yh [0,1,5,6,7,8,9]) (.seq (.region zt [0,1,5,6,7,8,9,10]) (.seq (.seq (.region yf [0,1,5,6,7,8,9,10,11]) (.block 0 jr)) (.seq (.region tq [0,6,13]) (.seq (.region uE [0,6,13]) (.seq (.au sY [] [] [6]) (.seq (.region AK [4]) .ret)))))))))) from rfl,cg,h0]
 simp only
 rw [cg,hH]
 simp only
 obtain ⟨fu1,S1,m1,m2⟩:=nW hmid
 obtain ⟨fu2,S2,m3,m4⟩:=nW m2
 obtain ⟨fu3,S3,m5,m6⟩:=nW m4
 rw [cg,m1]
 simp only
 rw [cg,m3]
 simp only
 rw [cg,m5]
 simp only
 rw [cg,m6]
 simp only
 rw [cg,h21]
 simp only
 rw [cg,h22]
 simp only
 rw [cg,h23]
 simp [f129]
end
theorem jh (l:List It):∀ f i,i≤l.length→i≤bu l f i∧bu l f i≤l.length
 | 0,i,h=>⟨Nat.le_refl _,h⟩
 | f+1,i,h=>by
   unfold bu
   split
   · rename_i x hx
     have hi:=(List.getElem?_eq_some_iff.1 hx).1
     split
     · have:=jh l f (i+1) hi;omega
     · exact ⟨Nat.le_refl _,h⟩
   · exact ⟨Nat.le_refl _,h⟩
theorem nQ (l:List It) (i:Nat) (h:i≤l.length):i≤du l i∧du l i≤l.length:=by
 unfold du
 cases hx:l[i]? with
 | none=>exact jh l _ _ h
 | some x=>
   have hi:=(List.getElem?_eq_some_iff.1 hx).1
   simp only
   split
   · have:=jh l l.length (i+1) hi;omega
   · exact jh l _ _ h
def cP (l:List It) (sl:List Sl) (rest:Sl):Nat→Nat→Nat→List Pc
 | 0,_,_=>[]
 | f+1,a,n=>if a<l.length then di l a (aS sl rest n)::cP l sl rest f (du l (di l a (aS sl rest n)).b.toNat) (n+1) else []
def BN (sl:List Sl) (rest:Sl):Prop:=∀ n:Nat,0≤(aS sl rest n).x∧(aS sl rest n).x≤4095∧0≤(aS sl rest n).w∧(aS sl rest n).w≤4095
theorem kW {sl:List Sl} {rest:Sl} (h:cR sl rest=0):BN sl rest∧sl.length≤256:=by
 unfold cR at h
 split at h
 · omega
 · split at h
   · rename_i h1 h2
     simp only [Bool.and_eq_true,List.all_eq_true] at h2
     refine ⟨fun n => ?_,by omega⟩
     have hm:ik (aS sl rest n)=true:=by
      unfold aS mM
      rw [if_neg (by omega)]
      cases hx:sl[((n:Nat):Int).toNat]? with
      | none=>exact h2.2
      | some s=>exact h2.1 s (List.mem_of_getElem? hx)
     simp [ik,bn] at hm
     omega
   · omega
section
variable {st:St} {l:List It} {lv sv ov:DV} {sl:List Sl} {rest:Sl} {G:List HO} {K:List Nat}
theorem Tf (hs:Sls st sl sv) (hv:Its st l lv) (hc:bb l=0) (hso:BN sl rest):∀ (f a:Nat) (ps:List Pc) (ov:DV) (G:List HO) (K:List Nat),l.length≤a+f→a≤l.length→ps.length≤a→BrS st.heap.length lv sv ov rest G→Acc st K 5 (ps.map Pc.dv) ov →
 ∃ G' K' ov' fr,(E tab).C pg [(1,.int .i64 l.length),(2,.fn 129 [.ptr (st.heap.length+2) 0] []),(3,.fn 130 [.ptr (st.heap.length+2) 0] []),(8,.int .i64 a)] (pst st G K)=some (.exit 0,fr,pst st G' K') ∧
   BrS st.heap.length lv sv ov' rest G'∧Acc st K' 5 ((ps++cP l sl rest f a ps.length).map Pc.dv) ov':=by
 obtain ⟨hok,hlen⟩:=dS hc
 intro f
 induction f with
 | zero=>
   intro a ps ov G K h1 h2 h3 hG hA
   refine ⟨G,K,ov,[(1,.int .i64 l.length),(2,.fn 129 [.ptr (st.heap.length+2) 0] []),(3,.fn 130 [.ptr (st.heap.length+2) 0] []),(8,.int .i64 a),(12,.bool false)],?_,hG,by simpa [cP] using hA⟩
   have h0:¬ a<l.length:=by omega
   rw [ab (L:=pg) rfl]
   simp [uT,h0]
 | succ f ih=>
   intro a ps ov G K h1 h2 h3 hG hA
   by_cases h0:a<l.length
   · have hX:=hso ps.length
     obtain ⟨b,G1,K1,ov1,hab,hbl,hpb,hF,hG1,hA1⟩:=IZ hs hv hc hG hA (by omega) a h0 ⟨hX.1,hX.2.1⟩
     have hS:=GR (K:=K1) hv (by omega) hG1 b hbl
     have hbe:=nQ l b hbl
     obtain ⟨G2,K2,ov2,fr,hJ,hG2,hA2⟩:=ih (du l b) (ps++[di l a (aS sl rest ps.length)]) ov1 G1 K1 (by omega) hbe.2 (by simp;omega) hG1 hA1
     refine ⟨G2,K2,ov2,fr,?_,hG2,?_⟩
     · have hV1:=dT (T:=tab) 129 [.ptr (st.heap.length+2) 0] [] [.int .i64 (a:Nat)] (pst st G K)
       have hV2:=dT (T:=tab) 130 [.ptr (st.heap.length+2) 0] [] [.int .i64 (b:Nat)] (pst st G1 K1)
       simp only [List.singleton_append,List.append_nil] at hV1 hV2
       rw [hF] at hV1
       rw [hS] at hV2
       rw [ab (L:=pg) rfl]
       simp [uT,h0,hV1,hV2,hJ]
     · rw [cP,if_pos h0,hpb,Int.toNat_natCast]
       simpa using hA2
   · refine ⟨G,K,ov,[(1,.int .i64 l.length),(2,.fn 129 [.ptr (st.heap.length+2) 0] []),(3,.fn 130 [.ptr (st.heap.length+2) 0] []),(8,.int .i64 a),(12,.bool false)],?_,hG,by simpa [cP,h0] using hA⟩
     rw [ab (L:=pg) rfl]
     simp [uT,h0]
theorem Td (hv:Its st l lv) (hl:l.length≤140737488355328) (y10:DV) (H:List HO) (K:List Nat):∀ (f i:Nat),l.length≤i+f→i≤l.length →
 ∃ fr,(E tab).C nf [(0,lv),(10,y10),(11,.int .i64 i)] (pst st H K)=some (.exit 0,[(0,lv),(10,y10),(11,.int .i64 (bu l f i:Nat))]++fr,pst st H K):=by
 have e0:=fun st'=>bH hv st'
 intro f
 induction f with
 | zero=>
   intro i h1 h2
   obtain rfl:i=l.length:=by omega
   refine ⟨[(38,.bool false)],?_⟩
   rw [ab (L:=nf) rfl]
   simp [pE,e0,bu]
 | succ f ih=>
   intro i h1 h2
   by_cases h0:i<l.length
   · have hx:l[i]? = some l[i]:=List.getElem?_eq_getElem h0
     have e1:=fun st'=>b7 hv h0 .i64 st'
     have e2:=fun st'=>cE hv hx (off:=0) (by omega) st'
     have e3:=fun H K=>fk hv hx H K
     have hw1:IntKind.i64.wrap ((i:Int)+1)=(i+1:Nat):=by rw [ar (by omega)];simp
     by_cases hk:l[i].k=2
     · have eg:bu l (f+1) i=bu l f (i+1):=by simp [bu,hx,hk]
       obtain ⟨fr,hJ⟩:=ih (i+1) (by omega) (by omega)
       rw [eg]
       refine ⟨fr,?_⟩
       simp at hJ
       rw [ab (L:=nf) rfl]
       simp [pE,e0,h0,e1,e2,e3,hk,hw1,hJ]
     · have eg:bu l (f+1) i=i:=by simp [bu,hx,hk]
       rw [eg]
       refine ⟨[(38,.bool false)],?_⟩
       rw [ab (L:=nf) rfl]
       simp [pE,e0,h0,e1,e2,e3,hk]
   · have eg:bu l (f+1) i=i:=by simp [bu,h0]
     rw [eg]
     refine ⟨[(38,.bool false)],?_⟩
     rw [ab (L:=nf) rfl]
     simp [pE,e0,h0]
def fg (l:List It) (sl:List Sl) (rest:Sl):Int:=if bb l≠0 then bb l else cR sl rest
def iP (l:List It) (sl:List Sl) (rest:Sl):List Pc:=
 if fg l sl rest≠0 then [] else if bu l l.length 0=l.length then [⟨l.length,l.length,false,false,0⟩] else cP l sl rest l.length (bu l l.length 0) 0
theorem E0 (hs:Sls st sl sv) (hv:Its st l lv):∃ v,(E tab).F 113 [lv,sv,rest.dv] st=some (.tuple [v,.int .i64 (fg l sl rest)],st)∧Lw 5 ((iP l sl rest).map Pc.dv) v:=by
 rw [av ahS rfl]
 have e0:=fun st'=>bH hv st'
 have c1:=wo (hv.inn [.cells .plain [sv],.cells .plain rest.cs] [])
 have c2:=vE (rest:=rest) (hs.inn [.cells .plain [sv],.cells .plain rest.cs] [])
 have hsv:sv.leaves=[sv]∧sv.bg=true:=by cases hs<;>exact ⟨rfl,rfl⟩
 have hlv:lv.leaves=[lv]∧lv.bg=true:=by cases hv<;>exact ⟨rfl,rfl⟩
 unfold iP
 by_cases hc:bb l=0
 · have hE:fg l sl rest=cR sl rest:=by simp [fg,hc]
   rw [hE]
   by_cases hd:cR sl rest=0
   · obtain ⟨hok,hlen⟩:=dS hc
     obtain ⟨hso,_⟩:=kW hd
     have hG:BrS st.heap.length lv sv (.list 0 0 .no false []) rest [.cells .plain [sv],.cells .plain rest.cs,.cells .plain [lv,.fn 127 [] [.ptr st.heap.length 0,.ptr (st.heap.length+1) 0],.list 0 0 .no false []]]:=⟨rfl,rfl,rfl⟩
     obtain ⟨fr,hL0⟩:=Td hv (by omega) (.ptr (st.heap.length+2) 0) [.cells .plain [sv],.cells .plain rest.cs,.cells .plain [lv,.fn 127 [] [.ptr st.heap.length 0,.ptr (st.heap.length+1) 0],.list 0 0 .no false []]] [] l.length 0 (by omega) (by omega)
     have hg:=jh l l.length 0 (by omega)
     simp only [hd,ne_eq,not_true_eq_false,if_false]
     generalize bu l l.length 0=g at *
     by_cases hgl:g=l.length
     · simp only [hgl,if_true]
       rw [hgl] at hL0
       refine ⟨.list st.cur 5 .tight true [Pc.dv ⟨l.length,l.length,false,false,0⟩],?_,.list _ _ _ _ (fun _=>rfl) (fun e=>by cases e)⟩
       simp only [Sl.cs,Sl.dv] at c1 c2 hL0
       simp at hL0
       simp [f113,Sl.cs,Sl.dv,hsv.1,hsv.2,hlv.1,hlv.2,c1,c2,hc,hd,hL0,e0,aD,aR,chunk,Pc.dv,Pc.cs]
     · simp only [hgl,if_false]
       obtain ⟨G',K',ov',fr2,hL,hG',hA'⟩:=Tf hs hv hc hso l.length g [] (.list 0 0 .no false []) _ [] (by omega) (by omega) (by simp) hG (bX st [] 5 0 0 .no)
       obtain ⟨t,n',tk,nn,hx,hx1,hx2,_⟩:=gR (st':=pst st G' K') hA'
       have hF:(E tab).F 128 [.int .i64 g,.int .i64 l.length,.fn 129 [.ptr (st.heap.length+2) 0] [],.fn 130 [.ptr (st.heap.length+2) 0] []] (pst st [.cells .plain [sv],.cells .plain rest.cs,.cells .plain [lv,.fn 127 [] [.ptr st.heap.length 0,.ptr (st.heap.length+1) 0],.list 0 0 .no false []]] [])=some (.tuple [],pst st G' K'):=by
        rw [gm aiU rfl]
        simp [f128,hL]
       have hr2:=hG'.r2
       have hgl':¬ (g:Int)=l.length:=by omega
       refine ⟨.list t n' tk nn ((cP l sl rest l.length g 0).map Pc.dv),?_,.list _ _ _ _ (fun h=>hx2 h) (fun h=>hx1 h)⟩
       simp only [Sl.cs,Sl.dv] at c1 c2 hL0 hF
       simp at hL0 hx
       have hxA:bZ st (pst st G' K') ov'=aX st (pst st G' K') ov':=by
        rcases hA' with ⟨_,t,n',tk,rfl⟩ | ⟨k,s,rfl,_⟩<;>rfl
       simp [f113,Sl.cs,Sl.dv,hsv.1,hsv.2,hlv.1,hlv.2,c1,c2,hc,hd,hL0,e0,hgl,hgl',hF,hr2,hxA,hx]
   · simp only [ne_eq,hd,not_false_eq_true,if_true]
     refine ⟨.list 0 0 .no false [],?_,.list _ _ _ _ (fun e=>by cases e) (fun _=>rfl)⟩
     simp only [Sl.cs,Sl.dv] at c1 c2
     simp [f113,Sl.cs,Sl.dv,hsv.1,hsv.2,c1,c2,hc,hd]
 · have hE:fg l sl rest=bb l:=by simp [fg,hc]
   rw [hE]
   simp only [ne_eq,hc,not_false_eq_true,if_true]
   refine ⟨.list 0 0 .no false [],?_,.list _ _ _ _ (fun e=>by cases e) (fun _=>rfl)⟩
   simp only [Sl.cs,Sl.dv] at c1
   simp [f113,Sl.cs,Sl.dv,hsv.1,hsv.2,c1,hc]
end
section
variable {st:St} {l:List Sl} {v:DV}
theorem tC (h:Sls st l v) (st':St):o7 st' .slice v=some (.int .i64 l.length,st'):=by simpa using Vw.len h st'
theorem E9 (h:Sls st l v) {i:Nat} (hi:i<l.length) (k:IntKind) (st':St):gZ st' 2 v (.int k i)=some (elP 2 v i,st'):=Vw.aK h (by simpa using hi) k st'
theorem wM (h:Sls st l v) {i:Nat} {x:Sl} (hx:l[i]? = some x) (H:List HO) (K:List Nat):cF (pst st H K) 2 true (elP 2 v i)=some x.dv:=Vw.load (Vw.inn h H K) qM rfl (by simp [hx])
end
section
variable {st:St} {l:List Sl} {v:DV} {H:List HO} {K:List Nat}
end
end Go.D.Tab
end
section
set_option linter.unusedSimpArgs false
set_option linter.unusedVariables false
set_option linter.unnecessarySimpa false
namespace Go.D.Tab
theorem GF:tab 307=some (.code yr):=by kernel_rfl
theorem afy:tab 319=some (.code Ga):=by kernel_rfl
theorem ahr:tab 320=some (.code JY):=by kernel_rfl
theorem ael:tab 321=some (.code GM):=by kernel_rfl
theorem aie:tab 330=some (.code LF):=by kernel_rfl
theorem afJ:tab 331=some (.code IH):=by kernel_rfl
theorem ad6:tab 343=some (.code Jj):=by kernel_rfl
theorem acr:tab 344=some (.code Ea):=by kernel_rfl
theorem acP:tab 345=some (.code Er):=by kernel_rfl
theorem agY:tab 346=some (.code Ep):=by kernel_rfl
theorem Fl (k:IntKind) (x y:Int):eK qB [.int k x,.int k y]=some (.int k (max x y)):=by
 have:(if y>x then y else x)=max x y:=by split<;>omega
 simp [eK,qB,this]
theorem FO (k:IntKind) (x y:Int):eK jn [.int k x,.int k y]=some (.int k (min x y)):=by
 have:(if y<x then y else x)=min x y:=by split<;>omega
 simp [eK,jn,this]
def iM (p:bk):Int:=if p.label=[] then 0 else tw p.pr.size 0 p.label+4
def cA (p:bk):Nat→Int→Int
 | 0,_=>p.pr.inn
 | 1,n=>if 0<n then 0 else p.pr.first+iM p
 | _,n=>if p.pr.drop≤n then 0 else oR p
def oq (p:bk) (n:Int):Int:=cA p 0 n+cA p 1 n+cA p 2 n
def eC (p:bk) (s:Sl) (n:Int):Sl:=⟨min (s.x+oq p n) 4095,max (s.w-oq p n-p.pr.out) 0⟩
section
variable {st:St} {p:bk} {w u:LW}
theorem uI {n:Int} (hn:1≤n∧n≤64):∀ (l:List UInt8) (a:Int),0≤a→a+64*l.length≤1000000→a≤tw n a l∧tw n a l≤a+64*l.length
 | [],a,_,_=>by simp [tw]
 | c::r,a,h,h2=>by
   have hb:=pN c hn.1 hn.2
   simp only [List.length_cons] at h2 ⊢
   simp only [tw]
   rw [ar (by omega)]
   have:=uI hn r (a+wd c n) (by omega) (by omega)
   omega
theorem sq (h0:ax p=0):p.label.length≤16:=by
 have h:=(cH h0).2.2.2.2.1
 unfold cC at h
 simp only [Bool.and_eq_true,decide_eq_true_eq] at h
 omega
theorem vK (h0:ax p=0):0≤iM p∧iM p≤1028:=by
 have hl:=sq h0
 have hc:=dD h0
 have ht:=uI ⟨hc.1,hc.2.1⟩ p.label 0 (by omega) (by omega)
 unfold iM
 split<;>omega
theorem FN (h0:ax p=0):(E tab).F 345 [.agg (af p w u)] st=some (.int .i64 (iM p),st):=by
 rw [av acP rfl]
 have hc:=dD h0
 have hw:=fun st=>s6 p.label p.pr.size st
 unfold iM
 by_cases h:p.label=[]
 · simp [Er,h]
 · have hl:=sq h0
   have h2:¬ 4096<p.label.length:=by omega
   have ht:=uI ⟨hc.1,hc.2.1⟩ p.label 0 (by omega) (by omega)
   have w1:IntKind.i64.wrap (tw p.pr.size 0 p.label+4)=tw p.pr.size 0 p.label+4:=ar (by omega)
   unfold fE at hw
   rw [if_pos ⟨hc.1,hc.2.1⟩,if_neg h2] at hw
   simp [Er,h,hw,w1]
def prH (p:bk) (w u:LW) (N:Nat):List HO:=[.cells .plain (af p w u),.cells .plain [.int .i64 (oR p)],.cells .plain [.fn 343 [] [.ptr N 0],.fn 344 [] [.ptr N 0],.fn 346 [] [.ptr N 0,.ptr (N+1) 0]]]
theorem Gc (h0:ax p=0) (hp:p.small) (hw:w.ok 4 p.aC) (hu:u.ok 1 p.marks) (H:List HO) (K:List Nat):(E tab).F 330 [.agg (af p w u)] (pst st H K)=some (.hsl 1 false (st.heap.length+(H.length+2)) 0 3 (some 3),pst st (H++prH p w u (st.heap.length+H.length)) K):=by
 rw [gm aie rfl]
 have hd:=fun st=>Lc (st:=st) hp hw hu
 rw [h0] at hd
 simp [LF,hd,Mr,aR,chunk,prH,Nat.add_assoc]
structure uh (st:St) (p:bk) (w u:LW) (H:List HO) (k:Nat):Prop where
 r0:rowAt H k=some (.plain,af p w u)
 r1:rowAt H (k+1)=some (.plain,[.int .i64 (oR p)])
 r2:rowAt H (k+2)=some (.plain,[.fn 343 [] [.ptr (st.heap.length+k) 0],.fn 344 [] [.ptr (st.heap.length+k) 0],.fn 346 [] [.ptr (st.heap.length+k) 0,.ptr (st.heap.length+(k+1)) 0]])
theorem uh.add {H:List HO} {k:Nat} (h:uh st p w u H k) (X:List HO):uh st p w u (H++X) k:=⟨cO h.r0 X,cO h.r1 X,cO h.r2 X⟩
theorem ia (h0:ax p=0):0≤p.pr.first∧p.pr.first≤255∧0≤p.pr.inn∧p.pr.inn≤255∧0≤p.pr.out∧p.pr.out≤255:=by
 have h:=(cH h0).2.2.2.1
 simp only [ca,fb,Bool.and_eq_true,decide_eq_true_eq] at h
 omega
theorem Hi {H:List HO} {K:List Nat} {k:Nat} (hk:uh st p w u H k) (n:Int):(E tab).F 343 [.int .i64 n,.ptr (st.heap.length+k) 0] (pst st H K)=some (.int .i64 (cA p 0 n),pst st H K):=by
 rw [gm ad6 rfl]
 have r0:=hk.r0
 have e:(af p w u)[6]? = some (.int .i64 p.pr.inn):=rfl
 simp [Jj,r0,e,cA]
theorem Ih (h0:ax p=0) {H:List HO} {K:List Nat} {k:Nat} (hk:uh st p w u H k) (n:Int):(E tab).F 344 [.int .i64 n,.ptr (st.heap.length+k) 0] (pst st H K)=some (.int .i64 (cA p 1 n),pst st H K):=by
 rw [gm acr rfl]
 have r0:=hk.r0
 have hl:=vK h0
 have hm:=ia h0
 have h3:=fun st=>FN (st:=st) (w:=w) (u:=u) h0
 have e:(af p w u)[5]? = some (.int .i64 p.pr.first):=rfl
 have w1:IntKind.i64.wrap (p.pr.first+iM p)=p.pr.first+iM p:=ar (by omega)
 by_cases hn:0<n
 · simp [Ea,hn,cA]
 · simp [Ea,hn,cA,aF,bL,bQ,bP,aH,r0,e,h3,w1]
theorem L7 {H:List HO} {K:List Nat} {k:Nat} (hk:uh st p w u H k) (n:Int):(E tab).F 346 [.int .i64 n,.ptr (st.heap.length+k) 0,.ptr (st.heap.length+(k+1)) 0] (pst st H K)=some (.int .i64 (cA p 2 n),pst st H K):=by
 rw [gm agY rfl]
 have r0:=hk.r0
 have r1:=hk.r1
 have e:(af p w u)[16]? = some (.int .i64 p.pr.drop):=rfl
 by_cases hn:p.pr.drop≤n
 · simp [Ep,hn,cA,r0,e]
 · simp [Ep,hn,cA,r0,r1,e]
theorem Br (h0:ax p=0) (n:Int):0≤cA p 0 n∧cA p 0 n≤255∧0≤cA p 1 n∧cA p 1 n≤1283∧0≤cA p 2 n∧cA p 2 n≤68:=by
 have hl:=vK h0
 have hm:=ia h0
 have hc:=HT p
 simp only [cA]
 refine ⟨by omega,by omega,?_,?_,?_,?_⟩<;>split<;>omega
theorem vc (h0:ax p=0) {H:List HO} {K:List Nat} {k:Nat} (hk:uh st p w u H k) (s:Sl) (hs:0≤s.x∧s.x≤4095∧0≤s.w∧s.w≤4095) (n:Int):∃ J,(E tab).F 331 [.agg (af p w u),.hsl 1 false (st.heap.length+(k+2)) 0 3 (some 3),s.dv,.int .i64 n] (pst st H K)=some ((eC p s n).dv,pst st (H++J) K):=by
 have hpl:=Br h0 n
 have hm:=ia h0
 have hk2:=hk.add [.cells .plain (af p w u),.cells .plain s.cs,.cells .plain [.int .i64 0,.int .i64 0]]
 have h1:=Hi (K:=K) hk2 n
 have h2:=Ih (K:=K) h0 hk2 n
 have h3:=L7 (K:=K) hk2 n
 have r2:=hk2.r2
 have e:(af p w u)[7]? = some (.int .i64 p.pr.out):=rfl
 refine ⟨[.cells .plain (af p w u),.cells .plain s.cs,.cells .plain (eC p s n).cs],?_⟩
 rw [gm afJ rfl]
 unfold eC oq
 generalize cA p 0 n=A at *
 generalize cA p 1 n=B at *
 generalize cA p 2 n=C at *
 have w0:IntKind.i64.wrap A=A:=ar (by omega)
 have w1:IntKind.i64.wrap (A+B)=A+B:=ar (by omega)
 have w2:IntKind.i64.wrap (A+B+C)=A+B+C:=ar (by omega)
 have w3:IntKind.i64.wrap (s.x+(A+B+C))=s.x+(A+B+C):=ar (by omega)
 have w4:IntKind.i64.wrap (s.w-(A+B+C))=s.w-(A+B+C):=ar (by omega)
 have w5:IntKind.i64.wrap (s.w-(A+B+C)-p.pr.out)=s.w-(A+B+C)-p.pr.out:=ar (by omega)
 simp only [Sl.cs] at h1 h2 h3 r2
 generalize hS:pst st (H++[.cells .plain (af p w u),.cells .plain [.int .i64 s.x,.int .i64 s.w],.cells .plain [.int .i64 0,.int .i64 0]]) K=S at h1 h2 h3
 have hld:∀ i (v:DV),[DV.fn 343 [] [.ptr (st.heap.length+k) 0],.fn 344 [] [.ptr (st.heap.length+k) 0],.fn 346 [] [.ptr (st.heap.length+k) 0,.ptr (st.heap.length+(k+1)) 0]][i]? = some v→cF S 1 false (.ptr (st.heap.length+(k+2)) i)=some v:=by
  intro i v hv
  subst hS
  simp [r2,hv]
 have l0:=hld 0 _ rfl
 have l1:=hld 1 _ rfl
 have l2:=hld 2 _ rfl
 have t3:(E tab).C jJ [(3,.int .i64 n),(4,.ptr (st.heap.length+H.length) 0),(6,.ptr (st.heap.length+(H.length+1)) 0),(8,.ptr (st.heap.length+(H.length+2)) 0),(9,.int .i64 (A+B+C)),(12,.hsl 1 false (st.heap.length+(k+2)) 0 3 (some 3)),(13,.int .i64 3),(14,.int .i64 3)] S=some (.exit 0,[(3,.int .i64 n),(4,.ptr (st.heap.length+H.length) 0),(6,.ptr (st.heap.length+(H.length+1)) 0),(8,.ptr (st.heap.length+(H.length+2)) 0),(9,.int .i64 (A+B+C)),(12,.hsl 1 false (st.heap.length+(k+2)) 0 3 (some 3)),(13,.int .i64 3),(14,.int .i64 3),(15,.bool false)],S):=by
  rw [ab (L:=jJ) rfl]
  simp [o5]
 have t2:(E tab).C jJ [(3,.int .i64 n),(4,.ptr (st.heap.length+H.length) 0),(6,.ptr (st.heap.length+(H.length+1)) 0),(8,.ptr (st.heap.length+(H.length+2)) 0),(9,.int .i64 (A+B)),(12,.hsl 1 false (st.heap.length+(k+2)) 0 3 (some 3)),(13,.int .i64 3),(14,.int .i64 2)] S=some (.exit 0,[(3,.int .i64 n),(4,.ptr (st.heap.length+H.length) 0),(6,.ptr (st.heap.length+(H.length+1)) 0),(8,.ptr (st.heap.length+(H.length+2)) 0),(9,.int .i64 (A+B+C)),(12,.hsl 1 false (st.heap.length+(k+2)) 0 3 (some 3)),(13,.int .i64 3),(14,.int .i64 3),(15,.bool false)],S):=by
  rw [ab (L:=jJ) rfl]
  simp [o5,dT,l2,h3,w2,show IntKind.i64.wrap 3=3 by decide,t3]
 have t1:(E tab).C jJ [(3,.int .i64 n),(4,.ptr (st.heap.length+H.length) 0),(6,.ptr (st.heap.length+(H.length+1)) 0),(8,.ptr (st.heap.length+(H.length+2)) 0),(9,.int .i64 A),(12,.hsl 1 false (st.heap.length+(k+2)) 0 3 (some 3)),(13,.int .i64 3),(14,.int .i64 1)] S=some (.exit 0,[(3,.int .i64 n),(4,.ptr (st.heap.length+H.length) 0),(6,.ptr (st.heap.length+(H.length+1)) 0),(8,.ptr (st.heap.length+(H.length+2)) 0),(9,.int .i64 (A+B+C)),(12,.hsl 1 false (st.heap.length+(k+2)) 0 3 (some 3)),(13,.int .i64 3),(14,.int .i64 3),(15,.bool false)],S):=by
  rw [ab (L:=jJ) rfl]
  simp [o5,dT,l1,h2,w1,show IntKind.i64.wrap 2=2 by decide,t2]
 have t0:(E tab).C jJ [(3,.int .i64 n),(4,.ptr (st.heap.length+H.length) 0),(6,.ptr (st.heap.length+(H.length+1)) 0),(8,.ptr (st.heap.length+(H.length+2)) 0),(9,.int .i64 0),(12,.hsl 1 false (st.heap.length+(k+2)) 0 3 (some 3)),(13,.int .i64 3),(14,.int .i64 0)] S=some (.exit 0,[(3,.int .i64 n),(4,.ptr (st.heap.length+H.length) 0),(6,.ptr (st.heap.length+(H.length+1)) 0),(8,.ptr (st.heap.length+(H.length+2)) 0),(9,.int .i64 (A+B+C)),(12,.hsl 1 false (st.heap.length+(k+2)) 0 3 (some 3)),(13,.int .i64 3),(14,.int .i64 3),(15,.bool false)],S):=by
  rw [ab (L:=jJ) rfl]
  simp [o5,dT,l0,h1,w0,show IntKind.i64.wrap 1=1 by decide,t1]
 subst hS
 simp [IH,Sl.dv,Sl.cs,t0,w3,w4,w5,e,Fl,FO]
end
theorem Nk (k:IntKind) (x y z:Int):eK qB [.int k x,.int k y,.int k z]=some (.int k (max (max x y) z)):=by
 have h1:(if y>x then y else x)=max x y:=by split<;>omega
 have h2:(if z>max x y then z else max x y)=max (max x y) z:=by split<;>omega
 simp [eK,qB,h1,h2]
def manyN (p:bk) (sl:List Sl):Nat:=(max (max (sl.length:Int) 1) p.pr.drop).toNat
def inF (p:bk) (sl:List Sl) (rest:Sl) (n:Nat):Sl:=eC p (aS sl rest n) n
def inL (p:bk) (sl:List Sl) (rest:Sl):List Sl:=(List.range (manyN p sl)).map (inF p sl rest)
def gv (p:bk) (sl:List Sl) (rest:Sl):Sl:=eC p rest (manyN p sl)
section
variable {st:St} {p:bk} {w u:LW} {sl:List Sl} {sv:DV} {rest:Sl}
theorem kX (h0:ax p=0) (hl:sl.length≤256):1≤manyN p sl∧manyN p sl≤256∧((manyN p sl:Nat):Int)=max (max (sl.length:Int) 1) p.pr.drop:=by
 have hc:=dD h0
 unfold manyN
 omega
theorem V2 (h0:ax p=0) (hs:Sls st sl sv) (hso:BN sl rest) (hl:sl.length≤256) (x2:HO):∀ (k i:Nat) (J:List HO) (K:List Nat) (ov:DV),i+k=manyN p sl →
 uh st p w u (.cells .plain (af p w u)::.cells .plain rest.cs::x2::J) 3 →
 Acc st K 2 (((List.range i).map (inF p sl rest)).map Sl.dv) ov→∃ ov' K' J' fr,
 (E tab).C tG [(1,sv),(3,.ptr st.heap.length 0),(5,.ptr (st.heap.length+1) 0),(7,.ptr (st.heap.length+2) 0),(8,.hsl 1 false (st.heap.length+5) 0 3 (some 3)),(9,.int .i64 (manyN p sl)),(10,ov),(20,.int .i64 (manyN p sl)),(21,.int .i64 i)] (pst st (.cells .plain (af p w u)::.cells .plain rest.cs::x2::J) K) =
  some (.exit 0,(1,sv)::(3,.ptr st.heap.length 0)::(5,.ptr (st.heap.length+1) 0)::(7,.ptr (st.heap.length+2) 0)::(8,.hsl 1 false (st.heap.length+5) 0 3 (some 3))::(9,.int .i64 (manyN p sl))::(10,ov')::fr,pst st (.cells .plain (af p w u)::.cells .plain rest.cs::x2::(J++J')) K') ∧
  Acc st K' 2 ((inL p sl rest).map Sl.dv) ov':=by
 have hm:=kX (p:=p) h0 hl
 intro k
 induction k with
 | zero=>
   intro i J K ov hi hk hA
   obtain rfl:i=manyN p sl:=by omega
   refine ⟨ov,K,[],[(20,.int .i64 (manyN p sl)),(21,.int .i64 (manyN p sl)),(22,.bool false)],?_,hA⟩
   rw [ab (L:=tG) rfl]
   simp [zd]
 | succ k ih=>
   intro i J K ov hi hk hA
   have his:(i:Int)<manyN p sl:=by omega
   have his':i<manyN p sl:=by omega
   have hw:IntKind.i64.wrap ((i:Int)+1)=((i+1:Nat):Int):=by rw [ar (by omega)];simp
   have hrange:(List.range (i+1)).map (inF p sl rest)=(List.range i).map (inF p sl rest)++[inF p sl rest i]:=by rw [List.range_succ];simp
   have h114:=uf (rest:=rest) (hs.inn (.cells .plain (af p w u)::.cells .plain rest.cs::x2::J) K) i
   obtain ⟨J1,h331⟩:=vc (K:=K) h0 hk (aS sl rest i) (hso i) i
   have hk2:=hk.add J1
   obtain ⟨ov2,K2,hap,hA2⟩:=dh (H:=.cells .plain (af p w u)::.cells .plain rest.cs::x2::(J++J1)) (by_:=16) (ag:=true) (tk:=.tight) (t:=st.cur) (ys:=[(inF p sl rest i).dv]) hA (by omega) (by simp) (by simp [pK]) (by simp [aw];omega) (by simp [aw];omega)
   obtain ⟨ov',K',J',fr,hJ,hR⟩:=ih (i+1) (J++J1) K2 ov2 (by omega) hk2 (by rw [hrange];simpa using hA2)
   refine ⟨ov',K',J1++J',fr,?_,hR⟩
   rw [ab (L:=tG) rfl]
   rw [show eC p (aS sl rest i) i=inF p sl rest i from rfl] at h331
   generalize inF p sl rest i=g at *
   generalize aS sl rest i=s at *
   simp only [Sl.cs,Sl.dv] at h114 h331 hap hJ ⊢
   simp at h331 hap hJ
   simp [zd,his,aF,bL,bQ,bP,aH,h114,h331,aD,aR,chunk,hap,hw,hJ]
theorem B0 (h0:ax p=0) (hp:p.small) (hw:w.ok 4 p.aC) (hu:u.ok 1 p.marks) (hs:Sls st sl sv) (hc:cR sl rest=0) :
 ∃ v,(E tab).F 320 [.agg (af p w u),sv,rest.dv] st=some (.tuple [v,(gv p sl rest).dv],st)∧Lw 2 ((inL p sl rest).map Sl.dv) v:=by
 rw [av ahr rfl]
 obtain ⟨hso,hl⟩:=kW hc
 have hm:=kX (p:=p) h0 hl
 have hcp:=dD h0
 have e0:=fun st'=>Vw.len hs st'
 simp only [List.length_map] at e0
 have hsv:sv.leaves=[sv]∧sv.bg=true:=by cases hs<;>exact ⟨rfl,rfl⟩
 have h330:=Gc (st:=st) h0 hp hw hu [.cells .plain (af p w u),.cells .plain rest.cs,.cells .plain [.int .i64 0,.int .i64 0]] []
 have hk:uh st p w u (.cells .plain (af p w u)::.cells .plain rest.cs::.cells .plain [.int .i64 0,.int .i64 0]::prH p w u (st.heap.length+3)) 3:=⟨rfl,rfl,rfl⟩
 obtain ⟨ov,K1,J1,fr1,hJ,hA⟩:=V2 (st:=st) h0 hs hso hl (.cells .plain [.int .i64 0,.int .i64 0]) (manyN p sl) 0 (prH p w u (st.heap.length+3)) [] (.list 0 0 .no false []) (by omega) hk (bX _ _ _ _ _ _)
 have hk1:=hk.add J1
 have hrest:0≤rest.x∧rest.x≤4095∧0≤rest.w∧rest.w≤4095:=by
  have:=hso sl.length
  unfold aS mM at this
  rw [if_neg (by omega)] at this
  simpa using this
 obtain ⟨J2,h331⟩:=vc (K:=K1) h0 hk1 rest hrest (manyN p sl)
 obtain ⟨t,n,tk,nn,rfl,c1,c2⟩:∃ t n tk nn,ov=.list t n tk nn ((inL p sl rest).map Sl.dv)∧(nn=true→n=2)∧(nn=false→(inL p sl rest).map Sl.dv=[]):=by
  rcases hA with ⟨hx,t,n',tk,rfl⟩ | ⟨k,s,rfl,hk⟩
  · exact ⟨_,_,_,_,by rw [hx],(fun h=>by cases h),fun _=>hx⟩
  · exact ⟨_,_,_,_,rfl,fun _=>rfl,(fun h=>by cases h)⟩
 refine ⟨.list t n (mX tk) nn ((inL p sl rest).map Sl.dv),?_,.list _ _ _ _ c1 c2⟩
 have e14:(af p w u)[16]? = some (.int .i64 p.pr.drop):=rfl
 have wl:IntKind.i64.wrap (sl.length:Int)=sl.length:=ar (by omega)
 have hmx:=Nk .i64 (sl.length:Int) 1 p.pr.drop
 rw [← hm.2.2] at hmx
 rw [show eC p rest (manyN p sl)=gv p sl rest from rfl] at h331
 generalize (inL p sl rest).map Sl.dv=VI at *
 generalize gv p sl rest=R at *
 generalize manyN p sl=MN at *
 simp only [Sl.cs,Sl.dv,prH] at h330 hJ h331 ⊢
 simp at h330 hJ h331
 simp [-dJ,exl,JY,e0,e14,hmx,h330,hJ,h331]
theorem FV (hp:p.small) (hw:w.ok 4 p.aC) (hu:u.ok 1 p.marks) (hs:Sls st sl sv):(E tab).F 319 [.agg (af p w u),sv,rest.dv] st=some (.int .i64 (if ax p≠0 then ax p else cR sl rest),st):=by
 rw [av afy rfl]
 have h13:=fun st=>AQ p hp w u hw hu st
 have h126:=vE (rest:=rest) (hs.inn [.cells .plain (af p w u),.cells .plain rest.cs] [])
 by_cases h0:ax p=0
 · simp only [Sl.cs,Sl.dv] at h126 ⊢
   simp [Ga,h13,h0,h126]
 · simp only [Sl.cs,Sl.dv] at h126 ⊢
   simp [Ga,h13,h0]
theorem B6 (hl1:p.pr.least≠1) {l:List It} {lv:DV} (hv:Its st l lv) (hs:Sls st sl sv) :
 ∃ v,(E tab).F 321 [.agg (af p w u),lv,sv,rest.dv] st=some (.agg [v,.bool true,.bool (decide (fg l sl rest≠0))],st)∧Lw 5 ((iP l sl rest).map Pc.dv) v:=by
 rw [av ael rfl]
 have e15:(af p w u)[15]? = some (.int .i64 p.pr.least):=rfl
 obtain ⟨v,hb,hv5⟩:=E0 (rest:=rest) (hs.inn [.cells .plain (af p w u),.cells .plain rest.cs,.cells .plain [.list 0 0 .no false [],.bool false,.bool false]] []) (hv.inn [.cells .plain (af p w u),.cells .plain rest.cs,.cells .plain [.list 0 0 .no false [],.bool false,.bool false]] [])
 have hlv:lv.leaves=[lv]∧lv.bg=true:=by cases hv<;>exact ⟨rfl,rfl⟩
 have hsv:sv.leaves=[sv]∧sv.bg=true:=by cases hs<;>exact ⟨rfl,rfl⟩
 obtain ⟨t,n,tk,nn,rfl,c0,c1,c2⟩:=zh hv5
 refine ⟨.list t n (mX tk) nn ((iP l sl rest).map Pc.dv),?_,.list _ _ _ _ c1 c2⟩
 generalize (iP l sl rest).map Pc.dv=VB at *
 by_cases hE:fg l sl rest=0
 · rw [hE] at hb
   simp only [Sl.cs,Sl.dv] at hb ⊢
   simp [-dJ,exl,GM,e15,hl1,dT,hb,hE]
 · simp only [Sl.cs,Sl.dv] at hb ⊢
   simp [-dJ,exl,GM,e15,hl1,dT,hb,hE]
end
def iz0:It:=⟨0,0,0,0,0,0,0,false⟩
def toP (T:Int) (it:List It):List Pc→Int
 | []=>T
 | y::_=>(it.getD y.a.toNat iz0).f
def lnP (fr to:Int) (s:Sl) (x:Pc):Ln:=⟨fr,to,s.x,s.w,x.n,x.hy,if x.wide then 1 else 0⟩
def lj (T:Int) (it:List It) (sl:List Sl) (rest:Sl):Nat→Int→List Pc→List Ln
 | _,_,[]=>[]
 | n,fr,x::r=>lnP fr (toP T it r) (aS sl rest n) x::lj T it sl rest (n+1) (toP T it r) r
section
variable {st:St} {p:bk} {w u:LW} {sl:List Sl} {sv:DV} {rest:Sl}
theorem BP (l:List It) (a b:Int):∃ x y z:Int,Ah l a b=.tuple [.int .i64 x,.int .i64 y,.int .i64 z]:=by
 unfold Ah
 split<;>exact ⟨_,_,_,rfl⟩
theorem MO (l:Ln):dq 7 true l.dv:=⟨rfl,rfl,rfl⟩
theorem rW (T:Int) (it:List It) (sl:List Sl) (rest:Sl):∀ (P:List Pc) (n:Nat) (fr:Int),(lj T it sl rest n fr P).length=P.length
 | [],_,_=>rfl
 | x::r,n,fr=>by simp [lj,rW T it sl rest r]
theorem Q7 {it:List It} {iv:DV} {c1:List DV} (hi:Its st it iv) (hs:Sls st sl sv) {P:List Pc} (hP:P.length≤20000) (hPa:∀ y∈P,0≤y.a) (hPb:2≤P.length→∀ y∈P,y.a<it.length) {t n:Nat} {tk:Tk} {nn:Bool} (h5:P≠[]→n=5) {lo:Bool} (hlo:P≠[]→lo=false) :
 ∀ (r d:List Pc) (J:List HO) (K:List Nat) (ov:DV) (fr0:Int) (ls:List Ln),P=d++r→ls.length=d.length →
 Acc st K 7 (ls.map Ln.dv) ov→∃ ov' K' J' fr,
 (E tab).C sT [(3,.ptr st.heap.length 0),(9,iv),(11,sv),(12,.ptr (st.heap.length+2) 0),(13,.ptr (st.heap.length+3) 0),(14,ov),(15,.int .i64 fr0),(49,.list t n tk nn (P.map Pc.dv)),(50,.int .i64 P.length),(51,.int .i64 d.length)] (pst st (.cells .plain (af p w u)::.cells .plain c1::.cells .plain rest.cs::.cells .plain [.list t n tk nn (P.map Pc.dv),.bool true,.bool lo]::J) K) =
  some (.exit 0,(3,.ptr st.heap.length 0)::(9,iv)::(11,sv)::(12,.ptr (st.heap.length+2) 0)::(13,.ptr (st.heap.length+3) 0)::(14,ov')::fr,pst st (.cells .plain (af p w u)::.cells .plain c1::.cells .plain rest.cs::.cells .plain [.list t n tk nn (P.map Pc.dv),.bool true,.bool lo]::(J++J')) K') ∧
  Acc st K' 7 ((ls++lj p.text.length it sl rest d.length fr0 r).map Ln.dv) ov':=by
 intro r
 induction r with
 | nil=>
   intro d J K ov fr0 ls hd hls hA
   rw [List.append_nil] at hd
   subst hd
   refine ⟨ov,K,[],[(15,.int .i64 fr0),(49,.list t n tk nn (P.map Pc.dv)),(50,.int .i64 P.length),(51,.int .i64 P.length),(52,.bool false)],?_,by simpa [lj] using hA⟩
   rw [ab (L:=sT) rfl]
   simp [nR]
 | cons x r ih=>
   intro d J K ov fr0 ls hd hls hA
   have hlt:d.length<P.length:=by simp [hd]
   obtain rfl:=h5 (by intro e;rw [e] at hlt;simp at hlt)
   obtain rfl:=hlo (by intro e;rw [e] at hlt;simp at hlt)
   have hlt':(d.length:Int)<P.length:=by omega
   have hw:IntKind.i64.wrap ((d.length:Int)+1)=((d++[x]).length:Nat):=by rw [ar (by omega)];simp
   have hVl:(P.map Pc.dv).length=P.length:=by simp
   have l0:d.length<(P.map Pc.dv).length:=by rw [hVl];exact hlt
   have g0:(P.map Pc.dv)[d.length]'l0=x.dv:=by simp [hd]
   have h114:=uf (rest:=rest) (hs.inn (.cells .plain (af p w u)::.cells .plain c1::.cells .plain rest.cs::.cells .plain [.list t 5 tk nn (P.map Pc.dv),.bool true,.bool false]::(J++[.cells .plain x.cs])) K) d.length
   obtain ⟨g1,g2,g3,hgv⟩:=BP it x.a x.b
   have h322:=IT (hi.inn (.cells .plain (af p w u)::.cells .plain c1::.cells .plain rest.cs::.cells .plain [.list t 5 tk nn (P.map Pc.dv),.bool true,.bool false]::(J++[.cells .plain x.cs,.cells .plain (aS sl rest d.length).cs,.cells .plain ([.int .i64 fr0,.int .i64 (toP p.text.length it r),.int .i64 (aS sl rest d.length).x,.int .i64 (aS sl rest d.length).w,.int .i64 x.n,.bool x.hy,.int .i64 0])])) K) x.a x.b
   rw [hgv] at h322
   obtain ⟨ov2,K2,hap,hA2⟩:=dh (H:=.cells .plain (af p w u)::.cells .plain c1::.cells .plain rest.cs::.cells .plain [.list t 5 tk nn (P.map Pc.dv),.bool true,.bool false]::(J++[.cells .plain x.cs,.cells .plain (aS sl rest d.length).cs,.cells .plain (lnP fr0 (toP p.text.length it r) (aS sl rest d.length) x).cs])) (by_:=56) (ag:=true) (tk:=.tight) (t:=st.cur) (ys:=[(lnP fr0 (toP p.text.length it r) (aS sl rest d.length) x).dv]) hA (by omega) (by simp) (by simp [MO]) (by simp [aw];omega) (by simp [aw];omega)
   obtain ⟨ov',K',J',fr,hJ,hR⟩:=ih (d++[x]) (J++[.cells .plain x.cs,.cells .plain (aS sl rest d.length).cs,.cells .plain (lnP fr0 (toP p.text.length it r) (aS sl rest d.length) x).cs]) K2 ov2 (toP p.text.length it r) (ls++[lnP fr0 (toP p.text.length it r) (aS sl rest d.length) x]) (by simp [hd]) (by simp [hls]) (by simpa using hA2)
   refine ⟨ov',K',.cells .plain x.cs::.cells .plain (aS sl rest d.length).cs::.cells .plain (lnP fr0 (toP p.text.length it r) (aS sl rest d.length) x).cs::J',fr,?_,by
    simpa [lj] using hR⟩
   rw [ab (L:=sT) rfl]
   have hxa:=hPa x (by simp [hd])
   cases r with
   | nil=>
     have hlen:P.length=d.length+1:=by simp [hd]
     have hlt2:(d.length:Int)<(d.length:Int)+1:=by omega
     generalize P.map Pc.dv=V at *
     unfold lnP at hap hJ ⊢
     simp only [toP] at hap hJ h322 ⊢
     generalize aS sl rest d.length=s at *
     simp only [Sl.dv,Sl.cs,Ln.dv,Ln.cs,Pc.dv,Pc.cs] at h114 h322 hap hJ g0 ⊢
     simp at h114 h322 hap hJ
     cases hwd:x.wide with
     | false=>
       rw [hwd] at g0 h114 h322 hap hJ
       simp at hap hJ
       simp [nR,hlt2,g0,l0,h114,hVl,hlen,h322,hw,aD,aR,chunk,hap]
       simpa [hlen] using hJ
     | true=>
       rw [hwd] at g0 h114 h322 hap hJ
       simp at hap hJ
       simp [nR,hlt2,g0,l0,h114,hVl,hlen,h322,hw,show IntKind.i64.wrap 1=1 by decide,aD,aR,chunk,hap]
       simpa [hlen] using hJ
   | cons y r'=>
     have hlen:P.length=d.length+1+1+r'.length:=by simp [hd];omega
     have hlt2:(d.length:Int)<(d.length:Int)+1+1+r'.length:=by omega
     have hge:(0:Int)≤(d.length:Int)+1:=by omega
     have hlt4:d.length<d.length+1+1+r'.length:=by omega
     have hlt5:d.length+1<d.length+1+1+r'.length:=by omega
     have hlt3:(d.length:Int)+1<(d.length:Int)+1+1+r'.length:=by omega
     have l1:d.length+1<(P.map Pc.dv).length:=by rw [hVl,hlen];omega
     have g1':(P.map Pc.dv)[d.length+1]'l1=y.dv:=by simp [hd]
     have hya:=hPa y (by simp [hd])
     have hyb:=hPb (by rw [hlen];omega) y (by simp [hd])
     obtain ⟨ya,hy⟩:∃ ya:Nat,y.a=ya:=⟨y.a.toNat,by omega⟩
     have hyl:ya<it.length:=by omega
     have hx:it[ya]? = some (it.getD ya iz0):=by rw [List.getD_eq_getElem?_getD,List.getElem?_eq_getElem hyl];rfl
     have i1:=fun st'=>b7 hi hyl .i64 st'
     have i2:=fun st'=>cE hi hx (off:=1) (by omega) st'
     have i3:=fun H K=>lQ hi hx (off:=1) (y:=.int .i64 (it.getD ya iz0).f) rfl H K
     have et:toP p.text.length it (y::r')=(it.getD ya iz0).f:=by simp only [toP,hy];rfl
     rw [et] at hap hJ h322 ⊢
     generalize it.getD ya iz0=q at *
     generalize P.map Pc.dv=V at *
     unfold lnP at hap hJ ⊢
     generalize aS sl rest d.length=s at *
     simp only [Sl.dv,Sl.cs,Ln.dv,Ln.cs,Pc.dv,Pc.cs] at h114 h322 hap hJ g0 g1' ⊢
     simp at h114 h322 hap hJ
     have w1:IntKind.i64.wrap ((d.length:Int)+1)=(d.length:Int)+1:=ar (by omega)
     rw [hy] at g1'
     cases hwd:x.wide with
     | false=>
       rw [hwd] at g0 h114 h322 hap hJ
       simp at hap hJ
       simp [nR,hlt2,hlt3,hlt4,hlt5,hge,g0,l0,g1',h114,hVl,hlen,h322,w1,i1,i2,i3,aD,aR,chunk,hap]
       simpa [hlen] using hJ
     | true=>
       rw [hwd] at g0 h114 h322 hap hJ
       simp at hap hJ
       simp [nR,hlt2,hlt3,hlt4,hlt5,hge,g0,l0,g1',h114,hVl,hlen,h322,w1,i1,i2,i3,show IntKind.i64.wrap 1=1 by decide,aD,aR,chunk,hap]
       simpa [hlen] using hJ
end
section
variable {p:bk} {sl:List Sl} {rest:Sl}
theorem Dz (h0:ax p=0) (hl:sl.length≤256) (n:Nat):aS (inL p sl rest) (gv p sl rest) n=inF p sl rest n:=by
 have hm:=kX (p:=p) h0 hl
 unfold aS mM
 rw [if_neg (by omega),show (n:Int).toNat=n from rfl]
 by_cases h:n<manyN p sl
 · unfold inL
   simp [h]
 · have e:(inL p sl rest)[n]? = none:=by
    rw [List.getElem?_eq_none_iff];simp [inL];omega
   rw [e]
   unfold inF aS mM
   have e2:sl[(n:Int).toNat]? = none:=by
    rw [List.getElem?_eq_none_iff];show sl.length≤n;omega
   rw [if_neg (by omega),e2]
   simp only [Option.getD_none]
   unfold gv eC oq
   have p0:cA p 0 (manyN p sl)=cA p 0 n:=rfl
   have p1:cA p 1 (manyN p sl)=cA p 1 n:=by
    simp only [cA];rw [if_pos (by omega),if_pos (by omega)]
   have p2:cA p 2 (manyN p sl)=cA p 2 n:=by
    simp only [cA];rw [if_pos (by omega),if_pos (by omega)]
   rw [p0,p1,p2]
theorem vA (h0:ax p=0) (s:Sl) (hs:0≤s.x∧s.x≤4095∧0≤s.w∧s.w≤4095) (n:Int):ik (eC p s n)=true:=by
 have hp:=Br h0 n
 have hm:=ia h0
 unfold ik bn eC oq
 simp only [Bool.and_eq_true,decide_eq_true_eq]
 omega
theorem Gx (h0:ax p=0) (hc:cR sl rest=0):cR (inL p sl rest) (gv p sl rest)=0:=by
 obtain ⟨hso,hl⟩:=kW hc
 have hm:=kX (p:=p) h0 hl
 have hrest:0≤rest.x∧rest.x≤4095∧0≤rest.w∧rest.w≤4095:=by
  have:=hso sl.length
  unfold aS mM at this
  rw [if_neg (by omega)] at this
  simpa using this
 unfold cR
 rw [if_neg (by simp [inL];omega),if_pos]
 rw [Bool.and_eq_true,List.all_eq_true]
 refine ⟨fun s hs => ?_,vA h0 rest hrest _⟩
 obtain ⟨n,_,rfl⟩:=List.mem_map.1 hs
 exact vA h0 _ (hso n) _
def fF (l:List It) (F:Nat→Sl):Nat→Nat→Nat→List Pc
 | 0,_,_=>[]
 | f+1,a,n=>if a<l.length then di l a (F n)::fF l F f (du l (di l a (F n)).b.toNat) (n+1) else []
theorem A9 (l:List It) {sl:List Sl} {rest:Sl} {F:Nat→Sl} (h:∀ n:Nat,aS sl rest n=F n):∀ f a n,cP l sl rest f a n=fF l F f a n
 | 0,_,_=>rfl
 | f+1,a,n=>by simp only [cP,fF,h n,A9 l h f]
def jU (p:bk) (sl:List Sl) (rest:Sl):List Pc:=iP (bE p) (inL p sl rest) (gv p sl rest)
def j7 (p:bk) (sl:List Sl) (rest:Sl):List Ln:=lj p.text.length (bE p) (inL p sl rest) (gv p sl rest) 0 0 (jU p sl rest)
def gD (l:List It) (F:Nat→Sl):List Pc:=
 if bb l≠0 then [] else if bu l l.length 0=l.length then [⟨l.length,l.length,false,false,0⟩] else fF l F l.length (bu l l.length 0) 0
theorem zG (h0:ax p=0) (hc:cR sl rest=0):jU p sl rest=gD (bE p) (inF p sl rest):=by
 obtain ⟨_,hl⟩:=kW hc
 have hin:=Gx h0 hc
 have hE:fg (bE p) (inL p sl rest) (gv p sl rest)=bb (bE p):=by
  unfold fg
  by_cases h:bb (bE p)=0
  · rw [if_neg (by simp [h]),h,hin]
  · rw [if_pos h]
 unfold jU iP gD
 rw [hE,A9 _ (Dz h0 hl)]
theorem GW (l:List It) (a:Nat) (s:Sl):(di l a s).a=a:=by
 unfold di
 split<;>rfl
theorem qb (l:List It) (F:Nat→Sl):∀ f a n,∀ y∈fF l F f a n,0≤y.a∧y.a<l.length
 | 0,_,_,y,h=>by simp [fF] at h
 | f+1,a,n,y,h=>by
   simp only [fF] at h
   split at h
   · rename_i ha
     rcases List.mem_cons.1 h with rfl | h
     · have e:=GW l a (F n)
       rw [e];omega
     · exact qb l F f _ _ y h
   · cases h
theorem sr (l:List It) (F:Nat→Sl):∀ f a n,(fF l F f a n).length≤f
 | 0,_,_=>by simp [fF]
 | f+1,a,n=>by
   simp only [fF]
   split
   · have:=sr l F f (du l (di l a (F n)).b.toNat) (n+1);simp;omega
   · simp
theorem nA (l:List It) (F:Nat→Sl):(∀ y∈gD l F,0≤y.a)∧(2≤(gD l F).length→∀ y∈gD l F,y.a<l.length)∧(gD l F).length≤8193:=by
 unfold gD
 split
 · simp
 · rename_i h1
   have hlen:l.length≤8192:=by
    apply Classical.byContradiction
    intro h
    apply h1
    unfold bb
    rw [if_pos (by omega)];simp
   split
   · refine ⟨?_,?_,?_⟩
     · simp
     · intro h;simp at h
     · simp
   · exact ⟨fun y hy=>(qb l F _ _ _ y hy).1,fun _ y hy=>(qb l F _ _ _ y hy).2,by have:=sr l F l.length (bu l l.length 0) 0;omega⟩
end
section
variable {st:St} {p:bk} {w u:LW} {sl:List Sl} {sv:DV} {rest:Sl}
def iw (p:bk) (sl:List Sl) (rest:Sl):Int:=if ax p≠0 then ax p else cR sl rest
theorem F2 (hy:p.pr.a0=0) (hp:p.small) (hw:w.ok 4 p.aC) (hu:u.ok 1 p.marks) (hl1:p.pr.least≠1) (hs:Sls st sl sv) :
 ∃ v,(E tab).F 307 [.agg (af p w u),sv,rest.dv] st=some (.tuple [v,.int .i64 (iw p sl rest)],st)∧Lw 7 ((if iw p sl rest=0 then j7 p sl rest else []).map Ln.dv) v:=by
 rw [av GF rfl]
 have h319:=FV (rest:=rest) hp hw hu (hs.inn [.cells .plain (af p w u),.cells .plain rest.cs] [])
 rw [show (if ax p≠0 then ax p else cR sl rest)=iw p sl rest from rfl] at h319
 have hsv:sv.leaves=[sv]∧sv.bg=true:=by cases hs<;>exact ⟨rfl,rfl⟩
 by_cases hE:iw p sl rest=0
 rotate_left
 · rw [if_neg hE]
   refine ⟨.list 0 0 .no false [],?_,.list _ _ _ _ (fun h=>by cases h) (fun _=>rfl)⟩
   simp only [Sl.dv,Sl.cs] at h319 ⊢
   simp [yr,h319,hE]
 rw [if_pos hE,hE]
 rw [hE] at h319
 have h0:ax p=0:=by
  apply Classical.byContradiction
  intro h;unfold iw at hE;rw [if_pos h] at hE;exact h hE
 have hc:cR sl rest=0:=by unfold iw at hE;rw [if_neg (by simp [h0])] at hE;exact hE
 obtain ⟨iv,h106,hiv⟩:=Fo (st:=pst st [.cells .plain (af p w u),.cells .plain rest.cs] []) hy hp hw hu
 rw [h0] at h106
 rw [if_pos h0] at hiv
 obtain ⟨nv,h320,hnv⟩:=B0 (st:=pst st [.cells .plain (af p w u),.cells .plain rest.cs] []) h0 hp hw hu (hs.inn _ _) hc
 obtain ⟨bv,h321,hbv⟩:=B6 (st:=pst st [.cells .plain (af p w u),.cells .plain rest.cs,.cells .plain (gv p sl rest).cs] []) (w:=w) (u:=u) (rest:=gv p sl rest) hl1 (Lw.vw hiv:Its _ (bE p) iv) (Lw.vw hnv)
 obtain ⟨t,n,tk,nn,rfl,c0,_,_⟩:=zh hbv
 have hP:=zG h0 hc
 obtain ⟨q1,q2,q3⟩:=nA (bE p) (inF p sl rest)
 rw [← hP] at q1 q2 q3
 have hlo:jU p sl rest≠[]→decide (fg (bE p) (inL p sl rest) (gv p sl rest)≠0)=false:=by
  intro h
  apply decide_eq_false
  intro h2
  apply h
  unfold jU iP
  rw [if_pos h2]
 rw [show iP (bE p) (inL p sl rest) (gv p sl rest)=jU p sl rest from rfl] at h321 c0
 obtain ⟨ov,K1,J1,fr1,hJ,hA⟩:=Q7 (st:=st) (p:=p) (w:=w) (u:=u) (rest:=gv p sl rest) (c1:=rest.cs) (Lw.vw hiv:Its st (bE p) iv) (Lw.vw hnv) (P:=jU p sl rest) (by omega) q1 q2 (t:=t) (tk:=tk) (nn:=nn) (fun h=>c0 (by
  intro e;rw [List.map_eq_nil_iff] at e;exact h e)) hlo (jU p sl rest) [] [] [] (.list 0 0 .no false []) 0 [] rfl rfl (bX _ _ _ _ _ _)
 obtain ⟨t2,n2,tk2,nn2,rfl,c1,c2⟩:∃ t n tk nn,ov=.list t n tk nn ((j7 p sl rest).map Ln.dv)∧(nn=true→n=7)∧(nn=false→(j7 p sl rest).map Ln.dv=[]):=by
  have hA':Acc st K1 7 ((j7 p sl rest).map Ln.dv) ov:=by simpa [j7] using hA
  rcases hA' with ⟨hx,t,n',tk,rfl⟩ | ⟨k,s,rfl,hk⟩
  · exact ⟨_,_,_,_,by rw [hx],(fun h=>by cases h),fun _=>hx⟩
  · exact ⟨_,_,_,_,rfl,fun _=>rfl,(fun h=>by cases h)⟩
 refine ⟨.list t2 n2 (mX tk2) nn2 ((j7 p sl rest).map Ln.dv),?_,.list _ _ _ _ c1 c2⟩
 have hVl:((jU p sl rest).map Pc.dv).length=(jU p sl rest).length:=by simp
 generalize (j7 p sl rest).map Ln.dv=VL at *
 generalize gv p sl rest=R2 at *
 generalize decide (fg (bE p) (inL p sl rest) R2≠0)=lo at *
 generalize (jU p sl rest).map Pc.dv=VP at *
 simp only [Sl.dv,Sl.cs] at h319 h106 h320 h321 hJ ⊢
 simp at h106 h320 h321 hJ
 simp [-dJ,exl,yr,h319,h106,h320,h321,hVl,hJ]
end
def yO:Nat→List Clu→Nat→Prop
 | i,[],e=>i=e
 | i,c::r,e=>c.a=i∧i<c.b∧yO c.b r e
def Chn:Int→List aa→Int→Prop
 | i,[],e=>i=e
 | i,m::r,e=>m.a=i∧i<m.b∧Chn m.b r e
theorem sJ (s:List UInt8):∀ n i,s.length≤i+n→i≤s.length→yO i (dC s n i) s.length
 | 0,i,h1,h2=>by
   obtain rfl:i=s.length:=by omega
   simp [dC,yO]
 | n+1,i,h1,h2=>by
   have ht:=m7 s (ga s i) 2 (i+1)
   by_cases hi:i<s.length
   · simp only [dC,hi,if_true,yO]
     exact ⟨trivial,by unfold cTo;omega,sJ s n (cTo s i) (by unfold cTo;omega) (by unfold cTo;omega)⟩
   · obtain rfl:i=s.length:=by omega
     simp [dC,yO]
theorem o9 (p:bk):∀ (l:List Clu) (i e:Nat) (kr:Bool) (bf:UInt8) (ps:Int) (mk:List (List UInt8)),yO i l e→Chn i (cN p kr bf ps mk l) e
 | [],i,e,_,_,_,_,h=>by simp only [yO] at h;subst h;simp [cN,Chn]
 | c::r,i,e,kr,bf,ps,mk,h=>by
   obtain ⟨h1,h2,h3⟩:=h
   simp only [cN,Chn,ay]
   exact ⟨by omega,by omega,o9 p r c.b e _ _ _ _ h3⟩
theorem Ce {p:bk} (h0:ax p=0):Chn 0 (aA p) p.text.length:=by
 have:=o9 p (gH p.text) 0 p.text.length false 0 0 p.marks (sJ p.text p.text.length 0 (by omega) (by omega))
 unfold aA nY
 rw [if_pos h0]
 exact this
theorem Chn.ge:∀ {L:List aa} {i e:Int},Chn i L e→i≤e∧∀ m∈L,i≤m.a∧m.a<m.b∧m.b≤e
 | [],i,e,h=>by simp only [Chn] at h;subst h;simp
 | m::r,i,e,h=>by
   obtain ⟨h1,h2,h3⟩:=h
   have ih:=Chn.ge h3
   refine ⟨by omega,fun x hx => ?_⟩
   rcases List.mem_cons.1 hx with rfl | hx
   · omega
   · have:=ih.2 x hx;omega
def sW:List aa→Int
 | []=>0
 | m::r=>m.w+sW r
theorem ze:∀ (a b:List aa),sW (a++b)=sW a+sW b
 | [],b=>by simp [sW]
 | x::a,b=>by simp only [List.cons_append,sW,ze a b];omega
theorem w8:∀ (l:List aa) (o:Bool) (n:Int),(∀ m∈l,m.e=0)→fA o n l=n+sW l
 | [],o,n,_=>by simp [fA,sW]
 | m::r,o,n,h=>by
   have h1:=h m (List.mem_cons_self ..)
   rw [fA,w8 r _ _ fun x hx=>h x (List.mem_cons_of_mem _ hx),sW,h1]
   split<;>omega
theorem EP:∀ (l:List aa),l.all okM=true→0≤sW l∧sW l≤4095*l.length
 | [],_=>by simp [sW]
 | m::r,h=>by
   simp only [List.all_cons,Bool.and_eq_true] at h
   have h1:=EP r h.2
   have h2:=h.1
   simp [okM] at h2
   simp only [sW,List.length_cons]
   omega
theorem Kg (l:List aa) (h:l.all okM=true) (i k:Nat):0≤sW ((l.drop i).take k)∧sW ((l.drop i).take k)≤sW l:=by
 have e:l=l.take i++((l.drop i).take k++(l.drop i).drop k):=by rw [List.take_append_drop,List.take_append_drop]
 have hs:=congrArg sW e
 rw [ze,ze] at hs
 have hall:=List.all_eq_true.1 h
 have sub:∀ l':List aa,(∀ m∈l',m∈l)→0≤sW l':=fun l' hm=>(EP l' (List.all_eq_true.2 fun m h=>hall m (hm m h))).1
 have h1:=sub (l.take i) fun m hm=>List.mem_of_mem_take hm
 have h2:=sub ((l.drop i).take k) fun m hm=>List.mem_of_mem_drop (List.mem_of_mem_take hm)
 have h3:=sub ((l.drop i).drop k) fun m hm=>List.mem_of_mem_drop (List.mem_of_mem_drop hm)
 omega
theorem fG (s:List UInt8) (L:List aa) (pl:List Bool):∀ (l:List aa) (k run fr:Nat),(aM s L pl k run fr l).length≤3*l.length+1
 | [],k,run,fr=>by simp only [aM];split<;>simp
 | m::r,k,run,fr=>by
   simp only [aM,List.length_cons]
   split
   · have:=fG s L pl r (k+1) (k+1) (k+1)
     split<;>simp<;>omega
   · split
     · have:=fG s L pl r (k+1) run fr;omega
     · split
       · have:=fG s L pl r (k+1) run k;simp;omega
       · split
         · have:=fG s L pl r (k+1) run k;simp;omega
         · have:=fG s L pl r (k+1) run fr;omega
def gP (pr:bA) (s:List UInt8):bk:=⟨s,if s=[] then [] else [⟨s.length,⟨0,0,0⟩⟩],pr,[],[]⟩
def gW (st:St) (s:List UInt8):LW:=if s=[] then ⟨0,0,.no,false⟩ else ⟨st.cur,4,.tight,true⟩
theorem FE (st:St) (pr:bA) (s:List UInt8):(gW st s).ok 4 (gP pr s).aC:=by
 unfold gW gP
 by_cases h:s=[]<;>simp [h,LW.ok]
theorem pC (pr:bA) (s:List UInt8):(gP pr s).small:=⟨by simp [gP],by simp [gP],by simp [gP]⟩
theorem Dg (pr:bA) (s:List UInt8):LW.ok ⟨0,0,.no,false⟩ 1 (gP pr s).marks:=⟨(fun h=>by cases h),fun _=>rfl⟩
def qa (c:UInt8):Bool:=decide (32≤c.toNat)&&decide (c.toNat≤126)
theorem an9 (pr:bA) (s:List UInt8):∀ m∈aA (gP pr s),m.e=0:=by
 have hl:∀ i,(bj (gP pr s).aC i).e=0:=by
  intro i
  unfold bj gP
  by_cases h:s=[]
  · simp [h,b0,iZ]
  · simp only [h,if_false,b0]
    split<;>rfl
 have go:∀ (l:List Clu) (kr:Bool) (bf:UInt8) (ps:Int) (mk:List (List UInt8)),∀ m∈cN (gP pr s) kr bf ps mk l,m.e=0:=by
  intro l
  induction l with
  | nil=>intro kr bf ps mk m h;cases h
  | cons c r ih=>
    intro kr bf ps mk m h
    rcases List.mem_cons.1 h with rfl | h
    · simp [ay,aZ,hl]
    · exact ih _ _ _ _ m h
 unfold aA
 split
 · exact go _ _ _ _ _
 · intro m h;cases h
theorem tO {L:List aa} (hok:L.all okM=true) (he:∀ m∈L,m.e=0) {i e:Int} (hc:Chn i L e) (hi:0≤i) (hlen:L.length≤500) {fr k:Nat} (h1:fr<k) (h2:k≤L.length):fw (cU L fr k)=false:=by
 have hsw:=Kg L hok fr (k-fr)
 have hle:=EP L hok
 have hr:=w8 ((L.drop fr).take (k-fr)) true 0 fun m hm=>he m (List.mem_of_mem_drop (List.mem_of_mem_take hm))
 have hma:=List.mem_of_getElem? (getM (L:=L) (i:=fr) (by omega))
 have hmb:=List.mem_of_getElem? (getM (L:=L) (i:=k-1) (by omega))
 have ha:=hc.ge.2 _ hma
 have hb:=hc.ge.2 _ hmb
 have hab:(L.getD fr mz).a<(L.getD (k-1) mz).b:=by
  by_cases hz:fr=k-1
  · rw [hz];omega
  · have hlt:∀ {L:List aa} {i e:Int},Chn i L e→∀ {j k:Nat},j<k→k<L.length→(L.getD j mz).b≤(L.getD k mz).a:=by
     intro L
     induction L with
     | nil=>intro i e _ j k _ h;simp at h
     | cons m r ih=>
       intro i e h j k h1 h2
       obtain ⟨g1,g2,g3⟩:=h
       cases k with
       | zero=>omega
       | succ k=>
         have hk:k<r.length:=by simpa using h2
         cases j with
         | zero=>
           have:=g3.ge.2 _ (List.mem_of_getElem? (getM hk))
           simp only [List.getD_cons_zero,List.getD_cons_succ];omega
         | succ j=>
           simp only [List.getD_cons_succ]
           exact ih g3 (by omega) hk
    have:=hlt hc (j:=fr) (k:=k-1) (by omega) (by omega)
    omega
 unfold fw oP j4 cU bn
 simp only
 rw [hr]
 have e1:decide ((L.getD fr mz).a<0)=false:=decide_eq_false (by omega)
 have e2:decide ((L.getD (k-1) mz).b<(L.getD fr mz).a)=false:=decide_eq_false (by omega)
 have e3:decide (0+sW ((L.drop fr).take (k-fr))<0)=false:=decide_eq_false (by omega)
 have e4:decide (2097152<0+sW ((L.drop fr).take (k-fr)))=false:=decide_eq_false (by omega)
 rw [e1,e2,e3,e4];rfl
theorem DQ {n:Int} (h1:1≤n) (h2:n≤64):0≤hyW n∧hyW n≤64:=by
 have:=pN 45 h1 h2
 exact ⟨this.1,this.2.1⟩
theorem Jn {m:aa} (ha:0≤m.a) (hb:m.a<m.b) (hw:okM m=true) (hz:1≤m.s∧m.s≤64):fw (fZ m)=false:=by
 have hw':=xQ hw
 have hh:=DQ hz.1 hz.2
 unfold fZ
 split
 · unfold fw oP j4 bn
   simp only
   have e1:decide (m.a<0)=false:=decide_eq_false (by omega)
   have e2:decide (m.b<m.a)=false:=decide_eq_false (by omega)
   have e3:decide (m.w<0)=false:=decide_eq_false (by omega)
   have e4:decide (2097152<m.w)=false:=decide_eq_false (by omega)
   have e5:decide (0≤m.w/2)=true:=decide_eq_true (by omega)
   have e6:decide (m.w/2≤4095)=true:=decide_eq_true (by omega)
   have e7:decide (0≤m.w/3)=true:=decide_eq_true (by omega)
   have e8:decide (m.w/3≤4095)=true:=decide_eq_true (by omega)
   rw [e1,e2,e3,e4,e5,e6,e7,e8];rfl
 · split
   · unfold fw oP j4 bn
     simp only
     have e1:decide (m.a<0)=false:=decide_eq_false (by omega)
     have e2:decide (m.b<m.a)=false:=decide_eq_false (by omega)
     rw [e1,e2];rfl
   · unfold fw oP j4 bn
     simp only
     have e1:decide (m.a<0)=false:=decide_eq_false (by omega)
     have e2:decide (m.b<m.a)=false:=decide_eq_false (by omega)
     have e3:decide (hyW m.s<0)=false:=decide_eq_false (by omega)
     have e4:decide (2097152<hyW m.s)=false:=decide_eq_false (by omega)
     rw [e1,e2,e3,e4];rfl
theorem II {m:aa} (ha:0≤m.a) (hz:1≤m.s∧m.s≤64):fw (rj m)=false:=by
 have hh:=DQ hz.1 hz.2
 unfold rj fw oP j4 bn
 simp only
 have e1:decide (m.a<0)=false:=decide_eq_false (by omega)
 have e2:decide (m.a<m.a)=false:=decide_eq_false (by omega)
 have e3:decide (hyW m.s<0)=false:=decide_eq_false (by omega)
 have e4:decide (2097152<hyW m.s)=false:=decide_eq_false (by omega)
 rw [e1,e2,e3,e4];rfl
theorem IL {m:aa} (ha:0≤m.a):fw (rH m)=false:=by
 unfold rH fw oP j4 bn
 simp only
 have e1:decide (m.a<0)=false:=decide_eq_false (by omega)
 have e2:decide (m.a<m.a)=false:=decide_eq_false (by omega)
 rw [e1,e2];rfl
theorem sb {s:List UInt8} {L:List aa} {pl:List Bool} (hok:L.all okM=true) (he:∀ m∈L,m.e=0) {i e:Int} (hc:Chn i L e) (hi:0≤i) (hlen:L.length≤500) (hz:∀ m∈L,1≤m.s∧m.s≤64):∀ (r d:List aa) (run fr:Nat),L=d++r→fr≤d.length→(aM s L pl d.length run fr r).any fw=false
 | [],d,run,fr,hd,hf=>by
   simp only [aM]
   split
   · rename_i h
     simp [tO hok he hc hi hlen h (by simp [hd])]
   · rfl
 | m::r,d,run,fr,hd,hf=>by
   have hm:m∈L:=by rw [hd];simp
   have hm1:=hc.ge.2 m hm
   have hk:d.length<L.length:=by simp [hd]
   have hd':L=(d++[m])++r:=by simp [hd]
   have ih:=fun run fr h=>sb hok he hc hi hlen hz r (d++[m]) run fr hd' h (s:=s) (pl:=pl)
   have hl:(d++[m]).length=d.length+1:=by simp
   rw [hl] at ih
   simp only [aM]
   split
   · rw [List.any_append,List.any_cons,ih _ _ (Nat.le_refl _),Jn (by omega) hm1.2.1 (List.all_eq_true.1 hok m hm) (hz m hm)]
     split
     · rename_i h
       simp [tO hok he hc hi hlen h (by omega)]
     · rfl
   · split
     · exact ih _ _ (by omega)
     · rename_i h1 h2
       split
       · rw [List.any_cons,List.any_cons,ih _ _ (by omega),tO hok he hc hi hlen (by omega) (by omega),II (by omega) (hz m hm)];rfl
       · split
         · rw [List.any_cons,List.any_cons,ih _ _ (by omega),tO hok he hc hi hlen (by omega) (by omega),IL (by omega)];rfl
         · exact ih _ _ (by omega)
theorem wH {p:bk} (h0:ax p=0) (hD:p.pr.drop=0) (he:∀ m∈aA p,m.e=0) (hl:p.text.length≤500):bb (bE p)=0:=by
 have hM:=kZ p
 have hch:=Ce h0
 have hlen:(aA p).length≤500:=by
  have:∀ {L:List aa} {i e:Int},Chn i L e→(L.length:Int)≤e-i:=by
   intro L
   induction L with
   | nil=>intro i e h;simp only [Chn] at h;simp;omega
   | cons m r ih=>
     intro i e h
     obtain ⟨g1,g2,g3⟩:=h
     have:=ih g3
     simp only [List.length_cons];omega
  have:=this hch
  omega
 have hb:bJ p=aA p:=by
  unfold bJ dY
  rw [if_neg]
  rw [hD];simp
 have hodd:=sb (s:=p.text) (pl:=gd p.text (aA p) p.pr.a0) hM.ok he hch (Int.le_refl 0) hlen (fun m hm=>hM.sz m hm) (aA p) [] 0 0 rfl (Nat.le_refl _)
 have hil:(bE p).length≤3*(aA p).length+1:=by
  have:=fG p.text (bJ p) (gd p.text (bJ p) p.pr.a0) (bJ p) 0 0 0
  rw [hb] at this
  unfold bE
  rw [hb];exact this
 unfold bb
 rw [if_neg (by omega)]
 have e:(bE p).any fw=false:=by
  unfold bE
  rw [hb];exact hodd
 rw [e];rfl
theorem Nb {l:List (List UInt8)}:∀ y∈l.map DV.str,dq 1 false y:=by
 intro y hy;obtain ⟨c,_,rfl⟩:=List.mem_map.1 hy;exact ⟨rfl,rfl,rfl⟩
theorem HP (l:List (List UInt8)):flat (l.map DV.str)=l.map DV.str:=kQ _ Nb
theorem tj {st:St} {K:List Nat} {n:Nat} {xs:List DV} {v:DV} (h:Acc st K n xs v):Lw n xs v:=by
 rcases h with ⟨rfl,t,n',tk,rfl⟩ | ⟨k,s,rfl,_⟩
 · exact .list _ _ _ _ (fun h=>by cases h) (fun _=>rfl)
 · exact .list _ _ _ _ (fun _=>rfl) (fun h=>by cases h)
theorem ajf:tab 435=some (.code Hl):=by kernel_rfl
theorem aiO:tab 461=some (.code Kl):=by kernel_rfl
theorem amv:tab 65=some (.code f65):=by kernel_rfl
theorem amq:tab 73=some (.code f73):=by kernel_rfl
def bd:List UInt8→List (List UInt8)
 | []=>[[]]
 | c::r=>if c=10 then []::bd r else match bd r with | s::t=>(c::s)::t | []=>[[c]]
theorem sy (s:List UInt8):bd s≠[]:=by
 cases s with
 | nil=>simp [bd]
 | cons c r=>
   unfold bd
   split
   · simp
   · split<;>simp
theorem lL:∀ s:List UInt8,(bd s).length=s.count 10+1
 | []=>rfl
 | c::r=>by
   have h:=lL r
   unfold bd
   by_cases hc:c=10
   · simp [hc,h]
   · simp only [if_neg hc]
     have:List.count 10 (c::r)=r.count 10:=by simp [List.count_cons,hc]
     rw [this,← h]
     split
     · rename_i e;rw [e];rfl
     · rename_i e;exact absurd e (sy r)
theorem lx:∀ s:List UInt8,s.count 10=0→bd s=[s]
 | [],_=>rfl
 | c::r,h=>by
   have hc:c≠10:=by intro e;subst e;simp at h
   have hr:r.count 10=0:=by simpa [List.count_cons,hc] using h
   unfold bd
   rw [if_neg hc,lx r hr]
theorem oj:∀ s:List UInt8,0<s.count 10→∃ m:Nat,Lib.indexByte s 10=m∧m<s.length∧bd s=s.take m::bd (s.drop (m+1))∧(s.drop (m+1)).count 10+1=s.count 10
 | [],h=>by simp at h
 | c::r,h=>by
   by_cases hc:c=10
   · subst hc
     exact ⟨0,by simp [Lib.indexByte],by simp,by simp [bd],by simp⟩
   · have hr:r.count 10=(c::r).count 10:=by simp [List.count_cons,hc]
     obtain ⟨m,h1,h2,h3,h4⟩:=oj r (by omega)
     refine ⟨m+1,?_,by simp;omega,?_,by simp only [List.drop_succ_cons];omega⟩
     · simp only [Lib.indexByte,beq_iff_eq]
       rw [if_neg hc,h1,if_neg (by omega)]
       omega
     · rw [bd,if_neg hc,h3]
       rfl
section
variable {st:St}
theorem F4 (s:List UInt8) (st:St):(E tab).F 44 [.str s,.str [10]] st=some (.int .i64 (s.count 10),st):=by
 have h64:∀ st,(E tab).F 64 [.str s,.int .u8 10] st=some (.int .i64 (s.count 10),st):=fun st=>by
  rw [oX ahD];simp [eG,Lib.countByte]
 rw [av agX rfl]
 simp [f44,h64]
theorem Lj (s:List UInt8) (st:St):(E tab).F 65 [.str s,.str [10]] st=some (.int .i64 (Lib.indexByte s 10),st):=by
 have h72:∀ st,(E tab).F 72 [.str s,.int .u8 10] st=some (.int .i64 (Lib.indexByte s 10),st):=fun st=>by
  rw [oX ahL];simp [eB]
 have h61:∀ st,(E tab).F 61 [.str s,.int .u8 10] st=some (.int .i64 (Lib.indexByte s 10),st):=fun st=>by
  rw [av ad3 rfl];simp [f61,h72]
 have h73:∀ st,(E tab).F 73 [.str s,.str [10]] st=some (.int .i64 (Lib.indexByte s 10),st):=fun st=>by
  rw [av amq rfl]
  by_cases h:[10]=s
  · subst h
    simp [f73,Lib.indexByte]
  · simp [f73,h61,h]
 rw [av amv rfl];simp [f65,h73]
theorem VE (N:Nat) (hN:N≤1000000):∀ (m:Nat) (s:List UInt8) (d:List (List UInt8)),s.count 10=m→d.length+m=N→s.length≤1000000 →
 ∃ (d2:List (List UInt8)) (s2:List UInt8) (fr:Fr),d++bd s=d2++[s2]∧d2.length=N∧(E tab).C tn [(0,.str s),(1,.str [10]),(2,.int .i64 0),(3,.int .i64 N),(9,.hsl 1 false st.heap.length 0 (N+1) (some (N+1))),(10,.int .i64 d.length)] (pst st [.cells .plain (d.map DV.str++List.replicate (m+1) (DV.str []))] []) =
   some (.exit 0,(0,.str s2)::(1,.str [10])::(2,.int .i64 0)::(3,.int .i64 N)::(9,.hsl 1 false st.heap.length 0 (N+1) (some (N+1)))::(10,.int .i64 N)::fr,pst st [.cells .plain (d2.map DV.str++[DV.str []])] []):=by
 intro m
 induction m with
 | zero=>
   intro s d hm hd hs
   obtain rfl:d.length=N:=by omega
   refine ⟨d,s,[(36,.bool false)],by rw [lx s hm],rfl,?_⟩
   rw [ab (L:=tn) rfl]
   simp [zv]
 | succ m ih=>
   intro s d hm hd hs
   obtain ⟨k,h1,h2,h3,h4⟩:=oj s (by omega)
   have h0:d.length<N:=by omega
   have h65:=fun st=>Lj s st
   rw [h1] at h65
   have hk0:¬ (k:Int)<0:=by omega
   have w0:IntKind.i64.wrap ((k:Int)+0)=k:=by rw [ar (by omega)];simp
   have w1:IntKind.i64.wrap ((k:Int)+1)=((k+1:Nat):Int):=by rw [ar (by omega)];simp
   have w2:IntKind.i64.wrap ((d.length:Int)+1)=((d++[s.take k]).length:Nat):=by rw [ar (by omega)];simp
   have hkle:k≤s.length:=by omega
   have hkle1:k+1≤s.length:=by omega
   obtain ⟨d2,s2,fr,g1,g2,hJ⟩:=ih (s.drop (k+1)) (d++[s.take k]) (by omega) (by simp;omega) (by simp;omega)
   refine ⟨d2,s2,fr,by rw [← g1,h3];simp,g2,?_⟩
   have hsp:bV (d.map DV.str++List.replicate (m+1+1) (DV.str [])) d.length [.str (s.take k)]=(d++[s.take k]).map DV.str++List.replicate (m+1) (DV.str []):=by
    rw [ql (by simp),List.set_append_right _ _ (by simp)]
    simp [List.replicate_succ]
   have hlen:d.length+1≤(d.map DV.str++List.replicate (m+1+1) (DV.str [])).length:=by simp
   have h0n:(d.length:Int)<N+1:=by omega
   have hsl1:bF true 1 (.str s) none (some (.int .i64 (k:Int))) none=some (.str (s.take k)):=by rw [vX (by omega) (by omega)];simp
   have hsl2:bF true 1 (.str s) (some (.int .i64 ((k+1:Nat):Int))) none none=some (.str (s.drop (k+1))):=by rw [MA (by omega) (by omega)];simp
   simp only [List.length_append,List.length_singleton] at hJ w2
   generalize (d++[s.take k]).map DV.str++List.replicate (m+1) (DV.str [])=R at *
   generalize d.map DV.str++List.replicate (m+1+1) (DV.str [])=R0 at *
   generalize d2.map DV.str++[DV.str []]=R1 at *
   generalize s.take k=tk at *
   generalize s.drop (k+1)=dk at *
   simp only [bV] at hsp
   simp at hJ hsp w0 w1 w2 hsl1 hsl2
   rw [ab (L:=tn) rfl]
   simp [zv,h0,h0n,h65,hk0,w0,w1,w2,hsl1,hsl2,hsp,hlen,hJ]
theorem xc (s:List UInt8) (hs:s.length≤1000000) (st:St):(E tab).F 435 [.str s,.str [10]] st=some (.list st.cur 1 .tight true ((bd s).map DV.str),st):=by
 have h461:∀ st,(E tab).F 461 [.str s,.str [10],.int .i64 0,.int .i64 (-1)] st=some (.list st.cur 1 .tight true ((bd s).map DV.str),st):=fun st=>by
  rw [av aiO rfl]
  have h44:=fun st=>F4 s st
  have hc:s.count 10≤s.length:=List.count_le_length
  generalize hN:s.count 10=N at *
  obtain ⟨d2,s2,fr,g1,g2,hL⟩:=VE (st:=st) N (by omega) N s [] hN (by simp) hs
  simp only [List.nil_append] at g1
  have w1:IntKind.i64.wrap ((N:Int)+1)=N+1:=ar (by omega)
  have w2:IntKind.i64.wrap ((s.length:Int)+1)=s.length+1:=ar (by omega)
  have w3:IntKind.i64.wrap (N:Int)=N:=ar (by omega)
  have hmin:eK jn [.int .i64 ((N:Int)+1),.int .i64 ((s.length:Int)+1)]=some (.int .i64 ((N:Int)+1)):=by
   have:¬ (s.length:Int)+1<(N:Int)+1:=by omega
   simp [eK,jn,this]
  have b1:((N:Int)+1)*16≤140737488355328:=by omega
  have b2:N+1≤140737488355328:=by omega
  have b3:(N:Int)+1≤140737488355328:=by omega
  have b4:(0:Int)≤(N:Int)+1:=by omega
  have t1:((N:Int)+1).toNat=N+1:=by omega
  have hsp:bV (d2.map DV.str++[DV.str []]) N [.str s2]=(bd s).map DV.str:=by
   rw [g1,ql (by simp [g2]),List.set_append_right _ _ (by simp [g2])]
   simp [g2]
  have hlen:N+1≤(d2.map DV.str++[DV.str []]).length:=by simp [g2]
  have hln:(bd s).length=N+1:=by rw [g1];simp [g2]
  have x1:=xS (st:=st) (K:=[]) (k:=0) (H:=[.cells .plain ((bd s).map DV.str)]) (cap:=some (N+1)) (ys:=(bd s).map DV.str) (by rw [HP];rfl) (by omega) (.inr rfl) Nb
  rw [List.length_map,hln,if_pos rfl] at x1
  have hsl:=FJ (n:=1) (b:=st.heap.length) (off:=0) (len:=N+1) (c:=N+1) (hi:=N+1) (ag:=false) (k:=.i64) (Nat.le_refl _)
  have er:([]:List (List UInt8)).map DV.str++List.replicate (N+1) (DV.str [])=aR [.str []] (N+1):=by rw [me];rfl
  rw [er] at hL
  generalize hZ:aR [DV.str []] (N+1)=Z at *
  generalize d2.map DV.str++[DV.str []]=R at *
  generalize (bd s).map DV.str=R1 at *
  simp only [bV] at hsp
  have eZ:aR [DV.str []] (N+1)=Z:=hZ
  simp at hL hsp x1 hsl
  simp [Kl,eZ,show (N:Int)<N+1 by omega,h44,w1,w2,w3,hmin,aw,b1,b2,b3,b4,t1,hL,hsp,hlen,hsl,x1]
 rw [av ajf rfl]
 have h:=h461 (pst st [] [])
 simp at h
 simp [Hl,h]
end
theorem wk:tab 409=some (.code oK):=by kernel_rfl
theorem M3:tab 410=some (.code Dn):=by kernel_rfl
theorem ahg:tab 412=some (.code CL):=by kernel_rfl
theorem ah8:tab 433=some (.code B2):=by kernel_rfl
theorem MM:tab 434=some (.code GP):=by kernel_rfl
theorem agz:tab 436=some (.code Gq):=by kernel_rfl
theorem aeh:tab 437=some (.code EU):=by kernel_rfl
theorem D8:tab 460=some (.code Ii):=by kernel_rfl
theorem Ft:tab 462=some (.code xO):=by kernel_rfl
structure Fm where
 p:Int
 x:Int
 y:Int
 w:Int
 h:Int
def Fm.cs (f:Fm):List DV:=[.int .i64 f.p,.int .i64 f.x,.int .i64 f.y,.int .i64 f.w,.int .i64 f.h]
def Fm.dv (f:Fm):DV:=.agg f.cs
theorem aiw (f:Fm):dq 5 true f.dv:=⟨rfl,rfl,rfl⟩
theorem kN {l:List Fm}:∀ y∈l.map Fm.dv,dq 5 true y:=fun y hy=>by obtain ⟨x,_,rfl⟩:=List.mem_map.1 hy;exact aiw x
abbrev Fms (st:St) (l:List Fm) (v:DV):Prop:=Vw st 5 true (l.map Fm.dv) v
def kB (x:Int):Bool:=decide (0≤x)&&decide (x≤4095)
def gi (f:Fm):Bool:=decide (1≤f.p)&&decide (f.p≤4096)&&kB f.x&&kB f.y&&kB f.w&&kB f.h
def chF (l:List Fm):Int:=if 16<l.length then 2 else if l.all gi then 0 else 2
def qV (i:Nat) (h:Int):List (Nat×Nat):=(List.range (h.toNat/10)).map fun n=>(i,10*n)
def PL:List Fm→Nat→List (Nat×Nat)
 | [],_=>[]
 | f::r,i=>qV i f.h++PL r (i+1)
theorem lz:∀ (a b:List Fm) (i:Nat),PL (a++b) i=PL a i++PL b (i+a.length)
 | [],b,i=>by simp [PL]
 | f::a,b,i=>by simp only [List.cons_append,PL,lz a b,List.append_assoc,List.length_cons];congr 3;omega
theorem gI (i:Nat) (h:Int):(qV i h).length=h.toNat/10:=by simp [qV]
theorem tm {f:Fm} (h:gi f=true):0≤f.w∧f.w≤4095∧0≤f.h∧f.h≤4095:=by
 simp [gi,kB] at h;omega
theorem kz:∀ (l:List Fm) (i:Nat),l.all gi=true→(PL l i).length≤409*l.length
 | [],_,_=>by simp [PL]
 | f::r,i,h=>by
   simp only [List.all_cons,Bool.and_eq_true] at h
   have h1:=kz r (i+1) h.2
   have h2:=tm h.1
   simp only [PL,List.length_append,gI,List.length_cons]
   omega
theorem uP:∀ (l:List Fm) (i:Nat),∀ p∈PL l i,i≤p.1∧p.1<i+l.length
 | [],_,p,h=>by cases h
 | f::r,i,p,h=>by
   rcases List.mem_append.1 h with h | h
   · obtain ⟨n,_,rfl⟩:=List.mem_map.1 h
     simp
   · have:=uP r (i+1) p h
     simp;omega
section
variable {st:St} {l:List Fm} {v:DV}
theorem fp (h:Fms st l v) (st':St):o7 st' .slice v=some (.int .i64 l.length,st'):=by simpa using Vw.len h st'
theorem nm (h:Fms st l v) {i:Nat} (hi:i<l.length) (k:IntKind) (st':St):gZ st' 5 v (.int k i)=some (elP 5 v i,st'):=Vw.aK h (by simpa using hi) k st'
theorem mG (h:Fms st l v) {i:Nat} {x:Fm} (hx:l[i]? = some x) (H:List HO) (K:List Nat):cF (pst st H K) 5 true (elP 5 v i)=some (.agg x.cs):=Vw.load (Vw.inn h H K) kN rfl (by simp [hx,Fm.dv])
theorem vG (h:Fms st l v):v.bg=true:=by cases h<;>rfl
theorem W2 (x:Int) (st:St):(E tab).F 437 [.int .i64 x] st=some (.bool (kB x),st):=by
 rw [av aeh rfl]
 unfold kB
 by_cases h:0≤x
 · simp [EU,h]
 · simp [EU,h]
theorem Zz (hl:l.length≤16) (hv:Fms st l v) (K:List Nat):∀ (r d:List Fm) (H:List HO),l=d++r →
 ∃ J fr,(E tab).C iT [(8,v),(9,.int .i64 l.length),(10,.int .i64 d.length)] (pst st H K) =
   some (if r.all gi then (.exit 0,fr,pst st (H++J) K) else (.ret,[(2,.int .i64 2)],pst st (H++J) K)):=by
 intro r
 induction r with
 | nil=>
   intro d H hd
   refine ⟨[],[(8,v),(9,.int .i64 l.length),(10,.int .i64 l.length),(11,.bool false)],?_⟩
   rw [ab (L:=iT) rfl]
   simp [jG,hd]
 | cons f r ih=>
   intro d H hd
   have h0:d.length<l.length:=by simp [hd]
   have hg:l[d.length]? = some f:=by simp [hd]
   have a1:=fun st'=>nm hv h0 .i64 st'
   have a2:=fun H=>mG hv hg H K
   have hw1:IntKind.i64.wrap ((d.length:Int)+1)=((d++[f]).length:Nat):=by rw [ar (by omega)];simp
   have h437:=fun x st=>W2 x st
   obtain ⟨J,fr,hJ⟩:=ih (d++[f]) (H++[.cells .plain f.cs]) (by simp [hd])
   simp only [List.length_append,List.length_singleton] at hJ hw1
   simp only [Fm.cs] at a2 hJ
   by_cases c1:f.p<1
   · have:gi f=false:=by simp [gi];omega
     refine ⟨[.cells .plain f.cs],[],?_⟩
     rw [ab (L:=iT) rfl]
     simp [jG,h0,a1,a2,c1,this,Fm.cs]
   by_cases c2:4096<f.p
   · have:gi f=false:=by simp [gi];omega
     refine ⟨[.cells .plain f.cs],[],?_⟩
     rw [ab (L:=iT) rfl]
     simp [jG,h0,a1,a2,c1,c2,this,Fm.cs]
   have hok:gi f=(kB f.x&&kB f.y&&kB f.w&&kB f.h):=by
    have e1:1≤f.p:=by omega
    have e2:f.p≤4096:=by omega
    simp [gi,e1,e2]
   simp only [List.all_cons,hok]
   cases b1:kB f.x with
   | false=>
     refine ⟨[.cells .plain f.cs],[],?_⟩
     rw [ab (L:=iT) rfl]
     simp [jG,h0,a1,a2,c1,c2,h437,b1,Fm.cs]
   | true=>
   cases b2:kB f.y with
   | false=>
     refine ⟨[.cells .plain f.cs],[],?_⟩
     rw [ab (L:=iT) rfl]
     simp [jG,h0,a1,a2,c1,c2,h437,b1,b2,Fm.cs]
   | true=>
   cases b3:kB f.w with
   | false=>
     refine ⟨[.cells .plain f.cs],[],?_⟩
     rw [ab (L:=iT) rfl]
     simp [jG,h0,a1,a2,c1,c2,h437,b1,b2,b3,Fm.cs]
   | true=>
   cases b4:kB f.h with
   | false=>
     refine ⟨[.cells .plain f.cs],[],?_⟩
     rw [ab (L:=iT) rfl]
     simp [jG,h0,a1,a2,c1,c2,h437,b1,b2,b3,b4,Fm.cs]
   | true=>
     refine ⟨[.cells .plain f.cs]++J,fr,?_⟩
     simp only [Bool.and_self,Bool.true_and]
     rw [← List.append_assoc]
     simp only [Fm.cs]
     rw [← hJ]
     rw [ab (L:=iT) rfl]
     simp [jG,h0,a1,a2,c1,c2,h437,b1,b2,b3,b4,hw1]
theorem ib (hv:Fms st l v):(E tab).F 412 [v] st=some (.int .i64 (chF l),st):=by
 rw [av ahg rfl]
 have hn:=fun st'=>fp hv st'
 unfold chF
 by_cases h1:16<l.length
 · have h1':(16:Int)<l.length:=by omega
   simp [CL,hn,h1,h1']
 have h1':¬ (16:Int)<l.length:=by omega
 obtain ⟨J,fr,hL⟩:=Zz (by omega) hv [] l [] [] rfl
 simp only [List.length_nil,Int.natCast_zero] at hL
 rw [if_neg h1]
 cases ha:l.all gi with
 | false=>rw [ha] at hL;simp at hL;simp [CL,hn,h1',hL]
 | true=>rw [ha] at hL;simp at hL;simp [CL,hn,h1',hL]
theorem Oy (hl:l.length≤16) (hv:Fms st l v) (hok:l.all gi=true) (K:List Nat):∀ (r d:List Fm) (H:List HO),l=d++r →
 ∃ J fr,(E tab).C tJ [(5,.int .i64 (PL d 0).length),(13,v),(14,.int .i64 l.length),(15,.int .i64 d.length)] (pst st H K) =
   some (.exit 0,(5,.int .i64 (PL l 0).length)::fr,pst st (H++J) K):=by
 intro r
 induction r with
 | nil=>
   intro d H hd
   refine ⟨[],[(13,v),(14,.int .i64 l.length),(15,.int .i64 l.length),(16,.bool false)],?_⟩
   rw [ab (L:=tJ) rfl]
   simp [yF,hd]
 | cons f r ih=>
   intro d H hd
   have h0:d.length<l.length:=by simp [hd]
   have hg:l[d.length]? = some f:=by simp [hd]
   have a1:=fun st'=>nm hv h0 .i64 st'
   have a2:=fun H=>mG hv hg H K
   have hf:=tm (List.all_eq_true.1 hok f (by rw [hd];simp))
   have hw1:IntKind.i64.wrap ((d.length:Int)+1)=((d++[f]).length:Nat):=by rw [ar (by omega)];simp
   have hpl:=kz l 0 hok
   have hpd:(PL (d++[f]) 0).length=(PL d 0).length+f.h.toNat/10:=by rw [lz];simp [PL,gI]
   have hle:(PL (d++[f]) 0).length≤(PL l 0).length:=by rw [hd,show d++f::r=(d++[f])++r by simp,lz (d++[f])];simp
   have w2:IntKind.i64.wrap (f.h.tdiv 10)=((f.h.toNat/10:Nat):Int):=by
    rw [Int.tdiv_eq_ediv_of_nonneg hf.2.2.1,ar (by omega)];omega
   have w3:IntKind.i64.wrap (((PL d 0).length:Int)+((f.h.toNat/10:Nat):Int))=((PL (d++[f]) 0).length:Nat):=by rw [hpd,ar (by omega)];simp
   obtain ⟨J,fr,hJ⟩:=ih (d++[f]) (H++[.cells .plain f.cs]) (by simp [hd])
   refine ⟨[.cells .plain f.cs]++J,fr,?_⟩
   simp only [List.length_append,List.length_singleton] at hw1
   rw [show (d++[f]).length=d.length+1 by simp] at hJ
   simp only [Fm.cs] at a2 hJ ⊢
   rw [← List.append_assoc,← hJ]
   generalize (PL (d++[f]) 0).length=n2 at *
   generalize (PL d 0).length=n1 at *
   generalize f.h.toNat/10=q at *
   rw [ab (L:=tJ) rfl]
   simp [yF,h0,a1,a2,w2,w3,hw1]
theorem FA (hv:Fms st l v) (hc:chF l=0):(E tab).F 410 [v] st=some (.tuple [.int .i64 (PL l 0).length,.int .i64 0],st):=by
 rw [av M3 rfl]
 have hn:=fun st'=>fp hv st'
 have h412:=fun H K=>ib (st:=pst st H K) (hv.inn H K)
 rw [hc] at h412
 have hc2:l.length≤16∧l.all gi=true:=by
  unfold chF at hc
  split at hc
  · omega
  · split at hc
    · rename_i h;exact ⟨by omega,h⟩
    · omega
 obtain ⟨J,fr,hL⟩:=Oy hc2.1 hv hc2.2 [] l [] [] rfl
 simp [PL] at hL h412
 simp [Dn,hn,h412,hL]
def dP (c:UInt8):Bool:=qa c||decide (c=10)
def wrF (s:List UInt8):Int:=if 4096<s.length then 3 else if s.all dP then 0 else 4
theorem RH (s:List UInt8) (hs:s.length≤4096) (c0:Nat) (st:St):∀ (r d:List UInt8),s=d++r →
 ∃ fr,(E tab).C tN [(9,.list c0 1 .no true (s.map fun b=>.int .u8 b.toNat)),(10,.int .i64 s.length),(11,.int .i64 d.length)] st =
   some (if r.all dP then (.exit 0,fr,st) else (.ret,[(2,.int .i64 4)],st)):=by
 intro r
 induction r with
 | nil=>
   intro d hd
   rw [ab (L:=tN) rfl]
   simp [n4,hd]
 | cons c r ih=>
   intro d hd
   have h0:d.length<s.length:=by simp [hd]
   have hg:s[d.length]=c:=by simp [hd]
   have hw:IntKind.i64.wrap ((d.length:Int)+1)=((d++[c]).length:Nat):=by rw [ar (by omega)];simp
   obtain ⟨fr,hJ⟩:=ih (d++[c]) (by simp [hd])
   refine ⟨fr,?_⟩
   rw [ab (L:=tN) rfl]
   simp only [List.length_append,List.length_singleton] at hJ hw
   by_cases h10:c=10
   · subst h10
     have hb:dP 10=true:=by decide
     simp [n4,h0,hg,hb,hw]
     simpa using hJ
   have h10':¬ (c.toNat:Int)=10:=by
    intro e
    apply h10
    have:c.toNat=10:=by omega
    exact UInt8.toNat_inj.1 (by simpa using this)
   have h10'':¬ c.toNat=10:=by omega
   by_cases h1:c.toNat<32
   · have hb:dP c=false:=by simp [dP,qa,h10];omega
     have h1':(c.toNat:Int)<32:=by omega
     simp [n4,h0,hg,h1,h1',hb,h10',h10'']
   · have h1':¬ (c.toNat:Int)<32:=by omega
     by_cases h2:126<c.toNat
     · have hb:dP c=false:=by simp [dP,qa,h10];omega
       have h2':126<(c.toNat:Int):=by omega
       simp [n4,h0,hg,h1,h1',h2,h2',hb,h10',h10'']
     · have hb:dP c=true:=by simp [dP,qa];left;omega
       have h2':¬ 126<(c.toNat:Int):=by omega
       simp [n4,h0,hg,h1,h1',h2,h2',hb,hw]
       simpa using hJ
theorem mH (s:List UInt8) (st:St):(E tab).F 433 [.str s] st=some (.int .i64 (wrF s),st):=by
 rw [av ah8 rfl]
 unfold wrF
 by_cases h1:4096<s.length
 · have h1':(4096:Int)<s.length:=by omega
   simp [B2,h1,h1']
 have h1':¬ (4096:Int)<s.length:=by omega
 obtain ⟨fr,hL⟩:=RH s (by omega) st.cur (pst st [] []) s [] rfl
 simp only [List.length_nil,Int.natCast_zero] at hL
 rw [if_neg h1]
 cases ha:s.all dP with
 | false=>rw [ha] at hL;simp at hL;simp [B2,h1',hL]
 | true=>rw [ha] at hL;simp at hL;simp [B2,h1',hL]
end
def pD (p:Nat×Nat):DV:=.agg [.int .i64 p.1,.int .i64 p.2]
theorem GU (p:Nat×Nat):dq 2 true (pD p):=⟨rfl,rfl,rfl⟩
theorem qu {l:List (Nat×Nat)}:∀ y∈l.map pD,dq 2 true y:=fun y hy=>by obtain ⟨x,_,rfl⟩:=List.mem_map.1 hy;exact GU x
section
variable {st:St} {k:Nat} {l:List Fm} {v y:DV} {P:Nat→List HO→List Nat→Prop}
theorem By (i:Nat) (h:Int) {n:Nat} (hn:n<h.toNat/10):(qV i h)[n]? = some (i,10*n):=by
 simp [qV,hn]
theorem NQ (hP:∀ j H K o,P j H K→P j (H++[o]) K)
 (step:∀ j p,(PL l 0)[j]? = some p→∀ H K,P j H K→∃ H' K',(E tab).V y [.int .i64 p.1,.int .i64 p.2] (pst st H K)=some (.bool true,pst st H' K')∧P (j+1) H' K')
 (i cnt base:Nat) (hc:cnt≤409) (hb:∀ n,n<cnt→(PL l 0)[base+n]? = some (i,10*n)) (c6 c7 c8:DV):∀ (m n:Nat) (H:List HO) (K:List Nat),n+m=cnt→P (base+n) H K →
 ∃ H' K',P (base+cnt) H' K'∧(E tab).C uX [(0,y),(3,.int .i64 i),(6,c6),(7,c7),(8,c8),(15,.int .i64 cnt),(16,.int .i64 n)] (pst st H K) =
   some (.exit 2,[(0,y),(3,.int .i64 i),(6,c6),(7,c7),(8,c8),(15,.int .i64 cnt),(16,.int .i64 cnt),(17,.bool false)],pst st H' K'):=by
 intro m
 induction m with
 | zero=>
   intro n H K hn hp
   obtain rfl:n=cnt:=by omega
   refine ⟨H,K,hp,?_⟩
   rw [ab (L:=uX) rfl]
   simp [za]
 | succ m ih=>
   intro n H K hn hp
   have hlt:n<cnt:=by omega
   obtain ⟨H1,K1,hV,hp1⟩:=step (base+n) _ (hb n hlt) H K hp
   obtain ⟨H',K',hp',hJ⟩:=ih (n+1) H1 K1 (by omega) hp1
   refine ⟨H',K',hp',?_⟩
   have w1:IntKind.i64.wrap ((n:Int)+1)=(n+1:Nat):=by rw [ar (by omega)];simp
   have w2:IntKind.i64.wrap ((n:Int)*10)=((10*n:Nat):Int):=by rw [ar (by omega)];omega
   simp only at hV
   rw [ab (L:=uX) rfl]
   simp [za,hlt,w2]
   simp at hV hJ w1
   simp [hV,w1,hJ]
theorem aa5 (hl:l.length≤16) (hok:l.all gi=true) (hv:Fms st l v) (hP:∀ j H K o,P j H K→P j (H++[o]) K)
 (step:∀ j p,(PL l 0)[j]? = some p→∀ H K,P j H K→∃ H' K',(E tab).V y [.int .i64 p.1,.int .i64 p.2] (pst st H K)=some (.bool true,pst st H' K')∧P (j+1) H' K') :
 ∀ (r d:List Fm) (H:List HO) (K:List Nat),l=d++r→P (PL d 0).length H K →
 ∃ H' K' fr,P (PL l 0).length H' K'∧(E tab).C tB [(0,y),(6,v),(7,.int .i64 l.length),(8,.int .i64 d.length)] (pst st H K)=some (.exit 0,fr,pst st H' K'):=by
 intro r
 induction r with
 | nil=>
   intro d H K hd hp
   obtain rfl:l=d:=by simpa using hd
   refine ⟨H,K,[(0,y),(6,v),(7,.int .i64 l.length),(8,.int .i64 l.length),(9,.bool false)],hp,?_⟩
   rw [ab (L:=tB) rfl]
   simp [xx]
 | cons f r ih=>
   intro d H K hd hp
   have h0:d.length<l.length:=by simp [hd]
   have hg:l[d.length]? = some f:=by simp [hd]
   have a1:=fun st'=>nm hv h0 .i64 st'
   have a2:=mG hv hg H K
   have hf:=tm (List.all_eq_true.1 hok f (by rw [hd];simp))
   have hw1:IntKind.i64.wrap ((d.length:Int)+1)=((d++[f]).length:Nat):=by rw [ar (by omega)];simp
   have w2:IntKind.i64.wrap (f.h.tdiv 10)=((f.h.toNat/10:Nat):Int):=by
    rw [Int.tdiv_eq_ediv_of_nonneg hf.2.2.1,ar (by omega)];omega
   have hPL:PL l 0=PL d 0++(qV d.length f.h++PL r (d.length+1)):=by rw [hd,lz];simp [PL]
   obtain ⟨H1,K1,hp1,hI⟩:=NQ hP step d.length (f.h.toNat/10) (PL d 0).length (by omega) (fun n hn=>by
    rw [hPL,List.getElem?_append_right (by omega),List.getElem?_append_left (by rw [gI];omega),show (PL d 0).length+n-(PL d 0).length=n by omega]
    exact By _ _ hn) v (.int .i64 l.length) (.int .i64 d.length) (f.h.toNat/10) 0 (H++[.cells .plain f.cs]) K (by omega) (hP _ _ _ _ hp)
   have hpd:(PL (d++[f]) 0).length=(PL d 0).length+f.h.toNat/10:=by rw [lz];simp [PL,gI]
   rw [← hpd] at hp1
   obtain ⟨H',K',fr,hp',hJ⟩:=ih (d++[f]) H1 K1 (by simp [hd]) hp1
   refine ⟨H',K',fr,hp',?_⟩
   simp only [List.length_append,List.length_singleton] at hJ hw1
   simp only [Fm.cs] at a2 hI
   generalize f.h.toNat/10=q at *
   simp at hI hJ hw1
   rw [ab (L:=tB) rfl]
   simp [xx,h0,a1,a2,w2,hI,hw1,hJ]
theorem rM (hl:l.length≤16) (hok:l.all gi=true) (hv:Fms st l v) (hP:∀ j H K o,P j H K→P j (H++[o]) K) (hrow:∀ j H K,P j H K→rowAt H k=some (.plain,[v]))
 (step:∀ j p,(PL l 0)[j]? = some p→∀ H K,P j H K→∃ H' K',(E tab).V y [.int .i64 p.1,.int .i64 p.2] (pst st H K)=some (.bool true,pst st H' K')∧P (j+1) H' K') (H:List HO) (K:List Nat) (hp:P 0 H K) :
 ∃ H' K',P (PL l 0).length H' K'∧(E tab).F 460 [y,.ptr (st.heap.length+k) 0] (pst st H K)=some (.tuple [],pst st H' K'):=by
 have hn:=fun st'=>fp hv st'
 obtain ⟨H',K',fr,hp',hL⟩:=aa5 (y:=y) hl hok hv hP step l [] H K rfl hp
 refine ⟨H',K',hp',?_⟩
 rw [gm D8 rfl]
 simp at hL
 simp [Ii,hrow 0 H K hp,hn,hL]
end
def fx:RC:=(.seq (.region Et [9,10,35]) (.region BE [9,10,11]))
def fu:RC:=(.block 1 (.au Bc [] [(0,[1])] []))
def ft (v t:DV) (N:Nat):Fr:=[(0,t),(9,.ptr (N+1) 0),(33,.fn 460 [] [.ptr (N+2) 0])]
abbrev mw (v t:DV) (N:Nat) (s:Nat) (q:Option Ex):HO:=.loop (fh (ft v t N) [34,35] fx fu s q)
structure FlS (st:St) (l:List Fm) (v t:DV) (lo:HO) (j:Nat) (H:List HO) (K:List Nat):Prop where
 r0:∃ u,rowAt H 0=some (.plain,[v,u])∧Acc st K 2 (((PL l 0).take j).map pD) u
 r1:rowAt H 1=some (.plain,[.ptr st.heap.length 0])
 r2:rowAt H 2=some (.plain,[v])
 r3:H[3]? = some lo
section
variable {st:St} {l:List Fm} {v t:DV} {lo:HO} {j:Nat} {H:List HO} {K:List Nat}
theorem FlS.app (h:FlS st l v t lo j H K) (X:List HO):FlS st l v t lo j (H++X) K:=by
 obtain ⟨⟨u,h0,hu⟩,h1,h2,h3⟩:=h
 exact ⟨⟨u,cO h0 X,hu⟩,cO h1 X,cO h2 X,by rw [List.getElem?_append_left (List.getElem?_eq_some_iff.1 h3).1];exact h3⟩
theorem oH {j i:Nat} {o:HO} {H:List HO} (h:j≠i):rowAt (H.set i o) j=rowAt H j:=by
 unfold rowAt;rw [List.getElem?_set_ne (fun e=>h e.symm)]
theorem FlS.put (h:FlS st l v t lo j H K) (lo':HO):FlS st l v t lo' j (H.set 3 lo') K:=by
 obtain ⟨⟨u,h0,hu⟩,h1,h2,h3⟩:=h
 exact ⟨⟨u,by rw [oH (by omega)];exact h0,hu⟩,by rw [oH (by omega)];exact h1,by rw [oH (by omega)];exact h2,by rw [List.getElem?_set_self (List.getElem?_eq_some_iff.1 h3).1]⟩
theorem AZ (hl:l.length≤16) (hok:l.all gi=true) {p:Nat×Nat} (hp:(PL l 0)[j]? = some p) (h:FlS st l v t (mw v t st.heap.length 0 none) j H K) :
 ∃ H' K',(E tab).V (.yield (st.heap.length+3)) [.int .i64 p.1,.int .i64 p.2] (pst st H K)=some (.bool true,pst st H' K')∧FlS st l v t (mw v t st.heap.length 0 none) (j+1) H' K':=by
 obtain ⟨⟨u,h0,hu⟩,h1,h2,h3⟩:=h.put (mw v t st.heap.length 1 none)
 have hpl:=kz l 0 hok
 have hj:j<(PL l 0).length:=(List.getElem?_eq_some_iff.1 hp).1
 obtain ⟨u',K',hA,hu'⟩:=dh (H:=H.set 3 (mw v t st.heap.length 1 none)) (by_:=16) (ag:=true) (tk:=.tight) (t:=st.cur) (ys:=[pD p]) hu (by omega) (by simp) (fun y hy=>by rw [List.mem_singleton] at hy;subst hy;exact GU p) (by simp [aw];omega) (by simp [aw];omega)
 have ht:((PL l 0).take j).map pD++[pD p]=((PL l 0).take (j+1)).map pD:=by rw [List.take_add_one,hp,List.map_append];rfl
 rw [ht] at hu'
 have hk0:=kG h0
 have hul:u'.leaves=[u']∧u'.bg=true:=by obtain ⟨t,n',tk,nn,rfl⟩:=bR hu';exact ⟨rfl,rfl⟩
 have hK2:∃ fr2,(E tab).C fu [(9,.ptr (st.heap.length+1) 0),(10,.int .i64 p.1),(11,.int .i64 p.2)] (pst st (H.set 3 (mw v t st.heap.length 1 none)) K)=some (.normal,fr2,pst st ((H.set 3 (mw v t st.heap.length 1 none)).set 0 (.cells .plain [v,u'])) K'):=by
  refine ⟨[],?_⟩
  generalize H.set 3 (mw v t st.heap.length 1 none)=G at *
  simp only [pD] at hA
  unfold fu
  simp [aF,bL,bQ,bP,aH,h0,h1,aD,aR,chunk,hA,hul]
 have s2:FlS st l v t (mw v t st.heap.length 1 none) (j+1) ((H.set 3 (mw v t st.heap.length 1 none)).set 0 (.cells .plain [v,u'])) K':=
  ⟨⟨u',mV hk0 _ _,hu'⟩,by rw [oH (by omega)];exact h1,by rw [oH (by omega)];exact h2,by rw [List.getElem?_set_ne (by omega)];exact h3⟩
 refine ⟨_,K',?_,s2.put (mw v t st.heap.length 0 none)⟩
 have hV:=v5 (T:=tab) (st:=st) (H:=H) (H1:=H) (K:=K) (K1:=K) (K2:=K') (k:=3) (fr:=ft v t st.heap.length) (params:=[34,35]) (assign:=fx) (body:=fu) (args:=[.int .i64 p.1,.int .i64 p.2])
  (e:=.normal) (fr1:=[(9,.ptr (st.heap.length+1) 0),(10,.int .i64 p.1),(11,.int .i64 p.2)]) h.r3 rfl (by simp [fx,ft]) h.r3 ?_ s2.r3
 · simpa [yT] using hV
 · exact hK2
end
def dK:bA:=⟨8,10,0,0,0,0,0,0,0,0,1,1,0,0,0,0,0⟩
def b6 (l:List Fm):Sl:=⟨0,match l.getLast? with | some f=>f.w | none=>0⟩
def slF (l:List Fm) (ah:List (Nat×Nat)):List Sl:=(ah.take 256).map fun p=>⟨0,match l[p.1]? with | some f=>f.w | none=>0⟩
def flL (l:List Fm) (ah:List (Nat×Nat)) (s:List UInt8):List Ln:=if iw (gP dK s) (slF l ah) (b6 l)=0 then j7 (gP dK s) (slF l ah) (b6 l) else []
theorem Jh {n:Nat} {xs:List DV} {u:DV} (h:Lw n xs u) {m:Nat} (hm:m≤xs.length) (k:IntKind):∃ u',bF false n u none (some (.int k m)) none=some u'∧Lw n (xs.take m) u':=by
 cases h with
 | list t n' tk nn h1 h2=>
   refine ⟨_,L8 h1 (by omega) (by omega),?_⟩
   simp only [Int.toNat_natCast]
   exact .list _ _ _ _ h1 fun e=>by rw [h2 e];simp
theorem IB {n:Nat} {xs:List DV} {u:DV} (h:Lw n xs u) {m:Nat} (hm:m≤xs.length) (k:IntKind):∃ u',bF false n u (some (.int k m)) none none=some u'∧Lw n (xs.drop m) u':=by
 cases h with
 | list t n' tk nn h1 h2=>
   refine ⟨_,l8 h1 (by omega) (by omega),?_⟩
   simp only [Int.toNat_natCast]
   exact .list _ _ _ _ h1 fun e=>by rw [h2 e];simp
theorem Lw.sc {n:Nat} {xs:List DV} {u:DV} (h:Lw n xs u):u.leaves=[u]∧u.bg=true:=by cases h;exact ⟨rfl,rfl⟩
section
variable {st:St} {l:List Fm} {v u:DV} {H:List HO} {K:List Nat} {ah:List (Nat×Nat)}
theorem AY (h:Fms st l v) {i:Nat} {f:Fm} (hf:l[i]? = some f) (H:List HO) (K:List Nat) (k:IntKind) (st':St) :
 gZ st' 5 v (.int k i)=some (elP 5 v i,st')∧kg st' 3 (elP 5 v i)=some (faP 3 (elP 5 v i),st')∧cF (pst st H K) 1 false (faP 3 (elP 5 v i))=some (.int .i64 f.w):=by
 have hi:=(List.getElem?_eq_some_iff.1 hf).1
 refine ⟨nm h hi k st',Vw.fy h kN (by simpa using hi) (by omega) st',?_⟩
 exact Vw.Al (Vw.inn h H K) kN (i:=i) (x:=f.dv) (by simp [hf]) rfl
theorem z7 (h0:rowAt H 0=some (.plain,[v,u])) (hv:Fms st l v) (hl:l.length≤16):∃ X,(E tab).F 462 [.ptr st.heap.length 0] (pst st H K)=some (.agg (b6 l).cs,pst st (H++X) K):=by
 have hn:=fun st'=>fp hv st'
 have h0':=fun X=>cO h0 X
 rw [gm Ft rfl]
 by_cases he:l=[]
 · subst he
   refine ⟨[.cells .plain [.int .i64 0,.int .i64 0]],?_⟩
   simp at hn
   simp [xO,h0',hn,b6,Sl.cs]
 · have hp:0<l.length:=List.length_pos_iff.2 he
   have hne:¬ (l.length:Int)=0:=by omega
   obtain ⟨f,hf⟩:∃ f,l[l.length-1]? = some f:=⟨l[l.length-1],List.getElem?_eq_getElem (by omega)⟩
   have hg:l.getLast? = some f:=by rw [List.getLast?_eq_getElem?];exact hf
   have w1:IntKind.i64.wrap ((l.length:Int)-1)=((l.length-1:Nat):Int):=by rw [ar (by omega)];omega
   have a:=fun H K st'=>AY hv hf H K .i64 st'
   refine ⟨[.cells .plain [.int .i64 0,.int .i64 f.w]],?_⟩
   simp only [b6,hg,Sl.cs]
   simp [xO,h0',hn,hne,he,w1,fun st'=>(a [] [] st').1,fun st'=>(a [] [] st').2.1,fun H K=>(a H K st).2.2]
theorem N7 (hv:Fms st l v) {as_:List (Nat×Nat)} {u':DV} (hu:Lw 2 (as_.map pD) u') (hah:∀ p∈as_,p.1<l.length) (hal:as_.length≤256) (s:DV) (K0:List Nat):∀ (r d:List (Nat×Nat)) (G:List HO) (K:List Nat) (ov:DV) (o:Option Nat),as_=d++r→rowAt G 0=some (.plain,[v,u]) →
 Ac st K 2 ((d.map fun p=>(⟨0,match l[p.1]? with | some f=>f.w | none=>0⟩:Sl)).map Sl.dv) ov o→(∀ k,o=some k→K0.length≤k)→K0.length≤K.length→(∀ j,j<K0.length→K[j]? = K0[j]?) →
 ∃ Y K' ov' fr,Lw 2 ((as_.map fun p=>(⟨0,match l[p.1]? with | some f=>f.w | none=>0⟩:Sl)).map Sl.dv) ov'∧K0.length≤K'.length∧(∀ j,j<K0.length→K'[j]? = K0[j]?) ∧
   (E tab).C uL [(0,.ptr st.heap.length 0),(1,s),(5,ov),(21,u'),(22,.int .i64 as_.length),(23,.int .i64 d.length)] (pst st G K) =
   some (.exit 0,(0,.ptr st.heap.length 0)::(1,s)::(5,ov')::fr,pst st (G++Y) K'):=by
 have hvw:Vw st 2 true (as_.map pD) u':=hu.vw
 have e0:=fun st'=>hvw.len st'
 simp only [List.length_map] at e0
 intro r
 induction r with
 | nil=>
   intro d G K ov o hd h0 ho _ hK hKK
   obtain rfl:as_=d:=by simpa using hd
   refine ⟨[],K,ov,[(21,u'),(22,.int .i64 as_.length),(23,.int .i64 as_.length),(24,.bool false)],tj ho.acc,hK,hKK,?_⟩
   rw [ab (L:=uL) rfl]
   simp [xD]
 | cons p r ih=>
   intro d G K ov o hd h0 ho hoK hK hKK
   have hlt:d.length<as_.length:=by simp [hd]
   have hg:as_[d.length]? = some p:=by simp [hd]
   have a1:=fun st'=>hvw.aK (i:=d.length) (by simpa using hlt) .i64 st'
   have a2:=fun H K=>Vw.load (Vw.inn hvw H K) qu rfl (i:=d.length) (x:=pD p) (by simp [hg])
   obtain ⟨f,hf⟩:∃ f,l[p.1]? = some f:=⟨l[p.1]'(hah p (by rw [hd];simp)),List.getElem?_eq_getElem _⟩
   have b:=fun H K st'=>AY hv hf H K .i64 st'
   have hw1:IntKind.i64.wrap ((d.length:Int)+1)=((d++[p]).length:Nat):=by rw [ar (by omega)];simp
   obtain ⟨ov2,K2,k2,hA,ho2,hk2,hst⟩:=yl (st:=st) (H:=G++[.cells .plain [.int .i64 p.1,.int .i64 p.2]]) (by_:=16) (ag:=true) (ys:=[(⟨0,f.w⟩:Sl).dv]) (w:=.list st.cur 2 .tight true [(⟨0,f.w⟩:Sl).dv]) ho (.list _ _ _ _ (fun _=>rfl) (fun h=>by cases h)) (by omega) (by simp) (fun y hy=>by rw [List.mem_singleton] at hy;subst hy;exact pK _) (by simp [aw];omega) (by simp [aw];omega)
   have hk3:K0.length≤k2:=by
    rcases hk2 with h | ⟨_,h⟩
    · exact hoK k2 h
    · omega
   have hK2:∀ j,j<K0.length→K2[j]? = K0[j]?:=fun j hj=>by rw [hst j (by omega) (by omega)];exact hKK j hj
   have hK2l:K0.length≤K2.length:=by
    by_cases hz:K0.length=0
    · omega
    · have h1:=hK2 (K0.length-1) (by omega)
      rw [List.getElem?_eq_getElem (by omega:K0.length-1<K0.length)] at h1
      have:=(List.getElem?_eq_some_iff.1 h1).1
      omega
   have ed:(d++[p]).map (fun p=>(⟨0,match l[p.1]? with | some f=>f.w | none=>0⟩:Sl))=d.map (fun p=>(⟨0,match l[p.1]? with | some f=>f.w | none=>0⟩:Sl))++[⟨0,f.w⟩]:=by simp [hf]
   obtain ⟨Y,K',ov',fr,hL,g1,g2,hJ⟩:=ih (d++[p]) (G++[.cells .plain [.int .i64 p.1,.int .i64 p.2]]) K2 ov2 (some k2) (by simp [hd]) (cO h0 _) (by rw [ed,List.map_append];exact ho2) (fun k hk=>by cases hk;exact hk3) hK2l hK2
   have h0':=cO h0 [HO.cells .plain [.int .i64 p.1,.int .i64 p.2]]
   refine ⟨[.cells .plain [.int .i64 p.1,.int .i64 p.2]]++Y,K',ov',fr,hL,g1,g2,?_⟩
   rw [← List.append_assoc]
   simp only [List.length_append,List.length_singleton] at hJ hw1
   simp only [pD,Sl.dv,Sl.cs] at a2 hA
   rw [ab (L:=uL) rfl]
   simp at hJ hA hw1 h0' ⊢
   simp [xD,hlt,a1,a2,h0',fun st'=>(b [] [] st').1,fun st'=>(b [] [] st').2.1,fun H K=>(b H K st).2.2,aD,aR,chunk,hA,hw1,hJ]
theorem Oe (h0:rowAt H 0=some (.plain,[v,u])) (hv:Fms st l v) (hl:l.length≤16) (hu:Lw 2 (ah.map pD) u) (hah:∀ p∈ah,p.1<l.length) (hal:ah.length≤10000) (s:List UInt8) :
 ∃ vl X K',(E tab).F 436 [.ptr st.heap.length 0,.str s] (pst st H K)=some (vl,pst st (H++X) K')∧Lw 7 ((flL l ah s).map Ln.dv) vl∧K.length≤K'.length∧∀ j,j<K.length→K'[j]? = K[j]?:=by
 have hvw:Vw st 2 true (ah.map pD) u:=hu.vw
 have e0:=fun st'=>hvw.len st'
 simp only [List.length_map] at e0
 have h0':=fun X=>cO h0 X
 obtain ⟨u',hs,hu'⟩:=Jh hu (m:=min ah.length 256) (by simp;omega) .i64
 have hmin:eK jn [.int .i64 (ah.length:Int),.int .i64 256]=some (.int .i64 ((min ah.length 256:Nat):Int)):=by
  have:(if (256:Int)<(ah.length:Int) then (256:Int) else (ah.length:Int))=((min ah.length 256:Nat):Int):=by split<;>omega
  simp [eK,jn,this]
 have htk:(ah.map pD).take (min ah.length 256)=(ah.take 256).map pD:=by
  rw [← List.map_take];congr 1
  by_cases h:ah.length≤256
  · rw [Nat.min_eq_left h,List.take_length,List.take_of_length_le h]
  · rw [Nat.min_eq_right (by omega)]
 rw [htk] at hu'
 have hlen:(ah.take 256).length=min ah.length 256:=by simp;omega
 have hvw':Vw st 2 true ((ah.take 256).map pD) u':=hu'.vw
 have e0':=fun st'=>hvw'.len st'
 simp only [List.length_map] at e0'
 obtain ⟨X1,K1,ov,fr,hov,hK1,hKK1,hL⟩:=N7 hv hu' (fun p hp=>hah p (List.mem_of_mem_take hp)) (by rw [hlen];omega) (.str s) K (ah.take 256) [] H K (.list 0 0 .no false []) none rfl h0 ⟨rfl,_,_,_,rfl⟩ (fun k h=>by cases h) (Nat.le_refl _) (fun _ _=>rfl)
 rw [show ((ah.take 256).map fun p=>(⟨0,match l[p.1]? with | some f=>f.w | none=>0⟩:Sl))=slF l ah from rfl] at hov
 obtain ⟨G,hG⟩:∃ G,G=H++X1:=⟨_,rfl⟩
 have g0:rowAt G 0=some (.plain,[v,u]):=by rw [hG];exact cO h0 X1
 rw [← hG] at hL
 have g0':=fun X=>cO g0 X
 rw [gm agz rfl]
 by_cases hse:s=[]
 · subst hse
   obtain ⟨X2,hR⟩:=z7 (u:=u) (K:=K1) (g0' [.cells .plain (af (gP dK []) (gW st []) ⟨0,0,.no,false⟩)]) hv hl
   obtain ⟨vl,h307,hvl⟩:=F2 (st:=pst st (G++[.cells .plain (af (gP dK []) (gW st []) ⟨0,0,.no,false⟩)]++X2) K1) (p:=gP dK []) (w:=gW st []) (u:=⟨0,0,.no,false⟩) (sl:=slF l ah) (sv:=ov) (rest:=b6 l) rfl (pC _ _) (FE _ _ _) (Dg _ _) (by simp [gP,dK]) hov.vw
   refine ⟨vl,X1++([.cells .plain (af (gP dK []) (gW st []) ⟨0,0,.no,false⟩)]++X2),K1,?_,hvl,hK1,hKK1⟩
   rw [← List.append_assoc,← hG,← List.append_assoc]
   generalize iw (gP dK []) (slF l ah) (b6 l)=EE at *
   clear hG
   simp [af,gP,gW,dK,bA.cs,LW.dv,Sl.dv] at hL hR h307
   simp [Gq,h0,h0',g0,g0',e0,hmin,hs,e0',hL,hR,h307,aF,bL,bQ,bP,aH,af,gP,gW,dK,bA.cs,LW.dv,cX Ft,show xO.dn=false from rfl,cX GF,show yr.dn=true from rfl]
 · have hs2:s.isEmpty=false:=by simpa using hse
   obtain ⟨X2,hR⟩:=z7 (u:=u) (K:=K1) (g0' [.cells .plain (af (gP dK s) (gW st s) ⟨0,0,.no,false⟩)]) hv hl
   obtain ⟨vl,h307,hvl⟩:=F2 (st:=pst st (G++[.cells .plain (af (gP dK s) (gW st s) ⟨0,0,.no,false⟩)]++X2) K1) (p:=gP dK s) (w:=gW st s) (u:=⟨0,0,.no,false⟩) (sl:=slF l ah) (sv:=ov) (rest:=b6 l) rfl (pC _ _) (FE _ _ _) (Dg _ _) (by simp [gP,dK]) hov.vw
   refine ⟨vl,X1++([.cells .plain (af (gP dK s) (gW st s) ⟨0,0,.no,false⟩)]++X2),K1,?_,hvl,hK1,hKK1⟩
   rw [← List.append_assoc,← hG,← List.append_assoc]
   generalize iw (gP dK s) (slF l ah) (b6 l)=EE at *
   clear hG
   simp [af,gP,gW,dK,bA.cs,LW.dv,Sl.dv,hse,Span.dv,Span.cs] at hL hR h307
   simp [Gq,h0,h0',g0,g0',e0,hmin,hs,e0',hL,hR,h307,aF,bL,bQ,bP,aH,af,gP,gW,dK,bA.cs,LW.dv,hse,hs2,aD,aR,chunk,Span.dv,Span.cs,cX Ft,show xO.dn=false from rfl,cX GF,show yr.dn=true from rfl]
end
structure Fd where
 fr:Nat
 y:Nat
 pa:Nat
 l:Ln
def Fd.cs (f:Fd):List DV:=[.int .i64 f.fr,.int .i64 f.y,.int .i64 f.pa,.int .i64 f.l.f,.int .i64 f.l.t,.int .i64 f.l.x,.int .i64 f.l.w,.int .i64 f.l.n,.bool f.l.h,.int .i64 f.l.g]
def Fd.dv (f:Fd):DV:=.agg f.cs
theorem GG (f:Fd):dq 10 true f.dv:=⟨rfl,rfl,rfl⟩
theorem FT {l:List Fd}:∀ y∈l.map Fd.dv,dq 10 true y:=fun y hy=>by obtain ⟨x,_,rfl⟩:=List.mem_map.1 hy;exact GG x
def shL (fo:Nat) (x:Ln):Ln:={ x with f:=IntKind.i64.wrap (x.f+fo),t:=IntKind.i64.wrap (x.t+fo) }
def b5 (n fo:Nat):List Ln→List (Nat×Nat)→List Fd→List Fd×List (Nat×Nat)×Option Int
 | [],ah,out=>(out,ah,none)
 | x::_,[],out=>(out,[],some (IntKind.i64.wrap (x.f+fo)))
 | x::r,p::q,out=>b5 n fo r q (out++[⟨p.1,p.2,n,shL fo x⟩])
def eP (l:List Fm):List (List UInt8)→Nat→Nat→List (Nat×Nat)→List Fd→List Fd×Option Int
 | [],_,_,_,out=>(out,none)
 | s::r,n,fo,ah,out=>match b5 n fo (flL l ah s) ah out with
   | (out',ah',none)=>eP l r (n+1) (fo+(s.length+1)) ah' out'
   | (out',_,some k)=>(out',some k)
def bM (s:List UInt8) (l:List Fm):List Fd×Int:=
 match eP l (bd s) 0 0 (PL l 0) [] with
 | (out,none)=>(out,-1)
 | (out,some k)=>if s=[] then ([],-1) else (out,k)
theorem kP (n fo:Nat):∀ (L:List Ln) (ah:List (Nat×Nat)) (out:List Fd),(b5 n fo L ah out).1.length+(b5 n fo L ah out).2.1.length=out.length+ah.length
 | [],ah,out=>rfl
 | _::_,[],out=>rfl
 | x::r,p::q,out=>by rw [b5,kP n fo r q];simp;omega
theorem sG (n fo:Nat):∀ (L:List Ln) (ah:List (Nat×Nat)) (out:List Fd),∀ p∈(b5 n fo L ah out).2.1,p∈ah
 | [],ah,out,p,h=>h
 | _::_,[],out,p,h=>h
 | x::r,q0::q,out,p,h=>List.mem_cons_of_mem _ (sG n fo r q _ p h)
theorem Ac.bq {st:St} {K K':List Nat} {n:Nat} {xs:List DV} {v:DV} {o:Option Nat} (h:Ac st K n xs v o) (hk:∀ j,j<K.length→K'[j]? = K[j]?):Ac st K' n xs v o:=by
 cases o with
 | none=>exact h
 | some j=>
   obtain ⟨s,h1,h2⟩:=h
   exact ⟨s,h1,by rw [hk j (List.getElem?_eq_some_iff.1 h2).1];exact h2⟩
structure FlR (st:St) (v u:DV) (H:List HO):Prop where
 r0:rowAt H 0=some (.plain,[v,u])
 r1:rowAt H 1=some (.plain,[.ptr st.heap.length 0])
def jY (text:List UInt8) (ov:DV) (k:Int):Fr:=if text=[] then [(4,.list 0 0 .no false []),(5,.int .i64 (-1)),(6,.int .i64 0)] else [(4,ov),(5,.int .i64 k),(6,.int .i64 0)]
section
variable {st:St} {v:DV} {text:List UInt8}
theorem Tm (n fo:Nat) (s:DV) (c49 c50 c51:DV) {L:List Ln} {vl:DV} (hvl:Lw 7 (L.map Ln.dv) vl):∀ (r d:List Ln) (H:List HO) (K:List Nat) (u ov:DV) (oo:Option Nat) (ah:List (Nat×Nat)) (out:List Fd),L=d++r→FlR st v u H→Lw 2 (ah.map pD) u→Ac st K 10 (out.map Fd.dv) ov oo→d.length+ah.length≤10000→out.length+ah.length≤10000 →
 ∃ H' K' u' ov' oo',FlR st v u' H'∧Lw 2 ((b5 n fo r ah out).2.1.map pD) u'∧Ac st K' 10 ((b5 n fo r ah out).1.map Fd.dv) ov' oo' ∧
   match (b5 n fo r ah out).2.2 with
   | none=>∃ fr,(E tab).C lD [(0,.str text),(9,.ptr (st.heap.length+1) 0),(12,ov),(13,.int .i64 fo),(14,.int .i64 n),(15,s),(49,c49),(50,c50),(51,c51),(58,vl),(59,.int .i64 L.length),(60,.int .i64 d.length)] (pst st H K) =
    some (.exit 4,(0,.str text)::(9,.ptr (st.heap.length+1) 0)::(12,ov')::(13,.int .i64 fo)::(14,.int .i64 n)::(15,s)::(49,c49)::(50,c50)::(51,c51)::fr,pst st H' K')
   | some k=>(E tab).C lD [(0,.str text),(9,.ptr (st.heap.length+1) 0),(12,ov),(13,.int .i64 fo),(14,.int .i64 n),(15,s),(49,c49),(50,c50),(51,c51),(58,vl),(59,.int .i64 L.length),(60,.int .i64 d.length)] (pst st H K) =
    some (.ret,jY text ov' k,pst st H' K'):=by
 have hvw:Vw st 7 true (L.map Ln.dv) vl:=hvl.vw
 intro r
 induction r with
 | nil=>
   intro d H K u ov oo ah out hd hF hu ho _ _
   obtain rfl:L=d:=by simpa using hd
   refine ⟨H,K,u,ov,oo,hF,hu,ho,[(58,vl),(59,.int .i64 L.length),(60,.int .i64 L.length),(61,.bool false)],?_⟩
   rw [ab (L:=lD) rfl]
   simp [nN]
 | cons x r ih=>
   intro d H K u ov oo ah out hd hF hu ho hb1 hb2
   have hlt:d.length<L.length:=by simp [hd]
   have hg:L[d.length]? = some x:=by simp [hd]
   have a1:=fun st'=>hvw.aK (i:=d.length) (by simpa using hlt) .i64 st'
   have a2:=fun H K=>Vw.load (Vw.inn hvw H K) (fun y hy=>by obtain ⟨z,_,rfl⟩:=List.mem_map.1 hy;exact (⟨rfl,rfl,rfl⟩:dq 7 true z.dv)) rfl (i:=d.length) (x:=x.dv) (by simp [hg])
   have huw:Vw st 2 true (ah.map pD) u:=hu.vw
   have e0:=fun st'=>huw.len st'
   simp only [List.length_map] at e0
   have h0:=hF.r0
   have h1:=hF.r1
   have k0:=kG h0
   have h0':=fun X=>cO h0 X
   have h1':=fun X=>cO h1 X
   have hus:=Lw.sc hu
   simp only [Ln.dv,Ln.cs] at a2
   cases ah with
   | nil=>
     refine ⟨H++[HO.cells .plain [.int .i64 (IntKind.i64.wrap (x.f+fo)),.int .i64 (IntKind.i64.wrap (x.t+fo)),.int .i64 x.x,.int .i64 x.w,.int .i64 x.n,.bool x.h,.int .i64 x.g]],K,u,ov,oo,⟨h0' _,h1' _⟩,hu,ho,?_⟩
     simp only [b5]
     simp at e0
     rw [ab (L:=lD) rfl]
     unfold jY
     by_cases ht:text=[]
     · subst ht
       simp [nN,hlt,a1,a2,h0',h1',e0]
     · have ht2:text.isEmpty=false:=by simpa using ht
       simp [nN,hlt,a1,a2,h0',h1',e0,ht,ht2]
   | cons p q=>
     simp only [List.length_cons] at hb1 hb2
     have b1:∀ st',gZ st' 2 u (.int .i64 0)=some (elP 2 u 0,st'):=fun st'=>huw.aK (i:=0) (by simp) .i64 st'
     have b2:=fun H K=>Vw.load (Vw.inn huw H K) qu rfl (i:=0) (x:=pD p) rfl
     simp only [pD] at b2
     obtain ⟨u2,hs,hu2⟩:=IB hu (m:=1) (by simp) .i64
     have hu2s:=Lw.sc hu2
     have hw1:IntKind.i64.wrap ((d.length:Int)+1)=((d++[x]).length:Nat):=by rw [ar (by omega)];simp
     obtain ⟨ov2,K2,k2,hA,ho2,hk2,hst⟩:=yl (st:=st) (H:=(H++[HO.cells .plain [.int .i64 (IntKind.i64.wrap (x.f+fo)),.int .i64 (IntKind.i64.wrap (x.t+fo)),.int .i64 x.x,.int .i64 x.w,.int .i64 x.n,.bool x.h,.int .i64 x.g],HO.cells .plain [.int .i64 p.1,.int .i64 p.2]]).set 0 (.cells .plain [v,u2])) (by_:=80) (ag:=true) (ys:=[(⟨p.1,p.2,n,shL fo x⟩:Fd).dv]) (w:=.list st.cur 10 .tight true [(⟨p.1,p.2,n,shL fo x⟩:Fd).dv]) ho (.list _ _ _ _ (fun _=>rfl) (fun h=>by cases h)) (by omega) (by simp) (fun y hy=>by rw [List.mem_singleton] at hy;subst hy;exact GG _) (by simp [aw];omega) (by simp [aw];omega)
     have hF2:FlR st v u2 ((H++[HO.cells .plain [.int .i64 (IntKind.i64.wrap (x.f+fo)),.int .i64 (IntKind.i64.wrap (x.t+fo)),.int .i64 x.x,.int .i64 x.w,.int .i64 x.n,.bool x.h,.int .i64 x.g],HO.cells .plain [.int .i64 p.1,.int .i64 p.2]]).set 0 (.cells .plain [v,u2])):=
      ⟨mV (by simp) _ _,by rw [oH (by omega)];exact h1' _⟩
     have eo:out.map Fd.dv++[(⟨p.1,p.2,n,shL fo x⟩:Fd).dv]=(out++[(⟨p.1,p.2,n,shL fo x⟩:Fd)]).map Fd.dv:=by simp
     rw [eo] at ho2
     obtain ⟨H',K',u',ov',oo',g1,g2,g3,hJ⟩:=ih (d++[x]) _ K2 u2 ov2 (some k2) q (out++[⟨p.1,p.2,n,shL fo x⟩]) (by simp [hd]) hF2 (by simpa using hu2) ho2 (by simp;omega) (by simp;omega)
     refine ⟨H',K',u',ov',oo',g1,g2,g3,?_⟩
     simp only [List.length_append,List.length_singleton] at hJ hw1
     simp only [Fd.dv,Fd.cs,shL] at hA
     have rA:∀ (a b:List DV) (c:HO),rowAt ((H++[HO.cells .plain a,HO.cells .plain b]).set 0 c) H.length=some (.plain,a):=fun a b c=>by
      rw [oH (by omega)];simp
     have rB:∀ (a b:List DV) (c:HO),rowAt ((H++[HO.cells .plain a,HO.cells .plain b]).set 0 c) (H.length+1)=some (.plain,b):=fun a b c=>by
      rw [oH (by omega),og];rfl
     simp only [b5]
     generalize hR:(b5 n fo r q (out++[⟨p.1,p.2,n,shL fo x⟩])).2.2=R at *
     simp at e0 hA hs hw1
     cases R with
     | none=>
       obtain ⟨fr,hJ⟩:=hJ
       refine ⟨fr,?_⟩
       simp at hJ
       rw [ab (L:=lD) rfl]
       simp [nN,hlt,a1,a2,h0',h1',e0,b1,b2,rA,rB,hs,hu2s,hw1,aD,aR,chunk,hA,hJ,show (0:Int)<(q.length:Int)+1 by omega]
     | some k=>
       simp at hJ
       rw [ab (L:=lD) rfl]
       simp [nN,hlt,a1,a2,h0',h1',e0,b1,b2,rA,rB,hs,hu2s,hw1,aD,aR,chunk,hA,hJ,show (0:Int)<(q.length:Int)+1 by omega]
theorem FlR.app {u:DV} {H:List HO} (h:FlR st v u H) (X:List HO):FlR st v u (H++X):=⟨cO h.r0 X,cO h.r1 X⟩
theorem Eb {l:List Fm} (hv:Fms st l v) (hl:l.length≤16) {ps:List (List UInt8)} (hps:ps.length≤10000) (c0:Nat):∀ (r d:List (List UInt8)) (H:List HO) (K:List Nat) (u ov:DV) (oo:Option Nat) (ah:List (Nat×Nat)) (out:List Fd) (fo:Nat),ps=d++r→FlR st v u H→Lw 2 (ah.map pD) u→(∀ p∈ah,p.1<l.length)→Ac st K 10 (out.map Fd.dv) ov oo→out.length+ah.length≤10000→fo+(r.map fun s=>s.length+1).sum≤20000 →
 ∃ H' K' ov' oo',Ac st K' 10 ((eP l r d.length fo ah out).1.map Fd.dv) ov' oo' ∧
   match (eP l r d.length fo ah out).2 with
   | none=>∃ fr,(E tab).C kJ [(0,.str text),(9,.ptr (st.heap.length+1) 0),(12,ov),(13,.int .i64 fo),(49,.list c0 1 .tight true (ps.map DV.str)),(50,.int .i64 ps.length),(51,.int .i64 d.length)] (pst st H K) =
    some (.exit 2,(0,.str text)::(9,.ptr (st.heap.length+1) 0)::(12,ov')::fr,pst st H' K')
   | some k=>(E tab).C kJ [(0,.str text),(9,.ptr (st.heap.length+1) 0),(12,ov),(13,.int .i64 fo),(49,.list c0 1 .tight true (ps.map DV.str)),(50,.int .i64 ps.length),(51,.int .i64 d.length)] (pst st H K) =
    some (.ret,jY text ov' k,pst st H' K'):=by
 intro r
 induction r with
 | nil=>
   intro d H K u ov oo ah out fo hd hF hu hah ho hb hs
   obtain rfl:ps=d:=by simpa using hd
   refine ⟨H,K,ov,oo,ho,[(13,.int .i64 fo),(49,.list c0 1 .tight true (ps.map DV.str)),(50,.int .i64 ps.length),(51,.int .i64 ps.length),(52,.bool false)],?_⟩
   rw [ab (L:=kJ) rfl]
   simp [pW]
 | cons s r ih=>
   intro d H K u ov oo ah out fo hd hF hu hah ho hb hs
   have hlt:d.length<ps.length:=by simp [hd]
   have hg:ps[d.length]=s:=by simp [hd]
   simp only [List.map_cons,List.sum_cons] at hs
   obtain ⟨vl,X,K1,h436,hvl,hK1,hKK⟩:=Oe (K:=K) hF.r0 hv hl hu hah (by omega) s
   have hlen:=fun st'=>(hvl.vw (st:=st) (ag:=true)).len st'
   simp only [List.length_map] at hlen
   obtain ⟨H2,K2,u2,ov2,oo2,g1,g2,g3,hI⟩:=Tm (text:=text) d.length fo (.str s) (.list c0 1 .tight true (ps.map DV.str)) (.int .i64 ps.length) (.int .i64 d.length) hvl (flL l ah s) [] (H++X) K1 u ov oo ah out rfl (hF.app X) hu (Ac.bq ho hKK) (by simp;omega) hb
   have hlen2:=kP d.length fo (flL l ah s) ah out
   have hmem:=sG d.length fo (flL l ah s) ah out
   have h1:=hF.r1
   have hw1:IntKind.i64.wrap ((d.length:Int)+1)=((d++[s]).length:Nat):=by rw [ar (by omega)];simp
   have hw2:IntKind.i64.wrap ((s.length:Int)+1)=((s.length+1:Nat):Int):=by rw [ar (by omega)];simp
   have hw3:IntKind.i64.wrap ((fo:Int)+((s.length+1:Nat):Int))=((fo+(s.length+1):Nat):Int):=by rw [ar (by omega)];simp
   rw [eP]
   rcases hS:b5 d.length fo (flL l ah s) ah out with ⟨out2,ah2,R⟩
   rw [hS] at g2 g3 hI hlen2 hmem
   simp only at g2 g3 hI hlen2 hmem
   cases R with
   | some k=>
     refine ⟨H2,K2,ov2,oo2,g3,?_⟩
     simp only at hI ⊢
     simp at hI
     rw [ab (L:=kJ) rfl]
     simp [pW,hlt,hg,h1,h436,hlen,hI]
   | none=>
     obtain ⟨fr,hI⟩:=hI
     obtain ⟨H3,K3,ov3,oo3,q1,hJ⟩:=ih (d++[s]) H2 K2 u2 ov2 oo2 ah2 out2 (fo+(s.length+1)) (by simp [hd]) g1 g2 (fun p hp=>hah p (hmem p hp)) g3 (by omega) (by omega)
     rw [show (d++[s]).length=d.length+1 by simp] at q1 hJ
     refine ⟨H3,K3,ov3,oo3,q1,?_⟩
     simp only [List.length_append,List.length_singleton] at hw1
     generalize hR:(eP l r (d.length+1) (fo+(s.length+1)) ah2 out2).2=R at *
     simp at hI hw1 hw2 hw3
     cases R with
     | some k=>
       simp at hJ
       simp only
       rw [ab (L:=kJ) rfl]
       simp [pW,hlt,hg,h1,h436,hlen,hI,hw1,hw2,hw3,hJ]
     | none=>
       obtain ⟨fr2,hJ⟩:=hJ
       refine ⟨fr2,?_⟩
       simp at hJ
       rw [ab (L:=kJ) rfl]
       simp [pW,hlt,hg,h1,h436,hlen,hI,hw1,hw2,hw3,hJ]
theorem nc:∀ s:List UInt8,((bd s).map fun x=>x.length+1).sum=s.length+1
 | []=>rfl
 | c::r=>by
   have h:=nc r
   unfold bd
   split
   · simp [h];omega
   · split
     · rename_i y t e;rw [e] at h;simp at h ⊢;omega
     · rename_i e;exact absurd e (sy r)
def mN:RC:=(.seq (.region BC [0,9,12]) (.seq (.region Ar [0,9,12,13]) (.seq (.seq (.region At [0,9,12,13,49,50,51]) (.block 2 kJ)) (.seq (.region AR [4,5,6]) .ret))))
theorem ji:oK.body=(.seq (.region Fw [0,1]) (.seq (.seq (.region E5 [0,1,7]) (.seq (.region DD [0,1,7,22]) (.cond (.t 22) (.seq (.region Fs [4,5,6]) .ret) .skip))) (.seq (.seq (.region Ey [0,1,8]) (.seq (.region Dj [0,1,8,27]) (.cond (.t 27) (.seq (.region DB [4,5,6]) .ret) .skip))) (.seq (.region FR [0,1,9]) (.seq (.seq (.region nE [0,9,33]) (.block 0 (.eY (.t 33) [34,35] fx fu [0,9,33]))) mN))))):=rfl
theorem o0 {l:List Fm} (h:chF l=0):l.length≤16∧l.all gi=true:=by
 unfold chF at h
 split at h
 · omega
 · split at h
   · rename_i h2;exact ⟨by omega,h2⟩
   · omega
theorem Ls {l:List Fm} (hv:Fms st l v) (h1:wrF text=0) (h2:chF l=0):∃ vo,(E tab).F 409 [.str text,v] st=some (.tuple [vo,.int .i64 (bM text l).2,.int .i64 0],st)∧Lw 10 ((bM text l).1.map Fd.dv) vo:=by
 have h433:=fun st=>mH text st
 have h412:=fun H K=>ib (st:=pst st H K) (hv.inn H K)
 rw [h1] at h433
 rw [h2] at h412
 obtain ⟨hl,hok⟩:=o0 h2
 have htl:text.length≤4096:=by unfold wrF at h1;split at h1<;>omega
 have hsc:=vG hv
 have hlv:v.leaves=[v]:=by cases hv<;>rfl
 have hn:=fun st'=>fp hv st'
 have hpl:=kz l 0 hok
 obtain ⟨H',K',hP,hF⟩:=rM (st:=st) (k:=2) (y:=.yield (st.heap.length+3)) (P:=fun j H K=>FlS st l v (.str text) (mw v (.str text) st.heap.length 0 none) j H K) hl hok hv (fun j H K o h=>h.app [o]) (fun j H K h=>h.r2) (fun j p hp H K h=>AZ hl hok hp h)
  [.cells .plain [v,.list 0 0 .no false []],.cells .plain [.ptr st.heap.length 0],.cells .plain [v],mw v (.str text) st.heap.length 0 none] [] ⟨⟨.list 0 0 .no false [],rfl,bX _ _ _ _ _ _⟩,rfl,rfl,rfl⟩
 have hR:=kj (T:=tab) (st:=st) (H:=[.cells .plain [v,.list 0 0 .no false []],.cells .plain [.ptr st.heap.length 0],.cells .plain [v]]) (K:=[])
  (f:=.t 33) (params:=[34,35]) (live:=[0,9,33]) (assign:=fx) (body:=fu) (fr:=ft v (.str text) st.heap.length) (g:=460) (first:=[]) (captured:=[.ptr (st.heap.length+2) 0]) (s:=0) (q:=none) (v:=.tuple []) rfl D8 hF hP.r3 (by omega)
 have hS:=hP.put (.loop (fh ((ft v (.str text) st.heap.length).bq [0,9,33]) [34,35] fx fu 3 none))
 obtain ⟨⟨u,r0,hu⟩,r1,_,_⟩:=hS
 rw [List.take_length] at hu
 obtain ⟨H3,K3,ov,oo,ho,hL⟩:=Eb (st:=st) (text:=text) hv hl (ps:=bd text) (by rw [lL];have:=List.count_le_length (a:=(10:UInt8)) (l:=text);omega) st.cur (bd text) [] _ K' u (.list 0 0 .no false []) none (PL l 0) [] 0 rfl ⟨r0,r1⟩ (tj hu) (fun p hp=>by have:=uP l 0 p hp;omega) (⟨rfl,_,_,_,rfl⟩:Ac st K' 10 (([]:List Fd).map Fd.dv) (.list 0 0 .no false []) none) (by simp;omega) (by rw [nc];omega)
 have h435:=fun st=>xc text (by omega) st
 have hT:∃ vo fr,(E tab).C mN (ft v (.str text) st.heap.length) (pst st (H'.set 3 (.loop (fh ((ft v (.str text) st.heap.length).bq [0,9,33]) [34,35] fx fu 3 none))) K')=some (.ret,[(4,vo),(5,.int .i64 (bM text l).2),(6,.int .i64 0)]++fr,pst st H3 K3)∧Acc st K3 10 ((bM text l).1.map Fd.dv) vo:=by
  generalize H'.set 3 (.loop (fh ((ft v (.str text) st.heap.length).bq [0,9,33]) [34,35] fx fu 3 none))=G at *
  unfold bM
  simp only [List.length_nil] at hL ho
  rcases hS:eP l (bd text) 0 0 (PL l 0) [] with ⟨out,R⟩
  rw [hS] at ho hL
  cases R with
  | none=>
    obtain ⟨fr,hL⟩:=hL
    refine ⟨ov,[],?_,ho.acc⟩
    simp at hL
    simp [mN,ft,h435,hL]
  | some k=>
    simp only at hL ho ⊢
    unfold jY at hL
    by_cases ht:text=[]
    · subst ht
      refine ⟨.list 0 0 .no false [],[],?_,bX _ _ _ _ _ _⟩
      simp at hL h435
      simp [mN,ft,h435,hL]
    · rw [if_neg ht] at hL ⊢
      refine ⟨ov,[],?_,ho.acc⟩
      simp at hL
      simp [mN,ft,h435,hL]
 obtain ⟨vo,fr,hT,hA⟩:=hT
 obtain ⟨t9,n9,tk9,nn9,e9,q2,q3,_⟩:=gR (st':=pst st H3 K3) hA
 obtain ⟨t8,n8,tk8,nn8,rfl⟩:=bR hA
 refine ⟨.list t9 n9 tk9 nn9 ((bM text l).1.map Fd.dv),?_,.list _ _ _ _ q3 q2⟩
 rw [av wk rfl,ji]
 have h434:(E tab).C (.region nE [0,9,33]) [(0,.str text),(1,v),(9,.ptr (st.heap.length+1) 0)] (pst st [.cells .plain [v,.list 0 0 .no false []],.cells .plain [.ptr st.heap.length 0]] [])=some (.normal,ft v (.str text) st.heap.length,pst st [.cells .plain [v,.list 0 0 .no false []],.cells .plain [.ptr st.heap.length 0],.cells .plain [v]] []):=by
  simp [gm MM rfl,GP,ft,hsc,hlv]
 have hb:(E tab).C (.seq (.region nE [0,9,33]) (.block 0 (.eY (.t 33) [34,35] fx fu [0,9,33]))) [(0,.str text),(1,v),(9,.ptr (st.heap.length+1) 0)] (pst st [.cells .plain [v,.list 0 0 .no false []],.cells .plain [.ptr st.heap.length 0]] [])=some (.normal,ft v (.str text) st.heap.length,pst st (H'.set 3 (.loop (fh ((ft v (.str text) st.heap.length).bq [0,9,33]) [34,35] fx fu 3 none))) K'):=by
  rw [cg,h434]
  simp only [la,hR,Option.getD_none]
  rfl
 generalize (bM text l).1.map Fd.dv=OV at *
 generalize H'.set 3 (.loop (fh ((ft v (.str text) st.heap.length).bq [0,9,33]) [34,35] fx fu 3 none))=G at *
 simp at hb e9 hT
 simp [h433,h412,hsc,hlv,hb,hT,oK,e9]
end
end Go.D.Tab
end
