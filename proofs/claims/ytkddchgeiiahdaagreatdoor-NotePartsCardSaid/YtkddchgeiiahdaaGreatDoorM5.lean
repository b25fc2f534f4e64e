import Derived.Lib.LaidTab
import Derived.LaidMore
import Derived.Test.YtkddchgeiiahdaaGreatDoorM4
/-! Texts 5 of this claim, joined. -/
section
set_option linter.unusedSimpArgs false
set_option linter.unusedVariables false
set_option linter.unnecessarySimpa false
namespace Go.D.Tab
structure It where
 k:Int
 f:Int
 t:Int
 w:Int
 s:Int
 h:Int
 c:Int
 y:Bool
def It.cs (x:It):List DV:=[.int .i64 x.k,.int .i64 x.f,.int .i64 x.t,.int .i64 x.w,.int .i64 x.s,.int .i64 x.h,.int .i64 x.c,.bool x.y]
def It.dv (x:It):DV:=.agg x.cs
theorem ME (x:It):dy 8 true x.dv:=⟨rfl,rfl,rfl⟩
theorem p4 {l:List It}:∀ y∈l.map It.dv,dy 8 true y:=fun y hy=>by obtain ⟨x,_,rfl⟩:=List.mem_map.1 hy;exact ME x
abbrev Its (st:St) (l:List It) (v:DV):Prop:=Vw st 8 true (l.map It.dv) v
section
variable {st:St} {l:List It} {v:DV}
theorem cO (h:Its st l v) (st':St):oE st' .slice v=some (.int .i64 l.length,st'):=by simpa using Vw.len h st'
theorem dR (h:Its st l v) {i:Nat} (hi:i<l.length) (k:IntKind) (st':St):mL st' 8 v (.int k i)=some (elP 8 v i,st'):=Vw.aL h (by simpa using hi) k st'
theorem pB (h:Its st l v) {i:Nat} {x:It} (hx:l[i]? = some x) (H:List HO) (K:List Nat):cS (pst st H K) 8 true (elP 8 v i)=some x.dv:=Vw.load (Vw.inn h H K) p4 rfl (by simp [hx])
theorem gh (h:Its st l v) {i:Nat} {x:It} (hx:l[i]? = some x) {off:Nat} (ho:off≤8) (st':St):mC st' off (elP 8 v i)=some (faP off (elP 8 v i),st'):=Vw.gv h p4 (by simpa using (List.getElem?_eq_some_iff.1 hx).1) ho st'
theorem tU (h:Its st l v) {i:Nat} {x:It} (hx:l[i]? = some x) {off:Nat} {y:DV} (ho:x.cs[off]? = some y) (H:List HO) (K:List Nat):cS (pst st H K) 1 false (faP off (elP 8 v i))=some y:=Vw.ajm (x:=x.dv) (Vw.inn h H K) p4 (by simp [hx]) ho
theorem kL (h:Its st l v) {i:Nat} {x:It} (hx:l[i]? = some x) (H:List HO) (K:List Nat):cS (pst st H K) 1 false (faP 0 (elP 8 v i))=some (.int .i64 x.k):=tU h hx rfl H K
theorem Cm (h:Its st l v) {i:Nat} {x:It} (hx:l[i]? = some x) (H:List HO) (K:List Nat):cS (pst st H K) 1 false (faP 3 (elP 8 v i))=some (.int .i64 x.w):=tU h hx rfl H K
theorem aph (h:Its st l v) {i:Nat} {x:It} (hx:l[i]? = some x) (H:List HO) (K:List Nat):cS (pst st H K) 1 false (faP 7 (elP 8 v i))=some (.bool x.y):=tU h hx rfl H K
end
theorem an3:tab 109=some (.code f109):=by kernel_rfl
theorem aqm:tab 120=some (.code f120):=by kernel_rfl
theorem ajI:tab 122=some (.code f122):=by kernel_rfl
theorem an7:tab 110=some (.code f110):=by kernel_rfl
theorem apv:tab 121=some (.code f121):=by kernel_rfl
theorem alg:tab 123=some (.code f123):=by kernel_rfl
def bg (n:Int):Bool:=decide (0≤n)&&decide (n≤4095)
theorem ri (n:Int) (st:St):(E tab).F 122 [.int .i64 n] st=some (.bool (bg n),st):=by
 rw [aY ajI rfl]
 by_cases h:0≤n
 · simp [f122,bg,h]
 · simp [f122,bg,h]
def oc (x:It):Bool:=decide (x.k<1)||decide (4<x.k)||decide (x.f<0)||decide (x.t<x.f)||decide (x.w<0)||decide (2097152<x.w) || !bg x.s || !bg x.h || !bg x.c
def jU (x:It):Bool:=(x.k != 3&&(x.y||x.c != 0))||(x.k != 2&&(x.s != 0||x.h != 0))||(x.k==4&&x.w != 0)
def fk (x:It):Bool:=oc x||jU x
theorem adM (x:It) (st:St):(E tab).F 120 [x.dv] st=some (.bool (fk x),st):=by
 rw [aY aqm rfl]
 have hw:=ri
 cases hA:oc x with
 | true=>
   have e:fk x=true:=by simp [fk,hA]
   rw [e]
   unfold oc at hA
   by_cases h1:x.k<1
   · simp [f120,It.dv,It.cs,h1]
   by_cases h2:4<x.k
   · simp [f120,It.dv,It.cs,h1,h2]
   by_cases h3:x.f<0
   · simp [f120,It.dv,It.cs,h1,h2,h3]
   by_cases h4:x.t<x.f
   · simp [f120,It.dv,It.cs,h1,h2,h3,h4]
   by_cases h5:x.w<0
   · simp [f120,It.dv,It.cs,h1,h2,h3,h4,h5]
   by_cases h6:2097152<x.w
   · simp [f120,It.dv,It.cs,h1,h2,h3,h4,h5,h6]
   by_cases h7:bg x.s=false
   · simp [f120,It.dv,It.cs,h1,h2,h3,h4,h5,h6,hw,h7]
   by_cases h8:bg x.h=false
   · simp at h7;simp [f120,It.dv,It.cs,h1,h2,h3,h4,h5,h6,hw,h7,h8]
   by_cases h9:bg x.c=false
   · simp at h7 h8;simp [f120,It.dv,It.cs,h1,h2,h3,h4,h5,h6,hw,h7,h8,h9]
   · simp at h7 h8 h9;simp [h1,h2,h3,h4,h5,h6,h7,h8,h9] at hA
 | false=>
   have e:fk x=jU x:=by simp [fk,hA]
   rw [e]
   unfold oc at hA
   simp only [Bool.or_eq_false_iff,decide_eq_false_iff_not,Bool.not_eq_false'] at hA
   obtain ⟨⟨⟨⟨⟨⟨⟨⟨h1,h2⟩,h3⟩,h4⟩,h5⟩,h6⟩,h7⟩,h8⟩,h9⟩:=hA
   have w0:bg 0=true:=rfl
   have c3:x.k=3∨x.k≠3:=Decidable.em _
   have c2:x.k=2∨x.k≠2:=Decidable.em _
   have c4:x.k=4∨x.k≠4:=Decidable.em _
   have cc:x.c=0∨x.c≠0:=Decidable.em _
   have cs:x.s=0∨x.s≠0:=Decidable.em _
   rcases c3 with c3 | c3
   · rcases cs with cs | cs
     · by_cases ch:x.h=0<;>simp [f120,It.dv,It.cs,h1,h2,h3,h4,h5,h6,hw,h7,h8,h9,w0,jU,c3,cs,ch]
     · simp [f120,It.dv,It.cs,h1,h2,h3,h4,h5,h6,hw,h7,h8,h9,w0,jU,c3,cs]
   · cases hy:x.y with
     | true=>simp [f120,It.dv,It.cs,h1,h2,h3,h4,h5,h6,hw,h7,h8,h9,w0,jU,c3,hy]
     | false=>
       rcases cc with cc | cc
       · rcases c2 with c2 | c2
         · simp [f120,It.dv,It.cs,h1,h2,h3,h4,h5,h6,hw,h7,h8,h9,w0,jU,c2,hy,cc]
         · rcases cs with cs | cs
           · by_cases ch:x.h=0
             · rcases c4 with c4 | c4
               · simp [f120,It.dv,It.cs,h1,h2,h3,h4,h5,h6,hw,h7,h8,h9,w0,jU,c4,hy,cc,cs,ch]
               · simp [f120,It.dv,It.cs,h1,h2,h3,h4,h5,h6,hw,h7,h8,h9,w0,jU,c3,c2,c4,hy,cc,cs,ch]
             · simp [f120,It.dv,It.cs,h1,h2,h3,h4,h5,h6,hw,h7,h8,h9,w0,jU,c3,c2,hy,cc,cs,ch]
           · simp [f120,It.dv,It.cs,h1,h2,h3,h4,h5,h6,hw,h7,h8,h9,w0,jU,c3,c2,hy,cc,cs]
       · simp [f120,It.dv,It.cs,h1,h2,h3,h4,h5,h6,hw,h7,h8,h9,w0,jU,c3,hy,cc]
def bD (l:List It):Int:=if 8192<l.length then 3 else if l.any fk then 2 else 0
section
variable {st:St} {l:List It} {v:DV}
theorem Pd (hv:Its st l v) (hl:l.length≤8192) (K:List Nat):∀ (r d:List It) (H:List HO),l=d++r →
 ∃ J fr,(E tab).C pM [(8,v),(9,.int .i64 l.length),(10,.int .i64 d.length)] (pst st H K) =
   some (if r.any fk then (.ret,[(2,.int .i64 2)],pst st (H++J) K) else (.exit 0,fr,pst st (H++J) K)):=by
 intro r
 induction r with
 | nil=>
   intro d H hd
   refine ⟨[],[(8,v),(9,.int .i64 l.length),(10,.int .i64 l.length),(11,.bool false)],?_⟩
   rw [aj (L:=pM) rfl]
   simp [r7,hd]
 | cons x r ih=>
   intro d H hd
   have h0:d.length<l.length:=by simp [hd]
   have hx:l[d.length]? = some x:=by simp [hd]
   have hw1:IntKind.i64.wrap ((d.length:Int)+1)=((d++[x]).length:Nat):=by rw [aI (by omega)];simp
   have e1:=fun st'=>dR hv h0 .i64 st'
   have e2:=fun H K=>pB hv hx H K
   have e3:=fun st=>adM x st
   simp only [It.dv,It.cs] at e2 e3
   rw [List.any_cons]
   cases ho:fk x with
   | true=>
     refine ⟨[.cells .plain x.cs],[],?_⟩
     rw [aj (L:=pM) rfl]
     simp [r7,h0,e1,e2,e3,ho,It.cs]
   | false=>
     obtain ⟨J,fr,hJ⟩:=ih (d++[x]) (H++[.cells .plain x.cs]) (by simp [hd])
     refine ⟨.cells .plain x.cs::J,fr,?_⟩
     rw [Bool.false_or]
     generalize r.any fk=b at hJ ⊢
     simp only [List.length_append,List.length_singleton] at hJ hw1
     simp [It.cs] at hJ
     rw [aj (L:=pM) rfl]
     simp [r7,h0,e1,e2,e3,ho,It.cs,hw1,hJ]
theorem vg (hv:Its st l v):(E tab).F 109 [v] st=some (.int .i64 (bD l),st):=by
 rw [aY an3 rfl]
 have e0:=fun st'=>cO hv st'
 by_cases h:8192<l.length
 · have h':(8192:Int)<l.length:=by omega
   simp [f109,e0,h,h',bD]
 · have h':¬ (8192:Int)<l.length:=by omega
   obtain ⟨J,fr,hL⟩:=Pd hv (by omega) [] l [] [] rfl
   have e:bD l=if l.any fk then 2 else 0:=by simp only [bD,if_neg h]
   rw [e]
   generalize l.any fk=b at hL ⊢
   simp at hL
   cases b<;>simp at hL<;>simp [f109,e0,h',hL]
def dK (l:List It) (a b:Int):Int:=if bD l=0∧(a<0∨b<a∨l.length<b) then 5 else bD l
theorem qO (hv:Its st l v) (a b:Int):(E tab).F 121 [v,.int .i64 a,.int .i64 b] st=some (.int .i64 (dK l a b),st):=by
 rw [aY apv rfl]
 have e0:=fun st'=>cO hv st'
 have e1:=vg (hv.inn [] [])
 unfold dK
 by_cases h:bD l=0
 · by_cases h1:a<0
   · simp [f121,e0,e1,h,h1]
   · by_cases h2:b<a
     · simp [f121,e0,e1,h,h1,h2]
     · by_cases h3:(l.length:Int)<b
       · simp [f121,e0,e1,h,h1,h2,h3]
       · simp [f121,e0,e1,h,h1,h2,h3]
 · simp [f121,e1,h]
def bn (l:List It) (a:Nat):Nat→Nat
 | 0=>0
 | b+1=>if a≤b∧(l[b]?.map (·.k))=some 2 then bn l a b else b+1
theorem lx (l:List It) (a:Nat):∀ b,bn l a b≤b
 | 0=>Nat.le_refl _
 | b+1=>by
   unfold bn
   split
   · exact Nat.le_succ_of_le (lx l a b)
   · exact Nat.le_refl _
theorem uz (l:List It) (a:Nat):∀ b,a≤b→a≤bn l a b
 | 0,h=>by simp [bn];omega
 | b+1,h=>by
   unfold bn
   split
   · rename_i hc;exact uz l a b hc.1
   · exact h
theorem Sf (hv:Its st l v) (a:Nat) (hl:l.length≤140737488355328) (H:List HO) (K:List Nat):∀ b,b≤l.length→a≤b →
 ∃ fr,(E tab).C mI [(0,v),(1,.int .i64 a),(2,.int .i64 b)] (pst st H K)=some (.exit 0,[(0,v),(1,.int .i64 a),(2,.int .i64 (bn l a b:Nat))]++fr,pst st H K):=by
 intro b
 induction b with
 | zero=>
   intro hb ha
   obtain rfl:a=0:=by omega
   refine ⟨[(18,.bool false)],?_⟩
   rw [aj (L:=mI) rfl]
   simp [ox,bn]
 | succ b ih=>
   intro hb ha
   by_cases hab:a≤b
   · have hw:IntKind.i64.wrap (((b+1:Nat):Int)-1)=b:=by rw [aI (by omega)];omega
     have hlt:(a:Int)<b+1:=by omega
     have hbl:b<l.length:=by omega
     have hx:l[b]? = some l[b]:=List.getElem?_eq_getElem hbl
     have e1:=fun st'=>dR hv hbl .i64 st'
     have e2:=fun st'=>gh hv hx (off:=0) (by omega) st'
     have e3:=fun H K=>kL hv hx H K
     simp at hw
     by_cases hk:l[b].k=2
     · obtain ⟨fr,hJ⟩:=ih (by omega) hab
       refine ⟨fr,?_⟩
       rw [aj (L:=mI) rfl]
       have et:bn l a (b+1)=bn l a b:=by rw [bn,if_pos ⟨hab,by simp [hx,hk]⟩]
       rw [et]
       simp at hJ
       simp [ox,hlt,hw,e1,e2,e3,hk,hJ]
     · have et:bn l a (b+1)=b+1:=by rw [bn,if_neg];rintro ⟨_,h⟩;simp [hx] at h;exact hk h
       rw [et]
       refine ⟨[(18,.bool false)],?_⟩
       rw [aj (L:=mI) rfl]
       simp [ox,hlt,hw,e1,e2,e3,hk]
   · obtain rfl:a=b+1:=by omega
     have et:bn l (b+1) (b+1)=b+1:=by rw [bn,if_neg];omega
     rw [et]
     refine ⟨[(18,.bool false)],?_⟩
     rw [aj (L:=mI) rfl]
     simp [ox]
theorem Vw.ex {n:Nat} {ag:Bool} {xs:List DV} {w:DV} (h:Vw st n ag xs w) (H:List HO) (K:List Nat):∃ w',aZ st (pst st H K) w=some w'∧Vw st n ag xs w':=by
 cases h with
 | list t n' tk nn h1 h2=>exact ⟨_,rfl,.list _ _ _ _ h1 h2⟩
 | hsl b off c g vs hc hl hx hcap=>
   have hh:=iO hc
   have hb:st.nK b=true:=by unfold St.nK;rw [hh]
   refine ⟨_,by simp only [aZ,hb,if_true],.hsl b off c g vs hc hl hx hcap⟩
theorem CO {n:Nat} {ag:Bool} {xs:List DV} {w:DV} {st0 st1 st2:St} (h:Vw st0 n ag xs w):bF st1 st2 w=aZ st1 st2 w:=by
 cases h<;>rfl
theorem oP (hv:Its st l v) (hl:l.length≤140737488355328) (a b:Nat) (hab:a≤b) (hb:b≤l.length):∃ v',(E tab).F 123 [v,.int .i64 a,.int .i64 b] st=some (v',st)∧Its st ((l.drop a).take (bn l a b-a)) v':=by
 rw [aY alg rfl]
 obtain ⟨fr,hL⟩:=Sf hv a hl [] [] b hb hab
 obtain ⟨v',hs,hv'⟩:=Vw.slice hv (by omega) p4 (lo:=a) (hi:=bn l a b) (uz l a b hab) (by have:=lx l a b;simp;omega) .i64 .i64
 obtain ⟨v2,hx,hv2⟩:=Vw.ex hv' [] []
 rw [← List.map_drop,← List.map_take] at hv2
 refine ⟨v2,?_,hv2⟩
 simp at hL
 have hxT:bF st (pst st [] []) v'=some v2:=by rw [CO hv',hx]
 simp [f123,hL,hs,hxT]
end
theorem alK:tab 124=some (.code f124):=by kernel_rfl
theorem apR:tab 139=some (.code f139):=by kernel_rfl
theorem aoe:tab 145=some (.code f145):=by kernel_rfl
theorem akd:tab 146=some (.code f146):=by kernel_rfl
theorem anC:tab 153=some (.code f153):=by kernel_rfl
def gS (x:Int):Int:=(x/48+1)*48
theorem q8 (st:St):(E tab).F 145 [.list 0 0 .no false []] st=some (.int .i64 0,st):=by
 rw [aY aoe rfl]
 have hL:∀ st:St,(E tab).C xz [(3,.int .i64 0),(9,.list 0 0 .no false []),(10,.int .i64 0),(11,.int .i64 0)] st=some (.exit 0,[(3,.int .i64 0),(9,.list 0 0 .no false []),(10,.int .i64 0),(11,.int .i64 0),(12,.bool false)],st):=by
  intro st
  rw [aj (L:=xz) rfl]
  simp [BR]
 simp [f145,hL]
theorem xp (x f:DV) (st:St):(E tab).F 153 [.list 0 0 .no false [],x,f] st=some (.tuple [.int .i64 0,.bool false],st):=by
 rw [eu anC rfl]
 have hL:∀ st:St,(E tab).C ye [(0,.list 0 0 .no false []),(1,x),(2,f),(8,.int .i64 0),(9,.int .i64 0),(10,.int .i64 0)] st=some (.exit 0,[(0,.list 0 0 .no false []),(1,x),(2,f),(8,.int .i64 0),(9,.int .i64 0),(10,.int .i64 0),(17,.bool false)],st):=by
  intro st
  rw [aj (L:=ye) rfl]
  simp [BM]
 simp [f153,hL]
theorem An (x:Int) (hx:0≤x∧x≤1000000000000) (st:St):(E tab).F 146 [.list 0 0 .no false [],.int .i64 x] st=some (.agg [.int .i64 (gS x),.int .i64 0],st):=by
 rw [aY akd rfl]
 have e1:IntKind.i64.wrap (x.tdiv 48)=x/48:=IntWalk.i64_quo _ _ (by omega)
 have e2:IntKind.i64.wrap (x/48+1)=x/48+1:=aI (by omega)
 have e3:IntKind.i64.wrap ((x/48+1)*48)=gS x:=aI (by omega)
 simp [f146,xp,e1,e2,e3]
theorem Md (x:Int) (hx:0≤x∧x≤1000000000000) (st:St):(E tab).F 139 [.list 0 0 .no false [],.int .i64 x] st=some (if x≤8190 then .tuple [.agg [.int .i64 (gS x),.int .i64 0],.int .i64 0] else .tuple [.agg [.int .i64 0,.int .i64 0],.int .i64 5],st):=by
 rw [aY apR rfl]
 have h0:¬ x<0:=by omega
 have e1:=fun st=>An x hx st
 by_cases h:x≤8190
 · have h1:¬ 8190<x:=by omega
   simp [f139,q8,h0,h1,e1,h]
 · have h1:8190<x:=by omega
   simp [f139,q8,h0,h1,h]
theorem G5 (x:Int) (hx:0≤x∧x≤1000000000000) (st:St):(E tab).F 124 [.int .i64 x] st=some (.int .i64 (gS x),st):=by
 rw [aY alK rfl]
 have e0:=fun st=>Md x hx st
 have e1:IntKind.i64.wrap (x.tdiv 48)=x/48:=IntWalk.i64_quo _ _ (by omega)
 have e2:IntKind.i64.wrap (x/48+1)=x/48+1:=aI (by omega)
 have e3:IntKind.i64.wrap ((x/48+1)*48)=gS x:=aI (by omega)
 by_cases h:x≤8190
 · simp only [h,if_true] at e0
   simp [f124,e0]
 · simp only [h,if_false] at e0
   simp [f124,e0,e1,e2,e3]
def cH (at_:Int) (x:It):Int:=if x.k=1∨x.k=2 then at_+x.w else if x.k=4 then gS at_ else at_
def goI (at_:Int):List It→Int
 | []=>at_
 | x::r=>goI (cH at_ x) r
def okW (l:List It):Prop:=∀ x∈l,0≤x.w∧x.w≤2097152
theorem ik {l:List It} (h:bD l=0):okW l∧l.length≤8192:=by
 unfold bD at h
 split at h
 · omega
 · rename_i h1
   split at h
   · omega
   · rename_i h2
     refine ⟨fun x hx => ?_,by omega⟩
     rw [Bool.not_eq_true,List.any_eq_false] at h2
     have:=h2 x hx
     simp [fk,oc] at this
     omega
theorem pE {x:It} (h:0≤x.w∧x.w≤2097152) {a:Int} (ha:0≤a):a≤cH a x∧cH a x≤a+2097152:=by
 unfold cH gS
 split
 · omega
 · split<;>omega
theorem tm:∀ {l:List It} {a:Int},okW l→0≤a→a≤goI a l∧goI a l≤a+2097152*l.length
 | [],a,_,_=>by simp [goI]
 | x::r,a,h,ha=>by
   have h1:=pE (h x (List.mem_cons_self ..)) ha
   have h2:=tm (l:=r) (a:=cH a x) (fun y hy=>h y (List.mem_cons_of_mem _ hy)) (by omega)
   simp only [goI,List.length_cons]
   omega
theorem zo:∀ (l r:List It) (a:Int),goI a (l++r)=goI (goI a l) r
 | [],r,a=>rfl
 | x::l,r,a=>by simp only [List.cons_append,goI,zo l r]
def kB (l:List It) (b:Nat):Int:=match l[b]? with | some x=>if x.k=3 then x.w else 0 | none=>0
def eB (l:List It) (a b:Nat) (x:Int):Int:=goI x ((l.drop a).take (bn l a b-a))+kB l b-x
section
variable {st:St} {l:List It} {v:DV}
theorem ade (l':List It) {v':DV} (hv':Its st l' v') (hok:okW l') (hl:l'.length≤8192) (y0 y2 y3:DV) (K:List Nat):∀ (r d:List It) (H:List HO) (a:Int),l'=d++r→0≤a→a≤4095+2097152*d.length →
 ∃ J fr,(E tab).C tM [(0,y0),(2,y2),(3,y3),(11,.int .i64 a),(28,v'),(29,.int .i64 l'.length),(30,.int .i64 d.length)] (pst st H K) =
   some (.exit 0,[(0,y0),(2,y2),(3,y3),(11,.int .i64 (goI a r))]++fr,pst st (H++J) K):=by
 intro r
 induction r with
 | nil=>
   intro d H a hd h1 h2
   refine ⟨[],[(28,v'),(29,.int .i64 l'.length),(30,.int .i64 l'.length),(31,.bool false)],?_⟩
   rw [aj (L:=tM) rfl]
   simp [mW,hd,goI]
 | cons x r ih=>
   intro d H a hd h1 h2
   have h0:d.length<l'.length:=by simp [hd]
   have hx:l'[d.length]? = some x:=by simp [hd]
   have hxm:=hok x (by simp [hd])
   have hw1:IntKind.i64.wrap ((d.length:Int)+1)=((d++[x]).length:Nat):=by rw [aI (by omega)];simp
   have e1:=fun st'=>dR hv' h0 .i64 st'
   have e2:=fun H K=>pB hv' hx H K
   simp only [It.dv,It.cs] at e2
   have hs:=pE hxm h1
   obtain ⟨J,fr,hJ⟩:=ih (d++[x]) (H++[.cells .plain x.cs]) (cH a x) (by simp [hd]) (by omega) (by simp;omega)
   refine ⟨.cells .plain x.cs::J,fr,?_⟩
   rw [goI]
   simp only [List.length_append,List.length_singleton] at hJ hw1
   simp [It.cs] at hJ
   rw [aj (L:=tM) rfl]
   by_cases k1:x.k=1
   · have w1:IntKind.i64.wrap (a+x.w)=cH a x:=by rw [aI (by omega)];simp [cH,k1]
     rw [k1] at e2 hJ
     simp [mW,h0,e1,e2,k1,It.cs,hw1,w1,hJ]
   · by_cases k2:x.k=2
     · have w1:IntKind.i64.wrap (a+x.w)=cH a x:=by rw [aI (by omega)];simp [cH,k2]
       rw [k2] at e2 hJ
       simp [mW,h0,e1,e2,k1,k2,It.cs,hw1,w1,hJ]
     · by_cases k4:x.k=4
       · have w1:gS a=cH a x:=by simp [cH,k4]
         have e3:=fun st=>G5 a (by omega) st
         rw [w1] at e3
         rw [k4] at e2 hJ
         simp [mW,h0,e1,e2,e3,k1,k2,k4,It.cs,hw1,hJ]
       · have w1:cH a x=a:=by simp [cH,k1,k2,k4]
         rw [w1] at hJ
         simp [mW,h0,e1,e2,k1,k2,k4,It.cs,hw1,w1,hJ]
def LD (l:List It) (a b x:Int):DV:=
 if dK l a b≠0 then .tuple [.int .i64 0,.int .i64 (dK l a b)]
 else if bg x=false then .tuple [.int .i64 0,.int .i64 5]
 else .tuple [.int .i64 (eB l a.toNat b.toNat x),.int .i64 0]
theorem l4 {a b:Int} (h:dK l a b=0):bD l=0∧0≤a∧a≤b∧b≤l.length:=by
 unfold dK at h
 split at h
 · omega
 · rename_i h1
   refine ⟨h,?_⟩
   have:¬ (a<0∨b<a∨l.length<b):=fun h2=>h1 ⟨h,h2⟩
   omega
theorem BW (hv:Its st l v) (a b x:Int):(E tab).F 110 [v,.int .i64 a,.int .i64 b,.int .i64 x] st=some (LD l a b x,st):=by
 rw [aY an7 rfl]
 have e0:=fun st'=>cO hv st'
 have e1:=qO (hv.inn [] []) a b
 have e2:=fun st=>ri x st
 unfold LD
 by_cases h1:dK l a b=0
 · cases h2:bg x with
   | false=>simp [f110,e1,e2,h1,h2]
   | true=>
     obtain ⟨h3,h4,h5,h6⟩:=l4 h1
     obtain ⟨hok,hlen⟩:=ik h3
     obtain ⟨A,rfl⟩:=Int.eq_ofNat_of_zero_le h4
     obtain ⟨B,rfl⟩:=Int.eq_ofNat_of_zero_le (show 0≤b by omega)
     simp [bg] at h2
     obtain ⟨v',et,hv'⟩:=oP (hv.inn [] []) (by omega) A B (by omega) (by omega)
     have hv':=Vw.out hv'
     have hlt:=lx l A B
     have hok':okW ((l.drop A).take (bn l A B-A)):=fun y hy=>hok y (List.mem_of_mem_drop (List.mem_of_mem_take hy))
     have hlen':((l.drop A).take (bn l A B-A)).length≤8192:=by simp;omega
     have hg:=tm (a:=x) hok' (by omega)
     obtain ⟨J,fr,hL⟩:=ade _ hv' hok' hlen' v (.int .i64 B) (.int .i64 x) [] _ [] [] x rfl (by omega) (by omega)
     have e3:=fun st'=>cO hv' st'
     unfold eB
     simp only [Int.toNat_natCast]
     generalize hG:goI x ((l.drop A).take (bn l A B-A))=G at *
     generalize ((l.drop A).take (bn l A B-A))=l' at *
     simp at hL
     by_cases hb:B<l.length
     · have hx:l[B]? = some l[B]:=List.getElem?_eq_getElem hb
       have q1:=fun st'=>dR hv hb .i64 st'
       have q2:=fun st'=>gh hv hx (off:=0) (by omega) st'
       have q3:=fun H K=>kL hv hx H K
       have q4:=fun st'=>gh hv hx (off:=3) (by omega) st'
       have q5:=fun H K=>Cm hv hx H K
       have hB:=hok _ (List.getElem_mem hb)
       by_cases k3:l[B].k=3
       · have ep:kB l B=l[B].w:=by simp [kB,hx,k3]
         have w1:IntKind.i64.wrap (G+l[B].w)=G+l[B].w:=aI (by omega)
         have w2:IntKind.i64.wrap (G+l[B].w-x)=G+l[B].w-x:=aI (by omega)
         simp [f110,e0,e1,e2,e3,h1,bg,h2,et,hL,hb,q1,q2,q3,q4,q5,k3,w1,w2,ep,hG]
       · have ep:kB l B=0:=by simp [kB,hx,k3]
         have w2:IntKind.i64.wrap (G-x)=G-x:=aI (by omega)
         simp [f110,e0,e1,e2,e3,h1,bg,h2,et,hL,hb,q1,q2,q3,k3,w2,ep,hG]
     · have ep:kB l B=0:=by simp [kB,hb]
       have w2:IntKind.i64.wrap (G-x)=G-x:=aI (by omega)
       simp [f110,e0,e1,e2,e3,h1,bg,h2,et,hL,hb,w2,ep,hG]
 · simp [f110,e1,h1]
end
section
variable {st:St} {l:List It} {v:DV}
def ny (l:List It) (i:Nat):Bool:=
 i==l.length||(match l[i]? with | some x=>x.k==3||(x.k==2&&decide (0<i)&&(match l[i-1]? with | some y=>y.k != 2 | none=>false)) | none=>false)
def ca (l:List It):Nat→Nat→Nat
 | 0,i=>i
 | f+1,i=>match l[i]? with | some x=>if x.k=2 then ca l f (i+1) else i | none=>i
def jx (l:List It) (i:Nat):Nat:=ca l l.length (match l[i]? with | some x=>if x.k=3 then i+1 else i | none=>i)
end
theorem aoG:tab 106=some (.code f106):=by kernel_rfl
theorem ajM:tab 117=some (.code f117):=by kernel_rfl
theorem ai8:tab 118=some (.code f118):=by kernel_rfl
theorem Mm:tab 131=some (.code f131):=by kernel_rfl
theorem aoa:tab 132=some (.code f132):=by kernel_rfl
theorem aqK:tab 133=some (.code f133):=by kernel_rfl
theorem amU:tab 134=some (.code f134):=by kernel_rfl
theorem anh:tab 135=some (.code f135):=by kernel_rfl
theorem aqR:tab 136=some (.code f136):=by kernel_rfl
theorem aiG:tab 137=some (.code f137):=by kernel_rfl
theorem ajC:tab 138=some (.code f138):=by kernel_rfl
def mz:ai:=⟨0,0,0,0,0,0⟩
def pH (m:ai):Bool:=m.k != 3&&(m.k != 4&&m.k != 5)
def hyW (s:Int):Int:=wd 45 s
def fF (L:List ai) (fr to:Nat):It:=⟨1,(L.getD fr mz).a,(L.getD (to-1) mz).b,jG true 0 ((L.drop fr).take (to-fr)),0,0,0,false⟩
def jZ (m:ai):It:=if m.k=3 then ⟨2,m.a,m.b,m.w,m.w/2,m.w/3,0,false⟩ else if m.k=4 then ⟨4,m.a,m.b,0,0,0,0,false⟩ else ⟨3,m.a,m.b,hyW m.s,0,0,50,true⟩
def kI (s:List UInt8) (m:ai):Bool:=m.k==2&&bAt s m.a.toNat==45
def A3 (m:ai):It:=⟨3,m.a,m.a,hyW m.s,0,0,100,true⟩
def Br (m:ai):It:=⟨3,m.a,m.a,0,0,0,50,false⟩
def bE (s:List UInt8) (L:List ai) (pl:List Bool):Nat→Nat→Nat→List ai→List It
 | k,run,fr,[]=>if fr<k then [fF L fr k] else []
 | k,run,fr,m::r=>
   if pH m=false then (if fr<k then [fF L fr k] else [])++jZ m::bE s L pl (k+1) (k+1) (k+1) r
   else if k=fr then bE s L pl (k+1) run fr r
   else if pl.getD k false=true then fF L fr k::A3 m::bE s L pl (k+1) run k r
   else if (kI s (L.getD (k-1) mz) && !kI s m&&decide (run<k-1))=true then fF L fr k::Br m::bE s L pl (k+1) run k r
   else bE s L pl (k+1) run fr r
structure MOk (s:List UInt8) (L:List ai):Prop where
 len:L.length≤4096
 ok:L.all okM=true
 at_:∀ m∈L,0≤m.a∧m.a<s.length
 sz:∀ m∈L,1≤m.s∧m.s≤64
theorem Cs {m:ai} (h:okM m=true):0≤m.w∧m.w≤4095:=by
 simp only [okM,decide_eq_true_eq] at h;omega
section
variable {st:St}
theorem DQ (m:ai):(E tab).F 136 [m.dv] st=some (.bool (pH m),st):=by
 rw [aY aqR rfl]
 by_cases h1:m.k=3
 · simp [f136,pH,ai.cs,h1]
 by_cases h2:m.k=4
 · simp [f136,pH,ai.cs,h2]
 by_cases h3:m.k=5
 · simp [f136,pH,ai.cs,h3]
 · have b1:(m.k != 3)=true:=by simp [h1]
   have b2:(m.k != 4)=true:=by simp [h2]
   simp [f136,pH,ai.cs,h1,h2,b1,b2]
theorem rv {n:Int} (hn:1≤n∧n≤64):(E tab).F 138 [.int .i64 n] st=some (.int .i64 (hyW n),st):=by
 rw [aY ajC rfl]
 have hb:=pA 45 hn.1 hn.2
 have h:∀ st,(E tab).F 17 [.str [45],.int .i64 n] st=some (.tuple [.int .i64 (hyW n),.int .i64 0],st):=by
  intro st
  rw [tB]
  have hw:IntKind.i64.wrap (wd 45 n)=wd 45 n:=aI (by omega)
  simp only [eM,if_pos hn]
  simp [tw,hw,hyW]
 simp [f138,h]
theorem FI (m:ai) (hm:okM m=true) (hs:1≤m.s∧m.s≤64):(E tab).F 137 [m.dv] st=some ((jZ m).dv,st):=by
 rw [aY aiG rfl]
 have hw:=Cs hm
 have h2:IntKind.i64.wrap (m.w.tdiv 2)=m.w/2:=by rw [Int.tdiv_eq_ediv_of_nonneg hw.1,aI (by omega)]
 have h3:IntKind.i64.wrap (m.w.tdiv 3)=m.w/3:=by rw [Int.tdiv_eq_ediv_of_nonneg hw.1,aI (by omega)]
 have hh:=fun st=>rv (st:=st) hs
 by_cases k3:m.k=3
 · simp [f137,jZ,It.dv,It.cs,ai.cs,k3,h2,h3]
 by_cases k4:m.k=4
 · simp [f137,jZ,It.dv,It.cs,ai.cs,k4]
 · simp [f137,jZ,It.dv,It.cs,ai.cs,k3,k4,hh]
theorem getM {L:List ai} {i:Nat} (h:i<L.length):L[i]? = some (L.getD i mz):=by rw [List.getD_eq_getElem?_getD,List.getElem?_eq_getElem h];rfl
theorem rM {L:List ai} {i:Nat} (h:i<L.length):(L.map ai.dv)[i]? = some (L.getD i mz).dv:=by rw [List.getElem?_map,getM h];rfl
theorem ahg {s:List UInt8} {L:List ai} (hL:MOk s L) {t n:Nat} {tk:Tk} {nn:Bool} (h6:L≠[]→n=6) (h7:nn=true→n=6) {fr to:Nat} (h1:fr<to) (h2:to≤L.length):(E tab).F 135 [.list t n tk nn (L.map ai.dv),.int .i64 fr,.int .i64 to] st=some ((fF L fr to).dv,st):=by
 rw [aY anh rfl]
 have hn:=fun st=>AI L fr to t n tk nn h6 h7 st
 rw [L0 hL.len hL.ok fr to (by omega) h2] at hn
 obtain rfl:=h6 (by intro e;simp [e] at h2;omega)
 have hw1:IntKind.i64.wrap ((to:Int)-1)=((to-1:Nat):Int):=by have:=hL.len;rw [aI (by omega)];omega
 have g1:=rM (L:=L) (i:=fr) (by omega)
 have g2:=rM (L:=L) (i:=to-1) (by omega)
 have l1:fr<(L.map ai.dv).length:=by simp;omega
 have l2:to-1<(L.map ai.dv).length:=by simp;omega
 generalize L.map ai.dv=V at *
 have g1':V[fr]'l1=(L.getD fr mz).dv:=by rw [List.getElem?_eq_getElem l1] at g1;exact Option.some.inj g1
 have g2':V[to-1]'l2=(L.getD (to-1) mz).dv:=by rw [List.getElem?_eq_getElem l2] at g2;exact Option.some.inj g2
 simp only [fF]
 generalize L.getD fr mz=a at *
 generalize L.getD (to-1) mz=b at *
 generalize jG true 0 ((L.drop fr).take (to-fr))=rg at *
 simp [f135,It.dv,It.cs,hn,g1,g2,g1',g2',l1,l2,hw1,ai.dv,ai.cs]
end
def loI (st:St) (s:Nat):HO:=.loop (jL [(6,.ptr (st.heap.length+1) 0),(18,.fn 131 [] [.ptr (st.heap.length+2) 0,.ptr (st.heap.length+3) 0])] [19] (.region s6 [6,7]) (.block 1 (.region sK [])) s none)
def HI (st:St) (P0 P1:List DV) (ov lv:DV) (fr s:Nat) (J:List HO):List HO:=
 .cells .plain P0::.cells .plain [ov]::.cells .plain P1::.cells .plain [lv]::loI st s::.cells .plain [.yield (st.heap.length+4)]::.cells .plain [.int .i64 fr]::J
section
variable {st:St} {P0 P1:List DV} {lv:DV} {J:List HO} {K:List Nat}
theorem xQ {xs:List It} {ov:DV} {fr:Nat} (x:It) (hx:xs.length≤100000) (hA:Acc st K 8 (xs.map It.dv) ov) :
 ∃ ov' K',(E tab).V (.yield (st.heap.length+4)) [x.dv] (pst st (HI st P0 P1 ov lv fr 0 J) K)=some (.bool true,pst st (HI st P0 P1 ov' lv fr 0 (J++[.cells .plain x.cs])) K')∧Acc st K' 8 ((xs++[x]).map It.dv) ov':=by
 obtain ⟨v2,K2,e2,hA2⟩:=fT (H:=HI st P0 P1 ov lv fr 1 (J++[.cells .plain x.cs])) (t:=st.cur) (by_:=64) (ag:=true) (tk:=.tight) (ys:=[x.dv]) hA (by omega) (by simp) (by simp [ME]) (by simp [az];omega) (by simp [az];omega)
 refine ⟨v2,K2,?_,by simpa using hA2⟩
 have hA1:(E tab).C (.region s6 [6,7]) (cL [(6,.ptr (st.heap.length+1) 0),(18,.fn 131 [] [.ptr (st.heap.length+2) 0,.ptr (st.heap.length+3) 0])] [19] [x.dv]) (pst st (HI st P0 P1 ov lv fr 0 J) K) =
  some (.normal,[(6,.ptr (st.heap.length+1) 0),(7,.ptr (st.heap.length+(J.length+7)) 0)],pst st (HI st P0 P1 ov lv fr 0 (J++[.cells .plain x.cs])) K):=by
  simp [HI,It.dv,It.cs]
 have hB:(E tab).C (.block 1 (.region sK [])) [(6,.ptr (st.heap.length+1) 0),(7,.ptr (st.heap.length+(J.length+7)) 0)] (pst st ((HI st P0 P1 ov lv fr 0 (J++[.cells .plain x.cs])).set 4 (loI st 1)) K) =
  some (.normal,[],pst st (HI st P0 P1 v2 lv fr 1 (J++[.cells .plain x.cs])) K2):=by
  obtain ⟨t',n',tk',nn',rfl⟩:=ff hA2
  simp [HI,It.dv,It.cs] at e2 ⊢
  simp [bb,bm,chunk,e2]
 exact D6 (T:=tab) (k:=4) (H:=HI st P0 P1 ov lv fr 0 J) rfl rfl hA1 rfl ⟨_,hB⟩ rfl
theorem H5 {L:List ai} {p:bp} {w u:LW} (hL:MOk p.text L) {t n:Nat} {tk:Tk} {nn:Bool} (h6:L≠[]→n=6) {ov:DV} {fr s k:Nat} (hk:k<L.length) :
 (E tab).F 133 [.int .i64 k,.ptr (st.heap.length+3) 0,.ptr (st.heap.length+2) 0] (pst st (HI st P0 (au p w u) ov (.list t n tk nn (L.map ai.dv)) fr s J) K)=some (.bool (kI p.text (L.getD k mz)),pst st (HI st P0 (au p w u) ov (.list t n tk nn (L.map ai.dv)) fr s J) K):=by
 rw [eu aqK rfl]
 obtain rfl:=h6 (by intro e;simp [e] at hk)
 have g1:=rM (L:=L) hk
 have l1:k<(L.map ai.dv).length:=by simpa using hk
 have hm:=hL.at_ _ (List.mem_of_getElem? (getM hk))
 generalize L.map ai.dv=V at *
 have g1':V[k]'l1=(L.getD k mz).dv:=by rw [List.getElem?_eq_getElem l1] at g1;exact Option.some.inj g1
 generalize L.getD k mz=m at *
 have hb:p.text[m.a.toNat]? = some (bAt p.text m.a.toNat):=xI (by omega)
 have hlt:m.a.toNat<p.text.length:=by omega
 have hge:p.text[m.a.toNat]'hlt=bAt p.text m.a.toNat:=by rw [List.getElem?_eq_getElem hlt] at hb;exact Option.some.inj hb
 by_cases h2:m.k=2
 · by_cases h45:bAt p.text m.a.toNat=45
   · simp [f133,HI,g1,g1',l1,ai.dv,ai.cs,h2,hb,hge,hlt,hm.1,h45,kI]
   · have h45':(((bAt p.text m.a.toNat).toNat:Int)==45)=(bAt p.text m.a.toNat==45):=BL _ 45
     simp [f133,HI,g1,g1',l1,ai.dv,ai.cs,h2,hb,hge,hlt,hm.1,h45',kI]
 · simp [f133,HI,g1,g1',l1,ai.dv,ai.cs,h2,kI]
theorem yC {L:List ai} {s:List UInt8} (hL:MOk s L) {t n:Nat} {tk:Tk} {nn:Bool} (h6:L≠[]→n=6) (h7:nn=true→n=6) {xs:List It} {ov:DV} {fr k:Nat} (hk:k≤L.length) (hx:xs.length≤100000) (hA:Acc st K 8 (xs.map It.dv) ov) :
 ∃ ov' J' K',(E tab).F 134 [.int .i64 k,.ptr (st.heap.length+6) 0,.ptr (st.heap.length+5) 0,.ptr (st.heap.length+3) 0] (pst st (HI st P0 P1 ov (.list t n tk nn (L.map ai.dv)) fr 0 J) K) =
   some (.bool true,pst st (HI st P0 P1 ov' (.list t n tk nn (L.map ai.dv)) fr 0 (J++J')) K')∧Acc st K' 8 ((xs++if fr<k then [fF L fr k] else []).map It.dv) ov':=by
 rw [eu amU rfl]
 by_cases h:fr<k
 · have h':¬ (k:Int)≤fr:=by omega
   obtain ⟨ov',K',hy,hA'⟩:=xQ (P0:=P0) (P1:=P1) (lv:=.list t n tk nn (L.map ai.dv)) (J:=J) (fr:=fr) (fF L fr k) hx hA
   have hb:=fun st=>ahg (st:=st) hL (t:=t) (n:=n) (tk:=tk) h6 h7 h hk
   refine ⟨ov',[.cells .plain (fF L fr k).cs],K',?_,by simpa [h] using hA'⟩
   generalize fF L fr k=x at *
   generalize L.map ai.dv=V at *
   simp [HI] at hy
   have h'':¬ k≤fr:=by omega
   simp [f134,HI,h',h'',hb,hy]
 · have h':(k:Int)≤fr:=by omega
   have h'':k≤fr:=by omega
   refine ⟨ov,[],K,?_,by simpa [h] using hA⟩
   generalize L.map ai.dv=V at *
   simp [f134,HI,h',h'']
end
def plV (t:Nat) (tk:Tk) (pl:List Bool):DV:=.list t 1 tk true (pl.map DV.bool)
section
variable {st:St} {P0:List DV}
theorem adb {L:List ai} {p:bp} {w u:LW} (hL:MOk p.text L) {t n:Nat} {tk:Tk} {nn:Bool} (h6:L≠[]→n=6) (h7:nn=true→n=6) {pl:List Bool} (hpl:pl.length=L.length+1) {t2:Nat} {tk2:Tk} :
 ∀ (r d:List ai) (run fr:Nat) (J:List HO) (K:List Nat) (xs:List It) (ov:DV),L=d++r→fr≤d.length→run≤d.length→xs.length≤3*d.length→Acc st K 8 (xs.map It.dv) ov →
 ∃ (ov':DV) (fr':Nat) (J':List HO) (K':List Nat) (X:List It) (y6:DV) (tl:Fr),
   (E tab).C fZ [(2,.ptr (st.heap.length+3) 0),(3,.ptr (st.heap.length+5) 0),(4,plV t2 tk2 pl),(5,.fn 133 [] [.ptr (st.heap.length+3) 0,.ptr (st.heap.length+2) 0]),(6,.int .i64 run),(7,.ptr (st.heap.length+6) 0),(8,.fn 134 [] [.ptr (st.heap.length+6) 0,.ptr (st.heap.length+5) 0,.ptr (st.heap.length+3) 0]),(17,.list t n tk nn (L.map ai.dv)),(18,.int .i64 L.length),(19,.int .i64 d.length)]
    (pst st (HI st P0 (au p w u) ov (.list t n tk nn (L.map ai.dv)) fr 0 J) K) =
   some (.exit 0,[(2,.ptr (st.heap.length+3) 0),(3,.ptr (st.heap.length+5) 0),(4,plV t2 tk2 pl),(5,.fn 133 [] [.ptr (st.heap.length+3) 0,.ptr (st.heap.length+2) 0]),(6,y6),(7,.ptr (st.heap.length+6) 0),(8,.fn 134 [] [.ptr (st.heap.length+6) 0,.ptr (st.heap.length+5) 0,.ptr (st.heap.length+3) 0])]++tl,
    pst st (HI st P0 (au p w u) ov' (.list t n tk nn (L.map ai.dv)) fr' 0 J') K')∧Acc st K' 8 ((xs++X).map It.dv) ov'∧(xs++X).length≤3*L.length∧bE p.text L pl d.length run fr r=X++(if fr'<L.length then [fF L fr' L.length] else []):=by
 have hlen:=hL.len
 intro r
 induction r with
 | nil=>
   intro d run fr J K xs ov hd hf hr hx hA
   obtain rfl:L=d:=by simpa using hd
   refine ⟨ov,fr,J,K,[],.int .i64 run,[(17,.list t n tk nn (L.map ai.dv)),(18,.int .i64 L.length),(19,.int .i64 L.length),(20,.bool false)],?_,by simpa using hA,by simpa using hx,by simp [bE]⟩
   generalize L.map ai.dv=V at *
   rw [aj (L:=fZ) rfl]
   simp [iR]
 | cons m r ih=>
   intro d run fr J K xs ov hd hf hr hx hA
   have h0:d.length<L.length:=by simp [hd]
   have hmem:m∈L:=by simp [hd]
   have hok:=List.all_eq_true.1 hL.ok m hmem
   have hsz:=hL.sz m hmem
   have hgm:L.getD d.length mz=m:=by simp [hd]
   have hw1:IntKind.i64.wrap ((d.length:Int)+1)=(d.length:Int)+1:=by rw [aI (by omega)]
   have hwm:IntKind.i64.wrap ((d.length:Int)-1)=(d.length:Int)-1:=by rw [aI (by omega)]
   obtain rfl:=h6 (by intro e;simp [e] at h0)
   have g1:=rM (L:=L) h0
   rw [hgm] at g1
   have l1:d.length<(L.map ai.dv).length:=by simpa using h0
   have hbx:=fun st=>DQ (st:=st) m
   have hln:=fun st=>FI (st:=st) m hok hsz
   have hhy:=fun st=>rv (st:=st) hsz
   have hsh:=fun (J:List HO)=>yC (st:=st) (P0:=P0) (P1:=au p w u) (J:=J) (K:=K) (t:=t) (n:=6) (tk:=tk) (nn:=nn) hL (fun _=>rfl) (fun _=>rfl) (k:=d.length) (fr:=fr) (by omega) (by omega) hA
   have hds:=fun (J:List HO) (k:Nat) (hk:k<L.length)=>H5 (st:=st) (P0:=P0) (w:=w) (u:=u) (J:=J) (K:=K) (ov:=ov) (fr:=fr) (s:=0) (t:=t) (n:=6) (tk:=tk) (nn:=nn) hL (fun _=>rfl) (k:=k) hk
   have hpd:(pl.map DV.bool)[d.length]? = some (.bool (pl.getD d.length false)):=by
    rw [List.getElem?_map,List.getElem?_eq_getElem (show d.length<pl.length by omega),List.getD_eq_getElem?_getD,List.getElem?_eq_getElem (show d.length<pl.length by omega)];rfl
   have lpd:d.length<(pl.map DV.bool).length:=by simp;omega
   cases hb:pH m with
   | false=>
     obtain ⟨ov1,J1,K1,hS,hA1⟩:=hsh (J++[.cells .plain m.cs])
     have hxl:(xs++if fr<d.length then [fF L fr d.length] else []).length≤3*d.length+1:=by split<;>simp<;>omega
     obtain ⟨ov2,K2,hY,hA2⟩:=xQ (st:=st) (P0:=P0) (P1:=au p w u) (lv:=.list t 6 tk nn (L.map ai.dv)) (J:=(J++[.cells .plain m.cs])++J1) (fr:=fr) (jZ m) (by omega) hA1
     obtain ⟨ov',fr',J',K',X,y6,tl,hJ,a1,a2,a3⟩:=ih (d++[m]) (d.length+1) (d.length+1) (((J++[.cells .plain m.cs])++J1)++[.cells .plain (jZ m).cs]) K2 ((xs++if fr<d.length then [fF L fr d.length] else [])++[jZ m]) ov2 (by simp [hd]) (by simp) (by simp) (by
      rw [List.length_append];simp only [List.length_append,List.length_singleton] at hxl ⊢;omega) hA2
     refine ⟨ov',fr',J',K',(if fr<d.length then [fF L fr d.length] else [])++jZ m::X,y6,tl,?_,by simpa using a1,by simpa using a2,?_⟩
     · generalize L.map ai.dv=V at *
       have g1':V[d.length]'l1=m.dv:=by rw [List.getElem?_eq_getElem l1] at g1;exact Option.some.inj g1
       rw [hb] at hbx
       simp only [HI,List.append_assoc,List.cons_append,List.nil_append] at hS hY hJ ⊢
       simp only [ai.dv,ai.cs] at hbx hln hS hY hJ g1'
       simp at hS hY hJ
       rw [aj (L:=fZ) rfl]
       simp [iR,h0,g1,g1',l1,hbx,hln,hS,hY,dm,hw1,hJ,ai.dv,ai.cs]
     · simp only [List.length_append,List.length_singleton] at a3
       simp only [bE,hb,if_true,a3,List.append_assoc,List.cons_append]
   | true=>
     by_cases hkf:fr=d.length
     · obtain ⟨ov',fr',J',K',X,y6,tl,hJ,a1,a2,a3⟩:=ih (d++[m]) run fr (J++[.cells .plain m.cs]) K xs ov (by simp [hd]) (by simp;omega) (by simp;omega) (by simp;omega) hA
       refine ⟨ov',fr',J',K',X,y6,tl,?_,a1,a2,?_⟩
       · generalize L.map ai.dv=V at *
         have g1':V[d.length]'l1=m.dv:=by rw [List.getElem?_eq_getElem l1] at g1;exact Option.some.inj g1
         rw [hb] at hbx
         subst hkf
         simp only [HI,List.append_assoc,List.cons_append,List.nil_append] at hJ ⊢
         simp only [ai.dv,ai.cs] at hbx hJ g1'
         simp at hJ
         rw [aj (L:=fZ) rfl]
         simp [iR,h0,g1,g1',l1,hbx,hw1,hJ,ai.dv,ai.cs]
       · simp only [List.length_append,List.length_singleton] at a3
         simp only [bE,hb,hkf,if_true,Bool.true_eq_false,if_false]
         rw [← hkf] at a3 ⊢
         rw [← a3,hkf]
     · have hkf':¬ (d.length:Int)=fr:=by omega
       have hkf2:¬ d.length=fr:=by omega
       have hfl:fr<d.length:=by omega
       have hif:(if fr<d.length then [fF L fr d.length] else [])=[fF L fr d.length]:=if_pos hfl
       rw [hif] at hsh
       have fin:∀ q:It,(bE p.text L pl d.length run fr (m::r)=fF L fr d.length::q::bE p.text L pl (d.length+1) run d.length r) →
        ∃ (ov':DV) (fr':Nat) (J':List HO) (K':List Nat) (X:List It) (y6:DV) (tl:Fr) (ov1 ov2:DV) (J1:List HO) (K1 K2:List Nat),
        (E tab).F 134 [.int .i64 d.length,.ptr (st.heap.length+6) 0,.ptr (st.heap.length+5) 0,.ptr (st.heap.length+3) 0] (pst st (HI st P0 (au p w u) ov (.list t 6 tk nn (L.map ai.dv)) fr 0 (J++[.cells .plain m.cs,.cells .plain q.cs])) K) =
         some (.bool true,pst st (HI st P0 (au p w u) ov1 (.list t 6 tk nn (L.map ai.dv)) fr 0 ((J++[.cells .plain m.cs,.cells .plain q.cs])++J1)) K1) ∧
        (E tab).V (.yield (st.heap.length+4)) [q.dv] (pst st (HI st P0 (au p w u) ov1 (.list t 6 tk nn (L.map ai.dv)) fr 0 ((J++[.cells .plain m.cs,.cells .plain q.cs])++J1)) K1) =
         some (.bool true,pst st (HI st P0 (au p w u) ov2 (.list t 6 tk nn (L.map ai.dv)) fr 0 (((J++[.cells .plain m.cs,.cells .plain q.cs])++J1)++[.cells .plain q.cs])) K2) ∧
        (E tab).C fZ [(2,.ptr (st.heap.length+3) 0),(3,.ptr (st.heap.length+5) 0),(4,plV t2 tk2 pl),(5,.fn 133 [] [.ptr (st.heap.length+3) 0,.ptr (st.heap.length+2) 0]),(6,.int .i64 run),(7,.ptr (st.heap.length+6) 0),(8,.fn 134 [] [.ptr (st.heap.length+6) 0,.ptr (st.heap.length+5) 0,.ptr (st.heap.length+3) 0]),(17,.list t 6 tk nn (L.map ai.dv)),(18,.int .i64 L.length),(19,.int .i64 (d.length+1:Nat))]
         (pst st (HI st P0 (au p w u) ov2 (.list t 6 tk nn (L.map ai.dv)) d.length 0 (((J++[.cells .plain m.cs,.cells .plain q.cs])++J1)++[.cells .plain q.cs])) K2) =
        some (.exit 0,[(2,.ptr (st.heap.length+3) 0),(3,.ptr (st.heap.length+5) 0),(4,plV t2 tk2 pl),(5,.fn 133 [] [.ptr (st.heap.length+3) 0,.ptr (st.heap.length+2) 0]),(6,y6),(7,.ptr (st.heap.length+6) 0),(8,.fn 134 [] [.ptr (st.heap.length+6) 0,.ptr (st.heap.length+5) 0,.ptr (st.heap.length+3) 0])]++tl,
         pst st (HI st P0 (au p w u) ov' (.list t 6 tk nn (L.map ai.dv)) fr' 0 J') K')∧Acc st K' 8 ((xs++X).map It.dv) ov'∧(xs++X).length≤3*L.length∧bE p.text L pl d.length run fr (m::r)=X++(if fr'<L.length then [fF L fr' L.length] else []):=by
        intro q hq
        obtain ⟨ov1,J1,K1,hS,hA1⟩:=hsh (J++[.cells .plain m.cs,.cells .plain q.cs])
        obtain ⟨ov2,K2,hY,hA2⟩:=xQ (st:=st) (P0:=P0) (P1:=au p w u) (lv:=.list t 6 tk nn (L.map ai.dv)) (J:=(J++[.cells .plain m.cs,.cells .plain q.cs])++J1) (fr:=fr) q (by simp;omega) hA1
        obtain ⟨ov',fr',J',K',X,y6,tl,hJ,a1,a2,a3⟩:=ih (d++[m]) run d.length (((J++[.cells .plain m.cs,.cells .plain q.cs])++J1)++[.cells .plain q.cs]) K2 ((xs++[fF L fr d.length])++[q]) ov2 (by simp [hd]) (by simp) (by simp;omega) (by simp;omega) hA2
        simp only [List.length_append,List.length_singleton] at hJ a3
        refine ⟨ov',fr',J',K',fF L fr d.length::q::X,y6,tl,ov1,ov2,J1,K1,K2,hS,hY,hJ,by simpa using a1,by simpa using a2,?_⟩
        rw [hq,a3];rfl
       cases hp:pl.getD d.length false with
       | true=>
         have hq:bE p.text L pl d.length run fr (m::r)=fF L fr d.length::A3 m::bE p.text L pl (d.length+1) run d.length r:=by
          simp only [bE,hb,hkf2,hp,if_false,if_true,Bool.true_eq_false]
         obtain ⟨ov',fr',J',K',X,y6,tl,ov1,ov2,J1,K1,K2,hS,hY,hJ,a1,a2,a3⟩:=fin (A3 m) hq
         refine ⟨ov',fr',J',K',X,y6,tl,?_,a1,a2,a3⟩
         rw [hp] at hpd
         generalize L.map ai.dv=V at *
         have g1':V[d.length]'l1=m.dv:=by rw [List.getElem?_eq_getElem l1] at g1;exact Option.some.inj g1
         simp only [plV] at hJ ⊢
         generalize pl.map DV.bool=PL at *
         have p1':PL[d.length]'lpd=.bool true:=by rw [List.getElem?_eq_getElem lpd] at hpd;exact Option.some.inj hpd
         rw [hb] at hbx
         simp only [HI,List.append_assoc,List.cons_append,List.nil_append] at hS hY hJ ⊢
         simp only [ai.dv,ai.cs,A3,It.dv,It.cs] at hbx hS hY hJ g1'
         simp at hS hY hJ
         rw [aj (L:=fZ) rfl]
         simp [iR,h0,g1,g1',l1,hbx,hkf',hkf2,hpd,p1',lpd,hhy,hS,hY,dm,hw1,hJ,ai.dv,ai.cs]
       | false=>
         have hd1:=hds (J++[.cells .plain m.cs,.cells .plain [.int .i64 3,.int .i64 m.a,.int .i64 m.a,.int .i64 0,.int .i64 0,.int .i64 0,.int .i64 0,.bool false]]) (d.length-1) (by omega)
         have hd2:=hds (J++[.cells .plain m.cs,.cells .plain [.int .i64 3,.int .i64 m.a,.int .i64 m.a,.int .i64 0,.int .i64 0,.int .i64 0,.int .i64 0,.bool false]]) d.length h0
         have hcz:((d.length-1:Nat):Int)=(d.length:Int)-1:=by omega
         rw [hcz] at hd1
         rw [hgm] at hd2
         cases hdash:kI p.text (L.getD (d.length-1) mz) && !kI p.text m&&decide (run<d.length-1) with
         | true=>
           have hq:bE p.text L pl d.length run fr (m::r)=fF L fr d.length::Br m::bE p.text L pl (d.length+1) run d.length r:=by
            simp only [bE,hb,hkf2,hp,hdash,if_false,if_true,Bool.true_eq_false,Bool.false_eq_true]
           obtain ⟨ov',fr',J',K',X,y6,tl,ov1,ov2,J1,K1,K2,hS,hY,hJ,a1,a2,a3⟩:=fin (Br m) hq
           refine ⟨ov',fr',J',K',X,y6,tl,?_,a1,a2,a3⟩
           simp only [Bool.and_eq_true,Bool.not_eq_true',decide_eq_true_eq] at hdash
           obtain ⟨⟨q1,q2⟩,q3⟩:=hdash
           have q3':(run:Int)<(d.length:Int)-1:=by omega
           rw [q1] at hd1
           rw [q2] at hd2
           rw [hp] at hpd
           generalize L.map ai.dv=V at *
           have g1':V[d.length]'l1=m.dv:=by rw [List.getElem?_eq_getElem l1] at g1;exact Option.some.inj g1
           simp only [plV] at hJ ⊢
           generalize pl.map DV.bool=PL at *
           have p1':PL[d.length]'lpd=.bool false:=by rw [List.getElem?_eq_getElem lpd] at hpd;exact Option.some.inj hpd
           rw [hb] at hbx
           simp only [HI,List.append_assoc,List.cons_append,List.nil_append] at hS hY hJ hd1 hd2 ⊢
           simp only [ai.dv,ai.cs,Br,It.dv,It.cs] at hbx hS hY hJ hd1 hd2 g1'
           simp at hS hY hJ hd1 hd2
           rw [aj (L:=fZ) rfl]
           simp [iR,h0,g1,g1',l1,hbx,hkf',hkf2,hpd,p1',lpd,hwm,hd1,hd2,q3',hS,hY,dm,hw1,hJ,ai.dv,ai.cs]
         | false=>
           have hq:bE p.text L pl d.length run fr (m::r)=bE p.text L pl (d.length+1) run fr r:=by
            simp only [bE,hb,hkf2,hp,hdash,if_false,Bool.true_eq_false,Bool.false_eq_true]
           obtain ⟨ov',fr',J',K',X,y6,tl,hJ,a1,a2,a3⟩:=ih (d++[m]) run fr (J++[.cells .plain m.cs,.cells .plain [.int .i64 3,.int .i64 m.a,.int .i64 m.a,.int .i64 0,.int .i64 0,.int .i64 0,.int .i64 0,.bool false]]) K xs ov (by simp [hd]) (by simp;omega) (by simp;omega) (by simp;omega) hA
           simp only [List.length_append,List.length_singleton] at hJ a3
           refine ⟨ov',fr',J',K',X,y6,tl,?_,a1,a2,by rw [hq,a3]⟩
           rw [hp] at hpd
           generalize L.map ai.dv=V at *
           have g1':V[d.length]'l1=m.dv:=by rw [List.getElem?_eq_getElem l1] at g1;exact Option.some.inj g1
           simp only [plV] at hJ ⊢
           generalize pl.map DV.bool=PL at *
           have p1':PL[d.length]'lpd=.bool false:=by rw [List.getElem?_eq_getElem lpd] at hpd;exact Option.some.inj hpd
           rw [hb] at hbx
           simp only [HI,List.append_assoc,List.cons_append,List.nil_append] at hJ hd1 hd2 ⊢
           simp only [ai.dv,ai.cs] at hbx hJ hd1 hd2 g1'
           cases q1:kI p.text (L.getD (d.length-1) mz) with
           | false=>
             rw [q1] at hd1
             simp at hJ hd1
             rw [aj (L:=fZ) rfl]
             simp [iR,h0,g1,g1',l1,hbx,hkf',hkf2,hpd,p1',lpd,hwm,hd1,dm,hw1,hJ,ai.dv,ai.cs]
           | true=>
             rw [q1] at hd1 hdash
             cases q2:kI p.text m with
             | true=>
               rw [q2] at hd2
               simp at hJ hd1 hd2
               rw [aj (L:=fZ) rfl]
               simp [iR,h0,g1,g1',l1,hbx,hkf',hkf2,hpd,p1',lpd,hwm,hd1,hd2,dm,hw1,hJ,ai.dv,ai.cs]
             | false=>
               rw [q2] at hd2 hdash
               have q3:¬ run<d.length-1:=by simpa using hdash
               have q3':¬ (run:Int)<(d.length:Int)-1:=by omega
               simp at hJ hd1 hd2
               rw [aj (L:=fZ) rfl]
               simp [iR,h0,g1,g1',l1,hbx,hkf',hkf2,hpd,p1',lpd,hwm,hd1,hd2,q3',dm,hw1,hJ,ai.dv,ai.cs]
end
def eP (L:List ai) (z:Int):Nat→Nat→Nat
 | 0,b=>b
 | f+1,b=>match L[b]? with | some m=>if m.k=1∧m.s=z then eP L z f (b+1) else b | none=>b
def byL (s:List UInt8) (l:List ai):List UInt8:=l.map fun m=>bAt s m.a.toNat
def l3 (pl:List Bool) (a:Nat) (pts:List Nat):List Bool:=pts.foldl (fun o k=>o.set (a+k) true) pl
def lN (w:List UInt8):List Nat:=if lq w=true then points eQ ij (w.map dE) else []
def dx (s:List UInt8) (L:List ai):Nat→Nat→List Bool→List Bool
 | 0,_,pl=>pl
 | f+1,a,pl=>match L[a]? with
   | none=>pl
   | some m=>if m.k=1 then dx s L f (eP L m.s L.length a) (l3 pl a (lN (byL s ((L.drop a).take (eP L m.s L.length a-a))))) else dx s L f (a+1) pl
def jA (s:List UInt8) (L:List ai) (hy:Int):List Bool:=if hy=0 then List.replicate (L.length+1) false else dx s L (L.length+1) 0 (List.replicate (L.length+1) false)
theorem p6:∀ (pts:List Nat) (pl:List Bool) (a:Nat),(l3 pl a pts).length=pl.length
 | [],_,_=>rfl
 | k::r,pl,a=>by unfold l3;rw [List.foldl_cons];have:=p6 r (pl.set (a+k) true) a;unfold l3 at this;rw [this];simp
theorem ll (s:List UInt8) (L:List ai):∀ (f a:Nat) (pl:List Bool),(dx s L f a pl).length=pl.length
 | 0,_,_=>rfl
 | f+1,a,pl=>by
   simp only [dx]
   split
   · rfl
   · split
     · rw [ll s L f,p6]
     · rw [ll s L f]
theorem vf (s:List UInt8) (L:List ai) (hy:Int):(jA s L hy).length=L.length+1:=by
 unfold jA;split
 · simp
 · rw [ll];simp
theorem sL (L:List ai) (z:Int):∀ f b,b≤L.length→b≤eP L z f b∧eP L z f b≤L.length
 | 0,b,h=>⟨Nat.le_refl _,h⟩
 | f+1,b,h=>by
   simp only [eP]
   split
   · rename_i m hm
     have:=(List.getElem?_eq_some_iff.1 hm).1
     split
     · have:=sL L z f (b+1) (by omega);omega
     · exact ⟨Nat.le_refl _,h⟩
   · exact ⟨Nat.le_refl _,h⟩
theorem LU {L:List ai} {a:Nat} {m:ai} (h:L[a]? = some m) (hk:m.k=1):a<eP L m.s L.length a:=by
 have hl:=(List.getElem?_eq_some_iff.1 h).1
 obtain ⟨f,hf⟩:∃ f,L.length=f+1:=⟨L.length-1,by omega⟩
 rw [hf]
 simp only [eP,h,hk,true_and,if_true]
 have:=(sL L m.s f (a+1) (by omega)).1
 omega
theorem aa4:∀ (s:List UInt8) (k:Nat),∀ x∈plc k s,x≤k+(aQ s).length:=by
 intro s
 have h:∀ r:List UInt8,∀ k,∀ x∈plc k r.reverse,x≤k+(aQ r.reverse).length:=by
  intro r
  induction r with
  | nil=>intro k x hx;simp [plc] at hx
  | cons c r ih=>
    intro k x hx
    rw [List.reverse_cons] at hx ⊢
    by_cases hc:c.toNat=45
    · rw [lW _ _ _ hc] at hx
      rw [rm _ _ hc]
      rcases List.mem_append.1 hx with hx | hx
      · exact ih k x hx
      · simp at hx;omega
    · rw [oo _ _ _ hc] at hx
      rw [ud _ _ hc]
      have:=ih k x hx
      simp;omega
 intro k x hx
 have:=h s.reverse k x (by simpa using hx)
 simpa using this
theorem A1 (ps es:List (List UInt8)) (w:List UInt8):∀ k∈points ps es w,k≤w.length:=by
 intro k hk
 unfold points at hk
 split at hk
 · rename_i s hs
   have h1:=List.find?_some hs
   simp only [beq_iff_eq] at h1
   have:=aa4 s 0 k hk
   rw [h1] at this;omega
 · unfold Av at hk
   have:=List.mem_range'_1.1 (List.mem_filter.1 hk).1
   omega
theorem E6 (w:List UInt8):∀ k∈lN w,k≤w.length:=by
 intro k hk
 unfold lN at hk
 split at hk
 · have:=A1 _ _ _ k hk;simpa using this
 · cases hk
theorem CB (w:List UInt8):(lN w).length≤200000:=by
 unfold lN
 split
 · rename_i hok
   have:=zn eQ ij (w.map dE) kA
   simp only [lq,Bool.and_eq_true,decide_eq_true_eq] at hok
   simp only [List.length_map] at this
   omega
 · simp
section
variable {st:St}
theorem agr {G:List HO} {K:List Nat} {kO a b n:Nat} {y2 y6:DV} {lv v:DV} {pts:List Nat} (hp:Lw 1 (pts.map i6) v) (hpl:pts.length≤1000000) (hn:n≤100000) (ha:a≤100000) (hb:∀ k∈pts,a+k<n):∀ (r d:List Nat) (pl:List Bool) (G:List HO),pts=d++r→pl.length=n→rowAt G kO=some (.plain,pl.map DV.bool) →
 ∃ tl,(E tab).C tC [(1,lv),(2,y2),(5,.hsl 1 false (st.heap.length+kO) 0 n (some n)),(6,y6),(7,.int .i64 a),(8,.int .i64 b),(82,v),(83,.int .i64 pts.length),(84,.int .i64 d.length)] (pst st G K) =
   some (.exit 4,[(1,lv),(2,y2),(5,.hsl 1 false (st.heap.length+kO) 0 n (some n)),(6,y6),(7,.int .i64 a),(8,.int .i64 b)]++tl,pst st (G.set kO (.cells .plain ((l3 pl a r).map DV.bool))) K):=by
 intro r
 induction r with
 | nil=>
   intro d pl G hd hl hr
   obtain rfl:pts=d:=by simpa using hd
   have hset:G.set kO (.cells .plain ((l3 pl a []).map DV.bool))=G:=by
    have hk:=bc hr
    apply List.ext_getElem?
    intro j
    by_cases hj:j=kO
    · subst hj;rw [List.getElem?_set_self hk,aG.1 hr];rfl
    · rw [List.getElem?_set_ne (fun e=>hj e.symm)]
   rw [hset]
   refine ⟨[(82,v),(83,.int .i64 pts.length),(84,.int .i64 pts.length),(85,.bool false)],?_⟩
   rw [aj (L:=tC) rfl]
   simp [yt]
 | cons x r ih=>
   intro d pl G hd hl hr
   have hk:=bc hr
   have h0:d.length<pts.length:=by simp [hd]
   have hw1:IntKind.i64.wrap ((d.length:Int)+1)=(d.length:Int)+1:=by rw [aI (by omega)]
   have hax:=hb x (by simp [hd])
   have hwa:IntKind.i64.wrap ((a:Int)+x)=((a+x:Nat):Int):=by rw [aI (by omega)];simp
   have v0:Vw (pst st G K) 1 false (pts.map i6) v:=hp.vw
   have e1:=fun st'=>v0.aL (i:=d.length) (by simpa using h0) .i64 st'
   have e2:=v0.CY MB (i:=d.length) (x:=.int .i64 x) (by simp [hd,i6])
   have hlt:a+x<(pl.map DV.bool).length:=by simp;omega
   have hsp:=gA (x:=.bool true) hlt
   have hset:(pl.map DV.bool).set (a+x) (.bool true)=(pl.set (a+x) true).map DV.bool:=by rw [List.map_set]
   rw [hset] at hsp
   have hle:a+x+1≤(pl.map DV.bool).length:=by omega
   obtain ⟨tl,hJ⟩:=ih (d++[x]) (pl.set (a+x) true) (G.set kO (.cells .plain ((pl.set (a+x) true).map DV.bool))) (by simp [hd]) (by simpa using hl) (dn hk _ _)
   refine ⟨tl,?_⟩
   rw [List.set_set] at hJ
   have e3:l3 pl a (x::r)=l3 (pl.set (a+x) true) a r:=rfl
   rw [e3]
   generalize (l3 (pl.set (a+x) true) a r).map DV.bool=W at *
   generalize (pl.set (a+x) true).map DV.bool=W1 at *
   generalize pl.map DV.bool=PM at *
   generalize a+x=ax at *
   simp only [bu] at hsp
   simp at hJ hsp
   have hax2:(ax:Int)<n:=by omega
   rw [aj (L:=tC) rfl]
   simp [yt,h0,e1,e2,hwa,hax,hax2,hr,hle,hsp,hw1,hJ]
theorem By {L:List ai} {a b:Nat} {m:ai} (h:L[b]? = some m) (hab:a≤b):(L.drop a).take (b+1-a)=(L.drop a).take (b-a)++[m]:=by
 have e:b+1-a=(b-a)+1:=by omega
 rw [e,List.take_add_one,List.getElem?_drop,show a+(b-a)=b by omega,h];rfl
theorem P5 {L:List ai} {p:bp} {w u:LW} (hL:MOk p.text L) {t n:Nat} {tk:Tk} {nn:Bool} (h6:L≠[]→n=6) {H:List HO} (hr:rowAt H 0=some (.plain,au p w u)) {y5 y6:DV} {a:Nat} {ma:ai} (hma:L[a]? = some ma):∀ (f b:Nat) (K:List Nat) (v:DV),L.length≤b+f→a≤b→b≤L.length→Acc st K 1 ((byL p.text ((L.drop a).take (b-a))).map u8) v →
 ∃ (K':List Nat) (v':DV) (tl:Fr),(E tab).C lp [(1,.list t n tk nn (L.map ai.dv)),(2,.ptr st.heap.length 0),(5,y5),(6,y6),(7,.int .i64 a),(8,.int .i64 b),(9,v)] (pst st H K) =
   some (.exit 2,[(1,.list t n tk nn (L.map ai.dv)),(2,.ptr st.heap.length 0),(5,y5),(6,y6),(7,.int .i64 a),(8,.int .i64 (eP L ma.s f b:Nat)),(9,v')]++tl,pst st H K')∧Acc st K' 1 ((byL p.text ((L.drop a).take (eP L ma.s f b-a))).map u8) v':=by
 have hlen:=hL.len
 have hal:=(List.getElem?_eq_some_iff.1 hma).1
 have hV0:(L.map ai.dv).length=L.length:=by simp
 obtain rfl:=h6 (by intro e;simp [e] at hal)
 have ga:(L.map ai.dv)[a]? = some ma.dv:=by rw [List.getElem?_map,hma];rfl
 have la:a<(L.map ai.dv).length:=by simpa using hal
 have ga':(L.map ai.dv)[a]'la=ma.dv:=by rw [List.getElem?_eq_getElem la] at ga;exact Option.some.inj ga
 intro f
 induction f with
 | zero=>
   intro b K v h1 h2 h3 hA
   obtain rfl:b=L.length:=by omega
   refine ⟨K,v,[(61,.bool false)],?_,hA⟩
   generalize L.map ai.dv=V at *
   rw [aj (L:=lp) rfl]
   simp [mR,eP,hV0]
 | succ f ih=>
   intro b K v h1 h2 h3 hA
   have hw1:IntKind.i64.wrap ((b:Int)+1)=(b:Int)+1:=by rw [aI (by omega)]
   by_cases hb:b<L.length
   · obtain ⟨m,hm⟩:∃ m,L[b]? = some m:=⟨L[b],List.getElem?_eq_getElem hb⟩
     have gb:(L.map ai.dv)[b]? = some m.dv:=by rw [List.getElem?_map,hm];rfl
     have lb:b<(L.map ai.dv).length:=by simpa using hb
     have gb':(L.map ai.dv)[b]'lb=m.dv:=by rw [List.getElem?_eq_getElem lb] at gb;exact Option.some.inj gb
     have hat:=hL.at_ m (List.mem_of_getElem? hm)
     have hbt:p.text[m.a.toNat]? = some (bAt p.text m.a.toNat):=xI (by omega)
     have hlt:m.a.toNat<p.text.length:=by omega
     have hge:p.text[m.a.toNat]'hlt=bAt p.text m.a.toNat:=by rw [List.getElem?_eq_getElem hlt] at hbt;exact Option.some.inj hbt
     by_cases hk:m.k=1
     · by_cases hz:m.s=ma.s
       · have e:eP L ma.s (f+1) b=eP L ma.s f (b+1):=by simp only [eP,hm,hk,hz,and_self,if_true]
         rw [e]
         have hts:=By hm h2
         have hbl:(byL p.text ((L.drop a).take (b-a))).length≤4096:=by simp [byL];omega
         obtain ⟨v1,K1,hap,hA1⟩:=fT (st:=st) (H:=H) (by_:=1) (ag:=false) (ys:=[u8 (bAt p.text m.a.toNat)]) (t:=st.cur) (tk:=.tight) hA (by omega) (by simp) (by intro y hy;simp only [List.mem_singleton] at hy;subst hy;exact ⟨rfl,rfl,rfl⟩) (by simp [az];omega) (by simp [az];omega)
         obtain ⟨K',v',tl,hJ,hA2⟩:=ih (b+1) K1 v1 (by omega) (by omega) (by omega) (by rw [hts];simpa [byL] using hA1)
         refine ⟨K',v',tl,?_,hA2⟩
         simp only [u8] at hap
         generalize eP L ma.s f (b+1)=eb at *
         generalize L.map ai.dv=V at *
         simp at hJ
         rw [aj (L:=lp) rfl]
         simp [mR,hV0,hb,ga,ga',la,gb,gb',lb,ai.dv,ai.cs,hk,hz,hr,hat.1,hlt,hbt,hge,bb,bm,chunk,hap,hw1,hJ]
       · have e:eP L ma.s (f+1) b=b:=by simp only [eP,hm,hz,and_false,if_false]
         rw [e]
         refine ⟨K,v,[(61,.bool false)],?_,hA⟩
         generalize L.map ai.dv=V at *
         rw [aj (L:=lp) rfl]
         simp [mR,hV0,hb,ga,ga',la,gb,gb',lb,ai.dv,ai.cs,hk,hz]
     · have e:eP L ma.s (f+1) b=b:=by simp only [eP,hm,hk,false_and,if_false]
       rw [e]
       refine ⟨K,v,[(61,.bool false)],?_,hA⟩
       generalize L.map ai.dv=V at *
       rw [aj (L:=lp) rfl]
       simp [mR,hV0,hb,gb,gb',lb,ai.dv,ai.cs,hk]
   · have hbn:L[b]? = none:=List.getElem?_eq_none (by omega)
     have e:eP L ma.s (f+1) b=b:=by simp only [eP,hbn]
     rw [e]
     refine ⟨K,v,[(61,.bool false)],?_,hA⟩
     have hb':¬ (b:Int)<L.length:=by omega
     generalize L.map ai.dv=V at *
     rw [aj (L:=lp) rfl]
     simp [mR,hV0,hb,hb']
theorem aca {L:List ai} {p:bp} {w u:LW} (hL:MOk p.text L) {t n:Nat} {tk:Tk} {nn:Bool} (h6:L≠[]→n=6):∀ (f a:Nat) (pl:List Bool) (G:List HO) (K:List Nat),L.length<a+f→a≤L.length→pl.length=L.length+1→rowAt G 0=some (.plain,au p w u)→rowAt G 1=some (.plain,pl.map DV.bool)→pK st G 2 eQ ij →
 ∃ (G':List HO) (K':List Nat) (tl:Fr),(E tab).C pe [(1,.list t n tk nn (L.map ai.dv)),(2,.ptr st.heap.length 0),(5,.hsl 1 false (st.heap.length+1) 0 (L.length+1) (some (L.length+1))),(6,.ptr (st.heap.length+4) 0),(7,.int .i64 a)] (pst st G K) =
   some (.exit 0,[(1,.list t n tk nn (L.map ai.dv)),(2,.ptr st.heap.length 0),(5,.hsl 1 false (st.heap.length+1) 0 (L.length+1) (some (L.length+1)))]++tl,pst st G' K')∧rowAt G' 1=some (.plain,(dx p.text L f a pl).map DV.bool):=by
 have hlen:=hL.len
 have hV0:(L.map ai.dv).length=L.length:=by simp
 intro f
 induction f with
 | zero=>intro a pl G K h1 h2;omega
 | succ f ih=>
   intro a pl G K h1 h2 h3 hr0 hr1 hH
   have hw1:IntKind.i64.wrap ((a:Int)+1)=(a:Int)+1:=by rw [aI (by omega)]
   by_cases ha:a<L.length
   · obtain ⟨m,hm⟩:∃ m,L[a]? = some m:=⟨L[a],List.getElem?_eq_getElem ha⟩
     obtain rfl:=h6 (by intro e;simp [e] at ha)
     have gb:(L.map ai.dv)[a]? = some m.dv:=by rw [List.getElem?_map,hm];rfl
     have lb:a<(L.map ai.dv).length:=by simpa using ha
     have gb':(L.map ai.dv)[a]'lb=m.dv:=by rw [List.getElem?_eq_getElem lb] at gb;exact Option.some.inj gb
     by_cases hk:m.k=1
     · have hgt:=LU hm hk
       have hle:=(sL L m.s L.length a (by omega)).2
       have e:dx p.text L (f+1) a pl=dx p.text L f (eP L m.s L.length a) (l3 pl a (lN (byL p.text ((L.drop a).take (eP L m.s L.length a-a))))):=by simp only [dx,hm,hk,if_true]
       rw [e]
       obtain ⟨K1,v1,tl1,hI,hA1⟩:=P5 (K:=K) hL (fun _=>rfl) hr0 (y5:=.hsl 1 false (st.heap.length+1) 0 (L.length+1) (some (L.length+1))) (y6:=.ptr (st.heap.length+4) 0) (t:=t) (tk:=tk) (nn:=nn) (st:=st) hm L.length a (.list 0 0 .no false []) (by omega) (Nat.le_refl _) (by omega) (by rw [Nat.sub_self];simpa [byL] using fg st K 1 0 0 .no)
       have hwl:(byL p.text ((L.drop a).take (eP L m.s L.length a-a))).length=eP L m.s L.length a-a:=by simp [byL];omega
       generalize hW:byL p.text ((L.drop a).take (eP L m.s L.length a-a))=W at *
       generalize eP L m.s L.length a=b at *
       obtain ⟨q1,q2⟩:=tL hA1 (pst st G K1)
       obtain ⟨v2,X2,K2,hP,hl2⟩:=Bx (K:=K1) hH kA W
       have hpts:(if lq W=true then points eQ ij (W.map dE) else [])=lN W:=rfl
       rw [hpts] at hl2
       have hpl:=A2 (ps:=eQ) kA W
       rw [hpts] at hpl
       have hple:=E6 W
       have hplen:(lN W).length≤1000000:=by
        have:=CB W;omega
       have hr1':rowAt (G++X2) 1=some (.plain,pl.map DV.bool):=eV hr1 _
       obtain ⟨tl2,hI2⟩:=agr (st:=st) (G:=G) (K:=K2) (kO:=1) (a:=a) (b:=b) (n:=L.length+1) (y2:=.ptr st.heap.length 0) (y6:=.ptr (st.heap.length+4) 0) (lv:=.list t 6 tk nn (L.map ai.dv)) hl2 hplen (by omega) (by omega) (fun k hk=>by have:=hple k hk;omega) (lN W) [] pl (G++X2) rfl h3 hr1'
       obtain ⟨G',K',tl,hJ,hG'⟩:=ih b (l3 pl a (lN W)) ((G++X2).set 1 (.cells .plain ((l3 pl a (lN W)).map DV.bool))) K2 (by omega) hle (by rw [p6];exact h3) (by
        rw [aG,List.getElem?_set_ne (by omega)];exact aG.1 (eV hr0 _)) (dn (bc hr1') _ _) (by
        refine (hH.same (G':=(G++X2).set 1 (.cells .plain ((l3 pl a (lN W)).map DV.bool))) fun j hj hjl => ?_)
        rw [List.getElem?_set_ne (by omega),List.getElem?_append_left hjl])
       refine ⟨G',K',tl,?_,hG'⟩
       obtain ⟨vt,vn,vtk,vnn,rfl⟩:=ff hA1
       have e2:=(hl2.vw (st:=st) (ag:=false)).len
       simp only [List.length_map] at e2
       have hbb:=j9 W
       generalize (l3 pl a (lN W)).map DV.bool=SP at *
       generalize (lN W).length=pw at *
       generalize W.map u8=WU at *
       generalize L.map ai.dv=V at *
       generalize G++X2=G2 at *
       simp at hI hI2 hJ
       rw [aj (L:=pe) rfl]
       simp [sy,hV0,ha,gb,gb',lb,ai.dv,ai.cs,hk,hI,qc,q1,hbb,hP,e2,hI2,hJ]
     · have e:dx p.text L (f+1) a pl=dx p.text L f (a+1) pl:=by simp only [dx,hm,hk,if_false]
       rw [e]
       obtain ⟨G',K',tl,hJ,hG'⟩:=ih (a+1) pl G K (by omega) (by omega) h3 hr0 hr1 hH
       refine ⟨G',K',tl,?_,hG'⟩
       generalize L.map ai.dv=V at *
       simp at hJ
       rw [aj (L:=pe) rfl]
       simp [sy,hV0,ha,gb,gb',lb,ai.dv,ai.cs,hk,hw1,hJ]
   · have hbn:L[a]? = none:=List.getElem?_eq_none (by omega)
     have e:dx p.text L (f+1) a pl=pl:=by simp only [dx,hbn]
     rw [e]
     refine ⟨G,K,[(6,.ptr (st.heap.length+4) 0),(7,.int .i64 a),(27,.bool false)],?_,hr1⟩
     have ha':¬ (a:Int)<L.length:=by omega
     generalize L.map ai.dv=V at *
     rw [aj (L:=pe) rfl]
     simp [sy,hV0,ha,ha']
theorem Co {L:List ai} {p:bp} {w u:LW} (hL:MOk p.text L) {t n:Nat} {tk:Tk} {nn:Bool} (h6:L≠[]→n=6) :
 ∃ t',(E tab).F 132 [.agg (au p w u),.list t n tk nn (L.map ai.dv)] st=some (.list t' 1 .tight true ((jA p.text L p.pr.b7).map DV.bool),st):=by
 have hlen:=hL.len
 have hV0:(L.map ai.dv).length=L.length:=by simp
 have hel:∀ (b:List Bool),∀ y∈b.map DV.bool,dy 1 false y:=by intro b y hy;obtain ⟨c,_,rfl⟩:=List.mem_map.1 hy;exact ⟨rfl,rfl,rfl⟩
 have hw1:IntKind.i64.wrap ((L.length:Int)+1)=(L.length:Int)+1:=by rw [aI (by omega)]
 have hroom:((L.length:Int)+1)≤140737488355328:=by omega
 have hroom2:L.length+1≤140737488355328:=by omega
 have hpos:(0:Int)≤(L.length:Int)+1:=by omega
 have htn:((L.length:Int)+1).toNat=L.length+1:=by omega
 have hrep:bm [DV.bool false] (L.length+1)=(List.replicate (L.length+1) false).map DV.bool:=by rw [p9,List.map_replicate]
 have ph:(au p w u)[14]? = some (.int .i64 p.pr.b7):=rfl
 have hpl:=vf p.text L p.pr.b7
 have hex:∀ (G:List HO) (K:List Nat),rowAt G 1=some (.plain,(jA p.text L p.pr.b7).map DV.bool)→aZ st (pst st G K) (.hsl 1 false (st.heap.length+1) 0 (L.length+1) (some (L.length+1)))=some (.list st.cur 1 .tight true ((jA p.text L p.pr.b7).map DV.bool)):=by
  intro G K h
  have hfl:=ir _ (hel (jA p.text L p.pr.b7))
  have:=wX (st:=st) (H:=G) (K:=K) (k:=1) (n:=1) (ag:=false) (g:=.plain) (ys:=(jA p.text L p.pr.b7).map DV.bool) (cap:=some (L.length+1)) (by rw [hfl];exact h) (by omega) (.inr rfl) (hel _)
  rw [List.length_map,hpl,if_pos rfl] at this
  exact this
 refine ⟨st.cur,?_⟩
 rw [aY aoa rfl]
 by_cases hy:p.pr.b7=0
 · have e:jA p.text L p.pr.b7=List.replicate (L.length+1) false:=by simp only [jA,hy,if_true]
   have hx:=hex [.cells .plain (au p w u),.cells .plain ((List.replicate (L.length+1) false).map DV.bool)] [] (by rw [e];rfl)
   rw [e] at hx ⊢
   rw [hy] at ph
   generalize (List.replicate (L.length+1) false).map DV.bool=Z at *
   generalize L.map ai.dv=V at *
   simp [f132,hV0,hw1,az,hroom,hroom2,hpos,htn,hrep,ph,hx]
 · obtain ⟨X,hP,hH⟩:=CU (st:=st) [.cells .plain (au p w u),.cells .plain ((List.replicate (L.length+1) false).map DV.bool)] []
   obtain ⟨G',K',tl,hL2,hG'⟩:=aca (st:=st) (w:=w) (u:=u) hL (t:=t) (tk:=tk) (nn:=nn) h6 (L.length+1) 0 (List.replicate (L.length+1) false) ([.cells .plain (au p w u),.cells .plain ((List.replicate (L.length+1) false).map DV.bool)]++X) [] (by omega) (by omega) (by simp) rfl rfl hH
   have e:jA p.text L p.pr.b7=dx p.text L (L.length+1) 0 (List.replicate (L.length+1) false):=by simp only [jA,hy,if_false]
   have hx:=hex G' K' (by rw [e];exact hG')
   rw [e] at hx ⊢
   generalize (dx p.text L (L.length+1) 0 (List.replicate (L.length+1) false)).map DV.bool=Y at *
   generalize (List.replicate (L.length+1) false).map DV.bool=Z at *
   generalize L.map ai.dv=V at *
   simp at hP hL2
   simp [f132,hV0,hw1,az,hroom,hroom2,hpos,htn,hrep,ph,hy,hP,hL2,hx]
end
def eK (p:bp):Bool:=decide (2≤p.pr.drop)&&(decide (0<(aF p).length)&&((aF p).getD 0 mz).k==1)
def cA (p:bp):List ai:=if eK p=true then (aF p).drop 1 else aF p
def b8 (p:bp):List It:=bE p.text (cA p) (jA p.text (cA p) p.pr.b7) 0 0 0 (cA p)
theorem lf (p:bp):∀ (l:List Clu) (kr:Bool) (bf:UInt8) (ps:Int) (mk:List (List UInt8)),∀ m∈df p kr bf ps mk l,∃ c∈l,m.a=c.a∧m.s=sizeOf p c.a
 | [],_,_,_,_,m,h=>by cases h
 | c::r,kr,bf,ps,mk,m,h=>by
   simp only [df] at h
   rcases List.mem_cons.1 h with rfl | h
   · exact ⟨c,by simp,rfl,rfl⟩
   · obtain ⟨c',h1,h2⟩:=lf p r _ _ _ _ m h
     exact ⟨c',by simp [h1],h2⟩
theorem kz (p:bp):MOk p.text (aF p):=by
 refine ⟨Bz p,BG p,?_,?_⟩
 · intro m hm
   unfold aF at hm
   split at hm
   · obtain ⟨c,hc,h1,_⟩:=lf p _ _ _ _ _ m hm
     have:=vz (l6 p.text p.text.length 0).1 c hc
     rw [h1];omega
   · cases hm
 · intro m hm
   unfold aF at hm
   split at hm
   · rename_i h0
     obtain ⟨_,_,hsp,hpr,_⟩:=dc h0
     obtain ⟨c,hc,_,h2⟩:=lf p _ _ _ _ _ m hm
     have hS:n4 p.aV:=by
      unfold dH at hsp
      cases e:eF p.text.length p.aV with
      | none=>rw [e] at hsp;simp at hsp
      | some k=>exact (kg _ _ _ e).1
     have:=mN p hpr hS c.a
     rw [h2];exact ⟨this.1,this.2.1⟩
   · cases hm
theorem MOk.drop {s:List UInt8} {L:List ai} (h:MOk s L) (n:Nat):MOk s (L.drop n):=
 ⟨by rw [List.length_drop];have:=h.len;omega,List.all_eq_true.2 fun m hm=>List.all_eq_true.1 h.ok m (List.mem_of_mem_drop hm),fun m hm=>h.at_ m (List.mem_of_mem_drop hm),fun m hm=>h.sz m (List.mem_of_mem_drop hm)⟩
theorem AX (p:bp):MOk p.text (cA p):=by
 unfold cA;split
 · exact (kz p).drop 1
 · exact kz p
def qJ (tk:Tk):Tk:=match tk with | .own _ _=>.no | k=>k
theorem exl (st st':St) (tag n:Nat) (tk:Tk) (nn:Bool) (xs:List DV):aZ st st' (.list tag n tk nn xs)=some (.list tag n (qJ tk) nn xs):=by cases tk<;>rfl
@[simp] theorem Ke (l:Nat):(DV.yield l).leaves=[.yield l]:=rfl
section
variable {st:St} {p:bp} {w u:LW}
theorem C0:(au p w u)[16]? = some (.int .i64 p.pr.drop):=rfl
theorem HC (hp:p.small) (hw:w.ok 4 p.aV) (hu:u.ok 1 p.marks):∃ v:LW,(E tab).F 117 [.agg (au p w u)] st=some (.tuple [.list v.t v.n v.tk v.nn ((if aE p=0 then cA p else []).map ai.dv),.int .i64 (aE p)],st)∧v.ok 6 (if aE p=0 then cA p else []):=by
 rw [aY ajM rfl]
 obtain ⟨_,hm,v,rfl,hv⟩:=uy p hp w u hw hu (pst st [.cells .plain (au p w u)] [])
 have hpd:=C0 (p:=p) (w:=w) (u:=u)
 by_cases h0:aE p=0
 · have hV0:((aF p).map ai.dv).length=(aF p).length:=by simp
   rw [if_pos h0]
   unfold cA eK
   by_cases h1:2≤p.pr.drop
   · by_cases h2:0<(aF p).length
     · have h2':(0:Int)<(aF p).length:=by omega
       have hvn:=hv.n (by intro e;rw [e] at h2;simp at h2)
       have g0:=rM (L:=aF p) h2
       have l0:0<((aF p).map ai.dv).length:=by simpa using h2
       by_cases h3:((aF p).getD 0 mz).k=1
       · rw [if_pos (by simp only [h1,h2,h3,decide_true,Bool.true_and,beq_self_eq_true])]
         have hs:=tr (n:=6) (en:=v.n) (t:=v.t) (tk:=v.tk) (nn:=v.nn) (xs:=(aF p).map ai.dv) (k:=.i64) (lo:=1) (fun _=>hvn) (by omega) (by simp;omega)
         refine ⟨⟨v.t,v.n,qJ (vh v.tk ((aF p).map ai.dv).length 1 ((aF p).map ai.dv).length),v.nn⟩,?_,fun e=>hvn,fun e=>by have:=hv.2 e;simp [this]⟩
         have hdr:((aF p).map ai.dv).drop (1:Int).toNat=((aF p).drop 1).map ai.dv:=by rw [List.map_drop];rfl
         rw [hdr] at hs
         generalize ((aF p).drop 1).map ai.dv=D at *
         generalize (aF p).getD 0 mz=m at *
         generalize (aF p).map ai.dv=V at *
         have g0':V[0]'l0=m.dv:=by rw [List.getElem?_eq_getElem l0] at g0;exact Option.some.inj g0
         rw [hvn] at hm hs ⊢
         have hVl:V.length=(aF p).length:=hV0
         rw [hVl] at hs ⊢
         simp only [show (1:Int).toNat=1 from rfl] at hs
         simp [-fe,exl,f117,hm,h0,hpd,h1,hV0,h2,h2',g0,g0',l0,ai.dv,ai.cs,h3,hs]
       · have h3b:(((aF p).getD 0 mz).k==1)=false:=by rw [beq_eq_false_iff_ne];exact h3
         rw [if_neg (by rw [h3b];simp)]
         refine ⟨⟨v.t,v.n,qJ v.tk,v.nn⟩,?_,hv⟩
         generalize (aF p).getD 0 mz=m at *
         generalize (aF p).map ai.dv=V at *
         have g0':V[0]'l0=m.dv:=by rw [List.getElem?_eq_getElem l0] at g0;exact Option.some.inj g0
         rw [hvn] at hm
         simp [-fe,exl,f117,hm,h0,hpd,h1,hV0,h2,h2',g0,g0',l0,ai.dv,ai.cs,h3,hvn]
     · have h2':¬ (0:Int)<(aF p).length:=by omega
       rw [if_neg (by simp [h2])]
       refine ⟨⟨v.t,v.n,qJ v.tk,v.nn⟩,?_,hv⟩
       generalize (aF p).map ai.dv=V at *
       simp [-fe,exl,f117,hm,h0,hpd,h1,hV0,h2,h2']
   · rw [if_neg (by simp [h1])]
     refine ⟨⟨v.t,v.n,qJ v.tk,v.nn⟩,?_,hv⟩
     generalize (aF p).map ai.dv=V at *
     simp [-fe,exl,f117,hm,h0,hpd,h1]
 · have hm0:aF p=[]:=by unfold aF;rw [if_neg h0]
   rw [hm0] at hm hv
   rw [if_neg h0]
   refine ⟨⟨v.t,v.n,qJ v.tk,v.nn⟩,?_,hv⟩
   simp at hm
   simp [-fe,exl,f117,hm,h0]
theorem Lg {L:List ai} (hL:MOk p.text L) {t n:Nat} {tk:Tk} {nn:Bool} (h6:L≠[]→n=6) (h7:nn=true→n=6) (P0:List DV):∃ (ov:DV) (fr:Nat) (J:List HO) (K:List Nat),
 (E tab).F 131 [.yield (st.heap.length+4),.ptr (st.heap.length+2) 0,.ptr (st.heap.length+3) 0] (pst st [.cells .plain P0,.cells .plain [.list 0 0 .no false []],.cells .plain (au p w u),.cells .plain [.list t n tk nn (L.map ai.dv)],loI st 0] []) =
  some (.tuple [],pst st (HI st P0 (au p w u) ov (.list t n tk nn (L.map ai.dv)) fr 0 J) K)∧Acc st K 8 ((bE p.text L (jA p.text L p.pr.b7) 0 0 0 L).map It.dv) ov:=by
 obtain ⟨t2,hwd⟩:=Co (st:=pst st [.cells .plain P0,.cells .plain [.list 0 0 .no false []],.cells .plain (au p w u),.cells .plain [.list t n tk nn (L.map ai.dv)],loI st 0,.cells .plain [.yield (st.heap.length+4)]] []) (w:=w) (u:=u) hL (t:=t) (n:=n) (tk:=tk) (nn:=nn) h6
 obtain ⟨ov',fr',J',K',X,y6,tl,hJ,a1,a2,a3⟩:=adb (st:=st) (P0:=P0) (w:=w) (u:=u) hL (t:=t) (n:=n) (tk:=tk) (nn:=nn) h6 h7 (vf p.text L p.pr.b7) (t2:=t2) (tk2:=.tight) L [] 0 0 [] [] [] (.list 0 0 .no false []) rfl (Nat.le_refl _) (Nat.le_refl _) (by simp) (fg _ _ _ _ _ _)
 simp only [List.nil_append] at a1 a2
 obtain ⟨ov2,J2,K2,hS,hA2⟩:=yC (st:=st) (P0:=P0) (P1:=au p w u) (J:=J') (t:=t) (n:=n) (tk:=tk) (nn:=nn) (fr:=fr') hL h6 h7 (k:=L.length) (Nat.le_refl _) (by have:=hL.len;omega) a1
 refine ⟨ov2,fr',J'++J2,K2,?_,by rw [List.length_nil] at a3;rw [a3];exact hA2⟩
 rw [eu Mm rfl]
 have hV0:(L.map ai.dv).length=L.length:=by simp
 simp only [plV] at hJ
 generalize (jA p.text L p.pr.b7).map DV.bool=PL at *
 generalize L.map ai.dv=V at *
 simp only [HI] at hS hJ ⊢
 simp at hS hJ
 have hpa:takeN (au p w u) 0 21 true=some (.agg (au p w u)):=rfl
 simp [f131,hwd,hV0,hJ,dm,hS]
theorem BA (hp:p.small) (hw:w.ok 4 p.aV) (hu:u.ok 1 p.marks):∃ v,(E tab).F 106 [.agg (au p w u)] st=some (.tuple [v,.int .i64 (aE p)],st)∧Lw 8 ((if aE p=0 then b8 p else []).map It.dv) v:=by
 rw [aY aoG rfl]
 obtain ⟨v,hb,hv⟩:=HC (st:=pst st [.cells .plain (au p w u)] []) hp hw hu
 by_cases h0:aE p=0
 · rw [if_pos h0] at hb hv ⊢
   obtain ⟨ov,fr,J,K,hwk,hA⟩:=Lg (st:=st) (p:=p) (w:=w) (u:=u) (AX p) (t:=v.t) (tk:=v.tk) hv.n hv.1 (au p w u)
   have hrf:=vN (T:=tab) (st:=st) (H:=[.cells .plain (au p w u),.cells .plain [.list 0 0 .no false []],.cells .plain (au p w u),.cells .plain [.list v.t v.n v.tk v.nn ((cA p).map ai.dv)]]) (K:=[]) (f:=.t 18) (params:=[19]) (live:=[6,18]) (assign:=.region s6 [6,7]) (body:=.block 1 (.region sK []))
    (fr:=[(6,.ptr (st.heap.length+1) 0),(18,.fn 131 [] [.ptr (st.heap.length+2) 0,.ptr (st.heap.length+3) 0])]) (g:=131) (first:=[]) (captured:=[.ptr (st.heap.length+2) 0,.ptr (st.heap.length+3) 0]) rfl Mm hwk rfl (by decide)
   have h118:(E tab).F 118 [.agg (au p w u),.list v.t v.n v.tk v.nn ((cA p).map ai.dv)] (pst st [.cells .plain (au p w u),.cells .plain [.list 0 0 .no false []]] [])=some (.fn 131 [] [.ptr (st.heap.length+2) 0,.ptr (st.heap.length+3) 0],pst st [.cells .plain (au p w u),.cells .plain [.list 0 0 .no false []],.cells .plain (au p w u),.cells .plain [.list v.t v.n v.tk v.nn ((cA p).map ai.dv)]] []):=by
    rw [eu ai8 rfl]
    simp [f118]
   have hA':=th (st':=pst st ((HI st (au p w u) (au p w u) ov (.list v.t v.n v.tk v.nn ((cA p).map ai.dv)) fr 0 J).set 4 (loI st 3)) K) hA
   obtain ⟨t',n',tk',nn',e1,e2,e3,e4⟩:=hA'
   refine ⟨.list t' n' tk' nn' ((b8 p).map It.dv),?_,.list _ _ _ _ e3 e2⟩
   obtain ⟨q1,q2,q3,q4,rfl⟩:=ff hA
   rw [h0] at hb ⊢
   have e1':bT st (pst st ((HI st (au p w u) (au p w u) (.list q1 q2 q3 q4 ((bE p.text (cA p) (jA p.text (cA p) p.pr.b7) 0 0 0 (cA p)).map It.dv)) (.list v.t v.n v.tk v.nn ((cA p).map ai.dv)) fr 0 J).set 4 (loI st 3)) K) (.list q1 q2 q3 q4 ((bE p.text (cA p) (jA p.text (cA p) p.pr.b7) 0 0 0 (cA p)).map It.dv))=_:=e1
   unfold b8
   generalize (bE p.text (cA p) (jA p.text (cA p) p.pr.b7) 0 0 0 (cA p)).map It.dv=X at *
   generalize (cA p).map ai.dv=V at *
   simp only [HI] at hrf e1'
   simp only [loI] at hrf e1'
   simp at hrf e1'
   simp [f106,hb,h118,hrf,e1']
 · rw [if_neg h0] at hb hv ⊢
   refine ⟨.list 0 0 .no false [],?_,.list _ _ _ _ (fun h=>by cases h) (fun _=>rfl)⟩
   simp at hb
   simp [f106,hb,h0]
end
section
variable {st:St}
end
section
variable {st:St} {p:bp} {w u:LW}
end
section
variable {st:St}
end
section
variable {st:St}
theorem tY {n:Nat} {xs:List DV} {v:DV} (h:Lw n xs v):∃ t n' tk nn,v=.list t n' tk nn xs∧(xs≠[]→n'=n)∧(nn=true→n'=n)∧(nn=false→xs=[]):=by
 cases h with
 | list t n' tk nn h1 h2=>exact ⟨t,n',tk,nn,rfl,fun hx=>h1 (by cases nn with | true=>rfl | false=>exact absurd (h2 rfl) hx),h1,h2⟩
end
theorem aiD:tab 234=some (.code f234):=by kernel_rfl
theorem ajW:tab 211=some (.code f211):=by kernel_rfl
theorem asW (x y:Int):dX kS [.int .i64 x,.int .i64 y]=some (.int .i64 (min x y)):=by
 have:(if y<x then y else x)=min x y:=by split<;>omega
 simp [dX,kS,this]
def oe (p:bp):Int:=if eK p=true then wd (bAt p.text 0) (min (p.pr.size*p.pr.drop) 64)+4 else 0
theorem dp {p:bp} (h:aE p=0):1≤p.pr.size∧p.pr.size≤64∧0≤p.pr.drop∧p.pr.drop≤4∧0≤p.pr.align∧p.pr.align≤3∧p.text.length≤4096:=by
 obtain ⟨h1,_,_,hpr,_⟩:=dc h
 have:=(fj h1).1
 simp only [cD,fb,Bool.and_eq_true,decide_eq_true_eq] at hpr
 omega
theorem ld {p:bp} (h:eK p=true):aE p=0∧0<p.text.length∧0<(aF p).length:=by
 simp only [eK,Bool.and_eq_true,decide_eq_true_eq] at h
 have h0:aE p=0:=by
  refine Classical.byContradiction fun hc => ?_
  have:aF p=[]:=by unfold aF;rw [if_neg hc]
  rw [this] at h;simp at h
 have hm:=(kz p).at_ ((aF p)[0]'h.2.1) (List.getElem_mem _)
 exact ⟨h0,by omega,h.2.1⟩
theorem JJ (p:bp):0≤oe p∧oe p≤68∧(eK p=true→4≤oe p):=by
 unfold oe
 by_cases h:eK p=true
 · have hc:=dp (ld h).1
   have h2:2≤p.pr.drop:=by simp only [eK,Bool.and_eq_true,decide_eq_true_eq] at h;exact h.1
   have hm:(2:Int)≤p.pr.size*p.pr.drop:=by
    have:=Int.mul_le_mul hc.1 h2 (by omega) (by omega);omega
   have h1:1≤min (p.pr.size*p.pr.drop) 64:=by omega
   have h3:min (p.pr.size*p.pr.drop) 64≤64:=by omega
   have:=pA (bAt p.text 0) h1 h3
   rw [if_pos h];omega
 · rw [if_neg h];exact ⟨by omega,by omega,fun e=>absurd e h⟩
section
variable {st:St} {p:bp} {w u:LW}
theorem xh {t n:Nat} {tk:Tk} {nn:Bool} (h6:aF p≠[]→n=6):(E tab).F 234 [.agg (au p w u),.list t n tk nn ((aF p).map ai.dv)] st=some (.int .i64 (oe p),st):=by
 rw [aY aiD rfl]
 have hV0:((aF p).map ai.dv).length=(aF p).length:=by simp
 have hpd:=C0 (p:=p) (w:=w) (u:=u)
 unfold oe
 by_cases h1:2≤p.pr.drop
 · have h1':¬ p.pr.drop<2:=by omega
   by_cases h2:0<(aF p).length
   · have h2':¬ ((aF p).length:Int)=0:=by omega
     have h2b:¬ aF p=[]:=by intro e;rw [e] at h2;simp at h2
     obtain rfl:=h6 h2b
     have g0:=rM (L:=aF p) h2
     have l0:0<((aF p).map ai.dv).length:=by simpa using h2
     by_cases h3:((aF p).getD 0 mz).k=1
     · have hb:eK p=true:=by simp only [eK,h1,h2,h3,decide_true,Bool.true_and,beq_self_eq_true]
       rw [if_pos hb]
       obtain ⟨h0,ht,_⟩:=ld hb
       have hc:=dp h0
       have hm:(2:Int)≤p.pr.size*p.pr.drop∧p.pr.size*p.pr.drop≤256:=by
        have a:=Int.mul_le_mul hc.1 h1 (by omega) (by omega)
        have b:=Int.mul_le_mul hc.2.1 hc.2.2.2.1 hc.2.2.1 (by omega)
        omega
       have hm1:1≤min (p.pr.size*p.pr.drop) 64:=by omega
       have hm3:min (p.pr.size*p.pr.drop) 64≤64:=by omega
       have hww:=pA (bAt p.text 0) hm1 hm3
       have hmin:=asW (p.pr.size*p.pr.drop) 64
       have hsl:bX true 1 (.str p.text) none (some (.int .i64 1)) none=some (.str (p.text.take 1)):=by rw [CZ (by omega) (by omega)];simp
       have hW:∀ st,(E tab).F 17 [.str (p.text.take 1),.int .i64 (min (p.pr.size*p.pr.drop) 64)] st=some (.tuple [.int .i64 (wd (bAt p.text 0) (min (p.pr.size*p.pr.drop) 64)),.int .i64 0],st):=by
        intro st
        have e:p.text.take 1=[bAt p.text 0]:=by
         cases hs:p.text with
         | nil=>rw [hs] at ht;simp at ht
         | cons a r=>simp [bAt]
        rw [tB,e]
        have hw:IntKind.i64.wrap (wd (bAt p.text 0) (min (p.pr.size*p.pr.drop) 64))=wd (bAt p.text 0) (min (p.pr.size*p.pr.drop) 64):=aI (by omega)
        simp only [eM]
        rw [if_pos ⟨hm1,hm3⟩]
        simp [tw,hw]
       have hw2:IntKind.i64.wrap (p.pr.size*p.pr.drop)=p.pr.size*p.pr.drop:=aI (by omega)
       have hw3:IntKind.i64.wrap (wd (bAt p.text 0) (min (p.pr.size*p.pr.drop) 64)+4)=wd (bAt p.text 0) (min (p.pr.size*p.pr.drop) 64)+4:=aI (by omega)
       generalize (aF p).getD 0 mz=m at *
       generalize (aF p).map ai.dv=V at *
       have g0':V[0]'l0=m.dv:=by rw [List.getElem?_eq_getElem l0] at g0;exact Option.some.inj g0
       generalize wd (bAt p.text 0) (min (p.pr.size*p.pr.drop) 64)=W at *
       have ht1:(1:Int)≤p.text.length:=by omega
       simp [f234,hpd,h1',hV0,h2b,h2',g0,g0',l0,ai.dv,ai.cs,h3,hw2,hw3,hW,hsl,hmin]
     · have hb:¬ eK p=true:=by
        simp only [eK,Bool.and_eq_true]
        rintro ⟨_,_,h⟩
        exact h3 (by simpa using h)
       rw [if_neg hb]
       generalize (aF p).getD 0 mz=m at *
       generalize (aF p).map ai.dv=V at *
       have g0':V[0]'l0=m.dv:=by rw [List.getElem?_eq_getElem l0] at g0;exact Option.some.inj g0
       simp [f234,hpd,h1',hV0,h2b,h2',g0,g0',l0,ai.dv,ai.cs,h3]
   · have h2':aF p=[]:=List.length_eq_zero_iff.1 (by omega)
     have hb:¬ eK p=true:=by simp [eK,h2']
     rw [if_neg hb,h2']
     simp [f234,hpd,h1']
 · have h1':p.pr.drop<2:=by omega
   have hb:¬ eK p=true:=by simp only [eK,Bool.and_eq_true,decide_eq_true_eq];rintro ⟨h,_⟩;exact h1 h
   rw [if_neg hb]
   generalize (aF p).map ai.dv=V at *
   simp [f234,hpd,h1']
theorem G9 (hp:p.small) (hw:w.ok 4 p.aV) (hu:u.ok 1 p.marks):(E tab).F 211 [.agg (au p w u)] st=some (.tuple [.int .i64 (oe p),.int .i64 (aE p)],st):=by
 rw [aY ajW rfl]
 obtain ⟨_,hm,v,rfl,hv⟩:=uy p hp w u hw hu (pst st [.cells .plain (au p w u)] [])
 have hc:=fun st=>xh (st:=st) (p:=p) (w:=w) (u:=u) (t:=v.t) (tk:=v.tk) (nn:=v.nn) hv.n
 by_cases h0:aE p=0
 · generalize (aF p).map ai.dv=V at *
   simp [f211,hm,h0,hc]
 · have hb:¬ eK p=true:=fun h=>h0 (ld h).1
   have hcp:oe p=0:=by unfold oe;rw [if_neg hb]
   generalize (aF p).map ai.dv=V at *
   simp [f211,hm,h0,hcp]
structure Ln where
 f:Int
 t:Int
 x:Int
 w:Int
 n:Int
 h:Bool
 g:Int
def Ln.cs (l:Ln):List DV:=[.int .i64 l.f,.int .i64 l.t,.int .i64 l.x,.int .i64 l.w,.int .i64 l.n,.bool l.h,.int .i64 l.g]
def Ln.dv (l:Ln):DV:=.agg l.cs
end
section
variable {st:St} {l:List It} {v:DV} {H:List HO} {K:List Nat}
end
theorem ani:tab 322=some (.code As):=by kernel_rfl
def jd:List It→Int
 | []=>0
 | x::r=>x.s+jd r
def jn:List It→Int
 | []=>0
 | x::r=>x.h+jn r
theorem ux:∀ a b,jd (a++b)=jd a+jd b
 | [],b=>by simp [jd]
 | x::a,b=>by simp only [List.cons_append,jd,ux a b];omega
theorem vu:∀ a b,jn (a++b)=jn a+jn b
 | [],b=>by simp [jn]
 | x::a,b=>by simp only [List.cons_append,jn,vu a b];omega
def okS (l:List It):Prop:=∀ x∈l,0≤x.s∧x.s≤4095∧0≤x.h∧x.h≤4095
theorem afU {l:List It} (h:bD l=0):okS l:=by
 unfold bD at h
 split at h
 · omega
 · split at h
   · omega
   · rename_i h2
     intro x hx
     rw [Bool.not_eq_true,List.any_eq_false] at h2
     have:=h2 x hx
     simp [fk,oc,bg] at this
     omega
theorem CM:∀ {l:List It},okS l→0≤jd l∧jd l≤4095*l.length∧0≤jn l∧jn l≤4095*l.length
 | [],_=>by simp [jd,jn]
 | x::r,h=>by
   have h1:=h x (List.mem_cons_self ..)
   have h2:=CM (l:=r) fun y hy=>h y (List.mem_cons_of_mem _ hy)
   simp only [jd,jn,List.length_cons]
   omega
def zI (l:List It) (a b:Int):DV:=
 if dK l a b≠0 then .tuple [.int .i64 0,.int .i64 0,.int .i64 (dK l a b)]
 else .tuple [.int .i64 (jd ((l.drop a.toNat).take (bn l a.toNat b.toNat-a.toNat))),.int .i64 (jn ((l.drop a.toNat).take (bn l a.toNat b.toNat-a.toNat))),.int .i64 0]
section
variable {st:St} {l:List It} {v:DV}
theorem TE (l':List It) {v':DV} (hv':Its st l' v') (hok:okS l') (hl:l'.length≤8192) (K:List Nat):∀ (r d:List It) (H:List HO),l'=d++r →
 ∃ J fr,(E tab).C tf [(10,.int .i64 (jd d)),(11,.int .i64 (jn d)),(24,v'),(25,.int .i64 l'.length),(26,.int .i64 d.length)] (pst st H K) =
   some (.exit 0,[(10,.int .i64 (jd l')),(11,.int .i64 (jn l'))]++fr,pst st (H++J) K):=by
 intro r
 induction r with
 | nil=>
   intro d H hd
   refine ⟨[],[(24,v'),(25,.int .i64 l'.length),(26,.int .i64 l'.length),(27,.bool false)],?_⟩
   rw [aj (L:=tf) rfl]
   simp [x8,hd]
 | cons x r ih=>
   intro d H hd
   have h0:d.length<l'.length:=by simp [hd]
   have hx:l'[d.length]? = some x:=by simp [hd]
   have hw1:IntKind.i64.wrap ((d.length:Int)+1)=((d++[x]).length:Nat):=by rw [aI (by omega)];simp
   have e1:=fun st'=>dR hv' h0 .i64 st'
   have e2:=fun H K=>pB hv' hx H K
   simp only [It.dv,It.cs] at e2
   have hs:=CM (l:=d++[x]) fun y hy=>hok y (by rw [hd];simp at hy ⊢;rcases hy with h | h;exact .inl h;exact .inr (.inl h))
   have hlen:(d++[x]).length≤8192:=by have:=congrArg List.length hd;simp at this ⊢;omega
   have eS:jd (d++[x])=jd d+x.s:=by rw [ux];simp [jd]
   have eH:jn (d++[x])=jn d+x.h:=by rw [vu];simp [jn]
   have w2:IntKind.i64.wrap (jd d+x.s)=jd (d++[x]):=by rw [eS,aI (by omega)]
   have w3:IntKind.i64.wrap (jn d+x.h)=jn (d++[x]):=by rw [eH,aI (by omega)]
   obtain ⟨J,fr,hJ⟩:=ih (d++[x]) (H++[.cells .plain x.cs]) (by simp [hd])
   refine ⟨.cells .plain x.cs::J,fr,?_⟩
   simp only [List.length_append,List.length_singleton] at hJ hw1
   simp [It.cs] at hJ
   rw [aj (L:=tf) rfl]
   simp [x8,h0,e1,e2,It.cs,hw1,w2,w3,hJ]
theorem GK (hv:Its st l v) (a b:Int):(E tab).F 322 [v,.int .i64 a,.int .i64 b] st=some (zI l a b,st):=by
 rw [aY ani rfl]
 have e0:=fun st'=>cO hv st'
 have e1:=qO (hv.inn [] []) a b
 unfold zI
 by_cases h1:dK l a b=0
 · obtain ⟨h3,h4,h5,h6⟩:=l4 h1
   obtain ⟨hok,hlen⟩:=ik h3
   have hok2:=afU h3
   obtain ⟨A,rfl⟩:=Int.eq_ofNat_of_zero_le h4
   obtain ⟨B,rfl⟩:=Int.eq_ofNat_of_zero_le (show 0≤b by omega)
   obtain ⟨v',et,hv'⟩:=oP (hv.inn [] []) (by omega) A B (by omega) (by omega)
   have hv':=Vw.out hv'
   have hlt:=lx l A B
   have hok':okS ((l.drop A).take (bn l A B-A)):=fun y hy=>hok2 y (List.mem_of_mem_drop (List.mem_of_mem_take hy))
   have hlen':((l.drop A).take (bn l A B-A)).length≤8192:=by simp;omega
   obtain ⟨J,fr,hL⟩:=TE _ hv' hok' hlen' [] _ [] [] rfl
   have e3:=fun st'=>cO hv' st'
   simp only [Int.toNat_natCast]
   generalize ((l.drop A).take (bn l A B-A))=l' at *
   simp [jd,jn] at hL
   simp [As,e0,e1,e3,h1,et,hL]
 · simp [As,e1,h1]
end
structure Sl where
 x:Int
 w:Int
def Sl.cs (s:Sl):List DV:=[.int .i64 s.x,.int .i64 s.w]
def Sl.dv (s:Sl):DV:=.agg s.cs
theorem zM (s:Sl):dy 2 true s.dv:=⟨rfl,rfl,rfl⟩
theorem tW {l:List Sl}:∀ y∈l.map Sl.dv,dy 2 true y:=fun y hy=>by obtain ⟨x,_,rfl⟩:=List.mem_map.1 hy;exact zM x
abbrev Sls (st:St) (l:List Sl) (v:DV):Prop:=Vw st 2 true (l.map Sl.dv) v
structure Pc where
 a:Int
 b:Int
 wide:Bool
 hy:Bool
 n:Int
def Pc.cs (p:Pc):List DV:=[.int .i64 p.a,.int .i64 p.b,.bool p.wide,.bool p.hy,.int .i64 p.n]
def Pc.dv (p:Pc):DV:=.agg p.cs
theorem akX (p:Pc):dy 5 true p.dv:=⟨rfl,rfl,rfl⟩
theorem amm:tab 113=some (.code f113):=by kernel_rfl
theorem ao1:tab 114=some (.code f114):=by kernel_rfl
theorem apq:tab 126=some (.code f126):=by kernel_rfl
theorem aj3:tab 127=some (.code f127):=by kernel_rfl
theorem apl:tab 128=some (.code f128):=by kernel_rfl
theorem ap4:tab 129=some (.code f129):=by kernel_rfl
theorem apW:tab 130=some (.code f130):=by kernel_rfl
theorem alV:tab 140=some (.code f140):=by kernel_rfl
theorem alI:tab 141=some (.code f141):=by kernel_rfl
theorem apn:tab 142=some (.code f142):=by kernel_rfl
def jK (s:Sl):Bool:=bg s.x&&bg s.w
theorem R9 (s:Sl) (st:St):(E tab).F 140 [s.dv] st=some (.bool (jK s),st):=by
 rw [aY alV rfl]
 unfold jK bg
 by_cases h1:0≤s.x
 · by_cases h2:s.x≤4095
   · by_cases h3:0≤s.w
     · simp [f140,Sl.dv,Sl.cs,h1,h2,h3]
     · simp [f140,Sl.dv,Sl.cs,h1,h2,h3]
   · simp [f140,Sl.dv,Sl.cs,h1,h2]
 · simp [f140,Sl.dv,Sl.cs,h1]
def oN (l:List Sl) (rest:Sl) (n:Nat):Sl:=(l[n]?).getD rest
def bA (l:List Sl) (rest:Sl) (n:Int):Sl:=if n<0 then ⟨0,0⟩ else oN l rest n.toNat
section
variable {st:St} {l:List It} {v:DV} {sl:List Sl} {sv:DV} {rest:Sl}
theorem tt (hv:Sls st sl sv) (n:Int):(E tab).F 114 [sv,rest.dv,.int .i64 n] st=some ((bA sl rest n).dv,st):=by
 rw [aY ao1 rfl]
 have e0:=fun st'=>Vw.len hv st'
 simp only [List.length_map] at e0
 unfold bA oN
 by_cases h1:n<0
 · simp [f114,Sl.dv,Sl.cs,h1]
 · obtain ⟨n,rfl⟩:=Int.eq_ofNat_of_zero_le (show 0≤n by omega)
   by_cases h2:n<sl.length
   · have hx:sl[n]? = some sl[n]:=List.getElem?_eq_getElem h2
     have e1:=fun st'=>Vw.aL hv (i:=n) (by simpa using h2) .i64 st'
     have e2:=fun H K=>Vw.load (Vw.inn hv H K) tW rfl (i:=n) (x:=sl[n].dv) (by simp [hx])
     simp only [Sl.dv,Sl.cs] at e2
     simp [f114,Sl.dv,Sl.cs,e0,h2,e1,e2]
   · simp [f114,Sl.dv,Sl.cs,e0,h2]
def cw (sl:List Sl) (rest:Sl):Int:=if 256<sl.length then 3 else if sl.all jK&&jK rest then 0 else 2
theorem abi (all:List Sl) (hl:all.length≤1000) (t:Nat) (tk:Tk) (K:List Nat):∀ (r d:List Sl) (H:List HO),all=d++r →
 ∃ J fr,(E tab).C mJ [(14,.list t 2 tk true (all.map Sl.dv)),(15,.int .i64 all.length),(16,.int .i64 d.length)] (pst st H K) =
   some (if r.all jK then (.exit 0,fr,pst st (H++J) K) else (.ret,[(4,.int .i64 2)],pst st (H++J) K)):=by
 intro r
 induction r with
 | nil=>
   intro d H hd
   refine ⟨[],[(14,.list t 2 tk true (all.map Sl.dv)),(15,.int .i64 all.length),(16,.int .i64 all.length),(17,.bool false)],?_⟩
   rw [aj (L:=mJ) rfl]
   simp [sS,hd]
 | cons x r ih=>
   intro d H hd
   have h0:d.length<all.length:=by simp [hd]
   have hg:all[d.length]=x:=by simp [hd]
   have hw1:IntKind.i64.wrap ((d.length:Int)+1)=((d++[x]).length:Nat):=by rw [aI (by omega)];simp
   have e1:=fun st=>R9 x st
   simp only [Sl.dv,Sl.cs] at e1
   rw [List.all_cons]
   cases hm:jK x with
   | false=>
     rw [hm] at e1
     refine ⟨[.cells .plain x.cs],[],?_⟩
     rw [aj (L:=mJ) rfl]
     simp [sS,h0,hg,Sl.dv,Sl.cs,e1]
   | true=>
     rw [hm] at e1
     obtain ⟨J,fr,hJ⟩:=ih (d++[x]) (H++[.cells .plain x.cs]) (by simp [hd])
     refine ⟨.cells .plain x.cs::J,fr,?_⟩
     rw [Bool.true_and]
     generalize r.all jK=b at hJ ⊢
     simp only [List.length_append,List.length_singleton] at hJ hw1
     simp [Sl.cs,Sl.dv] at hJ
     rw [aj (L:=mJ) rfl]
     simp [sS,h0,hg,Sl.dv,Sl.cs,e1,hw1,hJ]
theorem wB (hv:Sls st sl sv):(E tab).F 126 [sv,rest.dv] st=some (.int .i64 (cw sl rest),st):=by
 rw [aY apq rfl]
 have e0:=fun st'=>Vw.len hv st'
 simp only [List.length_map] at e0
 unfold cw
 by_cases h:256<sl.length
 · have h':(256:Int)<sl.length:=by omega
   simp [f126,Sl.dv,Sl.cs,e0,h,h']
 have h':¬ (256:Int)<sl.length:=by omega
 have hn:=Vw.news (Vw.inn hv [.cells .plain rest.cs] [])
 simp only [List.length_map] at hn
 have hfl:=iu (n:=2) (ag:=true) (ys:=sl.map Sl.dv) tW
 have hdm:=di hfl
 have hch:=eR (n:=2) (ag:=true) (ys:=sl.map Sl.dv) tW
 simp only [List.length_map] at hch
 have hL:=abi (st:=st) (sl++[rest]) (by simp;omega) st.cur (.own st.aU.length (if sl.length=0 then 0 else 1)) [if sl.length=0 then 0 else 1] (sl++[rest]) [] [.cells .plain rest.cs] rfl
 obtain ⟨J,fr,hL⟩:=hL
 have ea:((sl++[rest]).all jK)=(sl.all jK&&jK rest):=by simp
 rw [ea] at hL
 have hb1:sl.length*16≤140737488355328:=by omega
 have hb2:sl.length≤140737488355328:=by omega
 have hb3:(sl.length+1)*16≤140737488355328:=by omega
 have hb4:sl.length+1≤140737488355328:=by omega
 generalize (sl.all jK&&jK rest)=b at *
 have hreg:(E tab).C (.ar xE [] [(2,[0]),(3,[0])] [14,15,16]) [(0,sv),(3,.ptr st.heap.length 0),(9,.bool false)] (pst st [.cells .plain rest.cs] []) =
  some (.normal,[(14,.list st.cur 2 (.own st.aU.length (if sl.length=0 then 0 else 1)) true ((sl++[rest]).map Sl.dv)),(15,.int .i64 (sl++[rest]).length),(16,.int .i64 0)],pst st [.cells .plain rest.cs] [if sl.length=0 then 0 else 1]):=by
  have hvi:=hv.inn [.cells .plain rest.cs] []
  by_cases hz:sl=[]
  · subst hz
    have a1:=ix (t:=0) (n':=0) (by_:=16) (tk:=.no) (nn:=false) (ys:=[]) hvi
    have a2:=kx (st:=st) (H:=[.cells .plain rest.cs]) (K:=[]) (n:=2) (n':=0) (t:=0) (t':=st.cur) (by_:=16) (ag:=true) (tk:=.no) (tk':=.tight) (nn:=false) (xs:=[]) (ys:=[rest.dv]) (.inl rfl) (by omega) (by simp) (by simp [zM]) (by simp [az]) (by simp [az])
    simp [Sl.dv,Sl.cs] at a1 a2
    have hp4:bl (ab tab) (.append 2 true 16 (.c (.list 0 0 .no false [])) (.t 10))=true:=rfl
    simp [iS,mD,tv,tP,bl,bb,bm,chunk,Sl.dv,Sl.cs,a1,a2]
  · have hp:0<sl.length:=List.length_pos_iff.2 hz
    have hne:¬ sl.length=0:=by omega
    have a1:=C5 (t:=0) (n':=0) (by_:=16) (tk:=.no) hvi tW (by simpa using hz) (by omega) (by simp [az];omega) (by simp [az];omega)
    have a2:=oj (st:=st) (H:=[.cells .plain rest.cs]) (K:=[0]) (n:=2) (t:=st.cur) (t':=st.cur) (by_:=16) (k:=0) (s:=0) (ag:=true) (tk':=.tight) (xs:=sl.map Sl.dv) (ys:=[rest.dv]) rfl (by omega) (by simp) (by simp [zM]) (by simp [az];omega) (by simp [az];omega)
    simp [Sl.dv,Sl.cs] at a1 a2
    have w1:((sl.length:Int)+1)=((sl.length+1:Nat):Int):=by simp
    simp [iS,mD,tv,tP,bl,bb,bm,chunk,Sl.dv,Sl.cs,a1,a2,hne,hz]
 have h0:(E tab).C (.region x9 [0,3]) (bw [sv,rest.dv] 0) (pst st [] [])=some (.normal,[(0,sv),(3,.ptr st.heap.length 0)],pst st [.cells .plain rest.cs] []):=by simp [Sl.dv,Sl.cs]
 have h1:(E tab).C (.seq (.region xR [0,3,9]) (.cond (.t 9) (.seq (.region wY [4]) .ret) .skip)) [(0,sv),(3,.ptr st.heap.length 0)] (pst st [.cells .plain rest.cs] [])=some (.normal,[(0,sv),(3,.ptr st.heap.length 0),(9,.bool false)],pst st [.cells .plain rest.cs] []):=by simp [e0,h,h']
 rw [show f126.body=(.seq (.region x9 [0,3]) (.seq (.seq (.region xR [0,3,9]) (.cond (.t 9) (.seq (.region wY [4]) .ret) .skip)) (.seq (.seq (.ar xE [] [(2,[0]),(3,[0])] [14,15,16]) (.block 0 mJ)) (.seq (.region BO [4]) .ret)))) from rfl,cN,h0]
 simp only
 rw [cN,h1]
 simp only
 rw [cN,cN,hreg]
 simp only [List.length_nil] at hL
 simp only [ow]
 have hL':=hL
 simp only [Int.natCast_zero] at hL'
 erw [hL']
 cases b<;>simp [f126,h]
end
structure BrS (N:Nat) (lv sv ov:DV) (rest:Sl) (G:List HO):Prop where
 r0:rowAt G 0=some (.plain,[sv])
 r1:rowAt G 1=some (.plain,rest.cs)
 r2:rowAt G 2=some (.plain,[lv,.fn 127 [] [.ptr N 0,.ptr (N+1) 0],ov])
theorem BrS.app {N:Nat} {lv sv ov:DV} {rest:Sl} {G:List HO} (h:BrS N lv sv ov rest G) (X:List HO):BrS N lv sv ov rest (G++X):=⟨eV h.r0 X,eV h.r1 X,eV h.r2 X⟩
section
variable {st:St} {l:List It} {lv sv ov:DV} {sl:List Sl} {rest:Sl} {G:List HO} {K:List Nat}
theorem IY (hs:Sls st sl sv) (hG:BrS st.heap.length lv sv ov rest G) (n:Int):(E tab).F 127 [.int .i64 n,.ptr st.heap.length 0,.ptr (st.heap.length+1) 0] (pst st G K)=some ((bA sl rest n).dv,pst st (G++[.cells .plain (bA sl rest n).cs]) K):=by
 rw [eu aj3 rfl]
 have e1:=tt (rest:=rest) (hs.inn (G++[.cells .plain [.int .i64 0,.int .i64 0]]) K) n
 have hr0:=eV hG.r0 [.cells .plain [.int .i64 0,.int .i64 0]]
 have hr1:=eV hG.r1 [.cells .plain [.int .i64 0,.int .i64 0]]
 generalize bA sl rest n=s at *
 simp only [Sl.cs,Sl.dv] at hr1 e1
 simp [f127,hr0,hr1,e1,Sl.cs,Sl.dv]
theorem AM (hv:Its st l lv) (hl:l.length≤140737488355328) (hG:BrS st.heap.length lv sv ov rest G) (i:Nat) (hi:i≤l.length):(E tab).F 141 [.ptr (st.heap.length+2) 0,.int .i64 i] (pst st G K)=some (.bool (ny l i),pst st G K):=by
 have e0:=fun st'=>cO hv st'
 have hr:=hG.r2
 rw [eu alI rfl]
 unfold ny
 by_cases h:i=l.length
 · simp [f141,hr,e0,h]
 have h0:i<l.length:=by omega
 have hb:(i==l.length)=false:=by simp [h]
 have h':¬ (i:Int)=l.length:=by omega
 have hx:l[i]? = some l[i]:=List.getElem?_eq_getElem h0
 have e1:=fun st'=>dR hv h0 .i64 st'
 have e2:=fun st'=>gh hv hx (off:=0) (by omega) st'
 have e3:=fun H K=>kL hv hx H K
 rw [hx,hb]
 generalize l[i]=x at *
 by_cases k3:x.k=3
 · simp [f141,hr,e0,h,h',e1,e2,e3,k3]
 by_cases k2:x.k=2
 · by_cases hp:0<i
   · have h1:i-1<l.length:=by omega
     have hy:l[i-1]? = some l[i-1]:=List.getElem?_eq_getElem h1
     have q1:=fun st'=>dR hv h1 .i64 st'
     have q2:=fun st'=>gh hv hy (off:=0) (by omega) st'
     have q3:=fun H K=>kL hv hy H K
     have w:IntKind.i64.wrap ((i:Int)-1)=((i-1:Nat):Int):=by rw [aI (by omega)];omega
     rw [hy]
     generalize l[i-1]=y at *
     simp [f141,hr,e0,h,h',e1,e2,e3,k2,hp,w,q1,q2,q3]
   · simp [f141,hr,e0,h,h',e1,e2,e3,k2,hp]
 · simp [f141,hr,e0,h,h',e1,e2,e3,k3,k2]
theorem Jv (hv:Its st l lv) (hc:bD l=0) (hG:BrS st.heap.length lv sv ov rest G) (i:Nat) (hi:i<l.length) (a:Int) (ha:0≤a∧a≤100000000000):(E tab).F 142 [.ptr (st.heap.length+2) 0,.int .i64 i,.int .i64 a] (pst st G K)=some (.int .i64 (cH a l[i]),pst st G K):=by
 have hr:=hG.r2
 obtain ⟨hok,hlen⟩:=ik hc
 rw [eu apn rfl]
 have hx:l[i]? = some l[i]:=List.getElem?_eq_getElem hi
 have hxm:=hok _ (List.getElem_mem hi)
 have e1:=fun st'=>dR hv hi .i64 st'
 have e2:=fun st'=>gh hv hx (off:=0) (by omega) st'
 have e3:=fun H K=>kL hv hx H K
 have e4:=fun st'=>gh hv hx (off:=3) (by omega) st'
 have e5:=fun H K=>Cm hv hx H K
 have hd:(l.drop i).take (i+1-i)=[l[i]]:=by rw [show i+1-i=1 by omega,List.drop_eq_getElem_cons hi];rfl
 have hs:=pE hxm ha.1
 by_cases k1:l[i].k=1
 · have w1:IntKind.i64.wrap (a+l[i].w)=cH a l[i]:=by simp only [cH,k1,true_or,if_true] at hs ⊢;exact aI (by omega)
   generalize l[i]=x at *
   simp [f142,hr,e1,e2,e3,e4,e5,k1,w1]
 by_cases k2:l[i].k=2
 · have w1:IntKind.i64.wrap (a+l[i].w)=cH a l[i]:=by simp only [cH,k2,or_true,if_true] at hs ⊢;exact aI (by omega)
   generalize l[i]=x at *
   simp [f142,hr,e1,e2,e3,e4,e5,k1,k2,w1]
 by_cases k4:l[i].k=4
 · obtain ⟨v',hsl,hv'⟩:=Vw.slice hv (by omega) p4 (lo:=i) (hi:=i+1) (by omega) (by simp;omega) .i64 .i64
   have w1:IntKind.i64.wrap ((i:Int)+1)=((i+1:Nat):Int):=by rw [aI (by omega)];simp
   rw [← List.map_drop,← List.map_take,hd] at hv'
   have hc1:bD [l[i]]=0:=by
    have:l.any fk=false:=by
     unfold bD at hc
     split at hc
     · omega
     · split at hc
       · omega
       · rename_i h;simpa using h
    have ho:=List.any_eq_false.1 this _ (List.getElem_mem hi)
    simp only [Bool.not_eq_true] at ho
    simp [bD,ho]
   have eS:cH a l[i]=gS a:=by simp [cH,k4]
   have hmin:dX kS [.int .i64 a,.int .i64 4095]=some (.int .i64 (min a 4095)):=by
    have:(if (4095:Int)<a then (4095:Int) else a)=min a 4095:=by split<;>omega
    simp [dX,kS,this]
   have hmw:bg (min a 4095)=true:=by simp [bg];omega
   have hwid:=BW (hv'.inn G K) 0 1 (min a 4095)
   have hrg:dK [l[i]] 0 1=0:=by unfold dK;rw [if_neg (by simp),hc1]
   have hwv:LD [l[i]] 0 1 (min a 4095)=.tuple [.int .i64 (gS (min a 4095)-min a 4095),.int .i64 0]:=by
    unfold LD
    rw [hrg,hmw]
    simp [eB,bn,kB,k4,goI,cH]
   rw [hwv] at hwid
   rw [eS]
   by_cases hm:4095<a
   · have q1:IntKind.i64.wrap (a.tdiv 48)=a/48:=IntWalk.i64_quo _ _ (by omega)
     have q2:IntKind.i64.wrap (a/48+1)=a/48+1:=aI (by omega)
     have q3:IntKind.i64.wrap ((a/48+1)*48)=gS a:=aI (by omega)
     simp at hsl w1
     simp [f142,hr,e1,e2,e3,k1,k2,k4,hsl,w1,hmin,hwid,hm,q1,q2,q3]
   · have em:min a 4095=a:=by omega
     rw [em] at hwid hmin
     have q1:IntKind.i64.wrap (a+(gS a-a))=gS a:=by rw [aI (by unfold gS;omega)];omega
     simp at hsl w1
     simp [f142,hr,e1,e2,e3,k1,k2,k4,hsl,w1,hmin,hwid,hm,q1]
 · have w1:cH a l[i]=a:=by simp [cH,k1,k2,k4]
   rw [w1]
   simp [f142,hr,e1,e2,e3,k1,k2,k4]
theorem yn (x y z:DV) (st:St):(E tab).C jb [(0,x),(1,y),(26,z)] st=(E tab).C jb [(0,x),(1,y)] st:=by
 unfold jb;rw [wj];rfl
theorem yp (hv:Its st l lv) (hl:l.length≤140737488355328) (hG:BrS st.heap.length lv sv ov rest G):∀ (f i:Nat),l.length≤i+f→i≤l.length →
 ∃ fr,(E tab).C jb [(0,.ptr (st.heap.length+2) 0),(1,.int .i64 i)] (pst st G K)=some (.exit 0,[(0,.ptr (st.heap.length+2) 0),(1,.int .i64 (ca l f i:Nat))]++fr,pst st G K):=by
 have e0:=fun st'=>cO hv st'
 have hr:=hG.r2
 intro f
 induction f with
 | zero=>
   intro i h1 h2
   obtain rfl:i=l.length:=by omega
   refine ⟨[(46,.bool false)],?_⟩
   rw [aj (L:=jb) rfl]
   simp [oG,hr,e0,ca]
 | succ f ih=>
   intro i h1 h2
   by_cases h0:i<l.length
   · have hx:l[i]? = some l[i]:=List.getElem?_eq_getElem h0
     have e1:=fun st'=>dR hv h0 .i64 st'
     have e2:=fun st'=>gh hv hx (off:=0) (by omega) st'
     have e3:=fun H K=>kL hv hx H K
     have hw1:IntKind.i64.wrap ((i:Int)+1)=(i+1:Nat):=by rw [aI (by omega)];simp
     by_cases hk:l[i].k=2
     · have eg:ca l (f+1) i=ca l f (i+1):=by simp [ca,hx,hk]
       obtain ⟨fr,hJ⟩:=ih (i+1) (by omega) (by omega)
       rw [eg]
       refine ⟨fr,?_⟩
       simp at hJ
       rw [aj (L:=jb) rfl]
       simp [oG,hr,e0,h0,e1,e2,e3,hk,hw1,hJ]
     · have eg:ca l (f+1) i=i:=by simp [ca,hx,hk]
       rw [eg]
       refine ⟨[(46,.bool false)],?_⟩
       rw [aj (L:=jb) rfl]
       simp [oG,hr,e0,h0,e1,e2,e3,hk]
   · have eg:ca l (f+1) i=i:=by simp [ca,h0]
     have h0':¬ (i:Int)<l.length:=by omega
     rw [eg]
     refine ⟨[(46,.bool false)],?_⟩
     rw [aj (L:=jb) rfl]
     simp [oG,hr,e0,h0,h0']
theorem BY (hv:Its st l lv) (hl:l.length≤140737488355328) (hG:BrS st.heap.length lv sv ov rest G) (i:Nat) (hi:i≤l.length):(E tab).F 130 [.ptr (st.heap.length+2) 0,.int .i64 i] (pst st G K)=some (.int .i64 (jx l i:Nat),pst st G K):=by
 have e0:=fun st'=>cO hv st'
 have hr:=hG.r2
 rw [eu apW rfl]
 unfold jx
 by_cases h0:i<l.length
 · have hx:l[i]? = some l[i]:=List.getElem?_eq_getElem h0
   have e1:=fun st'=>dR hv h0 .i64 st'
   have e2:=fun st'=>gh hv hx (off:=0) (by omega) st'
   have e3:=fun H K=>kL hv hx H K
   have hw1:IntKind.i64.wrap ((i:Int)+1)=(i+1:Nat):=by rw [aI (by omega)];simp
   rw [hx]
   by_cases hk:l[i].k=3
   · obtain ⟨fr,hL⟩:=yp (K:=K) hv hl hG l.length (i+1) (by omega) (by omega)
     simp at hL
     simp [f130,hr,e0,h0,e1,e2,e3,hk,hw1,yn,hL]
   · obtain ⟨fr,hL⟩:=yp (K:=K) hv hl hG l.length i (by omega) hi
     simp at hL
     simp [f130,hr,e0,h0,e1,e2,e3,hk,yn,hL]
 · obtain ⟨fr,hL⟩:=yp (K:=K) hv hl hG l.length i (by omega) hi
   simp at hL
   simp [f130,hr,e0,h0,yn,hL]
end
def qt (l:List It) (a:Nat) (X W:Int):Nat→Nat→Option Nat→Option (Nat×Bool)
 | 0,_,best=>best.map (·,false)
 | f+1,i,best=>
   if a<i∧ny l i=true then
    if W<eB l a i X then (match best with | none=>some (i,true) | some c=>some (c,false))
    else qt l a X W f (i+1) (some i)
   else qt l a X W f (i+1) best
theorem DI (l:List It):ny l l.length=true:=by simp [ny]
theorem mK (l:List It) (a:Nat) (X W:Int) (h:a<l.length):∀ (f i:Nat) (best:Option Nat),i+f=l.length+1→(best=none→i≤l.length)→a≤i→(∀ c,best=some c→a<c∧c≤l.length)→∃ b w,qt l a X W f i best=some (b,w)∧a<b∧b≤l.length
 | 0,i,best,h1,h2,h3,h4=>by
   cases best with
   | none=>have:=h2 rfl;omega
   | some c=>exact ⟨c,false,rfl,h4 c rfl⟩
 | f+1,i,best,h1,h2,h3,h4=>by
   unfold qt
   split
   · rename_i hc
     split
     · cases best with
       | none=>exact ⟨i,true,rfl,hc.1,h2 rfl⟩
       | some c=>exact ⟨c,false,rfl,h4 c rfl⟩
     · exact mK l a X W h f (i+1) (some i) (by omega) (fun e=>by cases e) (by omega) (fun c e=>by cases e;omega)
   · rename_i hc
     refine mK l a X W h f (i+1) best (by omega) (fun e => ?_) (by omega) h4
     have:=h2 e
     by_cases hi:i=l.length
     · subst hi;exact absurd ⟨by omega,DI l⟩ hc
     · omega
def ef:Option Nat→Int
 | none => -1
 | some c=>c
def iI (l:List It) (a:Nat) (X:Int):Option Nat→Int
 | none=>0
 | some c=>eB l a c X
def hyI (l:List It) (b:Nat):Bool:=match l[b]? with | some x=>x.y | none=>false
def fx (l:List It) (a:Nat) (s:Sl):Pc:=
 match qt l a s.x s.w (l.length+1-a) a none with
 | some (b,w)=>⟨a,b,w,hyI l b,eB l a b s.x⟩
 | none=>⟨a,-1,false,false,0⟩
section
variable {st:St} {l:List It} {lv sv ov:DV} {sl:List Sl} {rest:Sl} {G:List HO} {K:List Nat}
theorem FN (l:List It) (a:Nat) (X:Int) (i:Nat) (ha:a≤i) (hi:i<l.length) :
 goI X ((l.drop a).take (i+1-a))=cH (goI X ((l.drop a).take (i-a))) l[i] ∧
 goI X ((l.drop a).take (bn l a (i+1)-a))=(if l[i].k=2 then goI X ((l.drop a).take (bn l a i-a)) else cH (goI X ((l.drop a).take (i-a))) l[i]):=by
 have ed:(l.drop a).take (i+1-a)=(l.drop a).take (i-a)++[l[i]]:=by
  rw [show i+1-a=(i-a)+1 by omega,List.take_succ_eq_append_getElem (by simp;omega)]
  congr 2
  rw [List.getElem_drop];congr 1;omega
 have e1:goI X ((l.drop a).take (i+1-a))=cH (goI X ((l.drop a).take (i-a))) l[i]:=by rw [ed,zo];rfl
 refine ⟨e1,?_⟩
 have hx:l[i]? = some l[i]:=List.getElem?_eq_getElem hi
 by_cases hk:l[i].k=2
 · rw [if_pos hk,bn,if_pos ⟨ha,by simp [hx,hk]⟩]
 · rw [if_neg hk,bn,if_neg (by rintro ⟨_,h⟩;simp [hx] at h;exact hk h),e1]
theorem Q6 (hv:Its st l lv) (hc:bD l=0) (hG:BrS st.heap.length lv sv ov rest G) (i:Nat) (hi:i≤l.length) (w0:Int) (hw:-100000000000≤w0∧w0≤100000000000) (y1 y5 y6 y7 y8 y9 y10:DV) :
 ∃ ex,(E tab).C (.seq (.region sn [0,1,5,6,7,8,9,10,11,12,67]) (.cond (.t 67) (.region ou [0,1,5,6,7,8,9,10,11,12]) .skip)) [(0,.ptr (st.heap.length+2) 0),(1,y1),(5,y5),(6,y6),(7,y7),(8,y8),(9,y9),(10,y10),(11,.int .i64 i),(12,.int .i64 w0)] (pst st G K) =
   some (.normal,[(0,.ptr (st.heap.length+2) 0),(1,y1),(5,y5),(6,y6),(7,y7),(8,y8),(9,y9),(10,y10),(11,.int .i64 i),(12,.int .i64 (w0+kB l i))]++ex,pst st G K):=by
 have e0:=fun st'=>cO hv st'
 have hr:=hG.r2
 by_cases h0:i<l.length
 · have hx:l[i]? = some l[i]:=List.getElem?_eq_getElem h0
   have e1:=fun st'=>dR hv h0 .i64 st'
   have e2:=fun st'=>gh hv hx (off:=0) (by omega) st'
   have e3:=fun H K=>kL hv hx H K
   have e4:=fun st'=>gh hv hx (off:=3) (by omega) st'
   have e5:=fun H K=>Cm hv hx H K
   have hb:=(ik hc).1 _ (List.getElem_mem h0)
   by_cases k3:l[i].k=3
   · have ep:kB l i=l[i].w:=by simp [kB,hx,k3]
     have w1:IntKind.i64.wrap (w0+l[i].w)=w0+l[i].w:=aI (by omega)
     rw [ep]
     generalize l[i]=x at *
     refine ⟨[],?_⟩
     simp [hr,e0,h0,e1,e2,e3,e4,e5,k3,w1]
   · have ep:kB l i=0:=by simp [kB,hx,k3]
     rw [ep]
     generalize l[i]=x at *
     refine ⟨[(67,.bool false)],?_⟩
     simp [hr,e0,h0,e1,e2,e3,k3]
 · have ep:kB l i=0:=by simp [kB,h0]
   rw [ep]
   refine ⟨[(67,.bool false)],?_⟩
   simp [hr,e0,h0]
theorem M0 (hv:Its st l lv) (hc:bD l=0) (hG:BrS st.heap.length lv sv ov rest G) (a:Nat) (ha:a<l.length) (X W:Int) (hX:0≤X∧X≤4095) (h:Nat) (hh:rowAt G h=some (.plain,[.int .i64 X,.int .i64 W])) (i:Nat) (hi:i≤l.length) (hai:a≤i) (best:Option Nat) (y9:DV) (ex0:Fr) :
 ∃ ex,(E tab).C (.seq (.region sP [0,1,5,6,7,8,9,10,11,45]) (.cond (.t 45) (.seq (.region si [0,1,5,6,7,8,9,10,11,12]) (.seq (.seq (.region sn [0,1,5,6,7,8,9,10,11,12,67]) (.cond (.t 67) (.region ou [0,1,5,6,7,8,9,10,11,12]) .skip)) (.seq (.seq (.region so [0,1,5,6,7,8,9,10,11,12,85]) (.cond (.t 85) (.seq (.seq (.region sw [0,1,5,8,9,10,11,12,89]) (.cond (.t 89) (.region sr [0,1,5,8,9,10,11,12]) .skip)) (.region sH [0,1,5,6,7,8,9,10,11,12])) .skip)) (.seq (.region sf [0,1,5,6,7,8,9,10,11,95]) (.cond (.t 95) (.exit 0) .skip))))) .skip))
  ([(0,.ptr (st.heap.length+2) 0),(1,.int .i64 a),(5,.ptr (st.heap.length+h) 0),(6,.int .i64 (ef best)),(7,.int .i64 (iI l a X best)),(8,.bool false),(9,y9),(10,.int .i64 (goI X ((l.drop a).take (bn l a i-a)))),(11,.int .i64 i)]++ex0) (pst st G K) =
  some (if a<i∧ny l i=true then
   (if W<eB l a i X then (.exit 0,(match best with
       | none=>[(0,.ptr (st.heap.length+2) 0),(1,.int .i64 a),(5,.ptr (st.heap.length+h) 0),(6,.int .i64 i),(7,.int .i64 (eB l a i X)),(8,.bool true)]
       | some c=>[(0,.ptr (st.heap.length+2) 0),(1,.int .i64 a),(5,.ptr (st.heap.length+h) 0),(6,.int .i64 c),(7,.int .i64 (eB l a c X)),(8,.bool false)])++ex,pst st G K)
   else (.normal,[(0,.ptr (st.heap.length+2) 0),(1,.int .i64 a),(5,.ptr (st.heap.length+h) 0),(6,.int .i64 i),(7,.int .i64 (eB l a i X)),(8,.bool false),(9,y9),(10,.int .i64 (goI X ((l.drop a).take (bn l a i-a)))),(11,.int .i64 i)]++ex,pst st G K))
   else (.normal,[(0,.ptr (st.heap.length+2) 0),(1,.int .i64 a),(5,.ptr (st.heap.length+h) 0),(6,.int .i64 (ef best)),(7,.int .i64 (iI l a X best)),(8,.bool false),(9,y9),(10,.int .i64 (goI X ((l.drop a).take (bn l a i-a)))),(11,.int .i64 i)]++ex,pst st G K)):=by
 obtain ⟨hok,hlen⟩:=ik hc
 have hleg:=AM (K:=K) hv (by omega) hG i hi
 by_cases h1:a<i
 · cases h2:ny l i with
   | false=>
     rw [h2] at hleg
     simp only [Bool.false_eq_true,and_false,if_false]
     refine ⟨[(45,.bool false)],?_⟩
     simp [h1,hleg]
   | true=>
     rw [h2] at hleg
     simp only [h1,and_self,if_true]
     have hp:okW ((l.drop a).take (bn l a i-a)):=fun y hy=>hok y (List.mem_of_mem_drop (List.mem_of_mem_take hy))
     have hlen':((l.drop a).take (bn l a i-a)).length≤8192:=by simp;omega
     have hg:=tm (a:=X) hp (by omega)
     have hwid:eB l a i X=goI X ((l.drop a).take (bn l a i-a))-X+kB l i:=by unfold eB;omega
     generalize goI X ((l.drop a).take (bn l a i-a))=g at *
     obtain ⟨ex9,h9⟩:=Q6 (K:=K) hv hc hG i hi (g-X) (by omega) (.int .i64 a) (.ptr (st.heap.length+h) 0) (.int .i64 (ef best)) (.int .i64 (iI l a X best)) (.bool false) y9 (.int .i64 g)
     have w1:IntKind.i64.wrap (g-X)=g-X:=aI (by omega)
     have hr7:(E tab).C (.region sP [0,1,5,6,7,8,9,10,11,45]) ([(0,.ptr (st.heap.length+2) 0),(1,.int .i64 a),(5,.ptr (st.heap.length+h) 0),(6,.int .i64 (ef best)),(7,.int .i64 (iI l a X best)),(8,.bool false),(9,y9),(10,.int .i64 g),(11,.int .i64 i)]++ex0) (pst st G K) =
      some (.normal,[(0,.ptr (st.heap.length+2) 0),(1,.int .i64 a),(5,.ptr (st.heap.length+h) 0),(6,.int .i64 (ef best)),(7,.int .i64 (iI l a X best)),(8,.bool false),(9,y9),(10,.int .i64 g),(11,.int .i64 i),(45,.bool true)],pst st G K):=by simp [h1,hleg]
     have hr8:(E tab).C (.region si [0,1,5,6,7,8,9,10,11,12]) [(0,.ptr (st.heap.length+2) 0),(1,.int .i64 a),(5,.ptr (st.heap.length+h) 0),(6,.int .i64 (ef best)),(7,.int .i64 (iI l a X best)),(8,.bool false),(9,y9),(10,.int .i64 g),(11,.int .i64 i),(45,.bool true)] (pst st G K) =
      some (.normal,[(0,.ptr (st.heap.length+2) 0),(1,.int .i64 a),(5,.ptr (st.heap.length+h) 0),(6,.int .i64 (ef best)),(7,.int .i64 (iI l a X best)),(8,.bool false),(9,y9),(10,.int .i64 g),(11,.int .i64 i),(12,.int .i64 (g-X))],pst st G K):=by simp [hh,w1]
     rw [← hwid] at h9
     rw [cN,hr7]
     simp only
     rw [acB _ _ _ _ _ true rfl]
     simp only [if_true]
     rw [cN,hr8]
     simp only
     rw [cN,h9]
     simp only
     generalize eB l a i X=w at *
     by_cases hW:W<w
     · have hW':¬ w≤W:=by omega
       simp only [hW,if_true]
       cases best with
       | none=>
         refine ⟨[(9,y9),(10,.int .i64 g),(11,.int .i64 i),(95,.bool true)],?_⟩
         simp [ef,iI,hh,hW]
       | some c=>
         refine ⟨[(9,y9),(10,.int .i64 g),(11,.int .i64 i),(95,.bool true)],?_⟩
         simp [ef,iI,hh,hW,hW']
     · have hW':w≤W:=by omega
       simp only [hW,if_false]
       cases best with
       | none=>
         refine ⟨[(95,.bool false)],?_⟩
         simp [ef,iI,hh,hW]
       | some c=>
         refine ⟨[(95,.bool false)],?_⟩
         simp [ef,iI,hh,hW,hW']
 · simp only [h1,false_and,if_false]
   refine ⟨[(45,.bool false)],?_⟩
   simp [h1]
end
section
variable {st:St} {l:List It} {lv sv ov:DV} {sl:List Sl} {rest:Sl} {G:List HO} {K:List Nat}
theorem WB (hv:Its st l lv) (hc:bD l=0) (hG:BrS st.heap.length lv sv ov rest G) (a:Nat) (X:Int) (hX:0≤X∧X≤4095) (i:Nat) (hi:i≤l.length) (hai:a≤i) (y1 y5 y6 y7 y8:DV) (ex:Fr) :
 ∃ ex',(E tab).C (.seq (.region yO [0,1,5,6,7,8,9,10,11,102]) (.cond (.t 102) (.seq (.region yM [0,1,5,6,7,8,9,10,11]) (.seq (.region yE [0,1,5,6,7,8,9,10,11,115]) (.cond (.t 115) (.region yW [0,1,5,6,7,8,9,10,11]) .skip))) .skip))
  ([(0,.ptr (st.heap.length+2) 0),(1,y1),(5,y5),(6,y6),(7,y7),(8,y8),(9,.int .i64 (goI X ((l.drop a).take (i-a)))),(10,.int .i64 (goI X ((l.drop a).take (bn l a i-a)))),(11,.int .i64 i)]++ex) (pst st G K) =
  some (.normal,[(0,.ptr (st.heap.length+2) 0),(1,y1),(5,y5),(6,y6),(7,y7),(8,y8),(9,.int .i64 (goI X ((l.drop a).take ((if i<l.length then i+1 else i)-a)))),(10,.int .i64 (goI X ((l.drop a).take (bn l a (if i<l.length then i+1 else i)-a)))),(11,.int .i64 i)]++ex',pst st G K):=by
 obtain ⟨hok,hlen⟩:=ik hc
 have e0:=fun st'=>cO hv st'
 have hr:=hG.r2
 by_cases h0:i<l.length
 · obtain ⟨g1,g2⟩:=FN l a X i hai h0
   simp only [h0,if_true]
   rw [g1,g2]
   have hp:okW ((l.drop a).take (i-a)):=fun y hy=>hok y (List.mem_of_mem_drop (List.mem_of_mem_take hy))
   have hlen':((l.drop a).take (i-a)).length≤8192:=by simp;omega
   have hg:=tm (a:=X) hp (by omega)
   generalize goI X ((l.drop a).take (i-a))=g at *
   generalize goI X ((l.drop a).take (bn l a i-a))=e at *
   have hpa:=Jv (K:=K) hv hc hG i h0 g (by omega)
   have hx:l[i]? = some l[i]:=List.getElem?_eq_getElem h0
   have e1:=fun st'=>dR hv h0 .i64 st'
   have e2:=fun st'=>gh hv hx (off:=0) (by omega) st'
   have e3:=fun H K=>kL hv hx H K
   generalize l[i]=x at *
   by_cases hk:x.k=2
   · refine ⟨[(115,.bool false)],?_⟩
     simp [hr,e0,h0,hpa,e1,e2,e3,hk]
   · refine ⟨[],?_⟩
     simp [hr,e0,h0,hpa,e1,e2,e3,hk]
 · simp only [h0,if_false]
   refine ⟨[(102,.bool false)],?_⟩
   simp [hr,e0,h0]
theorem afB (hv:Its st l lv) (hc:bD l=0) (hG:BrS st.heap.length lv sv ov rest G) (a:Nat) (ha:a<l.length) (X W:Int) (hX:0≤X∧X≤4095) (h:Nat) (hh:rowAt G h=some (.plain,[.int .i64 X,.int .i64 W])) :
 ∀ (m i:Nat) (best:Option Nat) (y9 y10:DV),i+m=l.length+1→a≤i→(i≤l.length→y9=.int .i64 (goI X ((l.drop a).take (i-a)))∧y10=.int .i64 (goI X ((l.drop a).take (bn l a i-a)))) →
 ∀ b w,qt l a X W m i best=some (b,w)→∃ fr,(E tab).C ji [(0,.ptr (st.heap.length+2) 0),(1,.int .i64 a),(5,.ptr (st.heap.length+h) 0),(6,.int .i64 (ef best)),(7,.int .i64 (iI l a X best)),(8,.bool false),(9,y9),(10,y10),(11,.int .i64 i)] (pst st G K) =
   some (.exit 0,[(0,.ptr (st.heap.length+2) 0),(1,.int .i64 a),(5,.ptr (st.heap.length+h) 0),(6,.int .i64 b),(7,.int .i64 (eB l a b X)),(8,.bool w)]++fr,pst st G K):=by
 obtain ⟨hok,hlen⟩:=ik hc
 have e0:=fun st'=>cO hv st'
 have hr:=hG.r2
 intro m
 induction m with
 | zero=>
   intro i best y9 y10 hi hai hy b w ho
   have h0:¬ i≤l.length:=by omega
   cases best with
   | none=>simp [qt] at ho
   | some c=>
     simp only [qt,Option.map_some,Option.some.injEq,Prod.mk.injEq] at ho
     obtain ⟨rfl,rfl⟩:=ho
     refine ⟨[(9,y9),(10,y10),(11,.int .i64 i),(35,.bool false)],?_⟩
     rw [aj (L:=ji) rfl]
     simp [px,hr,e0,h0,ef,iI]
 | succ m ih=>
   intro i best y9 y10 hi hai hy b w ho
   have h0:i≤l.length:=by omega
   obtain ⟨rfl,rfl⟩:=hy h0
   have hw1:IntKind.i64.wrap ((i:Int)+1)=((i+1:Nat):Int):=by rw [aI (by omega)];simp
   obtain ⟨ex,hA⟩:=M0 (K:=K) hv hc hG a ha X W hX h hh i h0 hai best (.int .i64 (goI X ((l.drop a).take (i-a)))) [(35,.bool true)]
   have h6:(E tab).C (.seq (.region Cu [0,1,5,6,7,8,9,10,11,35]) (.cond (.t 35) .skip (.exit 0))) (Fr.bK [(0,.ptr (st.heap.length+2) 0),(1,.int .i64 a),(5,.ptr (st.heap.length+h) 0),(6,.int .i64 (ef best)),(7,.int .i64 (iI l a X best)),(8,.bool false),(9,.int .i64 (goI X ((l.drop a).take (i-a)))),(10,.int .i64 (goI X ((l.drop a).take (bn l a i-a)))),(11,.int .i64 i)] [0,1,5,6,7,8,9,10,11]) (pst st G K) =
    some (.normal,[(0,.ptr (st.heap.length+2) 0),(1,.int .i64 a),(5,.ptr (st.heap.length+h) 0),(6,.int .i64 (ef best)),(7,.int .i64 (iI l a X best)),(8,.bool false),(9,.int .i64 (goI X ((l.drop a).take (i-a)))),(10,.int .i64 (goI X ((l.drop a).take (bn l a i-a)))),(11,.int .i64 i)]++[(35,.bool true)],pst st G K):=by simp [hr,e0,h0]
   have turn:∀ (best':Option Nat) (ex:Fr) ,(E tab).C (.seq (.region sP [0,1,5,6,7,8,9,10,11,45]) (.cond (.t 45) (.seq (.region si [0,1,5,6,7,8,9,10,11,12]) (.seq (.seq (.region sn [0,1,5,6,7,8,9,10,11,12,67]) (.cond (.t 67) (.region ou [0,1,5,6,7,8,9,10,11,12]) .skip)) (.seq (.seq (.region so [0,1,5,6,7,8,9,10,11,12,85]) (.cond (.t 85) (.seq (.seq (.region sw [0,1,5,8,9,10,11,12,89]) (.cond (.t 89) (.region sr [0,1,5,8,9,10,11,12]) .skip)) (.region sH [0,1,5,6,7,8,9,10,11,12])) .skip)) (.seq (.region sf [0,1,5,6,7,8,9,10,11,95]) (.cond (.t 95) (.exit 0) .skip))))) .skip)) ([(0,.ptr (st.heap.length+2) 0),(1,.int .i64 a),(5,.ptr (st.heap.length+h) 0),(6,.int .i64 (ef best)),(7,.int .i64 (iI l a X best)),(8,.bool false),(9,.int .i64 (goI X ((l.drop a).take (i-a)))),(10,.int .i64 (goI X ((l.drop a).take (bn l a i-a)))),(11,.int .i64 i)]++[(35,.bool true)]) (pst st G K) =
    some (.normal,[(0,.ptr (st.heap.length+2) 0),(1,.int .i64 a),(5,.ptr (st.heap.length+h) 0),(6,.int .i64 (ef best')),(7,.int .i64 (iI l a X best')),(8,.bool false),(9,.int .i64 (goI X ((l.drop a).take (i-a)))),(10,.int .i64 (goI X ((l.drop a).take (bn l a i-a)))),(11,.int .i64 i)]++ex,pst st G K) →
    qt l a X W m (i+1) best'=some (b,w)→∃ fr,(E tab).C ji [(0,.ptr (st.heap.length+2) 0),(1,.int .i64 a),(5,.ptr (st.heap.length+h) 0),(6,.int .i64 (ef best)),(7,.int .i64 (iI l a X best)),(8,.bool false),(9,.int .i64 (goI X ((l.drop a).take (i-a)))),(10,.int .i64 (goI X ((l.drop a).take (bn l a i-a)))),(11,.int .i64 i)] (pst st G K) =
    some (.exit 0,[(0,.ptr (st.heap.length+2) 0),(1,.int .i64 a),(5,.ptr (st.heap.length+h) 0),(6,.int .i64 b),(7,.int .i64 (eB l a b X)),(8,.bool w)]++fr,pst st G K):=by
    intro best' ex hA' ho'
    obtain ⟨ex2,hB⟩:=WB (K:=K) hv hc hG a X hX i h0 hai (.int .i64 a) (.ptr (st.heap.length+h) 0) (.int .i64 (ef best')) (.int .i64 (iI l a X best')) (.bool false) ex
    obtain ⟨fr,hJ⟩:=ih (i+1) best' (.int .i64 (goI X ((l.drop a).take ((if i<l.length then i+1 else i)-a)))) (.int .i64 (goI X ((l.drop a).take (bn l a (if i<l.length then i+1 else i)-a)))) (by omega) (by omega) (fun hle=>by rw [if_pos (by omega)];exact ⟨rfl,rfl⟩) b w ho'
    refine ⟨fr,?_⟩
    rw [aj (L:=ji) rfl,px,cN,h6]
    simp only
    rw [cN,ow,cN,hA']
    simp only
    rw [hB]
    simp at hJ
    simp [hw1,hJ]
   unfold qt at ho
   by_cases hle:a<i∧ny l i=true
   · rw [if_pos hle] at ho hA
     by_cases hW:W<eB l a i X
     · rw [if_pos hW] at ho hA
       cases best with
       | none=>
         simp only [Option.some.injEq,Prod.mk.injEq] at ho
         obtain ⟨rfl,rfl⟩:=ho
         refine ⟨ex,?_⟩
         rw [aj (L:=ji) rfl,px,cN,h6]
         simp only
         rw [cN,ow,cN,hA]
         simp
       | some c=>
         simp only [Option.some.injEq,Prod.mk.injEq] at ho
         obtain ⟨rfl,rfl⟩:=ho
         refine ⟨ex,?_⟩
         rw [aj (L:=ji) rfl,px,cN,h6]
         simp only
         rw [cN,ow,cN,hA]
         simp
     · rw [if_neg hW] at ho hA
       exact turn (some i) ex hA ho
   · rw [if_neg hle] at ho hA
     exact turn best ex hA ho
end
section
variable {st:St} {l:List It} {lv sv ov:DV} {sl:List Sl} {rest:Sl} {G:List HO} {K:List Nat}
def sX (N h:Nat):List aq:=[
 ⟨some 14,.mv (.t 0),none⟩,
 ⟨some 15,.ak (.t 14),none⟩,
 ⟨some 16,.gv 1 (.t 15),none⟩,
 ⟨some 17,.load 1 false (.t 16),none⟩,
 ⟨some 18,.mv (.t 0),none⟩,
 ⟨some 19,.ak (.t 18),none⟩,
 ⟨some 20,.gv 2 (.t 19),none⟩,
 ⟨some 21,.load 1 false (.t 20),none⟩,
 ⟨some 22,.len .slice (.t 21),none⟩,
 ⟨some 23,.bq (.t 17) [(.t 22)],none⟩,
 ⟨some 5,.got (.ptr (N+h) 0) [],none⟩,
 ⟨none,.store 2 (.t 5) (.t 23),none⟩]
theorem A5 (hs:Sls st sl sv) (hG:BrS st.heap.length lv sv ov rest G) {ps:List Pc} (hA:Acc st K 5 (ps.map Pc.dv) ov) (y1:DV) :
 ∃ J,(E tab).C (.ar ti [10] [] [0,1,5]) [(0,.ptr (st.heap.length+2) 0),(1,y1)] (pst st G K) =
   some (.normal,[(0,.ptr (st.heap.length+2) 0),(1,y1),(5,.ptr (st.heap.length+G.length) 0)],pst st (G++.cells .plain (bA sl rest ps.length).cs::J) K):=by
 have hr:=hG.r2
 have hG2:=hG.app [.cells .plain [.int .i64 0,.int .i64 0]]
 have hr2:=hG2.r2
 obtain ⟨t,n',tk,nn,rfl⟩:=ff hA
 have hc:=IY (K:=K) hs hG2 ps.length
 have hV:=dm (T:=tab) 127 [] [.ptr st.heap.length 0,.ptr (st.heap.length+1) 0] [.int .i64 (ps.length:Nat)] (pst st (G++[.cells .plain [.int .i64 0,.int .i64 0]]) K)
 simp only [List.nil_append,List.singleton_append] at hV
 rw [hc] at hV
 have hp:gp [(0,.ptr (st.heap.length+2) 0),(1,y1)] [10] (pst st G K) ti=some (pst st (G++[.cells .plain [.int .i64 0,.int .i64 0]]) K,sX st.heap.length G.length):=by
  simp [gp,B9,BP,bl,qC,iK,lz,sX,hr]
 refine ⟨[.cells .plain (bA sl rest ps.length).cs],?_⟩
 rw [yl hp]
 generalize bA sl rest ps.length=s at *
 simp only [Sl.cs,Sl.dv] at hV
 simp [mD,sX,bl,hr2,hV,Sl.cs]
theorem BrS.arY {N:Nat} (h:BrS N lv sv ov rest G) (ov':DV):BrS N lv sv ov' rest (G.set 2 (.cells .plain [lv,.fn 127 [] [.ptr N 0,.ptr (N+1) 0],ov'])):=by
 have k2:=bc h.r2
 refine ⟨?_,?_,dn k2 _ _⟩
 · have:=h.r0;unfold rowAt at this ⊢;rw [List.getElem?_set_ne (by omega)];exact this
 · have:=h.r1;unfold rowAt at this ⊢;rw [List.getElem?_set_ne (by omega)];exact this
theorem Jt (hs:Sls st sl sv) (hv:Its st l lv) (hc:bD l=0) (hG:BrS st.heap.length lv sv ov rest G) {ps:List Pc} (hA:Acc st K 5 (ps.map Pc.dv) ov) (hps:ps.length≤10000) (a:Nat) (ha:a<l.length)
 (hX:0≤(bA sl rest ps.length).x∧(bA sl rest ps.length).x≤4095) :
 ∃ (b:Nat) (G':List HO) (K':List Nat) (ov':DV),a<b∧b≤l.length∧(fx l a (bA sl rest ps.length)).b=b∧(E tab).F 129 [.ptr (st.heap.length+2) 0,.int .i64 a] (pst st G K)=some (.int .i64 b,pst st G' K')∧BrS st.heap.length lv sv ov' rest G' ∧
   Acc st K' 5 ((ps++[fx l a (bA sl rest ps.length)]).map Pc.dv) ov':=by
 have e0:=fun st'=>cO hv st'
 obtain ⟨hok,hlen⟩:=ik hc
 obtain ⟨J,hH⟩:=A5 hs hG hA (.int .i64 a)
 generalize hsl:bA sl rest ps.length=s at *
 obtain ⟨b,w,ho,hab,hbl⟩:=mK l a s.x s.w ha (l.length+1-a) a none (by omega) (fun _=>by omega) (Nat.le_refl _) (fun c e=>by cases e)
 have hpc:fx l a s=⟨a,b,w,hyI l b,eB l a b s.x⟩:=by unfold fx;rw [ho]
 have hG1:=hG.app (.cells .plain s.cs::J)
 have hh:rowAt (G++.cells .plain s.cs::J) G.length=some (.plain,[.int .i64 s.x,.int .i64 s.w]):=by rw [show G.length=G.length+0 from rfl,ee];rfl
 generalize hG1e:G++HO.cells .plain s.cs::J=G1 at *
 obtain ⟨fr,hL⟩:=afB (K:=K) hv hc hG1 a ha s.x s.w hX G.length hh (l.length+1-a) a none (.int .i64 s.x) (.int .i64 s.x) (by omega) (Nat.le_refl _) (fun _=>by
  have ht:bn l a a=a:=by
   cases a with
   | zero=>rfl
   | succ k=>rw [bn,if_neg (by omega)]
  rw [ht];simp [goI]) b w ho
 have hG2:=hG1.app [.cells .plain (Pc.cs ⟨a,b,w,false,eB l a b s.x⟩)]
 have hG3:=hG1.app [.cells .plain (Pc.cs ⟨a,b,w,hyI l b,eB l a b s.x⟩)]
 obtain ⟨ov',K',hap,hA'⟩:=fT (H:=G1++[.cells .plain (Pc.cs ⟨a,b,w,hyI l b,eB l a b s.x⟩)]) (by_:=32) (ag:=true) (tk:=.tight) (t:=st.cur) (ys:=[Pc.dv ⟨a,b,w,hyI l b,eB l a b s.x⟩]) hA (by omega) (by simp) (by simp [akX]) (by simp [az];omega) (by simp [az];omega)
 refine ⟨b,(G1++[HO.cells .plain (Pc.cs ⟨a,b,w,hyI l b,eB l a b s.x⟩)]).set 2 (.cells .plain [lv,.fn 127 [] [.ptr st.heap.length 0,.ptr (st.heap.length+1) 0],ov']),K',ov',hab,hbl,by rw [hpc],?_,hG3.arY ov',by rw [hpc];simpa using hA'⟩
 have hr2:=hG2.r2
 have hr3:=hG3.r2
 have k3:=bc hr3
 have hov:ov'.leaves=[ov']∧ov'.bh=true:=by
  rcases hA' with ⟨_,t,n',tk,rfl⟩ | ⟨k,s,rfl,_⟩<;>exact ⟨rfl,rfl⟩
 have h22:(E tab).C (.region sa [0,6,13]) [(0,.ptr (st.heap.length+2) 0),(6,.int .i64 b),(13,.ptr (st.heap.length+G1.length) 0)] (pst st (G1++[.cells .plain (Pc.cs ⟨a,b,w,false,eB l a b s.x⟩)]) K) =
  some (.normal,[(0,.ptr (st.heap.length+2) 0),(6,.int .i64 b),(13,.ptr (st.heap.length+G1.length) 0)],pst st (G1++[.cells .plain (Pc.cs ⟨a,b,w,hyI l b,eB l a b s.x⟩)]) K):=by
  by_cases hb:b<l.length
  · have hx:l[b]? = some l[b]:=List.getElem?_eq_getElem hb
    have e1:=fun st'=>dR hv hb .i64 st'
    have e2:=fun st'=>gh hv hx (off:=7) (by omega) st'
    have e3:=fun H K=>aph hv hx H K
    have eh:hyI l b=l[b].y:=by simp [hyI,hx]
    rw [eh]
    generalize l[b]=x at *
    simp only [Pc.cs] at hr2
    simp [hr2,e0,hb,e1,e2,e3,Pc.cs]
  · have eh:hyI l b=false:=by simp [hyI,hb]
    rw [eh]
    simp only [Pc.cs] at hr2
    simp [hr2,e0,hb,Pc.cs]
 have h23:(E tab).C (.ar rZ [] [] [6]) [(0,.ptr (st.heap.length+2) 0),(6,.int .i64 b),(13,.ptr (st.heap.length+G1.length) 0)] (pst st (G1++[.cells .plain (Pc.cs ⟨a,b,w,hyI l b,eB l a b s.x⟩)]) K) =
  some (.normal,[(6,.int .i64 b)],pst st ((G1++[HO.cells .plain (Pc.cs ⟨a,b,w,hyI l b,eB l a b s.x⟩)]).set 2 (.cells .plain [lv,.fn 127 [] [.ptr st.heap.length 0,.ptr (st.heap.length+1) 0],ov'])) K'):=by
  simp only [Pc.cs,Pc.dv] at hr3 hap k3
  simp [hr3,bb,bm,chunk,Pc.cs,hap,hov.1,hov.2]
 rw [eu ap4 rfl]
 have h0:(E tab).C (.region xl [0,1]) (bw [.ptr (st.heap.length+2) 0,.int .i64 a] 0) (pst st G K)=some (.normal,[(0,.ptr (st.heap.length+2) 0),(1,.int .i64 a)],pst st G K):=by simp
 have hmid:(E tab).C (.seq (.region xM [0,1,5,6,7,8]) (.seq (.region xN [0,1,5,6,7,8,9]) (.seq (.region wQ [0,1,5,6,7,8,9,10]) (.seq (.region yi [0,1,5,6,7,8,9,10,11]) (.block 0 ji))))) [(0,.ptr (st.heap.length+2) 0),(1,.int .i64 a),(5,.ptr (st.heap.length+G.length) 0)] (pst st G1 K) =
  some (.normal,[(0,.ptr (st.heap.length+2) 0),(1,.int .i64 a),(5,.ptr (st.heap.length+G.length) 0),(6,.int .i64 b),(7,.int .i64 (eB l a b s.x)),(8,.bool w)]++fr,pst st G1 K):=by
  have e1:(-1:Int)=Int.negSucc 0:=rfl
  simp [ef,iI] at hL
  simp [hh,hL]
 have h21:(E tab).C (.region sU [0,6,13]) ([(0,.ptr (st.heap.length+2) 0),(1,.int .i64 a),(5,.ptr (st.heap.length+G.length) 0),(6,.int .i64 b),(7,.int .i64 (eB l a b s.x)),(8,.bool w)]++fr) (pst st G1 K) =
  some (.normal,[(0,.ptr (st.heap.length+2) 0),(6,.int .i64 b),(13,.ptr (st.heap.length+G1.length) 0)],pst st (G1++[.cells .plain (Pc.cs ⟨a,b,w,false,eB l a b s.x⟩)]) K):=by
  simp [Pc.cs]
 rw [show f129.body=(.seq (.region xl [0,1]) (.seq (.ar ti [10] [] [0,1,5]) (.seq (.region xM [0,1,5,6,7,8]) (.seq (.region xN [0,1,5,6,7,8,9]) (.seq (.region wQ [0,1,5,6,7,8,9,10]) (.seq (.seq (.region yi [0,1,5,6,7,8,9,10,11]) (.block 0 ji)) (.seq (.region sU [0,6,13]) (.seq (.region sa [0,6,13]) (.seq (.ar rZ [] [] [6]) (.seq (.region zL [4]) .ret)))))))))) from rfl,cN,h0]
 simp only
 rw [cN,hH]
 simp only
 obtain ⟨fu1,S1,m1,m2⟩:=mB hmid
 obtain ⟨fu2,S2,m3,m4⟩:=mB m2
 obtain ⟨fu3,S3,m5,m6⟩:=mB m4
 rw [cN,m1]
 simp only
 rw [cN,m3]
 simp only
 rw [cN,m5]
 simp only
 rw [cN,m6]
 simp only
 rw [cN,h21]
 simp only
 rw [cN,h22]
 simp only
 rw [cN,h23]
 simp [f129]
end
theorem iN (l:List It):∀ f i,i≤l.length→i≤ca l f i∧ca l f i≤l.length
 | 0,i,h=>⟨Nat.le_refl _,h⟩
 | f+1,i,h=>by
   unfold ca
   split
   · rename_i x hx
     have hi:=(List.getElem?_eq_some_iff.1 hx).1
     split
     · have:=iN l f (i+1) hi;omega
     · exact ⟨Nat.le_refl _,h⟩
   · exact ⟨Nat.le_refl _,h⟩
theorem Aj (l:List It) (i:Nat) (h:i≤l.length):i≤jx l i∧jx l i≤l.length:=by
 unfold jx
 cases hx:l[i]? with
 | none=>exact iN l _ _ h
 | some x=>
   have hi:=(List.getElem?_eq_some_iff.1 hx).1
   simp only
   split
   · have:=iN l l.length (i+1) hi;omega
   · exact iN l _ _ h
def js (l:List It) (sl:List Sl) (rest:Sl):Nat→Nat→Nat→List Pc
 | 0,_,_=>[]
 | f+1,a,n=>if a<l.length then fx l a (bA sl rest n)::js l sl rest f (jx l (fx l a (bA sl rest n)).b.toNat) (n+1) else []
def Zg (sl:List Sl) (rest:Sl):Prop:=∀ n:Nat,0≤(bA sl rest n).x∧(bA sl rest n).x≤4095∧0≤(bA sl rest n).w∧(bA sl rest n).w≤4095
theorem mn {sl:List Sl} {rest:Sl} (h:cw sl rest=0):Zg sl rest∧sl.length≤256:=by
 unfold cw at h
 split at h
 · omega
 · split at h
   · rename_i h1 h2
     simp only [Bool.and_eq_true,List.all_eq_true] at h2
     refine ⟨fun n => ?_,by omega⟩
     have hm:jK (bA sl rest n)=true:=by
      unfold bA oN
      rw [if_neg (by omega)]
      cases hx:sl[((n:Nat):Int).toNat]? with
      | none=>exact h2.2
      | some s=>exact h2.1 s (List.mem_of_getElem? hx)
     simp [jK,bg] at hm
     omega
   · omega
section
variable {st:St} {l:List It} {lv sv ov:DV} {sl:List Sl} {rest:Sl} {G:List HO} {K:List Nat}
theorem Z9 (hs:Sls st sl sv) (hv:Its st l lv) (hc:bD l=0) (hso:Zg sl rest):∀ (f a:Nat) (ps:List Pc) (ov:DV) (G:List HO) (K:List Nat),l.length≤a+f→a≤l.length→ps.length≤a→BrS st.heap.length lv sv ov rest G→Acc st K 5 (ps.map Pc.dv) ov →
 ∃ G' K' ov' fr,(E tab).C pD [(1,.int .i64 l.length),(2,.fn 129 [.ptr (st.heap.length+2) 0] []),(3,.fn 130 [.ptr (st.heap.length+2) 0] []),(8,.int .i64 a)] (pst st G K)=some (.exit 0,fr,pst st G' K') ∧
   BrS st.heap.length lv sv ov' rest G'∧Acc st K' 5 ((ps++js l sl rest f a ps.length).map Pc.dv) ov':=by
 obtain ⟨hok,hlen⟩:=ik hc
 intro f
 induction f with
 | zero=>
   intro a ps ov G K h1 h2 h3 hG hA
   refine ⟨G,K,ov,[(1,.int .i64 l.length),(2,.fn 129 [.ptr (st.heap.length+2) 0] []),(3,.fn 130 [.ptr (st.heap.length+2) 0] []),(8,.int .i64 a),(12,.bool false)],?_,hG,by simpa [js] using hA⟩
   have h0:¬ a<l.length:=by omega
   rw [aj (L:=pD) rfl]
   simp [s4,h0]
 | succ f ih=>
   intro a ps ov G K h1 h2 h3 hG hA
   by_cases h0:a<l.length
   · have hX:=hso ps.length
     obtain ⟨b,G1,K1,ov1,hab,hbl,hpb,hF,hG1,hA1⟩:=Jt hs hv hc hG hA (by omega) a h0 ⟨hX.1,hX.2.1⟩
     have hS:=BY (K:=K1) hv (by omega) hG1 b hbl
     have hbe:=Aj l b hbl
     obtain ⟨G2,K2,ov2,fr,hJ,hG2,hA2⟩:=ih (jx l b) (ps++[fx l a (bA sl rest ps.length)]) ov1 G1 K1 (by omega) hbe.2 (by simp;omega) hG1 hA1
     refine ⟨G2,K2,ov2,fr,?_,hG2,?_⟩
     · have hV1:=dm (T:=tab) 129 [.ptr (st.heap.length+2) 0] [] [.int .i64 (a:Nat)] (pst st G K)
       have hV2:=dm (T:=tab) 130 [.ptr (st.heap.length+2) 0] [] [.int .i64 (b:Nat)] (pst st G1 K1)
       simp only [List.singleton_append,List.append_nil] at hV1 hV2
       rw [hF] at hV1
       rw [hS] at hV2
       rw [aj (L:=pD) rfl]
       simp [s4,h0,hV1,hV2,hJ]
     · rw [js,if_pos h0,hpb,Int.toNat_natCast]
       simpa using hA2
   · refine ⟨G,K,ov,[(1,.int .i64 l.length),(2,.fn 129 [.ptr (st.heap.length+2) 0] []),(3,.fn 130 [.ptr (st.heap.length+2) 0] []),(8,.int .i64 a),(12,.bool false)],?_,hG,by simpa [js,h0] using hA⟩
     rw [aj (L:=pD) rfl]
     simp [s4,h0]
theorem TH (hv:Its st l lv) (hl:l.length≤140737488355328) (y10:DV) (H:List HO) (K:List Nat):∀ (f i:Nat),l.length≤i+f→i≤l.length →
 ∃ fr,(E tab).C m9 [(0,lv),(10,y10),(11,.int .i64 i)] (pst st H K)=some (.exit 0,[(0,lv),(10,y10),(11,.int .i64 (ca l f i:Nat))]++fr,pst st H K):=by
 have e0:=fun st'=>cO hv st'
 intro f
 induction f with
 | zero=>
   intro i h1 h2
   obtain rfl:i=l.length:=by omega
   refine ⟨[(38,.bool false)],?_⟩
   rw [aj (L:=m9) rfl]
   simp [pc,e0,ca]
 | succ f ih=>
   intro i h1 h2
   by_cases h0:i<l.length
   · have hx:l[i]? = some l[i]:=List.getElem?_eq_getElem h0
     have e1:=fun st'=>dR hv h0 .i64 st'
     have e2:=fun st'=>gh hv hx (off:=0) (by omega) st'
     have e3:=fun H K=>kL hv hx H K
     have hw1:IntKind.i64.wrap ((i:Int)+1)=(i+1:Nat):=by rw [aI (by omega)];simp
     by_cases hk:l[i].k=2
     · have eg:ca l (f+1) i=ca l f (i+1):=by simp [ca,hx,hk]
       obtain ⟨fr,hJ⟩:=ih (i+1) (by omega) (by omega)
       rw [eg]
       refine ⟨fr,?_⟩
       simp at hJ
       rw [aj (L:=m9) rfl]
       simp [pc,e0,h0,e1,e2,e3,hk,hw1,hJ]
     · have eg:ca l (f+1) i=i:=by simp [ca,hx,hk]
       rw [eg]
       refine ⟨[(38,.bool false)],?_⟩
       rw [aj (L:=m9) rfl]
       simp [pc,e0,h0,e1,e2,e3,hk]
   · have eg:ca l (f+1) i=i:=by simp [ca,h0]
     rw [eg]
     refine ⟨[(38,.bool false)],?_⟩
     rw [aj (L:=m9) rfl]
     simp [pc,e0,h0]
def fv (l:List It) (sl:List Sl) (rest:Sl):Int:=if bD l≠0 then bD l else cw sl rest
def iZ (l:List It) (sl:List Sl) (rest:Sl):List Pc:=
 if fv l sl rest≠0 then [] else if ca l l.length 0=l.length then [⟨l.length,l.length,false,false,0⟩] else js l sl rest l.length (ca l l.length 0) 0
theorem Dd (hs:Sls st sl sv) (hv:Its st l lv):∃ v,(E tab).F 113 [lv,sv,rest.dv] st=some (.tuple [v,.int .i64 (fv l sl rest)],st)∧Lw 5 ((iZ l sl rest).map Pc.dv) v:=by
 rw [aY amm rfl]
 have e0:=fun st'=>cO hv st'
 have c1:=vg (hv.inn [.cells .plain [sv],.cells .plain rest.cs] [])
 have c2:=wB (rest:=rest) (hs.inn [.cells .plain [sv],.cells .plain rest.cs] [])
 have hsv:sv.leaves=[sv]∧sv.bh=true:=by cases hs<;>exact ⟨rfl,rfl⟩
 have hlv:lv.leaves=[lv]∧lv.bh=true:=by cases hv<;>exact ⟨rfl,rfl⟩
 unfold iZ
 by_cases hc:bD l=0
 · have hE:fv l sl rest=cw sl rest:=by simp [fv,hc]
   rw [hE]
   by_cases hd:cw sl rest=0
   · obtain ⟨hok,hlen⟩:=ik hc
     obtain ⟨hso,_⟩:=mn hd
     have hG:BrS st.heap.length lv sv (.list 0 0 .no false []) rest [.cells .plain [sv],.cells .plain rest.cs,.cells .plain [lv,.fn 127 [] [.ptr st.heap.length 0,.ptr (st.heap.length+1) 0],.list 0 0 .no false []]]:=⟨rfl,rfl,rfl⟩
     obtain ⟨fr,hL0⟩:=TH hv (by omega) (.ptr (st.heap.length+2) 0) [.cells .plain [sv],.cells .plain rest.cs,.cells .plain [lv,.fn 127 [] [.ptr st.heap.length 0,.ptr (st.heap.length+1) 0],.list 0 0 .no false []]] [] l.length 0 (by omega) (by omega)
     have hg:=iN l l.length 0 (by omega)
     simp only [hd,ne_eq,not_true_eq_false,if_false]
     generalize ca l l.length 0=g at *
     by_cases hgl:g=l.length
     · simp only [hgl,if_true]
       rw [hgl] at hL0
       refine ⟨.list st.cur 5 .tight true [Pc.dv ⟨l.length,l.length,false,false,0⟩],?_,.list _ _ _ _ (fun _=>rfl) (fun e=>by cases e)⟩
       simp only [Sl.cs,Sl.dv] at c1 c2 hL0
       simp at hL0
       simp [f113,Sl.cs,Sl.dv,hsv.1,hsv.2,hlv.1,hlv.2,c1,c2,hc,hd,hL0,e0,bb,bm,chunk,Pc.dv,Pc.cs]
     · simp only [hgl,if_false]
       obtain ⟨G',K',ov',fr2,hL,hG',hA'⟩:=Z9 hs hv hc hso l.length g [] (.list 0 0 .no false []) _ [] (by omega) (by omega) (by simp) hG (fg st [] 5 0 0 .no)
       obtain ⟨t,n',tk,nn,hx,hx1,hx2,_⟩:=th (st':=pst st G' K') hA'
       have hF:(E tab).F 128 [.int .i64 g,.int .i64 l.length,.fn 129 [.ptr (st.heap.length+2) 0] [],.fn 130 [.ptr (st.heap.length+2) 0] []] (pst st [.cells .plain [sv],.cells .plain rest.cs,.cells .plain [lv,.fn 127 [] [.ptr st.heap.length 0,.ptr (st.heap.length+1) 0],.list 0 0 .no false []]] [])=some (.tuple [],pst st G' K'):=by
        rw [eu apl rfl]
        simp [f128,hL]
       have hr2:=hG'.r2
       have hgl':¬ (g:Int)=l.length:=by omega
       refine ⟨.list t n' tk nn ((js l sl rest l.length g 0).map Pc.dv),?_,.list _ _ _ _ (fun h=>hx2 h) (fun h=>hx1 h)⟩
       simp only [Sl.cs,Sl.dv] at c1 c2 hL0 hF
       simp at hL0 hx
       have hxA:bT st (pst st G' K') ov'=aZ st (pst st G' K') ov':=by
        rcases hA' with ⟨_,t,n',tk,rfl⟩ | ⟨k,s,rfl,_⟩<;>rfl
       simp [f113,Sl.cs,Sl.dv,hsv.1,hsv.2,hlv.1,hlv.2,c1,c2,hc,hd,hL0,e0,hgl,hgl',hF,hr2,hxA,hx]
   · simp only [ne_eq,hd,not_false_eq_true,if_true]
     refine ⟨.list 0 0 .no false [],?_,.list _ _ _ _ (fun e=>by cases e) (fun _=>rfl)⟩
     simp only [Sl.cs,Sl.dv] at c1 c2
     simp [f113,Sl.cs,Sl.dv,hsv.1,hsv.2,c1,c2,hc,hd]
 · have hE:fv l sl rest=bD l:=by simp [fv,hc]
   rw [hE]
   simp only [ne_eq,hc,not_false_eq_true,if_true]
   refine ⟨.list 0 0 .no false [],?_,.list _ _ _ _ (fun e=>by cases e) (fun _=>rfl)⟩
   simp only [Sl.cs,Sl.dv] at c1
   simp [f113,Sl.cs,Sl.dv,hsv.1,hsv.2,c1,hc]
end
section
variable {st:St} {l:List Sl} {v:DV}
end
section
variable {st:St} {l:List Sl} {v:DV} {H:List HO} {K:List Nat}
end
end Go.D.Tab
end
section
set_option linter.unusedSimpArgs false
set_option linter.unusedVariables false
set_option linter.unnecessarySimpa false
namespace Go.D.Tab
theorem ak0:tab 307=some (.code A6):=by kernel_rfl
theorem aop:tab 319=some (.code AD):=by kernel_rfl
theorem akn:tab 320=some (.code Du):=by kernel_rfl
theorem akg:tab 321=some (.code Bp):=by kernel_rfl
theorem aji:tab 330=some (.code Db):=by kernel_rfl
theorem anD:tab 331=some (.code Ea):=by kernel_rfl
theorem am7:tab 343=some (.code B3):=by kernel_rfl
theorem alQ:tab 344=some (.code Ao):=by kernel_rfl
theorem anY:tab 345=some (.code AJ):=by kernel_rfl
theorem akQ:tab 346=some (.code Bl):=by kernel_rfl
theorem apo:tab 309=some (.code Dw):=by kernel_rfl
theorem aqn (k:IntKind) (x y:Int):dX kH [.int k x,.int k y]=some (.int k (max x y)):=by
 have:(if y>x then y else x)=max x y:=by split<;>omega
 simp [dX,kH,this]
theorem My (k:IntKind) (x y:Int):dX kS [.int k x,.int k y]=some (.int k (min x y)):=by
 have:(if y<x then y else x)=min x y:=by split<;>omega
 simp [dX,kS,this]
def j5 (p:bp):Int:=if p.label=[] then 0 else tw p.pr.size 0 p.label+4
def cl (p:bp):Nat→Int→Int
 | 0,_=>p.pr.inn
 | 1,n=>if 0<n then 0 else p.pr.first+j5 p
 | _,n=>if p.pr.drop≤n then 0 else oe p
def vG (p:bp) (n:Int):Int:=cl p 0 n+cl p 1 n+cl p 2 n
def gU (p:bp) (s:Sl) (n:Int):Sl:=⟨min (s.x+vG p n) 4095,max (s.w-vG p n-p.pr.out) 0⟩
section
variable {st:St} {p:bp} {w u:LW}
theorem sJ {n:Int} (hn:1≤n∧n≤64):∀ (l:List UInt8) (a:Int),0≤a→a+64*l.length≤1000000→a≤tw n a l∧tw n a l≤a+64*l.length
 | [],a,_,_=>by simp [tw]
 | c::r,a,h,h2=>by
   have hb:=pA c hn.1 hn.2
   simp only [List.length_cons] at h2 ⊢
   simp only [tw]
   rw [aI (by omega)]
   have:=sJ hn r (a+wd c n) (by omega) (by omega)
   omega
theorem rl (h0:aE p=0):p.label.length≤16:=by
 have h:=(dc h0).2.2.2.2.1
 unfold dI at h
 simp only [Bool.and_eq_true,decide_eq_true_eq] at h
 omega
theorem wg (h0:aE p=0):0≤j5 p∧j5 p≤1028:=by
 have hl:=rl h0
 have hc:=dp h0
 have ht:=sJ ⟨hc.1,hc.2.1⟩ p.label 0 (by omega) (by omega)
 unfold j5
 split<;>omega
theorem CW (h0:aE p=0):(E tab).F 345 [.agg (au p w u)] st=some (.int .i64 (j5 p),st):=by
 rw [aY anY rfl]
 have hc:=dp h0
 have hw:=fun st=>tB p.label p.pr.size st
 unfold j5
 by_cases h:p.label=[]
 · simp [AJ,h]
 · have hl:=rl h0
   have h2:¬ 4096<p.label.length:=by omega
   have ht:=sJ ⟨hc.1,hc.2.1⟩ p.label 0 (by omega) (by omega)
   have w1:IntKind.i64.wrap (tw p.pr.size 0 p.label+4)=tw p.pr.size 0 p.label+4:=aI (by omega)
   unfold eM at hw
   rw [if_pos ⟨hc.1,hc.2.1⟩,if_neg h2] at hw
   simp [AJ,h,hw,w1]
def prH (p:bp) (w u:LW) (N:Nat):List HO:=[.cells .plain (au p w u),.cells .plain [.int .i64 (oe p)],.cells .plain [.fn 343 [] [.ptr N 0],.fn 344 [] [.ptr N 0],.fn 346 [] [.ptr N 0,.ptr (N+1) 0]]]
theorem DB (h0:aE p=0) (hp:p.small) (hw:w.ok 4 p.aV) (hu:u.ok 1 p.marks) (H:List HO) (K:List Nat):(E tab).F 330 [.agg (au p w u)] (pst st H K)=some (.hsl 1 false (st.heap.length+(H.length+2)) 0 3 (some 3),pst st (H++prH p w u (st.heap.length+H.length)) K):=by
 rw [eu aji rfl]
 have hd:=fun st=>G9 (st:=st) hp hw hu
 rw [h0] at hd
 simp [Db,hd,ku,bm,chunk,prH,Nat.add_assoc]
structure sM (st:St) (p:bp) (w u:LW) (H:List HO) (k:Nat):Prop where
 r0:rowAt H k=some (.plain,au p w u)
 r1:rowAt H (k+1)=some (.plain,[.int .i64 (oe p)])
 r2:rowAt H (k+2)=some (.plain,[.fn 343 [] [.ptr (st.heap.length+k) 0],.fn 344 [] [.ptr (st.heap.length+k) 0],.fn 346 [] [.ptr (st.heap.length+k) 0,.ptr (st.heap.length+(k+1)) 0]])
theorem sM.add {H:List HO} {k:Nat} (h:sM st p w u H k) (X:List HO):sM st p w u (H++X) k:=⟨eV h.r0 X,eV h.r1 X,eV h.r2 X⟩
theorem je (h0:aE p=0):0≤p.pr.first∧p.pr.first≤255∧0≤p.pr.inn∧p.pr.inn≤255∧0≤p.pr.out∧p.pr.out≤255:=by
 have h:=(dc h0).2.2.2.1
 simp only [cD,fb,Bool.and_eq_true,decide_eq_true_eq] at h
 omega
theorem GG {H:List HO} {K:List Nat} {k:Nat} (hk:sM st p w u H k) (n:Int):(E tab).F 343 [.int .i64 n,.ptr (st.heap.length+k) 0] (pst st H K)=some (.int .i64 (cl p 0 n),pst st H K):=by
 rw [eu am7 rfl]
 have r0:=hk.r0
 have e:(au p w u)[6]? = some (.int .i64 p.pr.inn):=rfl
 simp [B3,r0,e,cl]
theorem Lv (h0:aE p=0) {H:List HO} {K:List Nat} {k:Nat} (hk:sM st p w u H k) (n:Int):(E tab).F 344 [.int .i64 n,.ptr (st.heap.length+k) 0] (pst st H K)=some (.int .i64 (cl p 1 n),pst st H K):=by
 rw [eu alQ rfl]
 have r0:=hk.r0
 have hl:=wg h0
 have hm:=je h0
 have h3:=fun st=>CW (st:=st) (w:=w) (u:=u) h0
 have e:(au p w u)[5]? = some (.int .i64 p.pr.first):=rfl
 have w1:IntKind.i64.wrap (p.pr.first+j5 p)=p.pr.first+j5 p:=aI (by omega)
 by_cases hn:0<n
 · simp [Ao,hn,cl]
 · simp [Ao,hn,cl,iS,mD,tv,tP,bl,r0,e,h3,w1]
theorem Mg {H:List HO} {K:List Nat} {k:Nat} (hk:sM st p w u H k) (n:Int):(E tab).F 346 [.int .i64 n,.ptr (st.heap.length+k) 0,.ptr (st.heap.length+(k+1)) 0] (pst st H K)=some (.int .i64 (cl p 2 n),pst st H K):=by
 rw [eu akQ rfl]
 have r0:=hk.r0
 have r1:=hk.r1
 have e:(au p w u)[16]? = some (.int .i64 p.pr.drop):=rfl
 by_cases hn:p.pr.drop≤n
 · simp [Bl,hn,cl,r0,e]
 · simp [Bl,hn,cl,r0,r1,e]
theorem z4 (h0:aE p=0) (n:Int):0≤cl p 0 n∧cl p 0 n≤255∧0≤cl p 1 n∧cl p 1 n≤1283∧0≤cl p 2 n∧cl p 2 n≤68:=by
 have hl:=wg h0
 have hm:=je h0
 have hc:=JJ p
 simp only [cl]
 refine ⟨by omega,by omega,?_,?_,?_,?_⟩<;>split<;>omega
theorem uE (h0:aE p=0) {H:List HO} {K:List Nat} {k:Nat} (hk:sM st p w u H k) (s:Sl) (hs:0≤s.x∧s.x≤4095∧0≤s.w∧s.w≤4095) (n:Int):∃ J,(E tab).F 331 [.agg (au p w u),.hsl 1 false (st.heap.length+(k+2)) 0 3 (some 3),s.dv,.int .i64 n] (pst st H K)=some ((gU p s n).dv,pst st (H++J) K):=by
 have hpl:=z4 h0 n
 have hm:=je h0
 have hk2:=hk.add [.cells .plain (au p w u),.cells .plain s.cs,.cells .plain [.int .i64 0,.int .i64 0]]
 have h1:=GG (K:=K) hk2 n
 have h2:=Lv (K:=K) h0 hk2 n
 have h3:=Mg (K:=K) hk2 n
 have r2:=hk2.r2
 have e:(au p w u)[7]? = some (.int .i64 p.pr.out):=rfl
 refine ⟨[.cells .plain (au p w u),.cells .plain s.cs,.cells .plain (gU p s n).cs],?_⟩
 rw [eu anD rfl]
 unfold gU vG
 generalize cl p 0 n=A at *
 generalize cl p 1 n=B at *
 generalize cl p 2 n=C at *
 have w0:IntKind.i64.wrap A=A:=aI (by omega)
 have w1:IntKind.i64.wrap (A+B)=A+B:=aI (by omega)
 have w2:IntKind.i64.wrap (A+B+C)=A+B+C:=aI (by omega)
 have w3:IntKind.i64.wrap (s.x+(A+B+C))=s.x+(A+B+C):=aI (by omega)
 have w4:IntKind.i64.wrap (s.w-(A+B+C))=s.w-(A+B+C):=aI (by omega)
 have w5:IntKind.i64.wrap (s.w-(A+B+C)-p.pr.out)=s.w-(A+B+C)-p.pr.out:=aI (by omega)
 simp only [Sl.cs] at h1 h2 h3 r2
 generalize hS:pst st (H++[.cells .plain (au p w u),.cells .plain [.int .i64 s.x,.int .i64 s.w],.cells .plain [.int .i64 0,.int .i64 0]]) K=S at h1 h2 h3
 have hld:∀ i (v:DV),[DV.fn 343 [] [.ptr (st.heap.length+k) 0],.fn 344 [] [.ptr (st.heap.length+k) 0],.fn 346 [] [.ptr (st.heap.length+k) 0,.ptr (st.heap.length+(k+1)) 0]][i]? = some v→cS S 1 false (.ptr (st.heap.length+(k+2)) i)=some v:=by
  intro i v hv
  subst hS
  simp [r2,hv]
 have l0:=hld 0 _ rfl
 have l1:=hld 1 _ rfl
 have l2:=hld 2 _ rfl
 have t3:(E tab).C jq [(3,.int .i64 n),(4,.ptr (st.heap.length+H.length) 0),(6,.ptr (st.heap.length+(H.length+1)) 0),(8,.ptr (st.heap.length+(H.length+2)) 0),(9,.int .i64 (A+B+C)),(12,.hsl 1 false (st.heap.length+(k+2)) 0 3 (some 3)),(13,.int .i64 3),(14,.int .i64 3)] S=some (.exit 0,[(3,.int .i64 n),(4,.ptr (st.heap.length+H.length) 0),(6,.ptr (st.heap.length+(H.length+1)) 0),(8,.ptr (st.heap.length+(H.length+2)) 0),(9,.int .i64 (A+B+C)),(12,.hsl 1 false (st.heap.length+(k+2)) 0 3 (some 3)),(13,.int .i64 3),(14,.int .i64 3),(15,.bool false)],S):=by
  rw [aj (L:=jq) rfl]
  simp [oK]
 have t2:(E tab).C jq [(3,.int .i64 n),(4,.ptr (st.heap.length+H.length) 0),(6,.ptr (st.heap.length+(H.length+1)) 0),(8,.ptr (st.heap.length+(H.length+2)) 0),(9,.int .i64 (A+B)),(12,.hsl 1 false (st.heap.length+(k+2)) 0 3 (some 3)),(13,.int .i64 3),(14,.int .i64 2)] S=some (.exit 0,[(3,.int .i64 n),(4,.ptr (st.heap.length+H.length) 0),(6,.ptr (st.heap.length+(H.length+1)) 0),(8,.ptr (st.heap.length+(H.length+2)) 0),(9,.int .i64 (A+B+C)),(12,.hsl 1 false (st.heap.length+(k+2)) 0 3 (some 3)),(13,.int .i64 3),(14,.int .i64 3),(15,.bool false)],S):=by
  rw [aj (L:=jq) rfl]
  simp [oK,dm,l2,h3,w2,show IntKind.i64.wrap 3=3 by decide,t3]
 have t1:(E tab).C jq [(3,.int .i64 n),(4,.ptr (st.heap.length+H.length) 0),(6,.ptr (st.heap.length+(H.length+1)) 0),(8,.ptr (st.heap.length+(H.length+2)) 0),(9,.int .i64 A),(12,.hsl 1 false (st.heap.length+(k+2)) 0 3 (some 3)),(13,.int .i64 3),(14,.int .i64 1)] S=some (.exit 0,[(3,.int .i64 n),(4,.ptr (st.heap.length+H.length) 0),(6,.ptr (st.heap.length+(H.length+1)) 0),(8,.ptr (st.heap.length+(H.length+2)) 0),(9,.int .i64 (A+B+C)),(12,.hsl 1 false (st.heap.length+(k+2)) 0 3 (some 3)),(13,.int .i64 3),(14,.int .i64 3),(15,.bool false)],S):=by
  rw [aj (L:=jq) rfl]
  simp [oK,dm,l1,h2,w1,show IntKind.i64.wrap 2=2 by decide,t2]
 have t0:(E tab).C jq [(3,.int .i64 n),(4,.ptr (st.heap.length+H.length) 0),(6,.ptr (st.heap.length+(H.length+1)) 0),(8,.ptr (st.heap.length+(H.length+2)) 0),(9,.int .i64 0),(12,.hsl 1 false (st.heap.length+(k+2)) 0 3 (some 3)),(13,.int .i64 3),(14,.int .i64 0)] S=some (.exit 0,[(3,.int .i64 n),(4,.ptr (st.heap.length+H.length) 0),(6,.ptr (st.heap.length+(H.length+1)) 0),(8,.ptr (st.heap.length+(H.length+2)) 0),(9,.int .i64 (A+B+C)),(12,.hsl 1 false (st.heap.length+(k+2)) 0 3 (some 3)),(13,.int .i64 3),(14,.int .i64 3),(15,.bool false)],S):=by
  rw [aj (L:=jq) rfl]
  simp [oK,dm,l0,h1,w0,show IntKind.i64.wrap 1=1 by decide,t1]
 subst hS
 simp [Ea,Sl.dv,Sl.cs,t0,w3,w4,w5,e,aqn,My]
end
theorem an8 (k:IntKind) (x y z:Int):dX kH [.int k x,.int k y,.int k z]=some (.int k (max (max x y) z)):=by
 have h1:(if y>x then y else x)=max x y:=by split<;>omega
 have h2:(if z>max x y then z else max x y)=max (max x y) z:=by split<;>omega
 simp [dX,kH,h1,h2]
def manyN (p:bp) (sl:List Sl):Nat:=(max (max (sl.length:Int) 1) p.pr.drop).toNat
def inF (p:bp) (sl:List Sl) (rest:Sl) (n:Nat):Sl:=gU p (bA sl rest n) n
def inL (p:bp) (sl:List Sl) (rest:Sl):List Sl:=(List.range (manyN p sl)).map (inF p sl rest)
def k8 (p:bp) (sl:List Sl) (rest:Sl):Sl:=gU p rest (manyN p sl)
section
variable {st:St} {p:bp} {w u:LW} {sl:List Sl} {sv:DV} {rest:Sl}
theorem oi (h0:aE p=0) (hl:sl.length≤256):1≤manyN p sl∧manyN p sl≤256∧((manyN p sl:Nat):Int)=max (max (sl.length:Int) 1) p.pr.drop:=by
 have hc:=dp h0
 unfold manyN
 omega
theorem aar (h0:aE p=0) (hs:Sls st sl sv) (hso:Zg sl rest) (hl:sl.length≤256) (x2:HO):∀ (k i:Nat) (J:List HO) (K:List Nat) (ov:DV),i+k=manyN p sl →
 sM st p w u (.cells .plain (au p w u)::.cells .plain rest.cs::x2::J) 3 →
 Acc st K 2 (((List.range i).map (inF p sl rest)).map Sl.dv) ov→∃ ov' K' J' fr,
 (E tab).C sd [(1,sv),(3,.ptr st.heap.length 0),(5,.ptr (st.heap.length+1) 0),(7,.ptr (st.heap.length+2) 0),(8,.hsl 1 false (st.heap.length+5) 0 3 (some 3)),(9,.int .i64 (manyN p sl)),(10,ov),(20,.int .i64 (manyN p sl)),(21,.int .i64 i)] (pst st (.cells .plain (au p w u)::.cells .plain rest.cs::x2::J) K) =
  some (.exit 0,(1,sv)::(3,.ptr st.heap.length 0)::(5,.ptr (st.heap.length+1) 0)::(7,.ptr (st.heap.length+2) 0)::(8,.hsl 1 false (st.heap.length+5) 0 3 (some 3))::(9,.int .i64 (manyN p sl))::(10,ov')::fr,pst st (.cells .plain (au p w u)::.cells .plain rest.cs::x2::(J++J')) K') ∧
  Acc st K' 2 ((inL p sl rest).map Sl.dv) ov':=by
 have hm:=oi (p:=p) h0 hl
 intro k
 induction k with
 | zero=>
   intro i J K ov hi hk hA
   obtain rfl:i=manyN p sl:=by omega
   refine ⟨ov,K,[],[(20,.int .i64 (manyN p sl)),(21,.int .i64 (manyN p sl)),(22,.bool false)],?_,hA⟩
   rw [aj (L:=sd) rfl]
   simp [wI]
 | succ k ih=>
   intro i J K ov hi hk hA
   have his:(i:Int)<manyN p sl:=by omega
   have his':i<manyN p sl:=by omega
   have hw:IntKind.i64.wrap ((i:Int)+1)=((i+1:Nat):Int):=by rw [aI (by omega)];simp
   have hrange:(List.range (i+1)).map (inF p sl rest)=(List.range i).map (inF p sl rest)++[inF p sl rest i]:=by rw [List.range_succ];simp
   have h114:=tt (rest:=rest) (hs.inn (.cells .plain (au p w u)::.cells .plain rest.cs::x2::J) K) i
   obtain ⟨J1,h331⟩:=uE (K:=K) h0 hk (bA sl rest i) (hso i) i
   have hk2:=hk.add J1
   obtain ⟨ov2,K2,hap,hA2⟩:=fT (H:=.cells .plain (au p w u)::.cells .plain rest.cs::x2::(J++J1)) (by_:=16) (ag:=true) (tk:=.tight) (t:=st.cur) (ys:=[(inF p sl rest i).dv]) hA (by omega) (by simp) (by simp [zM]) (by simp [az];omega) (by simp [az];omega)
   obtain ⟨ov',K',J',fr,hJ,hR⟩:=ih (i+1) (J++J1) K2 ov2 (by omega) hk2 (by rw [hrange];simpa using hA2)
   refine ⟨ov',K',J1++J',fr,?_,hR⟩
   rw [aj (L:=sd) rfl]
   rw [show gU p (bA sl rest i) i=inF p sl rest i from rfl] at h331
   generalize inF p sl rest i=g at *
   generalize bA sl rest i=s at *
   simp only [Sl.cs,Sl.dv] at h114 h331 hap hJ ⊢
   simp at h331 hap hJ
   simp [wI,his,iS,mD,tv,tP,bl,h114,h331,bb,bm,chunk,hap,hw,hJ]
theorem Az (h0:aE p=0) (hp:p.small) (hw:w.ok 4 p.aV) (hu:u.ok 1 p.marks) (hs:Sls st sl sv) (hc:cw sl rest=0) :
 ∃ v,(E tab).F 320 [.agg (au p w u),sv,rest.dv] st=some (.tuple [v,(k8 p sl rest).dv],st)∧Lw 2 ((inL p sl rest).map Sl.dv) v:=by
 rw [aY akn rfl]
 obtain ⟨hso,hl⟩:=mn hc
 have hm:=oi (p:=p) h0 hl
 have hcp:=dp h0
 have e0:=fun st'=>Vw.len hs st'
 simp only [List.length_map] at e0
 have hsv:sv.leaves=[sv]∧sv.bh=true:=by cases hs<;>exact ⟨rfl,rfl⟩
 have h330:=DB (st:=st) h0 hp hw hu [.cells .plain (au p w u),.cells .plain rest.cs,.cells .plain [.int .i64 0,.int .i64 0]] []
 have hk:sM st p w u (.cells .plain (au p w u)::.cells .plain rest.cs::.cells .plain [.int .i64 0,.int .i64 0]::prH p w u (st.heap.length+3)) 3:=⟨rfl,rfl,rfl⟩
 obtain ⟨ov,K1,J1,fr1,hJ,hA⟩:=aar (st:=st) h0 hs hso hl (.cells .plain [.int .i64 0,.int .i64 0]) (manyN p sl) 0 (prH p w u (st.heap.length+3)) [] (.list 0 0 .no false []) (by omega) hk (fg _ _ _ _ _ _)
 have hk1:=hk.add J1
 have hrest:0≤rest.x∧rest.x≤4095∧0≤rest.w∧rest.w≤4095:=by
  have:=hso sl.length
  unfold bA oN at this
  rw [if_neg (by omega)] at this
  simpa using this
 obtain ⟨J2,h331⟩:=uE (K:=K1) h0 hk1 rest hrest (manyN p sl)
 obtain ⟨t,n,tk,nn,rfl,c1,c2⟩:∃ t n tk nn,ov=.list t n tk nn ((inL p sl rest).map Sl.dv)∧(nn=true→n=2)∧(nn=false→(inL p sl rest).map Sl.dv=[]):=by
  rcases hA with ⟨hx,t,n',tk,rfl⟩ | ⟨k,s,rfl,hk⟩
  · exact ⟨_,_,_,_,by rw [hx],(fun h=>by cases h),fun _=>hx⟩
  · exact ⟨_,_,_,_,rfl,fun _=>rfl,(fun h=>by cases h)⟩
 refine ⟨.list t n (qJ tk) nn ((inL p sl rest).map Sl.dv),?_,.list _ _ _ _ c1 c2⟩
 have e14:(au p w u)[16]? = some (.int .i64 p.pr.drop):=rfl
 have wl:IntKind.i64.wrap (sl.length:Int)=sl.length:=aI (by omega)
 have hmx:=an8 .i64 (sl.length:Int) 1 p.pr.drop
 rw [← hm.2.2] at hmx
 rw [show gU p rest (manyN p sl)=k8 p sl rest from rfl] at h331
 generalize (inL p sl rest).map Sl.dv=VI at *
 generalize k8 p sl rest=R at *
 generalize manyN p sl=MN at *
 simp only [Sl.cs,Sl.dv,prH] at h330 hJ h331 ⊢
 simp at h330 hJ h331
 simp [-fe,exl,Du,e0,e14,hmx,h330,hJ,h331]
theorem BJ (hp:p.small) (hw:w.ok 4 p.aV) (hu:u.ok 1 p.marks) (hs:Sls st sl sv):(E tab).F 319 [.agg (au p w u),sv,rest.dv] st=some (.int .i64 (if aE p≠0 then aE p else cw sl rest),st):=by
 rw [aY aop rfl]
 have h13:=fun st=>z5 p hp w u hw hu st
 have h126:=wB (rest:=rest) (hs.inn [.cells .plain (au p w u),.cells .plain rest.cs] [])
 by_cases h0:aE p=0
 · simp only [Sl.cs,Sl.dv] at h126 ⊢
   simp [AD,h13,h0,h126]
 · simp only [Sl.cs,Sl.dv] at h126 ⊢
   simp [AD,h13,h0]
theorem AK (hl1:p.pr.least≠1) {l:List It} {lv:DV} (hv:Its st l lv) (hs:Sls st sl sv) :
 ∃ v,(E tab).F 321 [.agg (au p w u),lv,sv,rest.dv] st=some (.agg [v,.bool true,.bool (decide (fv l sl rest≠0))],st)∧Lw 5 ((iZ l sl rest).map Pc.dv) v:=by
 rw [aY akg rfl]
 have e15:(au p w u)[15]? = some (.int .i64 p.pr.least):=rfl
 obtain ⟨v,hb,hv5⟩:=Dd (rest:=rest) (hs.inn [.cells .plain (au p w u),.cells .plain rest.cs,.cells .plain [.list 0 0 .no false [],.bool false,.bool false]] []) (hv.inn [.cells .plain (au p w u),.cells .plain rest.cs,.cells .plain [.list 0 0 .no false [],.bool false,.bool false]] [])
 have hlv:lv.leaves=[lv]∧lv.bh=true:=by cases hv<;>exact ⟨rfl,rfl⟩
 have hsv:sv.leaves=[sv]∧sv.bh=true:=by cases hs<;>exact ⟨rfl,rfl⟩
 obtain ⟨t,n,tk,nn,rfl,c0,c1,c2⟩:=tY hv5
 refine ⟨.list t n (qJ tk) nn ((iZ l sl rest).map Pc.dv),?_,.list _ _ _ _ c1 c2⟩
 generalize (iZ l sl rest).map Pc.dv=VB at *
 by_cases hE:fv l sl rest=0
 · rw [hE] at hb
   simp only [Sl.cs,Sl.dv] at hb ⊢
   simp [-fe,exl,Bp,e15,hl1,dm,hb,hE]
 · simp only [Sl.cs,Sl.dv] at hb ⊢
   simp [-fe,exl,Bp,e15,hl1,dm,hb,hE]
end
def iz0:It:=⟨0,0,0,0,0,0,0,false⟩
def toP (T:Int) (it:List It):List Pc→Int
 | []=>T
 | y::_=>(it.getD y.a.toNat iz0).f
def lnP (fr to:Int) (s:Sl) (x:Pc):Ln:=⟨fr,to,s.x,s.w,x.n,x.hy,if x.wide then 1 else 0⟩
def l5 (T:Int) (it:List It) (sl:List Sl) (rest:Sl):Nat→Int→List Pc→List Ln
 | _,_,[]=>[]
 | n,fr,x::r=>lnP fr (toP T it r) (bA sl rest n) x::l5 T it sl rest (n+1) (toP T it r) r
section
variable {st:St} {p:bp} {w u:LW} {sl:List Sl} {sv:DV} {rest:Sl}
theorem A8 (l:List It) (a b:Int):∃ x y z:Int,zI l a b=.tuple [.int .i64 x,.int .i64 y,.int .i64 z]:=by
 unfold zI
 split<;>exact ⟨_,_,_,rfl⟩
theorem MD (l:Ln):dy 7 true l.dv:=⟨rfl,rfl,rfl⟩
theorem rj (T:Int) (it:List It) (sl:List Sl) (rest:Sl):∀ (P:List Pc) (n:Nat) (fr:Int),(l5 T it sl rest n fr P).length=P.length
 | [],_,_=>rfl
 | x::r,n,fr=>by simp [l5,rj T it sl rest r]
theorem agL {it:List It} {iv:DV} {c1:List DV} (hi:Its st it iv) (hs:Sls st sl sv) {P:List Pc} (hP:P.length≤20000) (hPa:∀ y∈P,0≤y.a) (hPb:2≤P.length→∀ y∈P,y.a<it.length) {t n:Nat} {tk:Tk} {nn:Bool} (h5:P≠[]→n=5) {lo:Bool} (hlo:P≠[]→lo=false) :
 ∀ (r d:List Pc) (J:List HO) (K:List Nat) (ov:DV) (fr0:Int) (ls:List Ln),P=d++r→ls.length=d.length →
 Acc st K 7 (ls.map Ln.dv) ov→∃ ov' K' J' fr,
 (E tab).C tu [(3,.ptr st.heap.length 0),(9,iv),(11,sv),(12,.ptr (st.heap.length+2) 0),(13,.ptr (st.heap.length+3) 0),(14,ov),(15,.int .i64 fr0),(49,.list t n tk nn (P.map Pc.dv)),(50,.int .i64 P.length),(51,.int .i64 d.length)] (pst st (.cells .plain (au p w u)::.cells .plain c1::.cells .plain rest.cs::.cells .plain [.list t n tk nn (P.map Pc.dv),.bool true,.bool lo]::J) K) =
  some (.exit 0,(3,.ptr st.heap.length 0)::(9,iv)::(11,sv)::(12,.ptr (st.heap.length+2) 0)::(13,.ptr (st.heap.length+3) 0)::(14,ov')::fr,pst st (.cells .plain (au p w u)::.cells .plain c1::.cells .plain rest.cs::.cells .plain [.list t n tk nn (P.map Pc.dv),.bool true,.bool lo]::(J++J')) K') ∧
  Acc st K' 7 ((ls++l5 p.text.length it sl rest d.length fr0 r).map Ln.dv) ov':=by
 intro r
 induction r with
 | nil=>
   intro d J K ov fr0 ls hd hls hA
   rw [List.append_nil] at hd
   subst hd
   refine ⟨ov,K,[],[(15,.int .i64 fr0),(49,.list t n tk nn (P.map Pc.dv)),(50,.int .i64 P.length),(51,.int .i64 P.length),(52,.bool false)],?_,by simpa [l5] using hA⟩
   rw [aj (L:=tu) rfl]
   simp [mU]
 | cons x r ih=>
   intro d J K ov fr0 ls hd hls hA
   have hlt:d.length<P.length:=by simp [hd]
   obtain rfl:=h5 (by intro e;rw [e] at hlt;simp at hlt)
   obtain rfl:=hlo (by intro e;rw [e] at hlt;simp at hlt)
   have hlt':(d.length:Int)<P.length:=by omega
   have hw:IntKind.i64.wrap ((d.length:Int)+1)=((d++[x]).length:Nat):=by rw [aI (by omega)];simp
   have hVl:(P.map Pc.dv).length=P.length:=by simp
   have l0:d.length<(P.map Pc.dv).length:=by rw [hVl];exact hlt
   have g0:(P.map Pc.dv)[d.length]'l0=x.dv:=by simp [hd]
   have h114:=tt (rest:=rest) (hs.inn (.cells .plain (au p w u)::.cells .plain c1::.cells .plain rest.cs::.cells .plain [.list t 5 tk nn (P.map Pc.dv),.bool true,.bool false]::(J++[.cells .plain x.cs])) K) d.length
   obtain ⟨g1,g2,g3,hgv⟩:=A8 it x.a x.b
   have h322:=GK (hi.inn (.cells .plain (au p w u)::.cells .plain c1::.cells .plain rest.cs::.cells .plain [.list t 5 tk nn (P.map Pc.dv),.bool true,.bool false]::(J++[.cells .plain x.cs,.cells .plain (bA sl rest d.length).cs,.cells .plain ([.int .i64 fr0,.int .i64 (toP p.text.length it r),.int .i64 (bA sl rest d.length).x,.int .i64 (bA sl rest d.length).w,.int .i64 x.n,.bool x.hy,.int .i64 0])])) K) x.a x.b
   rw [hgv] at h322
   obtain ⟨ov2,K2,hap,hA2⟩:=fT (H:=.cells .plain (au p w u)::.cells .plain c1::.cells .plain rest.cs::.cells .plain [.list t 5 tk nn (P.map Pc.dv),.bool true,.bool false]::(J++[.cells .plain x.cs,.cells .plain (bA sl rest d.length).cs,.cells .plain (lnP fr0 (toP p.text.length it r) (bA sl rest d.length) x).cs])) (by_:=56) (ag:=true) (tk:=.tight) (t:=st.cur) (ys:=[(lnP fr0 (toP p.text.length it r) (bA sl rest d.length) x).dv]) hA (by omega) (by simp) (by simp [MD]) (by simp [az];omega) (by simp [az];omega)
   obtain ⟨ov',K',J',fr,hJ,hR⟩:=ih (d++[x]) (J++[.cells .plain x.cs,.cells .plain (bA sl rest d.length).cs,.cells .plain (lnP fr0 (toP p.text.length it r) (bA sl rest d.length) x).cs]) K2 ov2 (toP p.text.length it r) (ls++[lnP fr0 (toP p.text.length it r) (bA sl rest d.length) x]) (by simp [hd]) (by simp [hls]) (by simpa using hA2)
   refine ⟨ov',K',.cells .plain x.cs::.cells .plain (bA sl rest d.length).cs::.cells .plain (lnP fr0 (toP p.text.length it r) (bA sl rest d.length) x).cs::J',fr,?_,by
    simpa [l5] using hR⟩
   rw [aj (L:=tu) rfl]
   have hxa:=hPa x (by simp [hd])
   cases r with
   | nil=>
     have hlen:P.length=d.length+1:=by simp [hd]
     have hlt2:(d.length:Int)<(d.length:Int)+1:=by omega
     generalize P.map Pc.dv=V at *
     unfold lnP at hap hJ ⊢
     simp only [toP] at hap hJ h322 ⊢
     generalize bA sl rest d.length=s at *
     simp only [Sl.dv,Sl.cs,Ln.dv,Ln.cs,Pc.dv,Pc.cs] at h114 h322 hap hJ g0 ⊢
     simp at h114 h322 hap hJ
     cases hwd:x.wide with
     | false=>
       rw [hwd] at g0 h114 h322 hap hJ
       simp at hap hJ
       simp [mU,hlt2,g0,l0,h114,hVl,hlen,h322,hw,bb,bm,chunk,hap]
       simpa [hlen] using hJ
     | true=>
       rw [hwd] at g0 h114 h322 hap hJ
       simp at hap hJ
       simp [mU,hlt2,g0,l0,h114,hVl,hlen,h322,hw,show IntKind.i64.wrap 1=1 by decide,bb,bm,chunk,hap]
       simpa [hlen] using hJ
   | cons y r'=>
     have hlen:P.length=d.length+1+1+r'.length:=by simp [hd];omega
     have hlt2:(d.length:Int)<(d.length:Int)+1+1+r'.length:=by omega
     have hge:(0:Int)≤(d.length:Int)+1:=by omega
     have hlt4:d.length<d.length+1+1+r'.length:=by omega
     have hlt5:d.length+1<d.length+1+1+r'.length:=by omega
     have hlt3:(d.length:Int)+1<(d.length:Int)+1+1+r'.length:=by omega
     have l1:d.length+1<(P.map Pc.dv).length:=by rw [hVl,hlen];omega
     have g1':(P.map Pc.dv)[d.length+1]'l1=y.dv:=by simp [hd]
     have hya:=hPa y (by simp [hd])
     have hyb:=hPb (by rw [hlen];omega) y (by simp [hd])
     obtain ⟨ya,hy⟩:∃ ya:Nat,y.a=ya:=⟨y.a.toNat,by omega⟩
     have hyl:ya<it.length:=by omega
     have hx:it[ya]? = some (it.getD ya iz0):=by rw [List.getD_eq_getElem?_getD,List.getElem?_eq_getElem hyl];rfl
     have i1:=fun st'=>dR hi hyl .i64 st'
     have i2:=fun st'=>gh hi hx (off:=1) (by omega) st'
     have i3:=fun H K=>tU hi hx (off:=1) (y:=.int .i64 (it.getD ya iz0).f) rfl H K
     have et:toP p.text.length it (y::r')=(it.getD ya iz0).f:=by simp only [toP,hy];rfl
     rw [et] at hap hJ h322 ⊢
     generalize it.getD ya iz0=q at *
     generalize P.map Pc.dv=V at *
     unfold lnP at hap hJ ⊢
     generalize bA sl rest d.length=s at *
     simp only [Sl.dv,Sl.cs,Ln.dv,Ln.cs,Pc.dv,Pc.cs] at h114 h322 hap hJ g0 g1' ⊢
     simp at h114 h322 hap hJ
     have w1:IntKind.i64.wrap ((d.length:Int)+1)=(d.length:Int)+1:=aI (by omega)
     rw [hy] at g1'
     cases hwd:x.wide with
     | false=>
       rw [hwd] at g0 h114 h322 hap hJ
       simp at hap hJ
       simp [mU,hlt2,hlt3,hlt4,hlt5,hge,g0,l0,g1',h114,hVl,hlen,h322,w1,i1,i2,i3,bb,bm,chunk,hap]
       simpa [hlen] using hJ
     | true=>
       rw [hwd] at g0 h114 h322 hap hJ
       simp at hap hJ
       simp [mU,hlt2,hlt3,hlt4,hlt5,hge,g0,l0,g1',h114,hVl,hlen,h322,w1,i1,i2,i3,show IntKind.i64.wrap 1=1 by decide,bb,bm,chunk,hap]
       simpa [hlen] using hJ
end
section
variable {p:bp} {sl:List Sl} {rest:Sl}
theorem ur (h0:aE p=0) (hl:sl.length≤256) (n:Nat):bA (inL p sl rest) (k8 p sl rest) n=inF p sl rest n:=by
 have hm:=oi (p:=p) h0 hl
 unfold bA oN
 rw [if_neg (by omega),show (n:Int).toNat=n from rfl]
 by_cases h:n<manyN p sl
 · unfold inL
   simp [h]
 · have e:(inL p sl rest)[n]? = none:=by
    rw [List.getElem?_eq_none_iff];simp [inL];omega
   rw [e]
   unfold inF bA oN
   have e2:sl[(n:Int).toNat]? = none:=by
    rw [List.getElem?_eq_none_iff];show sl.length≤n;omega
   rw [if_neg (by omega),e2]
   simp only [Option.getD_none]
   unfold k8 gU vG
   have p0:cl p 0 (manyN p sl)=cl p 0 n:=rfl
   have p1:cl p 1 (manyN p sl)=cl p 1 n:=by
    simp only [cl];rw [if_pos (by omega),if_pos (by omega)]
   have p2:cl p 2 (manyN p sl)=cl p 2 n:=by
    simp only [cl];rw [if_pos (by omega),if_pos (by omega)]
   rw [p0,p1,p2]
theorem uU (h0:aE p=0) (s:Sl) (hs:0≤s.x∧s.x≤4095∧0≤s.w∧s.w≤4095) (n:Int):jK (gU p s n)=true:=by
 have hp:=z4 h0 n
 have hm:=je h0
 unfold jK bg gU vG
 simp only [Bool.and_eq_true,decide_eq_true_eq]
 omega
theorem aiB (h0:aE p=0) (hc:cw sl rest=0):cw (inL p sl rest) (k8 p sl rest)=0:=by
 obtain ⟨hso,hl⟩:=mn hc
 have hm:=oi (p:=p) h0 hl
 have hrest:0≤rest.x∧rest.x≤4095∧0≤rest.w∧rest.w≤4095:=by
  have:=hso sl.length
  unfold bA oN at this
  rw [if_neg (by omega)] at this
  simpa using this
 unfold cw
 rw [if_neg (by simp [inL];omega),if_pos]
 rw [Bool.and_eq_true,List.all_eq_true]
 refine ⟨fun s hs => ?_,uU h0 rest hrest _⟩
 obtain ⟨n,_,rfl⟩:=List.mem_map.1 hs
 exact uU h0 _ (hso n) _
def gd (l:List It) (F:Nat→Sl):Nat→Nat→Nat→List Pc
 | 0,_,_=>[]
 | f+1,a,n=>if a<l.length then fx l a (F n)::gd l F f (jx l (fx l a (F n)).b.toNat) (n+1) else []
theorem zx (l:List It) {sl:List Sl} {rest:Sl} {F:Nat→Sl} (h:∀ n:Nat,bA sl rest n=F n):∀ f a n,js l sl rest f a n=gd l F f a n
 | 0,_,_=>rfl
 | f+1,a,n=>by simp only [js,gd,h n,zx l h f]
def CC (T:Int) (it:List It) (F:Nat→Sl):Nat→Int→List Pc→List Ln
 | _,_,[]=>[]
 | n,fr,x::r=>lnP fr (toP T it r) (F n) x::CC T it F (n+1) (toP T it r) r
theorem MK (T:Int) (it:List It) {sl:List Sl} {rest:Sl} {F:Nat→Sl} (h:∀ n:Nat,bA sl rest n=F n):∀ (P:List Pc) (n:Nat) (fr:Int),l5 T it sl rest n fr P=CC T it F n fr P
 | [],_,_=>rfl
 | x::r,n,fr=>by simp only [l5,CC,h n,MK T it h r]
def nb (p:bp) (sl:List Sl) (rest:Sl):List Pc:=iZ (b8 p) (inL p sl rest) (k8 p sl rest)
def kU (p:bp) (sl:List Sl) (rest:Sl):List Ln:=l5 p.text.length (b8 p) (inL p sl rest) (k8 p sl rest) 0 0 (nb p sl rest)
def fO (l:List It) (F:Nat→Sl):List Pc:=
 if bD l≠0 then [] else if ca l l.length 0=l.length then [⟨l.length,l.length,false,false,0⟩] else gd l F l.length (ca l l.length 0) 0
theorem Dk (h0:aE p=0) (hc:cw sl rest=0):nb p sl rest=fO (b8 p) (inF p sl rest):=by
 obtain ⟨_,hl⟩:=mn hc
 have hin:=aiB h0 hc
 have hE:fv (b8 p) (inL p sl rest) (k8 p sl rest)=bD (b8 p):=by
  unfold fv
  by_cases h:bD (b8 p)=0
  · rw [if_neg (by simp [h]),h,hin]
  · rw [if_pos h]
 unfold nb iZ fO
 rw [hE,zx _ (ur h0 hl)]
theorem agb (h0:aE p=0) (hc:cw sl rest=0):kU p sl rest=CC p.text.length (b8 p) (inF p sl rest) 0 0 (nb p sl rest):=by
 obtain ⟨_,hl⟩:=mn hc
 exact MK _ _ (ur h0 hl) _ _ _
theorem B4 (l:List It) (a:Nat) (s:Sl):(fx l a s).a=a:=by
 unfold fx
 split<;>rfl
theorem qf (l:List It) (F:Nat→Sl):∀ f a n,∀ y∈gd l F f a n,0≤y.a∧y.a<l.length
 | 0,_,_,y,h=>by simp [gd] at h
 | f+1,a,n,y,h=>by
   simp only [gd] at h
   split at h
   · rename_i ha
     rcases List.mem_cons.1 h with rfl | h
     · have e:=B4 l a (F n)
       rw [e];omega
     · exact qf l F f _ _ y h
   · cases h
theorem q6 (l:List It) (F:Nat→Sl):∀ f a n,(gd l F f a n).length≤f
 | 0,_,_=>by simp [gd]
 | f+1,a,n=>by
   simp only [gd]
   split
   · have:=q6 l F f (jx l (fx l a (F n)).b.toNat) (n+1);simp;omega
   · simp
theorem rE (l:List It) (F:Nat→Sl):(∀ y∈fO l F,0≤y.a)∧(2≤(fO l F).length→∀ y∈fO l F,y.a<l.length)∧(fO l F).length≤8193:=by
 unfold fO
 split
 · simp
 · rename_i h1
   have hlen:l.length≤8192:=by
    apply Classical.byContradiction
    intro h
    apply h1
    unfold bD
    rw [if_pos (by omega)];simp
   split
   · refine ⟨?_,?_,?_⟩
     · simp
     · intro h;simp at h
     · simp
   · exact ⟨fun y hy=>(qf l F _ _ _ y hy).1,fun _ y hy=>(qf l F _ _ _ y hy).2,by have:=q6 l F l.length (ca l l.length 0) 0;omega⟩
end
section
variable {st:St} {p:bp} {w u:LW} {sl:List Sl} {sv:DV} {rest:Sl}
def uM (p:bp) (sl:List Sl) (rest:Sl):Int:=if aE p≠0 then aE p else cw sl rest
theorem XV (hp:p.small) (hw:w.ok 4 p.aV) (hu:u.ok 1 p.marks) (hl1:p.pr.least≠1) (hs:Sls st sl sv) :
 ∃ v,(E tab).F 307 [.agg (au p w u),sv,rest.dv] st=some (.tuple [v,.int .i64 (uM p sl rest)],st)∧Lw 7 ((if uM p sl rest=0 then kU p sl rest else []).map Ln.dv) v:=by
 rw [aY ak0 rfl]
 have h319:=BJ (rest:=rest) hp hw hu (hs.inn [.cells .plain (au p w u),.cells .plain rest.cs] [])
 rw [show (if aE p≠0 then aE p else cw sl rest)=uM p sl rest from rfl] at h319
 have hsv:sv.leaves=[sv]∧sv.bh=true:=by cases hs<;>exact ⟨rfl,rfl⟩
 by_cases hE:uM p sl rest=0
 rotate_left
 · rw [if_neg hE]
   refine ⟨.list 0 0 .no false [],?_,.list _ _ _ _ (fun h=>by cases h) (fun _=>rfl)⟩
   simp only [Sl.dv,Sl.cs] at h319 ⊢
   simp [A6,h319,hE]
 rw [if_pos hE,hE]
 rw [hE] at h319
 have h0:aE p=0:=by
  apply Classical.byContradiction
  intro h;unfold uM at hE;rw [if_pos h] at hE;exact h hE
 have hc:cw sl rest=0:=by unfold uM at hE;rw [if_neg (by simp [h0])] at hE;exact hE
 obtain ⟨iv,h106,hiv⟩:=BA (st:=pst st [.cells .plain (au p w u),.cells .plain rest.cs] []) hp hw hu
 rw [h0] at h106
 rw [if_pos h0] at hiv
 obtain ⟨nv,h320,hnv⟩:=Az (st:=pst st [.cells .plain (au p w u),.cells .plain rest.cs] []) h0 hp hw hu (hs.inn _ _) hc
 obtain ⟨bv,h321,hbv⟩:=AK (st:=pst st [.cells .plain (au p w u),.cells .plain rest.cs,.cells .plain (k8 p sl rest).cs] []) (w:=w) (u:=u) (rest:=k8 p sl rest) hl1 (Lw.vw hiv:Its _ (b8 p) iv) (Lw.vw hnv)
 obtain ⟨t,n,tk,nn,rfl,c0,_,_⟩:=tY hbv
 have hP:=Dk h0 hc
 obtain ⟨q1,q2,q3⟩:=rE (b8 p) (inF p sl rest)
 rw [← hP] at q1 q2 q3
 have hlo:nb p sl rest≠[]→decide (fv (b8 p) (inL p sl rest) (k8 p sl rest)≠0)=false:=by
  intro h
  apply decide_eq_false
  intro h2
  apply h
  unfold nb iZ
  rw [if_pos h2]
 rw [show iZ (b8 p) (inL p sl rest) (k8 p sl rest)=nb p sl rest from rfl] at h321 c0
 obtain ⟨ov,K1,J1,fr1,hJ,hA⟩:=agL (st:=st) (p:=p) (w:=w) (u:=u) (rest:=k8 p sl rest) (c1:=rest.cs) (Lw.vw hiv:Its st (b8 p) iv) (Lw.vw hnv) (P:=nb p sl rest) (by omega) q1 q2 (t:=t) (tk:=tk) (nn:=nn) (fun h=>c0 (by
  intro e;rw [List.map_eq_nil_iff] at e;exact h e)) hlo (nb p sl rest) [] [] [] (.list 0 0 .no false []) 0 [] rfl rfl (fg _ _ _ _ _ _)
 obtain ⟨t2,n2,tk2,nn2,rfl,c1,c2⟩:∃ t n tk nn,ov=.list t n tk nn ((kU p sl rest).map Ln.dv)∧(nn=true→n=7)∧(nn=false→(kU p sl rest).map Ln.dv=[]):=by
  have hA':Acc st K1 7 ((kU p sl rest).map Ln.dv) ov:=by simpa [kU] using hA
  rcases hA' with ⟨hx,t,n',tk,rfl⟩ | ⟨k,s,rfl,hk⟩
  · exact ⟨_,_,_,_,by rw [hx],(fun h=>by cases h),fun _=>hx⟩
  · exact ⟨_,_,_,_,rfl,fun _=>rfl,(fun h=>by cases h)⟩
 refine ⟨.list t2 n2 (qJ tk2) nn2 ((kU p sl rest).map Ln.dv),?_,.list _ _ _ _ c1 c2⟩
 have hVl:((nb p sl rest).map Pc.dv).length=(nb p sl rest).length:=by simp
 generalize (kU p sl rest).map Ln.dv=VL at *
 generalize k8 p sl rest=R2 at *
 generalize decide (fv (b8 p) (inL p sl rest) R2≠0)=lo at *
 generalize (nb p sl rest).map Pc.dv=VP at *
 simp only [Sl.dv,Sl.cs] at h319 h106 h320 h321 hJ ⊢
 simp at h106 h320 h321 hJ
 simp [-fe,exl,A6,h319,h106,h320,h321,hVl,hJ]
end
def xU:Nat→List Clu→Nat→Prop
 | i,[],e=>i=e
 | i,c::r,e=>c.a=i∧i<c.b∧xU c.b r e
def Chn:Int→List ai→Int→Prop
 | i,[],e=>i=e
 | i,m::r,e=>m.a=i∧i<m.b∧Chn m.b r e
theorem qR (s:List UInt8):∀ n i,s.length≤i+n→i≤s.length→xU i (ey s n i) s.length
 | 0,i,h1,h2=>by
   obtain rfl:i=s.length:=by omega
   simp [ey,xU]
 | n+1,i,h1,h2=>by
   have ht:=oz s (kb s i) 2 (i+1)
   by_cases hi:i<s.length
   · simp only [ey,hi,if_true,xU]
     exact ⟨trivial,by unfold cTo;omega,qR s n (cTo s i) (by unfold cTo;omega) (by unfold cTo;omega)⟩
   · obtain rfl:i=s.length:=by omega
     simp [ey,xU]
theorem qd (p:bp):∀ (l:List Clu) (i e:Nat) (kr:Bool) (bf:UInt8) (ps:Int) (mk:List (List UInt8)),xU i l e→Chn i (df p kr bf ps mk l) e
 | [],i,e,_,_,_,_,h=>by simp only [xU] at h;subst h;simp [df,Chn]
 | c::r,i,e,kr,bf,ps,mk,h=>by
   obtain ⟨h1,h2,h3⟩:=h
   simp only [df,Chn,aX]
   exact ⟨by omega,by omega,qd p r c.b e _ _ _ _ h3⟩
theorem Ag {p:bp} (h0:aE p=0):Chn 0 (aF p) p.text.length:=by
 have:=qd p (ln p.text) 0 p.text.length false 0 0 p.marks (qR p.text p.text.length 0 (by omega) (by omega))
 unfold aF pP
 rw [if_pos h0]
 exact this
theorem Chn.ge:∀ {L:List ai} {i e:Int},Chn i L e→i≤e∧∀ m∈L,i≤m.a∧m.a<m.b∧m.b≤e
 | [],i,e,h=>by simp only [Chn] at h;subst h;simp
 | m::r,i,e,h=>by
   obtain ⟨h1,h2,h3⟩:=h
   have ih:=Chn.ge h3
   refine ⟨by omega,fun x hx => ?_⟩
   rcases List.mem_cons.1 hx with rfl | hx
   · omega
   · have:=ih.2 x hx;omega
def sW:List ai→Int
 | []=>0
 | m::r=>m.w+sW r
theorem w9:∀ (a b:List ai),sW (a++b)=sW a+sW b
 | [],b=>by simp [sW]
 | x::a,b=>by simp only [List.cons_append,sW,w9 a b];omega
theorem vr:∀ (l:List ai) (o:Bool) (n:Int),(∀ m∈l,m.e=0)→jG o n l=n+sW l
 | [],o,n,_=>by simp [jG,sW]
 | m::r,o,n,h=>by
   have h1:=h m (List.mem_cons_self ..)
   rw [jG,vr r _ _ fun x hx=>h x (List.mem_cons_of_mem _ hx),sW,h1]
   split<;>omega
theorem DA:∀ (l:List ai),l.all okM=true→0≤sW l∧sW l≤4095*l.length
 | [],_=>by simp [sW]
 | m::r,h=>by
   simp only [List.all_cons,Bool.and_eq_true] at h
   have h1:=DA r h.2
   have h2:=h.1
   simp [okM] at h2
   simp only [sW,List.length_cons]
   omega
theorem KK (l:List ai) (h:l.all okM=true) (i k:Nat):0≤sW ((l.drop i).take k)∧sW ((l.drop i).take k)≤sW l:=by
 have e:l=l.take i++((l.drop i).take k++(l.drop i).drop k):=by rw [List.take_append_drop,List.take_append_drop]
 have hs:=congrArg sW e
 rw [w9,w9] at hs
 have hall:=List.all_eq_true.1 h
 have sub:∀ l':List ai,(∀ m∈l',m∈l)→0≤sW l':=fun l' hm=>(DA l' (List.all_eq_true.2 fun m h=>hall m (hm m h))).1
 have h1:=sub (l.take i) fun m hm=>List.mem_of_mem_take hm
 have h2:=sub ((l.drop i).take k) fun m hm=>List.mem_of_mem_drop (List.mem_of_mem_take hm)
 have h3:=sub ((l.drop i).drop k) fun m hm=>List.mem_of_mem_drop (List.mem_of_mem_drop hm)
 omega
theorem eO (s:List UInt8) (L:List ai) (pl:List Bool):∀ (l:List ai) (k run fr:Nat),(bE s L pl k run fr l).length≤3*l.length+1
 | [],k,run,fr=>by simp only [bE];split<;>simp
 | m::r,k,run,fr=>by
   simp only [bE,List.length_cons]
   split
   · have:=eO s L pl r (k+1) (k+1) (k+1)
     split<;>simp<;>omega
   · split
     · have:=eO s L pl r (k+1) run fr;omega
     · split
       · have:=eO s L pl r (k+1) run k;simp;omega
       · split
         · have:=eO s L pl r (k+1) run k;simp;omega
         · have:=eO s L pl r (k+1) run fr;omega
def gP (pr:dG) (s:List UInt8):bp:=⟨s,if s=[] then [] else [⟨s.length,⟨0,0,0⟩⟩],pr,[],[]⟩
def gW (st:St) (s:List UInt8):LW:=if s=[] then ⟨0,0,.no,false⟩ else ⟨st.cur,4,.tight,true⟩
theorem alT (st:St) (pr:dG) (s:List UInt8):(gW st s).ok 4 (gP pr s).aV:=by
 unfold gW gP
 by_cases h:s=[]<;>simp [h,LW.ok]
theorem C9 (pr:dG) (s:List UInt8):(gP pr s).small:=⟨by simp [gP],by simp [gP],by simp [gP]⟩
theorem apP (pr:dG) (s:List UInt8):LW.ok ⟨0,0,.no,false⟩ 1 (gP pr s).marks:=⟨(fun h=>by cases h),fun _=>rfl⟩
def gB (c:UInt8):Bool:=decide (32≤c.toNat)&&decide (c.toNat≤126)
theorem asj:((List.range 256).all fun c => !(decide (32≤c∧c≤126)) || !(kd c==0))=true:=by decide +kernel
theorem pk {c:UInt8} (h:gB c=true):yw c=true∧c≠2∧c≠3:=by
 simp only [gB,Bool.and_eq_true,decide_eq_true_eq] at h
 have:=List.all_eq_true.1 asj c.toNat (List.mem_range.2 c.toNat_lt)
 rw [decide_eq_true h,Bool.not_true,Bool.false_or] at this
 refine ⟨this,?_,?_⟩<;>rintro rfl<;>revert h<;>decide
theorem vH {pr:dG} (hpr:cD pr=true) {s:List UInt8} (hl:s.length≤4096) (hb:s.all gB=true):aE (gP pr s)=0:=by
 have hall:=List.all_eq_true.1 hb
 have h1:cW s=0:=by
  unfold cW
  rw [if_neg (by omega),if_pos]
  rw [List.all_eq_true]
  exact fun c hc=>(pk (hall c hc)).1
 have h3:¬ (3:UInt8)∈s:=fun h=>(pk (hall 3 h)).2.2 rfl
 have h2:s.count 2=0:=List.count_eq_zero.2 fun h=>(pk (hall 2 h)).2.1 rfl
 have hs:dH s.length (if s=[] then [] else [⟨s.length,⟨0,0,0⟩⟩])=true:=by
  by_cases h:s=[]
  · subst h;rfl
  · have hp:0<s.length:=List.length_pos_iff.2 h
    rw [if_neg h]
    have h1:(1:Int)≤s.length:=by omega
    have hlk:dO ⟨0,0,0⟩=true:=rfl
    unfold dH
    simp [eF,h1,hlk]
 unfold aE gP
 simp only [h1,if_true]
 rw [if_neg h3,if_pos]
 · rfl
 · rw [hs,hpr,h2];rfl
theorem asZ (pr:dG) (s:List UInt8):∀ m∈aF (gP pr s),m.e=0:=by
 have hl:∀ i,(bJ (gP pr s).aV i).e=0:=by
  intro i
  unfold bJ gP
  by_cases h:s=[]
  · simp [h,cU,o5]
  · simp only [h,if_false,cU]
    split<;>rfl
 have go:∀ (l:List Clu) (kr:Bool) (bf:UInt8) (ps:Int) (mk:List (List UInt8)),∀ m∈df (gP pr s) kr bf ps mk l,m.e=0:=by
  intro l
  induction l with
  | nil=>intro kr bf ps mk m h;cases h
  | cons c r ih=>
    intro kr bf ps mk m h
    rcases List.mem_cons.1 h with rfl | h
    · simp [aX,bL,hl]
    · exact ih _ _ _ _ m h
 unfold aF
 split
 · exact go _ _ _ _ _
 · intro m h;cases h
theorem sC {L:List ai} (hok:L.all okM=true) (he:∀ m∈L,m.e=0) {i e:Int} (hc:Chn i L e) (hi:0≤i) (hlen:L.length≤500) {fr k:Nat} (h1:fr<k) (h2:k≤L.length):fk (fF L fr k)=false:=by
 have hsw:=KK L hok fr (k-fr)
 have hle:=DA L hok
 have hr:=vr ((L.drop fr).take (k-fr)) true 0 fun m hm=>he m (List.mem_of_mem_drop (List.mem_of_mem_take hm))
 have hma:=List.mem_of_getElem? (getM (L:=L) (i:=fr) (by omega))
 have hmb:=List.mem_of_getElem? (getM (L:=L) (i:=k-1) (by omega))
 have ha:=hc.ge.2 _ hma
 have hb:=hc.ge.2 _ hmb
 have hab:(L.getD fr mz).a<(L.getD (k-1) mz).b:=by
  by_cases hz:fr=k-1
  · rw [hz];omega
  · have hlt:∀ {L:List ai} {i e:Int},Chn i L e→∀ {j k:Nat},j<k→k<L.length→(L.getD j mz).b≤(L.getD k mz).a:=by
     intro L
     induction L with
     | nil=>intro i e _ j k _ h;simp at h
     | cons m r ih=>
       intro i e h j k h1 h2
       obtain ⟨g1,g2,g3⟩:=h
       cases k with
       | zero=>omega
       | succ k=>
         have hk:k<r.length:=by simpa using h2
         cases j with
         | zero=>
           have:=g3.ge.2 _ (List.mem_of_getElem? (getM hk))
           simp only [List.getD_cons_zero,List.getD_cons_succ];omega
         | succ j=>
           simp only [List.getD_cons_succ]
           exact ih g3 (by omega) hk
    have:=hlt hc (j:=fr) (k:=k-1) (by omega) (by omega)
    omega
 unfold fk oc jU fF bg
 simp only
 rw [hr]
 have e1:decide ((L.getD fr mz).a<0)=false:=decide_eq_false (by omega)
 have e2:decide ((L.getD (k-1) mz).b<(L.getD fr mz).a)=false:=decide_eq_false (by omega)
 have e3:decide (0+sW ((L.drop fr).take (k-fr))<0)=false:=decide_eq_false (by omega)
 have e4:decide (2097152<0+sW ((L.drop fr).take (k-fr)))=false:=decide_eq_false (by omega)
 rw [e1,e2,e3,e4];rfl
theorem DP {n:Int} (h1:1≤n) (h2:n≤64):0≤hyW n∧hyW n≤64:=by
 have:=pA 45 h1 h2
 exact ⟨this.1,this.2.1⟩
theorem Ix {m:ai} (ha:0≤m.a) (hb:m.a<m.b) (hw:okM m=true) (hz:1≤m.s∧m.s≤64):fk (jZ m)=false:=by
 have hw':=Cs hw
 have hh:=DP hz.1 hz.2
 unfold jZ
 split
 · unfold fk oc jU bg
   simp only
   have e1:decide (m.a<0)=false:=decide_eq_false (by omega)
   have e2:decide (m.b<m.a)=false:=decide_eq_false (by omega)
   have e3:decide (m.w<0)=false:=decide_eq_false (by omega)
   have e4:decide (2097152<m.w)=false:=decide_eq_false (by omega)
   have e5:decide (0≤m.w/2)=true:=decide_eq_true (by omega)
   have e6:decide (m.w/2≤4095)=true:=decide_eq_true (by omega)
   have e7:decide (0≤m.w/3)=true:=decide_eq_true (by omega)
   have e8:decide (m.w/3≤4095)=true:=decide_eq_true (by omega)
   rw [e1,e2,e3,e4,e5,e6,e7,e8];rfl
 · split
   · unfold fk oc jU bg
     simp only
     have e1:decide (m.a<0)=false:=decide_eq_false (by omega)
     have e2:decide (m.b<m.a)=false:=decide_eq_false (by omega)
     rw [e1,e2];rfl
   · unfold fk oc jU bg
     simp only
     have e1:decide (m.a<0)=false:=decide_eq_false (by omega)
     have e2:decide (m.b<m.a)=false:=decide_eq_false (by omega)
     have e3:decide (hyW m.s<0)=false:=decide_eq_false (by omega)
     have e4:decide (2097152<hyW m.s)=false:=decide_eq_false (by omega)
     rw [e1,e2,e3,e4];rfl
theorem Kg {m:ai} (ha:0≤m.a) (hz:1≤m.s∧m.s≤64):fk (A3 m)=false:=by
 have hh:=DP hz.1 hz.2
 unfold A3 fk oc jU bg
 simp only
 have e1:decide (m.a<0)=false:=decide_eq_false (by omega)
 have e2:decide (m.a<m.a)=false:=decide_eq_false (by omega)
 have e3:decide (hyW m.s<0)=false:=decide_eq_false (by omega)
 have e4:decide (2097152<hyW m.s)=false:=decide_eq_false (by omega)
 rw [e1,e2,e3,e4];rfl
theorem EW {m:ai} (ha:0≤m.a):fk (Br m)=false:=by
 unfold Br fk oc jU bg
 simp only
 have e1:decide (m.a<0)=false:=decide_eq_false (by omega)
 have e2:decide (m.a<m.a)=false:=decide_eq_false (by omega)
 rw [e1,e2];rfl
theorem rK {s:List UInt8} {L:List ai} {pl:List Bool} (hok:L.all okM=true) (he:∀ m∈L,m.e=0) {i e:Int} (hc:Chn i L e) (hi:0≤i) (hlen:L.length≤500) (hz:∀ m∈L,1≤m.s∧m.s≤64):∀ (r d:List ai) (run fr:Nat),L=d++r→fr≤d.length→(bE s L pl d.length run fr r).any fk=false
 | [],d,run,fr,hd,hf=>by
   simp only [bE]
   split
   · rename_i h
     simp [sC hok he hc hi hlen h (by simp [hd])]
   · rfl
 | m::r,d,run,fr,hd,hf=>by
   have hm:m∈L:=by rw [hd];simp
   have hm1:=hc.ge.2 m hm
   have hk:d.length<L.length:=by simp [hd]
   have hd':L=(d++[m])++r:=by simp [hd]
   have ih:=fun run fr h=>rK hok he hc hi hlen hz r (d++[m]) run fr hd' h (s:=s) (pl:=pl)
   have hl:(d++[m]).length=d.length+1:=by simp
   rw [hl] at ih
   simp only [bE]
   split
   · rw [List.any_append,List.any_cons,ih _ _ (Nat.le_refl _),Ix (by omega) hm1.2.1 (List.all_eq_true.1 hok m hm) (hz m hm)]
     split
     · rename_i h
       simp [sC hok he hc hi hlen h (by omega)]
     · rfl
   · split
     · exact ih _ _ (by omega)
     · rename_i h1 h2
       split
       · rw [List.any_cons,List.any_cons,ih _ _ (by omega),sC hok he hc hi hlen (by omega) (by omega),Kg (by omega) (hz m hm)];rfl
       · split
         · rw [List.any_cons,List.any_cons,ih _ _ (by omega),sC hok he hc hi hlen (by omega) (by omega),EW (by omega)];rfl
         · exact ih _ _ (by omega)
theorem uK {p:bp} (h0:aE p=0) (hD:p.pr.drop=0) (he:∀ m∈aF p,m.e=0) (hl:p.text.length≤500):bD (b8 p)=0:=by
 have hM:=kz p
 have hch:=Ag h0
 have hlen:(aF p).length≤500:=by
  have:∀ {L:List ai} {i e:Int},Chn i L e→(L.length:Int)≤e-i:=by
   intro L
   induction L with
   | nil=>intro i e h;simp only [Chn] at h;simp;omega
   | cons m r ih=>
     intro i e h
     obtain ⟨g1,g2,g3⟩:=h
     have:=ih g3
     simp only [List.length_cons];omega
  have:=this hch
  omega
 have hb:cA p=aF p:=by
  unfold cA eK
  rw [if_neg]
  rw [hD];simp
 have hodd:=rK (s:=p.text) (pl:=jA p.text (aF p) p.pr.b7) hM.ok he hch (Int.le_refl 0) hlen (fun m hm=>hM.sz m hm) (aF p) [] 0 0 rfl (Nat.le_refl _)
 have hil:(b8 p).length≤3*(aF p).length+1:=by
  have:=eO p.text (cA p) (jA p.text (cA p) p.pr.b7) (cA p) 0 0 0
  rw [hb] at this
  unfold b8
  rw [hb];exact this
 unfold bD
 rw [if_neg (by omega)]
 have e:(b8 p).any fk=false:=by
  unfold b8
  rw [hb];exact hodd
 rw [e];rfl
def vT:Int→List Ln→Int→Prop
 | i,[],e=>i=e
 | i,l::r,e=>l.f=i∧vT l.t r e
theorem vR (T:Int) (it:List It) (F:Nat→Sl):∀ (P:List Pc) (n:Nat) (fr:Int),P≠[]→vT fr (CC T it F n fr P) T
 | [],_,_,h=>absurd rfl h
 | [x],n,fr,_=>⟨rfl,rfl⟩
 | x::y::r,n,fr,_=>⟨rfl,vR T it F (y::r) (n+1) _ (by simp)⟩
theorem uF (l:List It) (F:Nat→Sl) (hc:bD l=0):fO l F≠[]:=by
 unfold fO
 rw [if_neg (by simp [hc])]
 split
 · simp
 · rename_i h
   have hg:=iN l l.length 0 (by omega)
   have hlt:ca l l.length 0<l.length:=by omega
   cases hl:l.length with
   | zero=>omega
   | succ n=>
     rw [hl] at hlt hg
     simp only [gd]
     rw [if_pos (by rw [hl];exact hlt)];simp
theorem KU {p:bp} {sl:List Sl} {rest:Sl} (h0:aE p=0) (hc:cw sl rest=0) (hi:bD (b8 p)=0):vT 0 (kU p sl rest) p.text.length∧kU p sl rest≠[]∧(kU p sl rest).length≤8193:=by
 have hP:=Dk h0 hc
 have hs:=uF (b8 p) (inF p sl rest) hi
 have hlen:(kU p sl rest).length=(nb p sl rest).length:=rj _ _ _ _ _ _ _
 refine ⟨?_,?_,?_⟩
 · rw [agb h0 hc]
   exact vR _ _ _ _ _ _ (by rw [hP];exact hs)
 · intro e
   rw [e] at hlen
   exact hs (by rw [← hP];exact List.length_eq_zero_iff.1 hlen.symm)
 · rw [hlen,hP];exact (rE _ _).2.2
theorem aqo:tab 28=some (.code f28):=by kernel_rfl
theorem MO:tab 360=some (.code CA):=by kernel_rfl
theorem Dp:tab 361=some (.code wV):=by kernel_rfl
theorem akH:tab 363=some (.code BC):=by kernel_rfl
theorem am0:tab 367=some (.code tA):=by kernel_rfl
theorem aj9:tab 371=some (.code AG):=by kernel_rfl
theorem alp:tab 376=some (.code Cf):=by kernel_rfl
def dz:dG:=⟨8,10,0,0,14,0,0,0,0,0,1,1,0,0,0,0,0⟩
section
variable {st:St}
theorem CH:(E tab).F 376 [] st=some (.agg dz.cs,st):=by
 rw [aY alp rfl]
 simp [Cf,dz,dG.cs]
theorem FD (s:List UInt8):(E tab).F 371 [.str s] st=some (.agg (au (gP dz s) (gW st s) ⟨0,0,.no,false⟩),st):=by
 rw [aY aj9 rfl]
 have h376:=fun st=>CH (st:=st)
 simp only [dz,dG.cs] at h376
 by_cases h:s=[]
 · subst h
   simp [AG,h376,au,gP,gW,dz,dG.cs,LW.dv]
 · have h2:s.isEmpty=false:=by simpa using h
   simp [AG,h376,h,h2,au,gP,gW,dz,dG.cs,LW.dv,Span.dv,Span.cs,bb,bm,chunk]
theorem Oi (s:List UInt8) (hs:s.length≤4096) (c0:Nat) (x y:DV) (st:St):∀ (r d:List UInt8),s=d++r →
 ∃ fr,(E tab).C tF [(0,x),(1,y),(14,.list c0 1 .no true (s.map fun b=>.int .u8 b.toNat)),(15,.int .i64 s.length),(16,.int .i64 d.length)] st =
   some (if r.all gB then (.exit 0,[(0,x),(1,y)]++fr,st) else (.ret,[(4,.list 0 0 .no false []),(5,.int .i64 4)],st)):=by
 intro r
 induction r with
 | nil=>
   intro d hd
   rw [aj (L:=tF) rfl]
   simp [qh,hd]
 | cons c r ih=>
   intro d hd
   have h0:d.length<s.length:=by simp [hd]
   have hg:s[d.length]=c:=by simp [hd]
   have hw:IntKind.i64.wrap ((d.length:Int)+1)=((d++[c]).length:Nat):=by rw [aI (by omega)];simp
   obtain ⟨fr,hJ⟩:=ih (d++[c]) (by simp [hd])
   refine ⟨fr,?_⟩
   rw [aj (L:=tF) rfl]
   simp only [List.length_append,List.length_singleton] at hJ hw
   by_cases h1:c.toNat<32
   · have hb:gB c=false:=by simp [gB];omega
     have h1':(c.toNat:Int)<32:=by omega
     simp [qh,h0,hg,h1,h1',hb]
   · have h1':¬ (c.toNat:Int)<32:=by omega
     by_cases h2:126<c.toNat
     · have hb:gB c=false:=by simp [gB];omega
       have h2':126<(c.toNat:Int):=by omega
       simp [qh,h0,hg,h1,h1',h2,h2',hb]
     · have hb:gB c=true:=by simp [gB];omega
       have h2':¬ 126<(c.toNat:Int):=by omega
       simp [qh,h0,hg,h1,h1',h2,h2',hb,hw]
       simpa using hJ
def o0 (s:List UInt8) (w:Int):Int:=if 4096<s.length then 3 else if s.all gB then (if w<0∨4095<w then 5 else 0) else 4
def gj (s:List UInt8) (w:Int):List Ln:=kU (gP dz s) [] ⟨0,w⟩
theorem QZ (s:List UInt8) (w:Int):∃ v,(E tab).F 367 [.str s,.int .i64 w] st=some (.tuple [v,.int .i64 (o0 s w)],st)∧Lw 7 ((if o0 s w=0 then gj s w else []).map Ln.dv) v:=by
 rw [aY am0 rfl]
 unfold o0
 by_cases h1:4096<s.length
 · rw [if_pos h1]
   have h1':(4096:Int)<s.length:=by omega
   refine ⟨.list 0 0 .no false [],?_,.list _ _ _ _ (fun h=>by cases h) (fun _=>rfl)⟩
   simp [tA,h1']
 have h1':¬ (4096:Int)<s.length:=by omega
 obtain ⟨fr,hL⟩:=Oi s (by omega) st.cur (.str s) (.int .i64 w) (pst st [] []) s [] rfl
 simp at hL
 rw [if_neg h1]
 cases hb:s.all gB with
 | false=>
   have hb':¬ ∀ x∈s,gB x=true:=by
    intro h;rw [List.all_eq_true.2 h] at hb;cases hb
   rw [if_neg hb'] at hL
   refine ⟨.list 0 0 .no false [],?_,.list _ _ _ _ (fun h=>by cases h) (fun _=>rfl)⟩
   simp [tA,h1',hL]
 | true=>
   rw [if_pos (List.all_eq_true.1 hb)] at hL
   simp only [if_true]
   by_cases h2:w<0
   · rw [if_pos (.inl h2)]
     refine ⟨.list 0 0 .no false [],?_,.list _ _ _ _ (fun h=>by cases h) (fun _=>rfl)⟩
     simp [tA,h1',hL,h2]
   by_cases h3:4095<w
   · rw [if_pos (.inr h3)]
     refine ⟨.list 0 0 .no false [],?_,.list _ _ _ _ (fun h=>by cases h) (fun _=>rfl)⟩
     simp [tA,h1',hL,h2,h3]
   · rw [if_neg (by omega)]
     have h371:=FD (st:=pst st [] []) s
     obtain ⟨v,h307,hv⟩:=XV (st:=pst st [] []) (p:=gP dz s) (w:=gW (pst st [] []) s) (u:=⟨0,0,.no,false⟩) (sl:=[]) (sv:=.list 0 0 .no false []) (rest:=⟨0,w⟩) (C9 _ _) (alT _ _ _) (apP _ _) (by simp [gP,dz]) (.list _ _ _ _ (fun h=>by cases h) (fun _=>rfl))
     have hc:aE (gP dz s)=0:=vH rfl (by omega) hb
     have hE:uM (gP dz s) [] ⟨0,w⟩=0:=by
      unfold uM cw
      rw [if_neg (by simp [hc])]
      simp [jK,bg];omega
     rw [if_pos hE] at hv
     rw [hE] at h307
     obtain ⟨x0,x1,x2,x3,rfl,_,c1,c2⟩:=tY hv
     refine ⟨.list x0 x1 (qJ x2) x3 ((gj s w).map Ln.dv),?_,.list _ _ _ _ c1 c2⟩
     unfold gj
     generalize (kU (gP dz s) [] ⟨0,w⟩).map Ln.dv=VV at *
     simp only [Sl.dv,Sl.cs] at h307
     simp [-fe,exl,tA,h1',hL,h2,h3,h371,h307]
end
theorem oS {l:List Ln}:∀ y∈l.map Ln.dv,dy 7 true y:=fun y hy=>by obtain ⟨x,_,rfl⟩:=List.mem_map.1 hy;exact MD x
abbrev Lns (st:St) (l:List Ln) (v:DV):Prop:=Vw st 7 true (l.map Ln.dv) v
theorem ajx (x:Ln):aM [.int,.int,.int,.int,.int,.bool,.int] x.cs x.cs=some true:=by simp [Ln.cs,aM,cr]
section
variable {st:St} {l:List Ln} {v u:DV}
theorem GO (hv:Lns st l v) (hu:Lns st l u) (hl:l.length≤140737488355328) (H:List HO) (K:List Nat):∀ (r d:List Ln),l=d++r →
 ∃ fr,(E tab).C sh [(0,v),(1,u),(5,.int .i64 d.length)] (pst st H K)=some (.exit 0,fr,pst st H K):=by
 have e0:=fun st'=>Vw.len hv st'
 simp only [List.length_map] at e0
 intro r
 induction r with
 | nil=>
   intro d hd
   refine ⟨[(0,v),(1,u),(5,.int .i64 l.length),(14,.bool false)],?_⟩
   rw [aj (L:=sh) rfl]
   simp [xT,e0,hd]
 | cons x r ih=>
   intro d hd
   have h0:d.length<l.length:=by simp [hd]
   have hx:l[d.length]? = some x:=by simp [hd]
   have hw1:IntKind.i64.wrap ((d.length:Int)+1)=((d++[x]).length:Nat):=by rw [aI (by omega)];simp
   have e1:=fun st'=>Vw.aL hv (i:=d.length) (by simpa using h0) .i64 st'
   have e2:=fun H K=>Vw.load (Vw.inn hv H K) oS rfl (i:=d.length) (x:=x.dv) (by simp [hx])
   have e3:=fun st'=>Vw.aL hu (i:=d.length) (by simpa using h0) .i64 st'
   have e4:=fun H K=>Vw.load (Vw.inn hu H K) oS rfl (i:=d.length) (x:=x.dv) (by simp [hx])
   have hq:=ajx x
   simp only [Ln.dv,Ln.cs] at e2 e4 hq
   obtain ⟨fr,hJ⟩:=ih (d++[x]) (by simp [hd])
   refine ⟨fr,?_⟩
   simp only [List.length_append,List.length_singleton] at hJ hw1
   simp at hJ
   rw [aj (L:=sh) rfl]
   simp [xT,e0,h0,e1,e2,e3,e4,eqD,hq,hw1,hJ]
theorem py (hv:Lns st l v) (hu:Lns st l u) (hl:l.length≤140737488355328):(E tab).F 309 [v,u] st=some (.bool true,st):=by
 rw [aY apo rfl]
 have e0:=fun st'=>Vw.len hv st'
 have e1:=fun st'=>Vw.len hu st'
 simp only [List.length_map] at e0 e1
 obtain ⟨fr,hL⟩:=GO hv hu hl [] [] l [] rfl
 simp at hL
 simp [Dw,e0,e1,hL]
theorem mF (hv:Lns st l v):(E tab).F 363 [v] st=some (.int .i64 (IntKind.i64.wrap (10*l.length)),st):=by
 rw [aY akH rfl]
 have e0:=fun st'=>Vw.len hv st'
 simp only [List.length_map] at e0
 simp [BC,e0]
theorem CJ (x:Int) (hx:-9223372036854775808≤x∧x≤9223372036854775807):∃ k:Int,0≤k∧k<100000∧(E tab).F 28 [.int .i64 x,.int .i64 100000] st=some (.int .i64 k,st):=by
 have h1:-100000<x.tmod 100000∧x.tmod 100000<100000:=⟨Int.lt_tmod_of_pos x (by omega),Int.tmod_lt_of_pos x (by omega)⟩
 have w1:IntKind.i64.wrap (x.tmod 100000)=x.tmod 100000:=aI (by omega)
 by_cases h:x.tmod 100000<0
 · have w2:IntKind.i64.wrap (x.tmod 100000+100000)=x.tmod 100000+100000:=aI (by omega)
   refine ⟨x.tmod 100000+100000,by omega,by omega,?_⟩
   rw [aY aqo rfl]
   simp [f28,w1,w2,h]
 · refine ⟨x.tmod 100000,by omega,by omega,?_⟩
   rw [aY aqo rfl]
   simp [f28,w1,h]
end
def bI (l:List Ln) (h:Int):Nat:=(min (h/10) l.length).toNat
theorem tp (l:List Ln) (h:Int):bI l h≤l.length:=by unfold bI;omega
theorem zD (l:List Ln) (h:Int) (h0:0≤h) (hb:(Lit.int .i64 h).wf=true) (hl:l.length≤20000):dX kS [.int .i64 (IntKind.i64.wrap (h.tdiv 10)),.int .i64 l.length]=some (.int .i64 (bI l h:Nat)):=by
 have hb':=xe hb
 have e1:IntKind.i64.wrap (h.tdiv 10)=h/10:=by rw [Int.tdiv_eq_ediv_of_nonneg h0];exact aI (by omega)
 rw [e1,My]
 congr 2
 unfold bI;omega
section
variable {st:St} {l:List Ln} {v:DV}
theorem BK {H:List HO} {K:List Nat} (hl:l.length≤20000) (hv:Lns (pst st H K) l v) (h:Int) (hb:(Lit.int .i64 h).wf=true) :
 (h<0→(E tab).F 361 [v,.int .i64 h] (pst st H K)=some (.tuple [.list 0 0 .no false [],.list 0 0 .no false [],.int .i64 5],pst st H K)) ∧
 (0≤h→l=[]→∃ tk1 tk2,(E tab).F 361 [v,.int .i64 h] (pst st H K)=some (.tuple [.list 0 0 tk1 false [],.list 0 0 tk2 false [],.int .i64 0],pst st H K)) ∧
 (0≤h→l≠[]→(E tab).F 361 [v,.int .i64 h] (pst st H K)=some (.tuple [.hsl 7 true (st.heap.length+H.length) 0 (bI l h) (some (bI l h)),.hsl 7 true (st.heap.length+H.length) (if l.length=bI l h then 0 else bI l h*7) (l.length-bI l h) (some (l.length-bI l h)),.int .i64 0],pst st (H++[.cells .grown (flat (l.map Ln.dv))]) K)):=by
 have e0:=fun st'=>Vw.len hv st'
 simp only [List.length_map] at e0
 have hn:=Vw.news hv
 simp only [List.length_map] at hn
 refine ⟨fun h0 => ?_,fun h0 hz => ?_,fun h0 hz => ?_⟩
 · rw [eu Dp rfl]
   simp [wV,h0]
 · rw [eu Dp rfl]
   have hm:=zD l h h0 hb hl
   have hc:bI l h=0:=by have:=tp l h;rw [hz] at this;simp at this;rw [hz];exact this
   have h0':¬ h<0:=by omega
   rw [hc] at hm
   subst hz
   have s1:bX false 7 (.list 0 0 .no false []) none (some (.int .i64 0)) (some (.int .i64 0))=some (.list 0 0 .tight false []):=by simp [bX,bnd]
   have s2:bX false 7 (.list 0 0 .no false []) (some (.int .i64 0)) (some (.int .i64 0)) (some (.int .i64 0))=some (.list 0 0 .tight false []):=by simp [bX,bnd]
   simp [flat] at hn hm e0
   refine ⟨.tight,.tight,?_⟩
   simp [wV,h0',e0,hm,fh,hn,s1,s2]
 · rw [eu Dp rfl]
   have hm:=zD l h h0 hb hl
   have hc:=tp l h
   have h0':¬ h<0:=by omega
   have hp:0<l.length:=List.length_pos_iff.2 hz
   have hlen0:¬ l.length=0:=by omega
   generalize bI l h=n at *
   have b1:l.length*56≤140737488355328:=by omega
   have b2:l.length≤140737488355328:=by omega
   have q1:bnd (.int .i64 (n:Int)) l.length=some n:=by rw [eZ (by omega) (by omega)];simp
   have q2:bnd (.int .i64 (n:Int)) n=some n:=by rw [eZ (by omega) (by omega)];simp
   have q3:bnd (.int .i64 (l.length:Int)) l.length=some l.length:=by rw [eZ (by omega) (by omega)];simp
   have s1:∀ b,bX false 7 (.hsl 7 true b 0 l.length none) none (some (.int .i64 n)) (some (.int .i64 n))=some (.hsl 7 true b 0 n (some n)):=by intro b;simp [bX,q1,q2]
   have s2:∀ b,bX false 7 (.hsl 7 true b 0 l.length none) (some (.int .i64 n)) (some (.int .i64 l.length)) (some (.int .i64 l.length))=some (.hsl 7 true b (if l.length=n then 0 else n*7) (l.length-n) (some (l.length-n))):=by intro b;simp [bX,q1,q3]
   have ha:fh (pst st H K) 7 true 56 (.list 0 0 .no false []) v=some (.hsl 7 true (st.heap.length+H.length) 0 l.length none,pst st (H++[.cells .grown (flat (l.map Ln.dv))]) K):=by
    simp only [fh,hn,hlen0,if_false]
    rw [if_pos ⟨by omega,by simp [az];omega,by simp [az];omega⟩]
    simp [pst]
   simp [wV,h0',e0,hm,ha,s1,s2]
theorem iF (l:List Ln):(flat (l.map Ln.dv)).length=l.length*7:=by
 induction l with
 | nil=>rfl
 | cons x r ih=>simp only [List.map_cons,flat,List.flatMap_cons,List.length_append,List.length_cons] at *;rw [ih];simp [Ln.dv,Ln.cs,DV.leaves];omega
theorem ry (l r:List Ln):flat ((l++r).map Ln.dv)=flat (l.map Ln.dv)++flat (r.map Ln.dv):=by simp [flat]
theorem xK (l:List Ln) (n:Nat) (hn:n≤l.length):(flat (l.map Ln.dv)).take (n*7)=flat ((l.take n).map Ln.dv):=by
 have h:=ry (l.take n) (l.drop n)
 rw [List.take_append_drop] at h
 rw [h,List.take_left' (by rw [iF];simp;omega)]
theorem wU (l:List Ln) (n:Nat) (hn:n≤l.length):(flat (l.map Ln.dv)).drop (n*7)=flat ((l.drop n).map Ln.dv):=by
 have h:=ry (l.take n) (l.drop n)
 rw [List.take_append_drop] at h
 rw [h,List.drop_left' (by rw [iF];simp;omega)]
theorem qg {H:List HO} {K:List Nat} (hl:l.length≤20000) (hv:Lns (pst st H K) l v) {h:Int} (h0:0≤h) (hb:(Lit.int .i64 h).wf=true) :
 ∃ u1 u2 J,(E tab).F 361 [v,.int .i64 h] (pst st H K)=some (.tuple [u1,u2,.int .i64 0],pst st (H++J) K)∧Lns (pst st (H++J) K) (l.take (bI l h)) u1∧Lns (pst st (H++J) K) (l.drop (bI l h)) u2:=by
 obtain ⟨_,s2,s3⟩:=BK hl hv h hb
 have hc:=tp l h
 by_cases hz:l=[]
 · obtain ⟨tk1,tk2,e⟩:=s2 h0 hz
   subst hz
   have q:∀ tk st,Lns st ([]:List Ln) (.list 0 0 tk false []):=fun tk st=>.list _ _ _ _ (fun e=>by cases e) (fun _=>rfl)
   exact ⟨.list 0 0 tk1 false [],.list 0 0 tk2 false [],[],by rw [List.append_nil];exact e,by simpa using q tk1 _,by simpa using q tk2 _⟩
 · have e:=s3 h0 hz
   refine ⟨_,_,[.cells .grown (flat (l.map Ln.dv))],e,?_,?_⟩
   · have hL:((l.take (bI l h)).map Ln.dv).length=bI l h:=by simp;omega
     have:=Vw.hsl (st:=pst st (H++[.cells .grown (flat (l.map Ln.dv))]) K) (n:=7) (ag:=true) (xs:=(l.take (bI l h)).map Ln.dv) (st.heap.length+H.length) 0 (bI l h) .grown (flat (l.map Ln.dv)) (by simp) (by rw [hL,iF];omega) (by rw [hL,List.drop_zero,xK l _ hc]) (by rw [hL];exact Nat.le_refl _)
     rw [hL] at this
     exact this
   · have hL:((l.drop (bI l h)).map Ln.dv).length=l.length-bI l h:=by simp
     have hoff:((flat (l.map Ln.dv)).drop (if l.length=bI l h then 0 else bI l h*7)).take ((l.length-bI l h)*7)=flat ((l.drop (bI l h)).map Ln.dv):=by
      split
      · rename_i hq
        rw [hq,Nat.sub_self,Nat.zero_mul,List.take_zero,← hq,List.drop_length];rfl
      · rw [wU l _ hc,List.take_of_length_le (by rw [iF];simp)]
     have:=Vw.hsl (st:=pst st (H++[.cells .grown (flat (l.map Ln.dv))]) K) (n:=7) (ag:=true) (xs:=(l.drop (bI l h)).map Ln.dv) (st.heap.length+H.length) (if l.length=bI l h then 0 else bI l h*7) (l.length-bI l h) .grown (flat (l.map Ln.dv)) (by simp) (by rw [hL,iF];split<;>omega) (by rw [hL];exact hoff) (by rw [hL];exact Nat.le_refl _)
     rw [hL] at this
     exact this
end
def Uq:RC:=(.seq (.region zz [2,3,9,10]) (.seq (.region zb [2,3,9,10]) (.seq (.region z9 [2,3,9,10,14,15,16]) (.seq (.seq (.region yP [3,9,10,14,15,113]) (.cond (.t 113) (.seq (.region zX [8]) .ret) .skip)) (.seq (.region ze [3,9,10,14,17,18,19]) (.seq (.region zT [9,14,17,18,19,20,21,22]) (.seq (.seq (.region yQ [9,14,17,18,20,21,136]) (.cond (.t 136) (.seq (.region zf [8]) .ret) .skip)) (.seq (.region yK [8]) .ret))))))))
def n5c:RC:=(.seq (.region Cq [0,2,3,9,10,12]) (.seq (.seq (.region Di [0,2,3,9,10,12,13]) (.block 0 oy)) (.seq (.seq (.region zE [2,3,9,10,72]) (.cond (.t 72) (.seq (.region yJ [8]) .ret) .skip)) Uq)))
theorem apw:CA=⟨[.t 8],(.seq (.region BB [0,1,2,3]) (.seq (.region B2 [0,1,2,3,9]) (.seq (.region Cw [0,2,3,9,10,11]) (.seq (.seq (.region Dz [0,2,3,9,10,36]) (.cond (.t 36) (.seq (.region B6 [8]) .ret) .skip)) n5c)))),true⟩:=rfl
theorem Dc {n:Int} (h:-9223372036854775808≤n∧n≤9223372036854775807):(Lit.int .i64 n).wf=true:=by
 simpa [Lit.wf,IntKind.min,IntKind.max,IntKind.bits,IntKind.signed] using h
theorem vwK {st:St} {H:List HO} {K:List Nat} {l:List Ln} {v:DV} (h:Lns (pst st H K) l v) (K':List Nat):Lns (pst st H K') l v:=by
 have:=Vw.app h [] K'
 rwa [List.append_nil] at this
section
variable {st:St}
theorem Sy {L:List Ln} {e:Int} (hl:L.length≤20000) {t n:Nat} {tk:Tk} {nn:Bool} (h7:L≠[]→n=7) (c0 c2 c3 c9:DV) (st:St):∀ (r d:List Ln) (at_:Int),L=d++r→vT at_ r e→∃ fr,
 (E tab).C oy [(0,c0),(2,c2),(3,c3),(9,c9),(10,.list t n tk nn (L.map Ln.dv)),(12,.int .i64 at_),(13,.int .i64 d.length)] st =
  some (.exit 0,(0,c0)::(2,c2)::(3,c3)::(9,c9)::(10,.list t n tk nn (L.map Ln.dv))::(12,.int .i64 e)::fr,st):=by
 intro r
 induction r with
 | nil=>
   intro d at_ hd hc
   rw [List.append_nil] at hd
   simp only [vT] at hc
   subst hd hc
   refine ⟨[(13,.int .i64 L.length),(41,.bool false)],?_⟩
   rw [aj (L:=oy) rfl]
   simp [xy]
 | cons x r ih=>
   intro d at_ hd hc
   obtain ⟨hf,hc⟩:=hc
   have h0:d.length<L.length:=by simp [hd]
   obtain rfl:=h7 (by rw [hd];simp)
   have hw:IntKind.i64.wrap ((d.length:Int)+1)=((d++[x]).length:Nat):=by rw [aI (by omega)];simp
   have hg:L[d.length]=x:=by simp [hd]
   obtain ⟨fr,hJ⟩:=ih (d++[x]) x.t (by simp [hd]) hc
   refine ⟨fr,?_⟩
   rw [aj (L:=oy) rfl]
   simp at hJ
   simp [xy,h0,hg,Ln.dv,Ln.cs,hf,hw]
   simpa [Ln.dv,Ln.cs] using hJ
theorem zi {H:List HO} {K:List Nat} {xs ys:List Ln} {a b:DV} (ha:Lns (pst st H K) xs a) (hb:Lns (pst st H K) ys b) (hl:xs.length+ys.length≤20000) :
 ∃ w1 K1 w2 K2,aT (pst st H K) 7 true 56 (.list st.cur 7 .tight true []) a=some (w1,pst st H K1)∧aT (pst st H K1) 7 true 56 w1 b=some (w2,pst st H K2)∧∀ st',Lns st' (xs++ys) w2:=by
 have hcong:∀ (K:List Nat) (w:DV) {zs:List Ln} {v:DV},Lns (pst st H K) zs v→aT (pst st H K) 7 true 56 w v=aT (pst st H K) 7 true 56 w (.list 0 7 .no true (zs.map Ln.dv)):=by
  intro K w zs v hv
  have e1:=hv.news
  have e2:bG (pst st H K) 7 (.list 0 7 .no true (zs.map Ln.dv))=some ((zs.map Ln.dv).length,flat (zs.map Ln.dv)):=by simp [bG]
  unfold aT
  rw [e1,e2]
 by_cases hx:xs=[]
 · subst hx
   by_cases hy:ys=[]
   · subst hy
     exact ⟨_,K,_,K,ix ha,ix hb,fun st'=>.list _ _ _ _ (fun _=>rfl) (fun h=>by cases h)⟩
   · refine ⟨.list st.cur 7 .tight true [],K,.list st.cur 7 (.own (st.aU.length+K.length) 0) true ([]++ys.map Ln.dv),K++[0],ix ha,?_,fun st' => ?_⟩
     · rw [hcong K _ hb]
       exact kx (.inr ⟨rfl,rfl,rfl⟩) (by omega) (by simpa using hy) oS (by simp [az];simp at hl;omega) (by simp [az];simp at hl;omega)
     · simp only [List.nil_append];exact .list _ _ _ _ (fun _=>rfl) (fun h=>by cases h)
 · have e1:aT (pst st H K) 7 true 56 (.list st.cur 7 .tight true []) a=some (.list st.cur 7 (.own (st.aU.length+K.length) 0) true ([]++xs.map Ln.dv),pst st H (K++[0])):=by
    rw [hcong K _ ha]
    exact kx (.inr ⟨rfl,rfl,rfl⟩) (by omega) (by simpa using hx) oS (by simp [az];omega) (by simp [az];omega)
   rw [List.nil_append] at e1
   by_cases hy:ys=[]
   · subst hy
     have hb':=vwK hb (K++[0])
     exact ⟨_,_,_,_,e1,ix hb',fun st'=>by rw [List.append_nil];exact .list _ _ _ _ (fun _=>rfl) (fun h=>by cases h)⟩
   · have hb':=vwK hb (K++[0])
     refine ⟨_,_,.list st.cur 7 (.own (st.aU.length+K.length) 1) true (xs.map Ln.dv++ys.map Ln.dv),(K++[0]).set K.length 1,e1,?_,fun st' => ?_⟩
     · rw [hcong (K++[0]) _ hb']
       exact oj (k:=K.length) (s:=0) (by simp) (by omega) (by simpa using hy) oS (by simp [az];omega) (by simp [az];omega)
     · rw [← List.map_append];exact .list _ _ _ _ (fun _=>rfl) (fun h=>by cases h)
theorem EJ (l:List Ln) {h k:Int} (h0:0≤h) (k0:0≤k):bI l (10*(bI l h:Nat)+k)=bI l h+bI (l.drop (bI l h)) k:=by
 unfold bI
 simp only [List.length_drop]
 omega
end
section
variable {st:St}
theorem Gi {L:List Ln} (hl:L.length≤8193) {t n:Nat} {tk:Tk} {nn:Bool} (hnn:nn=true→n=7) (hn0:nn=false→L=[]) (x y:Int) (hx:-9223372036854775808≤x∧x≤9223372036854775807) (hy:-9223372036854775808≤y∧y≤9223372036854775807) (fr0:Fr):∃ fr' H' K',
 (E tab).C Uq ((2,.int .i64 x)::(3,.int .i64 y)::(9,.bool true)::(10,.list t n tk nn (L.map Ln.dv))::fr0) (pst st [] [])=some (.ret,(8,.bool true)::fr',pst st H' K'):=by
 have hv:∀ st,Lns st L (.list t n tk nn (L.map Ln.dv)):=fun st=>.list _ _ _ _ hnn (fun h=>by rw [hn0 h];rfl)
 obtain ⟨k1,a1,a2,p1⟩:=CJ (st:=pst st [] []) x hx
 obtain ⟨k2,b1,b2,p2⟩:=CJ (st:=pst st [] []) y hy
 have hc:=tp L k1
 have hadd:=EJ L a1 b1
 have hcut:10*((bI L k1:Nat):Int)≤k1∧(bI L k1<L.length→k1<10*((bI L k1:Nat):Int)+10):=by
  unfold bI;omega
 obtain ⟨u1,u2,J1,s1,v1,v2⟩:=qg (st:=st) (H:=[]) (K:=[]) (by omega) (hv _) a1 (Dc (n:=k1) (by omega))
 simp only [List.nil_append] at s1 v1 v2
 obtain ⟨w1,K1,w2,K2,e1,e2,hw⟩:=zi v1 v2 (by simp;omega)
 have q1:=py (st:=pst st J1 K2) (l:=L) (v:=w2) (by have:=hw (pst st J1 K2);rwa [List.take_append_drop] at this) (hv _) (by omega)
 have g1:=mF (vwK v1 K2)
 obtain ⟨u3,u4,J2,s2,v3,v4⟩:=qg (st:=st) (H:=J1) (K:=K2) (by simp;omega) (vwK v2 K2) b1 (Dc (n:=k2) (by omega))
 have g2:=mF (Vw.app v1 J2 K2:Lns _ _ u1)
 have hw1:(L.take (bI L k1)).length=bI L k1:=by simp;omega
 have hw2:(L.drop (bI L k1)).length=L.length-bI L k1:=by simp
 obtain ⟨u5,u6,J3,s3,v5,v6⟩:=qg (st:=st) (H:=J1++J2) (K:=K2) (l:=L) (by omega) (hv _) (h:=10*((bI L k1:Nat):Int)+k2) (by omega) (Dc (by omega))
 rw [hadd] at v5 v6
 obtain ⟨w3,K3,w4,K4,e3,e4,hw'⟩:=zi (Vw.app (Vw.app v1 J2 K2) J3 K2:Lns _ _ u1) (Vw.app v3 J3 K2:Lns _ _ u3) (by simp;omega)
 have t1:L.take (bI L k1)++(L.drop (bI L k1)).take (bI (L.drop (bI L k1)) k2)=L.take (bI L k1+bI (L.drop (bI L k1)) k2):=by
  rw [List.take_add]
 have t2:(L.drop (bI L k1)).drop (bI (L.drop (bI L k1)) k2)=L.drop (bI L k1+bI (L.drop (bI L k1)) k2):=by
  rw [List.drop_drop]
 have q2:=py (st:=pst st (J1++J2++J3) K4) (v:=w4) (u:=u5) (l:=L.take (bI L k1+bI (L.drop (bI L k1)) k2)) (by have:=hw' (pst st (J1++J2++J3) K4);rwa [t1] at this) (vwK v5 K4) (by simp;omega)
 have q3:=py (st:=pst st (J1++J2++J3) K4) (v:=u4) (u:=u6) (l:=L.drop (bI L k1+bI (L.drop (bI L k1)) k2)) (by have:=vwK (Vw.app v4 J3 K2:Lns _ _ u4) K4;rwa [t2] at this) (vwK v6 K4) (by simp;omega)
 have l2:=fun st'=>Vw.len v2 st'
 simp only [List.length_map] at l2
 rw [hw2] at l2
 rw [hw1] at g1 g2
 generalize bI L k1=c at *
 have z1:IntKind.i64.wrap (10*(c:Int))=10*(c:Int):=aI (by omega)
 have z2:IntKind.i64.wrap (10*(c:Int)+10)=10*(c:Int)+10:=aI (by omega)
 have z3:IntKind.i64.wrap (10*(c:Int)+k2)=10*(c:Int)+k2:=aI (by omega)
 rw [z1] at g1 g2
 have fu1:¬ k1<10*(c:Int):=by omega
 refine ⟨[],J1++J2++J3,K4,?_⟩
 simp only [List.append_assoc] at s2 s3 e3 e4 q2 q3 g2 ⊢
 unfold Uq
 by_cases hlen:0<L.length-c
 · have fu2:¬ 10*(c:Int)+10≤k1:=by omega
   have fu3:(0:Int)<((L.length-c:Nat):Int):=by omega
   generalize L.length-c=d at *
   generalize L.map Ln.dv=VL at *
   simp [p1,p2,s1,bb,bm,chunk,e1,e2,q1,g1,fu1,l2,fu3,hlen,z2,fu2,s2,g2,z3,s3,e3,e4,q2,q3]
 · have fu3:L.length-c=0:=by omega
   rw [fu3] at l2
   generalize L.map Ln.dv=VL at *
   simp [p1,p2,s1,bb,bm,chunk,e1,e2,q1,g1,fu1,l2,s2,g2,z3,s3,e3,e4,q2,q3]
end
section
variable {st:St}
theorem DO (s:List UInt8) (w x y:Int) (hx:-9223372036854775808≤x∧x≤9223372036854775807) (hy:-9223372036854775808≤y∧y≤9223372036854775807):(E tab).F 360 [.str s,.int .i64 w,.int .i64 x,.int .i64 y] st=some (.bool true,st):=by
 rw [aY MO rfl,apw]
 have hkn:=fun st=>wJ st
 obtain ⟨v,h367,hv⟩:=QZ (st:=pst st [] []) s w
 obtain ⟨t,n,tk,nn,rfl,hx7,c1,c2⟩:=tY hv
 by_cases hE:o0 s w=0
 rotate_left
 · generalize o0 s w=EE at *
   generalize (if EE=0 then gj s w else []).map Ln.dv=VV at *
   simp [hkn,h367,hE]
 rw [hE] at h367
 simp only [hE,if_true] at h367 hx7 c2
 by_cases h400:(400:Int)<s.length
 · generalize (gj s w).map Ln.dv=VV at *
   simp [hkn,h367,h400]
 have hl4:¬ 4096<s.length:=by omega
 have hb:s.all gB=true:=by
  unfold o0 at hE
  rw [if_neg hl4] at hE
  cases hb:s.all gB with
  | true=>rfl
  | false=>rw [hb] at hE;simp at hE
 have hwr:0≤w∧w≤4095:=by
  unfold o0 at hE
  rw [if_neg hl4,if_pos hb] at hE
  split at hE
  · cases hE
  · omega
 have hc:aE (gP dz s)=0:=vH rfl (by omega) hb
 have hcs:cw [] (⟨0,w⟩:Sl)=0:=by
  unfold cw
  simp [jK,bg];omega
 have hic:=uK hc rfl (asZ dz s) (show s.length≤500 by omega)
 obtain ⟨d1,d2,d3⟩:=KU (sl:=[]) (rest:=⟨0,w⟩) hc hcs hic
 rw [show kU (gP dz s) [] ⟨0,w⟩=gj s w from rfl] at d1 d2 d3
 rw [show (gP dz s).text=s from rfl] at d1
 have h7:gj s w≠[]→n=7:=fun h=>hx7 (by intro e;rw [List.map_eq_nil_iff] at e;exact h e)
 obtain ⟨fr,hL⟩:=Sy (by omega) (t:=t) (tk:=tk) (nn:=nn) h7 (.str s) (.int .i64 x) (.int .i64 y) (.bool true) (pst st [] []) (gj s w) [] 0 rfl d1
 obtain ⟨fr',H',K',h14⟩:=Gi (st:=st) d3 c1 (fun h=>by have:=c2 h;rwa [List.map_eq_nil_iff] at this) x y hx hy [(72,.bool false)] (t:=t) (tk:=tk)
 have h363:=mF (st:=pst st [] []) (l:=gj s w) (v:=.list t n tk nn ((gj s w).map Ln.dv)) (.list _ _ _ _ c1 c2)
 have hlp:0<(gj s w).length:=List.length_pos_iff.2 d2
 have hlz:¬ ((gj s w).length:Int)=0:=by omega
 have hVl:((gj s w).map Ln.dv).length=(gj s w).length:=by simp
 generalize (gj s w).map Ln.dv=VV at *
 unfold n5c
 simp at hL
 simp [hkn,h367,h400,hL,h363,hVl,hlz,d2,h14]
end
def Mp:List (Bool×List Sh):=[(false,[.str]),(false,[.int .i64]),(false,[.int .i64]),(false,[.int .i64])]
theorem JX (us:List DV) (hf:tH Mp us):∃ st',(E tab).F 360 us st0=some (.bool true,st'):=by
 obtain ⟨_,_,rfl,⟨_,_,rfl,⟨s,rfl,_⟩,rfl⟩,_,_,rfl,⟨_,_,rfl,⟨w,rfl,_⟩,rfl⟩,_,_,rfl,⟨_,_,rfl,⟨x,rfl,hx⟩,rfl⟩,_,_,rfl,⟨_,_,rfl,⟨y,rfl,hy⟩,rfl⟩,rfl⟩:=hf
 refine ⟨st0,?_⟩
 simp only [elemOf,List.headD_cons,Bool.false_eq_true,if_false,if_true]
 exact DO s w x y (xe hx) (xe hy)
end Go.D.Tab
end
section
namespace Go.D
open Go.RowKit
variable {P:Program}
theorem u7 {w:World}:∀ (l:List (String×DataW Unit)) (ps:List MemPlace),DataW.LaidVars P w l ps→∀ x∈l,∃ g t cs fuel p,P.globalNamed x.1=some g∧(P.globals[g]?).map (·.type)=some t∧w.var? P x.1=some cs ∧
 DataW.trod (fun _=>()) P w 0 (fun _=>true) false fuel t cs.toList=some (x.2,p)
 | [],_,_,x,hx=>by simp at hx
 | y::l,ps,h,x,hx=>by
   obtain ⟨g,t,cs,fuel,p,q,h1,h2,h3,h4,h5,h6⟩:=h
   rcases List.mem_cons.1 hx with rfl | hx
   · exact ⟨g,t,cs,fuel,p,h1,h2,h3,h4⟩
   · exact u7 l _ h5 x hx
theorem xk {l:List (Nat×FuncId)} {laid:List (String×DataW Unit)} {w:World} {name:String} {tab:List Nat} {g n:Nat} {t e:TypeId} (hg:P.globalNamed name=some g) (hty:(P.globals[g]?).map (·.type)=some t) (ht:P.underlying t=some (.array n e))
 (he:P.underlying e=some (.int .u8)) (hce:P.cellsOf e=1) (hct:P.cellsOf t=n) (hx:(name,Lib.tabData .u8 (tab.map Int.ofNat))∈laid) (h:laidMet P laid w):qW (aa l [(g,tab)]) w:=by
 obtain ⟨ps,h1,_⟩:=h
 obtain ⟨g',t',cs,fuel,p,hg',ht',hvar,hd⟩:=u7 laid ps h1 _ hx
 obtain rfl:=Option.some.inj (hg.symm.trans hg')
 obtain rfl:=Option.some.inj (hty.symm.trans ht')
 have hcs:=Lib.cells_of_tab ht he hce hct hd
 refine AO fun i hi => ?_
 rw [World.var?_cell hg hvar i,← Array.getElem?_toList,hcs]
 simp [hi]
end Go.D
end
