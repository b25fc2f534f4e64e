import Derived.Lib.LaidTab
import Derived.LaidMore
import Derived.Test.YtmoococmjkapbaaGreatDoorM4
/-! Texts 5 of this claim, joined. -/
section
set_option linter.unusedSimpArgs false
set_option linter.unusedVariables false
set_option linter.unnecessarySimpa false
namespace Go.D.Tab
structure It where
 k:Int
 f:Int
 t:Int
 w:Int
 s:Int
 h:Int
 c:Int
 y:Bool
def It.cs (x:It):List DV:=[.int .i64 x.k,.int .i64 x.f,.int .i64 x.t,.int .i64 x.w,.int .i64 x.s,.int .i64 x.h,.int .i64 x.c,.bool x.y]
def It.dv (x:It):DV:=.agg x.cs
theorem Ot (x:It):cX 8 true x.dv:=⟨rfl,rfl,rfl⟩
theorem pJ {l:List It}:∀ y∈l.map It.dv,cX 8 true y:=fun y hy=>by obtain ⟨x,_,rfl⟩:=List.mem_map.1 hy;exact Ot x
abbrev Its (st:St) (l:List It) (v:DV):Prop:=Vw st 8 true (l.map It.dv) v
section
variable {st:St} {l:List It} {v:DV}
theorem cY (h:Its st l v) (st':St):oY st' .slice v=some (.int .i64 l.length,st'):=by simpa using Vw.len h st'
theorem ew (h:Its st l v) {i:Nat} (hi:i<l.length) (k:IntKind) (st':St):iF st' 8 v (.int k i)=some (elP 8 v i,st'):=Vw.aE h (by simpa using hi) k st'
theorem qb (h:Its st l v) {i:Nat} {x:It} (hx:l[i]? = some x) (H:List HO) (K:List Nat):cE (pst st H K) 8 true (elP 8 v i)=some x.dv:=Vw.load (Vw.inn h H K) pJ rfl (by simp [hx])
theorem gK (h:Its st l v) {i:Nat} {x:It} (hx:l[i]? = some x) {off:Nat} (ho:off≤8) (st':St):km st' off (elP 8 v i)=some (faP off (elP 8 v i),st'):=Vw.fF h pJ (by simpa using (List.getElem?_eq_some_iff.1 hx).1) ho st'
theorem uk (h:Its st l v) {i:Nat} {x:It} (hx:l[i]? = some x) {off:Nat} {y:DV} (ho:x.cs[off]? = some y) (H:List HO) (K:List Nat):cE (pst st H K) 1 false (faP off (elP 8 v i))=some y:=Vw.Fg (x:=x.dv) (Vw.inn h H K) pJ (by simp [hx]) ho
theorem ln (h:Its st l v) {i:Nat} {x:It} (hx:l[i]? = some x) (H:List HO) (K:List Nat):cE (pst st H K) 1 false (faP 0 (elP 8 v i))=some (.int .i64 x.k):=uk h hx rfl H K
theorem E8 (h:Its st l v) {i:Nat} {x:It} (hx:l[i]? = some x) (H:List HO) (K:List Nat):cE (pst st H K) 1 false (faP 3 (elP 8 v i))=some (.int .i64 x.w):=uk h hx rfl H K
theorem aoO (h:Its st l v) {i:Nat} {x:It} (hx:l[i]? = some x) (H:List HO) (K:List Nat):cE (pst st H K) 1 false (faP 7 (elP 8 v i))=some (.bool x.y):=uk h hx rfl H K
end
theorem alp:tab 109=some (.code f109):=by kernel_rfl
theorem anP:tab 120=some (.code f120):=by kernel_rfl
theorem ap6:tab 122=some (.code f122):=by kernel_rfl
theorem ara:tab 110=some (.code f110):=by kernel_rfl
theorem asU:tab 121=some (.code f121):=by kernel_rfl
theorem am8:tab 123=some (.code f123):=by kernel_rfl
def bp (n:Int):Bool:=decide (0≤n)&&decide (n≤4095)
theorem s4 (n:Int) (st:St):(E tab).F 122 [.int .i64 n] st=some (.bool (bp n),st):=by
 rw [aT ap6 rfl]
 by_cases h:0≤n
 · simp [f122,bp,h]
 · simp [f122,bp,h]
def oS (x:It):Bool:=decide (x.k<1)||decide (4<x.k)||decide (x.f<0)||decide (x.t<x.f)||decide (x.w<0)||decide (2097152<x.w) || !bp x.s || !bp x.h || !bp x.c
def kI (x:It):Bool:=(x.k != 3&&(x.y||x.c != 0))||(x.k != 2&&(x.s != 0||x.h != 0))||(x.k==4&&x.w != 0)
def fG (x:It):Bool:=oS x||kI x
theorem Wn (x:It) (st:St):(E tab).F 120 [x.dv] st=some (.bool (fG x),st):=by
 rw [aT anP rfl]
 have hw:=s4
 cases hA:oS x with
 | true=>
   have e:fG x=true:=by simp [fG,hA]
   rw [e]
   unfold oS at hA
   by_cases h1:x.k<1
   · simp [f120,It.dv,It.cs,h1]
   by_cases h2:4<x.k
   · simp [f120,It.dv,It.cs,h1,h2]
   by_cases h3:x.f<0
   · simp [f120,It.dv,It.cs,h1,h2,h3]
   by_cases h4:x.t<x.f
   · simp [f120,It.dv,It.cs,h1,h2,h3,h4]
   by_cases h5:x.w<0
   · simp [f120,It.dv,It.cs,h1,h2,h3,h4,h5]
   by_cases h6:2097152<x.w
   · simp [f120,It.dv,It.cs,h1,h2,h3,h4,h5,h6]
   by_cases h7:bp x.s=false
   · simp [f120,It.dv,It.cs,h1,h2,h3,h4,h5,h6,hw,h7]
   by_cases h8:bp x.h=false
   · simp at h7;simp [f120,It.dv,It.cs,h1,h2,h3,h4,h5,h6,hw,h7,h8]
   by_cases h9:bp x.c=false
   · simp at h7 h8;simp [f120,It.dv,It.cs,h1,h2,h3,h4,h5,h6,hw,h7,h8,h9]
   · simp at h7 h8 h9;simp [h1,h2,h3,h4,h5,h6,h7,h8,h9] at hA
 | false=>
   have e:fG x=kI x:=by simp [fG,hA]
   rw [e]
   unfold oS at hA
   simp only [Bool.or_eq_false_iff,decide_eq_false_iff_not,Bool.not_eq_false'] at hA
   obtain ⟨⟨⟨⟨⟨⟨⟨⟨h1,h2⟩,h3⟩,h4⟩,h5⟩,h6⟩,h7⟩,h8⟩,h9⟩:=hA
   have w0:bp 0=true:=rfl
   have c3:x.k=3∨x.k≠3:=Decidable.em _
   have c2:x.k=2∨x.k≠2:=Decidable.em _
   have c4:x.k=4∨x.k≠4:=Decidable.em _
   have cc:x.c=0∨x.c≠0:=Decidable.em _
   have cs:x.s=0∨x.s≠0:=Decidable.em _
   rcases c3 with c3 | c3
   · rcases cs with cs | cs
     · by_cases ch:x.h=0<;>simp [f120,It.dv,It.cs,h1,h2,h3,h4,h5,h6,hw,h7,h8,h9,w0,kI,c3,cs,ch]
     · simp [f120,It.dv,It.cs,h1,h2,h3,h4,h5,h6,hw,h7,h8,h9,w0,kI,c3,cs]
   · cases hy:x.y with
     | true=>simp [f120,It.dv,It.cs,h1,h2,h3,h4,h5,h6,hw,h7,h8,h9,w0,kI,c3,hy]
     | false=>
       rcases cc with cc | cc
       · rcases c2 with c2 | c2
         · simp [f120,It.dv,It.cs,h1,h2,h3,h4,h5,h6,hw,h7,h8,h9,w0,kI,c2,hy,cc]
         · rcases cs with cs | cs
           · by_cases ch:x.h=0
             · rcases c4 with c4 | c4
               · simp [f120,It.dv,It.cs,h1,h2,h3,h4,h5,h6,hw,h7,h8,h9,w0,kI,c4,hy,cc,cs,ch]
               · simp [f120,It.dv,It.cs,h1,h2,h3,h4,h5,h6,hw,h7,h8,h9,w0,kI,c3,c2,c4,hy,cc,cs,ch]
             · simp [f120,It.dv,It.cs,h1,h2,h3,h4,h5,h6,hw,h7,h8,h9,w0,kI,c3,c2,hy,cc,cs,ch]
           · simp [f120,It.dv,It.cs,h1,h2,h3,h4,h5,h6,hw,h7,h8,h9,w0,kI,c3,c2,hy,cc,cs]
       · simp [f120,It.dv,It.cs,h1,h2,h3,h4,h5,h6,hw,h7,h8,h9,w0,kI,c3,hy,cc]
def bA (l:List It):Int:=if 8192<l.length then 3 else if l.any fG then 2 else 0
section
variable {st:St} {l:List It} {v:DV}
theorem W8 (hv:Its st l v) (hl:l.length≤8192) (K:List Nat):∀ (r d:List It) (H:List HO),l=d++r →
 ∃ J fr,(E tab).C qj [(8,v),(9,.int .i64 l.length),(10,.int .i64 d.length)] (pst st H K) =
   some (if r.any fG then (.ret,[(2,.int .i64 2)],pst st (H++J) K) else (.exit 0,fr,pst st (H++J) K)):=by
 intro r
 induction r with
 | nil=>
   intro d H hd
   refine ⟨[],[(8,v),(9,.int .i64 l.length),(10,.int .i64 l.length),(11,.bool false)],?_⟩
   rw [aj (L:=qj) rfl]
   simp [ur,hd]
 | cons x r ih=>
   intro d H hd
   have h0:d.length<l.length:=by simp [hd]
   have hx:l[d.length]? = some x:=by simp [hd]
   have hw1:IntKind.i64.wrap ((d.length:Int)+1)=((d++[x]).length:Nat):=by rw [aD (by omega)];simp
   have e1:=fun st'=>ew hv h0 .i64 st'
   have e2:=fun H K=>qb hv hx H K
   have e3:=fun st=>Wn x st
   simp only [It.dv,It.cs] at e2 e3
   rw [List.any_cons]
   cases ho:fG x with
   | true=>
     refine ⟨[.cells .plain x.cs],[],?_⟩
     rw [aj (L:=qj) rfl]
     simp [ur,h0,e1,e2,e3,ho,It.cs]
   | false=>
     obtain ⟨J,fr,hJ⟩:=ih (d++[x]) (H++[.cells .plain x.cs]) (by simp [hd])
     refine ⟨.cells .plain x.cs::J,fr,?_⟩
     rw [Bool.false_or]
     generalize r.any fG=b at hJ ⊢
     simp only [List.length_append,List.length_singleton] at hJ hw1
     simp [It.cs] at hJ
     rw [aj (L:=qj) rfl]
     simp [ur,h0,e1,e2,e3,ho,It.cs,hw1,hJ]
theorem xg (hv:Its st l v):(E tab).F 109 [v] st=some (.int .i64 (bA l),st):=by
 rw [aT alp rfl]
 have e0:=fun st'=>cY hv st'
 by_cases h:8192<l.length
 · have h':(8192:Int)<l.length:=by omega
   simp [f109,e0,h,h',bA]
 · have h':¬ (8192:Int)<l.length:=by omega
   obtain ⟨J,fr,hL⟩:=W8 hv (by omega) [] l [] [] rfl
   have e:bA l=if l.any fG then 2 else 0:=by simp only [bA,if_neg h]
   rw [e]
   generalize l.any fG=b at hL ⊢
   simp at hL
   cases b<;>simp at hL<;>simp [f109,e0,h',hL]
def dV (l:List It) (a b:Int):Int:=if bA l=0∧(a<0∨b<a∨l.length<b) then 5 else bA l
theorem sU (hv:Its st l v) (a b:Int):(E tab).F 121 [v,.int .i64 a,.int .i64 b] st=some (.int .i64 (dV l a b),st):=by
 rw [aT asU rfl]
 have e0:=fun st'=>cY hv st'
 have e1:=xg (hv.inn [] [])
 unfold dV
 by_cases h:bA l=0
 · by_cases h1:a<0
   · simp [f121,e0,e1,h,h1]
   · by_cases h2:b<a
     · simp [f121,e0,e1,h,h1,h2]
     · by_cases h3:(l.length:Int)<b
       · simp [f121,e0,e1,h,h1,h2,h3]
       · simp [f121,e0,e1,h,h1,h2,h3]
 · simp [f121,e1,h]
def br (l:List It) (a:Nat):Nat→Nat
 | 0=>0
 | b+1=>if a≤b∧(l[b]?.map (·.k))=some 2 then br l a b else b+1
theorem ml (l:List It) (a:Nat):∀ b,br l a b≤b
 | 0=>Nat.le_refl _
 | b+1=>by
   unfold br
   split
   · exact Nat.le_succ_of_le (ml l a b)
   · exact Nat.le_refl _
theorem wi (l:List It) (a:Nat):∀ b,a≤b→a≤br l a b
 | 0,h=>by simp [br];omega
 | b+1,h=>by
   unfold br
   split
   · rename_i hc;exact wi l a b hc.1
   · exact h
theorem acY (hv:Its st l v) (a:Nat) (hl:l.length≤140737488355328) (H:List HO) (K:List Nat):∀ b,b≤l.length→a≤b →
 ∃ fr,(E tab).C nw [(0,v),(1,.int .i64 a),(2,.int .i64 b)] (pst st H K)=some (.exit 0,[(0,v),(1,.int .i64 a),(2,.int .i64 (br l a b:Nat))]++fr,pst st H K):=by
 intro b
 induction b with
 | zero=>
   intro hb ha
   obtain rfl:a=0:=by omega
   refine ⟨[(18,.bool false)],?_⟩
   rw [aj (L:=nw) rfl]
   simp [qu,br]
 | succ b ih=>
   intro hb ha
   by_cases hab:a≤b
   · have hw:IntKind.i64.wrap (((b+1:Nat):Int)-1)=b:=by rw [aD (by omega)];omega
     have hlt:(a:Int)<b+1:=by omega
     have hbl:b<l.length:=by omega
     have hx:l[b]? = some l[b]:=List.getElem?_eq_getElem hbl
     have e1:=fun st'=>ew hv hbl .i64 st'
     have e2:=fun st'=>gK hv hx (off:=0) (by omega) st'
     have e3:=fun H K=>ln hv hx H K
     simp at hw
     by_cases hk:l[b].k=2
     · obtain ⟨fr,hJ⟩:=ih (by omega) hab
       refine ⟨fr,?_⟩
       rw [aj (L:=nw) rfl]
       have et:br l a (b+1)=br l a b:=by rw [br,if_pos ⟨hab,by simp [hx,hk]⟩]
       rw [et]
       simp at hJ
       simp [qu,hlt,hw,e1,e2,e3,hk,hJ]
     · have et:br l a (b+1)=b+1:=by rw [br,if_neg];rintro ⟨_,h⟩;simp [hx] at h;exact hk h
       rw [et]
       refine ⟨[(18,.bool false)],?_⟩
       rw [aj (L:=nw) rfl]
       simp [qu,hlt,hw,e1,e2,e3,hk]
   · obtain rfl:a=b+1:=by omega
     have et:br l (b+1) (b+1)=b+1:=by rw [br,if_neg];omega
     rw [et]
     refine ⟨[(18,.bool false)],?_⟩
     rw [aj (L:=nw) rfl]
     simp [qu]
theorem Vw.ex {n:Nat} {ag:Bool} {xs:List DV} {w:DV} (h:Vw st n ag xs w) (H:List HO) (K:List Nat):∃ w',a9 st (pst st H K) w=some w'∧Vw st n ag xs w':=by
 cases h with
 | list t n' tk nn h1 h2=>exact ⟨_,rfl,.list _ _ _ _ h1 h2⟩
 | hsl b off c g vs hc hl hx hcap=>
   have hh:=iS hc
   have hb:st.oL b=true:=by unfold St.oL;rw [hh]
   refine ⟨_,by simp only [a9,hb,if_true],.hsl b off c g vs hc hl hx hcap⟩
theorem EJ {n:Nat} {ag:Bool} {xs:List DV} {w:DV} {st0 st1 st2:St} (h:Vw st0 n ag xs w):bJ st1 st2 w=a9 st1 st2 w:=by
 cases h<;>rfl
theorem qW (hv:Its st l v) (hl:l.length≤140737488355328) (a b:Nat) (hab:a≤b) (hb:b≤l.length):∃ v',(E tab).F 123 [v,.int .i64 a,.int .i64 b] st=some (v',st)∧Its st ((l.drop a).take (br l a b-a)) v':=by
 rw [aT am8 rfl]
 obtain ⟨fr,hL⟩:=acY hv a hl [] [] b hb hab
 obtain ⟨v',hs,hv'⟩:=Vw.slice hv (by omega) pJ (lo:=a) (hi:=br l a b) (wi l a b hab) (by have:=ml l a b;simp;omega) .i64 .i64
 obtain ⟨v2,hx,hv2⟩:=Vw.ex hv' [] []
 rw [← List.map_drop,← List.map_take] at hv2
 refine ⟨v2,?_,hv2⟩
 simp at hL
 have hxT:bJ st (pst st [] []) v'=some v2:=by rw [EJ hv',hx]
 simp [f123,hL,hs,hxT]
end
theorem anE:tab 124=some (.code f124):=by kernel_rfl
theorem ata:tab 139=some (.code f139):=by kernel_rfl
theorem an1:tab 145=some (.code f145):=by kernel_rfl
theorem aoI:tab 146=some (.code f146):=by kernel_rfl
theorem aqQ:tab 153=some (.code f153):=by kernel_rfl
def gX (x:Int):Int:=(x/48+1)*48
theorem sr (st:St):(E tab).F 145 [.list 0 0 .no false []] st=some (.int .i64 0,st):=by
 rw [aT an1 rfl]
 have hL:∀ st:St,(E tab).C zI [(3,.int .i64 0),(9,.list 0 0 .no false []),(10,.int .i64 0),(11,.int .i64 0)] st=some (.exit 0,[(3,.int .i64 0),(9,.list 0 0 .no false []),(10,.int .i64 0),(11,.int .i64 0),(12,.bool false)],st):=by
  intro st
  rw [aj (L:=zI) rfl]
  simp [Fv]
 simp [f145,hL]
theorem ym (x f:DV) (st:St):(E tab).F 153 [.list 0 0 .no false [],x,f] st=some (.tuple [.int .i64 0,.bool false],st):=by
 rw [eC aqQ rfl]
 have hL:∀ st:St,(E tab).C zD [(0,.list 0 0 .no false []),(1,x),(2,f),(8,.int .i64 0),(9,.int .i64 0),(10,.int .i64 0)] st=some (.exit 0,[(0,.list 0 0 .no false []),(1,x),(2,f),(8,.int .i64 0),(9,.int .i64 0),(10,.int .i64 0),(17,.bool false)],st):=by
  intro st
  rw [aj (L:=zD) rfl]
  simp [DX]
 simp [f153,hL]
theorem Cw (x:Int) (hx:0≤x∧x≤1000000000000) (st:St):(E tab).F 146 [.list 0 0 .no false [],.int .i64 x] st=some (.agg [.int .i64 (gX x),.int .i64 0],st):=by
 rw [aT aoI rfl]
 have e1:IntKind.i64.wrap (x.tdiv 48)=x/48:=IntWalk.i64_quo _ _ (by omega)
 have e2:IntKind.i64.wrap (x/48+1)=x/48+1:=aD (by omega)
 have e3:IntKind.i64.wrap ((x/48+1)*48)=gX x:=aD (by omega)
 simp [f146,ym,e1,e2,e3]
theorem Jw (x:Int) (hx:0≤x∧x≤1000000000000) (st:St):(E tab).F 139 [.list 0 0 .no false [],.int .i64 x] st=some (if x≤8190 then .tuple [.agg [.int .i64 (gX x),.int .i64 0],.int .i64 0] else .tuple [.agg [.int .i64 0,.int .i64 0],.int .i64 5],st):=by
 rw [aT ata rfl]
 have h0:¬ x<0:=by omega
 have e1:=fun st=>Cw x hx st
 by_cases h:x≤8190
 · have h1:¬ 8190<x:=by omega
   simp [f139,sr,h0,h1,e1,h]
 · have h1:8190<x:=by omega
   simp [f139,sr,h0,h1,h]
theorem I8 (x:Int) (hx:0≤x∧x≤1000000000000) (st:St):(E tab).F 124 [.int .i64 x] st=some (.int .i64 (gX x),st):=by
 rw [aT anE rfl]
 have e0:=fun st=>Jw x hx st
 have e1:IntKind.i64.wrap (x.tdiv 48)=x/48:=IntWalk.i64_quo _ _ (by omega)
 have e2:IntKind.i64.wrap (x/48+1)=x/48+1:=aD (by omega)
 have e3:IntKind.i64.wrap ((x/48+1)*48)=gX x:=aD (by omega)
 by_cases h:x≤8190
 · simp only [h,if_true] at e0
   simp [f124,e0]
 · simp only [h,if_false] at e0
   simp [f124,e0,e1,e2,e3]
def cN (at_:Int) (x:It):Int:=if x.k=1∨x.k=2 then at_+x.w else if x.k=4 then gX at_ else at_
def goI (at_:Int):List It→Int
 | []=>at_
 | x::r=>goI (cN at_ x) r
def okW (l:List It):Prop:=∀ x∈l,0≤x.w∧x.w≤2097152
theorem ix {l:List It} (h:bA l=0):okW l∧l.length≤8192:=by
 unfold bA at h
 split at h
 · omega
 · rename_i h1
   split at h
   · omega
   · rename_i h2
     refine ⟨fun x hx => ?_,by omega⟩
     rw [Bool.not_eq_true,List.any_eq_false] at h2
     have:=h2 x hx
     simp [fG,oS] at this
     omega
theorem rj {x:It} (h:0≤x.w∧x.w≤2097152) {a:Int} (ha:0≤a):a≤cN a x∧cN a x≤a+2097152:=by
 unfold cN gX
 split
 · omega
 · split<;>omega
theorem te:∀ {l:List It} {a:Int},okW l→0≤a→a≤goI a l∧goI a l≤a+2097152*l.length
 | [],a,_,_=>by simp [goI]
 | x::r,a,h,ha=>by
   have h1:=rj (h x (List.mem_cons_self ..)) ha
   have h2:=te (l:=r) (a:=cN a x) (fun y hy=>h y (List.mem_cons_of_mem _ hy)) (by omega)
   simp only [goI,List.length_cons]
   omega
theorem Ba:∀ (l r:List It) (a:Int),goI a (l++r)=goI (goI a l) r
 | [],r,a=>rfl
 | x::l,r,a=>by simp only [List.cons_append,goI,Ba l r]
def k8 (l:List It) (b:Nat):Int:=match l[b]? with | some x=>if x.k=3 then x.w else 0 | none=>0
def eY (l:List It) (a b:Nat) (x:Int):Int:=goI x ((l.drop a).take (br l a b-a))+k8 l b-x
section
variable {st:St} {l:List It} {v:DV}
theorem Tg (l':List It) {v':DV} (hv':Its st l' v') (hok:okW l') (hl:l'.length≤8192) (y0 y2 y3:DV) (K:List Nat):∀ (r d:List It) (H:List HO) (a:Int),l'=d++r→0≤a→a≤4095+2097152*d.length →
 ∃ J fr,(E tab).C tr [(0,y0),(2,y2),(3,y3),(11,.int .i64 a),(28,v'),(29,.int .i64 l'.length),(30,.int .i64 d.length)] (pst st H K) =
   some (.exit 0,[(0,y0),(2,y2),(3,y3),(11,.int .i64 (goI a r))]++fr,pst st (H++J) K):=by
 intro r
 induction r with
 | nil=>
   intro d H a hd h1 h2
   refine ⟨[],[(28,v'),(29,.int .i64 l'.length),(30,.int .i64 l'.length),(31,.bool false)],?_⟩
   rw [aj (L:=tr) rfl]
   simp [n7,hd,goI]
 | cons x r ih=>
   intro d H a hd h1 h2
   have h0:d.length<l'.length:=by simp [hd]
   have hx:l'[d.length]? = some x:=by simp [hd]
   have hxm:=hok x (by simp [hd])
   have hw1:IntKind.i64.wrap ((d.length:Int)+1)=((d++[x]).length:Nat):=by rw [aD (by omega)];simp
   have e1:=fun st'=>ew hv' h0 .i64 st'
   have e2:=fun H K=>qb hv' hx H K
   simp only [It.dv,It.cs] at e2
   have hs:=rj hxm h1
   obtain ⟨J,fr,hJ⟩:=ih (d++[x]) (H++[.cells .plain x.cs]) (cN a x) (by simp [hd]) (by omega) (by simp;omega)
   refine ⟨.cells .plain x.cs::J,fr,?_⟩
   rw [goI]
   simp only [List.length_append,List.length_singleton] at hJ hw1
   simp [It.cs] at hJ
   rw [aj (L:=tr) rfl]
   by_cases k1:x.k=1
   · have w1:IntKind.i64.wrap (a+x.w)=cN a x:=by rw [aD (by omega)];simp [cN,k1]
     rw [k1] at e2 hJ
     simp [n7,h0,e1,e2,k1,It.cs,hw1,w1,hJ]
   · by_cases k2:x.k=2
     · have w1:IntKind.i64.wrap (a+x.w)=cN a x:=by rw [aD (by omega)];simp [cN,k2]
       rw [k2] at e2 hJ
       simp [n7,h0,e1,e2,k1,k2,It.cs,hw1,w1,hJ]
     · by_cases k4:x.k=4
       · have w1:gX a=cN a x:=by simp [cN,k4]
         have e3:=fun st=>I8 a (by omega) st
         rw [w1] at e3
         rw [k4] at e2 hJ
         simp [n7,h0,e1,e2,e3,k1,k2,k4,It.cs,hw1,hJ]
       · have w1:cN a x=a:=by simp [cN,k1,k2,k4]
         rw [w1] at hJ
         simp [n7,h0,e1,e2,k1,k2,k4,It.cs,hw1,w1,hJ]
def NG (l:List It) (a b x:Int):DV:=
 if dV l a b≠0 then .tuple [.int .i64 0,.int .i64 (dV l a b)]
 else if bp x=false then .tuple [.int .i64 0,.int .i64 5]
 else .tuple [.int .i64 (eY l a.toNat b.toNat x),.int .i64 0]
theorem my {a b:Int} (h:dV l a b=0):bA l=0∧0≤a∧a≤b∧b≤l.length:=by
 unfold dV at h
 split at h
 · omega
 · rename_i h1
   refine ⟨h,?_⟩
   have:¬ (a<0∨b<a∨l.length<b):=fun h2=>h1 ⟨h,h2⟩
   omega
theorem DO (hv:Its st l v) (a b x:Int):(E tab).F 110 [v,.int .i64 a,.int .i64 b,.int .i64 x] st=some (NG l a b x,st):=by
 rw [aT ara rfl]
 have e0:=fun st'=>cY hv st'
 have e1:=sU (hv.inn [] []) a b
 have e2:=fun st=>s4 x st
 unfold NG
 by_cases h1:dV l a b=0
 · cases h2:bp x with
   | false=>simp [f110,e1,e2,h1,h2]
   | true=>
     obtain ⟨h3,h4,h5,h6⟩:=my h1
     obtain ⟨hok,hlen⟩:=ix h3
     obtain ⟨A,rfl⟩:=Int.eq_ofNat_of_zero_le h4
     obtain ⟨B,rfl⟩:=Int.eq_ofNat_of_zero_le (show 0≤b by omega)
     simp [bp] at h2
     obtain ⟨v',et,hv'⟩:=qW (hv.inn [] []) (by omega) A B (by omega) (by omega)
     have hv':=Vw.out hv'
     have hlt:=ml l A B
     have hok':okW ((l.drop A).take (br l A B-A)):=fun y hy=>hok y (List.mem_of_mem_drop (List.mem_of_mem_take hy))
     have hlen':((l.drop A).take (br l A B-A)).length≤8192:=by simp;omega
     have hg:=te (a:=x) hok' (by omega)
     obtain ⟨J,fr,hL⟩:=Tg _ hv' hok' hlen' v (.int .i64 B) (.int .i64 x) [] _ [] [] x rfl (by omega) (by omega)
     have e3:=fun st'=>cY hv' st'
     unfold eY
     simp only [Int.toNat_natCast]
     generalize hG:goI x ((l.drop A).take (br l A B-A))=G at *
     generalize ((l.drop A).take (br l A B-A))=l' at *
     simp at hL
     by_cases hb:B<l.length
     · have hx:l[B]? = some l[B]:=List.getElem?_eq_getElem hb
       have q1:=fun st'=>ew hv hb .i64 st'
       have q2:=fun st'=>gK hv hx (off:=0) (by omega) st'
       have q3:=fun H K=>ln hv hx H K
       have q4:=fun st'=>gK hv hx (off:=3) (by omega) st'
       have q5:=fun H K=>E8 hv hx H K
       have hB:=hok _ (List.getElem_mem hb)
       by_cases k3:l[B].k=3
       · have ep:k8 l B=l[B].w:=by simp [k8,hx,k3]
         have w1:IntKind.i64.wrap (G+l[B].w)=G+l[B].w:=aD (by omega)
         have w2:IntKind.i64.wrap (G+l[B].w-x)=G+l[B].w-x:=aD (by omega)
         simp [f110,e0,e1,e2,e3,h1,bp,h2,et,hL,hb,q1,q2,q3,q4,q5,k3,w1,w2,ep,hG]
       · have ep:k8 l B=0:=by simp [k8,hx,k3]
         have w2:IntKind.i64.wrap (G-x)=G-x:=aD (by omega)
         simp [f110,e0,e1,e2,e3,h1,bp,h2,et,hL,hb,q1,q2,q3,k3,w2,ep,hG]
     · have ep:k8 l B=0:=by simp [k8,hb]
       have w2:IntKind.i64.wrap (G-x)=G-x:=aD (by omega)
       simp [f110,e0,e1,e2,e3,h1,bp,h2,et,hL,hb,w2,ep,hG]
 · simp [f110,e1,h1]
end
section
variable {st:St} {l:List It} {v:DV}
def ox (l:List It) (i:Nat):Bool:=
 i==l.length||(match l[i]? with | some x=>x.k==3||(x.k==2&&decide (0<i)&&(match l[i-1]? with | some y=>y.k != 2 | none=>false)) | none=>false)
def cd (l:List It):Nat→Nat→Nat
 | 0,i=>i
 | f+1,i=>match l[i]? with | some x=>if x.k=2 then cd l f (i+1) else i | none=>i
def dm (l:List It) (i:Nat):Nat:=cd l l.length (match l[i]? with | some x=>if x.k=3 then i+1 else i | none=>i)
end
theorem anQ:tab 106=some (.code f106):=by kernel_rfl
theorem aqn:tab 117=some (.code f117):=by kernel_rfl
theorem aoc:tab 118=some (.code f118):=by kernel_rfl
theorem OA:tab 131=some (.code f131):=by kernel_rfl
theorem asD:tab 132=some (.code f132):=by kernel_rfl
theorem alU:tab 133=some (.code f133):=by kernel_rfl
theorem aoG:tab 134=some (.code f134):=by kernel_rfl
theorem amI:tab 135=some (.code f135):=by kernel_rfl
theorem asc:tab 136=some (.code f136):=by kernel_rfl
theorem asT:tab 137=some (.code f137):=by kernel_rfl
theorem amA:tab 138=some (.code f138):=by kernel_rfl
def mz:ak:=⟨0,0,0,0,0,0⟩
def qD (m:ak):Bool:=m.k != 3&&(m.k != 4&&m.k != 5)
def hyW (s:Int):Int:=wd 45 s
def fJ (L:List ak) (fr to:Nat):It:=⟨1,(L.getD fr mz).a,(L.getD (to-1) mz).b,jX true 0 ((L.drop fr).take (to-fr)),0,0,0,false⟩
def ik (m:ak):It:=if m.k=3 then ⟨2,m.a,m.b,m.w,m.w/2,m.w/3,0,false⟩ else if m.k=4 then ⟨4,m.a,m.b,0,0,0,0,false⟩ else ⟨3,m.a,m.b,hyW m.s,0,0,50,true⟩
def lB (s:List UInt8) (m:ak):Bool:=m.k==2&&bAt s m.a.toNat==45
def u6 (m:ak):It:=⟨3,m.a,m.a,hyW m.s,0,0,100,true⟩
def uc (m:ak):It:=⟨3,m.a,m.a,0,0,0,50,false⟩
def bx (s:List UInt8) (L:List ak) (pl:List Bool):Nat→Nat→Nat→List ak→List It
 | k,run,fr,[]=>if fr<k then [fJ L fr k] else []
 | k,run,fr,m::r=>
   if qD m=false then (if fr<k then [fJ L fr k] else [])++ik m::bx s L pl (k+1) (k+1) (k+1) r
   else if k=fr then bx s L pl (k+1) run fr r
   else if pl.getD k false=true then fJ L fr k::u6 m::bx s L pl (k+1) run k r
   else if (lB s (L.getD (k-1) mz) && !lB s m&&decide (run<k-1))=true then fJ L fr k::uc m::bx s L pl (k+1) run k r
   else bx s L pl (k+1) run fr r
structure MOk (s:List UInt8) (L:List ak):Prop where
 len:L.length≤4096
 ok:L.all okM=true
 at_:∀ m∈L,0≤m.a∧m.a<s.length
 sz:∀ m∈L,1≤m.s∧m.s≤64
theorem Dl {m:ak} (h:okM m=true):0≤m.w∧m.w≤4095:=by
 simp only [okM,decide_eq_true_eq] at h;omega
section
variable {st:St}
theorem Ej (m:ak):(E tab).F 136 [m.dv] st=some (.bool (qD m),st):=by
 rw [aT asc rfl]
 by_cases h1:m.k=3
 · simp [f136,qD,ak.cs,h1]
 by_cases h2:m.k=4
 · simp [f136,qD,ak.cs,h2]
 by_cases h3:m.k=5
 · simp [f136,qD,ak.cs,h3]
 · have b1:(m.k != 3)=true:=by simp [h1]
   have b2:(m.k != 4)=true:=by simp [h2]
   simp [f136,qD,ak.cs,h1,h2,b1,b2]
theorem su {n:Int} (hn:1≤n∧n≤64):(E tab).F 138 [.int .i64 n] st=some (.int .i64 (hyW n),st):=by
 rw [aT amA rfl]
 have hb:=qh 45 hn.1 hn.2
 have h:∀ st,(E tab).F 17 [.str [45],.int .i64 n] st=some (.tuple [.int .i64 (hyW n),.int .i64 0],st):=by
  intro st
  rw [tP]
  have hw:IntKind.i64.wrap (wd 45 n)=wd 45 n:=aD (by omega)
  simp only [fq,if_pos hn]
  simp [tw,hw,hyW]
 simp [f138,h]
theorem N8 (m:ak) (hm:okM m=true) (hs:1≤m.s∧m.s≤64):(E tab).F 137 [m.dv] st=some ((ik m).dv,st):=by
 rw [aT asT rfl]
 have hw:=Dl hm
 have h2:IntKind.i64.wrap (m.w.tdiv 2)=m.w/2:=by rw [Int.tdiv_eq_ediv_of_nonneg hw.1,aD (by omega)]
 have h3:IntKind.i64.wrap (m.w.tdiv 3)=m.w/3:=by rw [Int.tdiv_eq_ediv_of_nonneg hw.1,aD (by omega)]
 have hh:=fun st=>su (st:=st) hs
 by_cases k3:m.k=3
 · simp [f137,ik,It.dv,It.cs,ak.cs,k3,h2,h3]
 by_cases k4:m.k=4
 · simp [f137,ik,It.dv,It.cs,ak.cs,k4]
 · simp [f137,ik,It.dv,It.cs,ak.cs,k3,k4,hh]
theorem getM {L:List ak} {i:Nat} (h:i<L.length):L[i]? = some (L.getD i mz):=by rw [List.getD_eq_getElem?_getD,List.getElem?_eq_getElem h];rfl
theorem r8 {L:List ak} {i:Nat} (h:i<L.length):(L.map ak.dv)[i]? = some (L.getD i mz).dv:=by rw [List.getElem?_map,getM h];rfl
theorem abS {s:List UInt8} {L:List ak} (hL:MOk s L) {t n:Nat} {tk:Tk} {nn:Bool} (h6:L≠[]→n=6) (h7:nn=true→n=6) {fr to:Nat} (h1:fr<to) (h2:to≤L.length):(E tab).F 135 [.list t n tk nn (L.map ak.dv),.int .i64 fr,.int .i64 to] st=some ((fJ L fr to).dv,st):=by
 rw [aT amI rfl]
 have hn:=fun st=>BY L fr to t n tk nn h6 h7 st
 rw [IX hL.len hL.ok fr to (by omega) h2] at hn
 obtain rfl:=h6 (by intro e;simp [e] at h2;omega)
 have hw1:IntKind.i64.wrap ((to:Int)-1)=((to-1:Nat):Int):=by have:=hL.len;rw [aD (by omega)];omega
 have g1:=r8 (L:=L) (i:=fr) (by omega)
 have g2:=r8 (L:=L) (i:=to-1) (by omega)
 have l1:fr<(L.map ak.dv).length:=by simp;omega
 have l2:to-1<(L.map ak.dv).length:=by simp;omega
 generalize L.map ak.dv=V at *
 have g1':V[fr]'l1=(L.getD fr mz).dv:=by rw [List.getElem?_eq_getElem l1] at g1;exact Option.some.inj g1
 have g2':V[to-1]'l2=(L.getD (to-1) mz).dv:=by rw [List.getElem?_eq_getElem l2] at g2;exact Option.some.inj g2
 simp only [fJ]
 generalize L.getD fr mz=a at *
 generalize L.getD (to-1) mz=b at *
 generalize jX true 0 ((L.drop fr).take (to-fr))=rg at *
 simp [f135,It.dv,It.cs,hn,g1,g2,g1',g2',l1,l2,hw1,ak.dv,ak.cs]
end
def loI (st:St) (s:Nat):HO:=.loop (fZ [(6,.ptr (st.heap.length+1) 0),(18,.fn 131 [] [.ptr (st.heap.length+2) 0,.ptr (st.heap.length+3) 0])] [19] (.region ug [6,7]) (.block 1 (.region tT [])) s none)
def HI (st:St) (P0 P1:List DV) (ov lv:DV) (fr s:Nat) (J:List HO):List HO:=
 .cells .plain P0::.cells .plain [ov]::.cells .plain P1::.cells .plain [lv]::loI st s::.cells .plain [.yield (st.heap.length+4)]::.cells .plain [.int .i64 fr]::J
section
variable {st:St} {P0 P1:List DV} {lv:DV} {J:List HO} {K:List Nat}
theorem yi {xs:List It} {ov:DV} {fr:Nat} (x:It) (hx:xs.length≤100000) (hA:Acc st K 8 (xs.map It.dv) ov) :
 ∃ ov' K',(E tab).V (.yield (st.heap.length+4)) [x.dv] (pst st (HI st P0 P1 ov lv fr 0 J) K)=some (.bool true,pst st (HI st P0 P1 ov' lv fr 0 (J++[.cells .plain x.cs])) K')∧Acc st K' 8 ((xs++[x]).map It.dv) ov':=by
 obtain ⟨v2,K2,e2,hA2⟩:=fy (H:=HI st P0 P1 ov lv fr 1 (J++[.cells .plain x.cs])) (t:=st.cur) (by_:=64) (ag:=true) (tk:=.tight) (ys:=[x.dv]) hA (by omega) (by simp) (by simp [Ot]) (by simp [aA];omega) (by simp [aA];omega)
 refine ⟨v2,K2,?_,by simpa using hA2⟩
 have hA1:(E tab).C (.region ug [6,7]) (cJ [(6,.ptr (st.heap.length+1) 0),(18,.fn 131 [] [.ptr (st.heap.length+2) 0,.ptr (st.heap.length+3) 0])] [19] [x.dv]) (pst st (HI st P0 P1 ov lv fr 0 J) K) =
  some (.normal,[(6,.ptr (st.heap.length+1) 0),(7,.ptr (st.heap.length+(J.length+7)) 0)],pst st (HI st P0 P1 ov lv fr 0 (J++[.cells .plain x.cs])) K):=by
  simp [HI,It.dv,It.cs]
 have hB:(E tab).C (.block 1 (.region tT [])) [(6,.ptr (st.heap.length+1) 0),(7,.ptr (st.heap.length+(J.length+7)) 0)] (pst st ((HI st P0 P1 ov lv fr 0 (J++[.cells .plain x.cs])).set 4 (loI st 1)) K) =
  some (.normal,[],pst st (HI st P0 P1 v2 lv fr 1 (J++[.cells .plain x.cs])) K2):=by
  obtain ⟨t',n',tk',nn',rfl⟩:=dS hA2
  simp [HI,It.dv,It.cs] at e2 ⊢
  simp [a0,bk,chunk,e2]
 exact wL (T:=tab) (k:=4) (H:=HI st P0 P1 ov lv fr 0 J) rfl rfl hA1 rfl ⟨_,hB⟩ rfl
theorem Gi {L:List ak} {p:bq} {w u:LW} (hL:MOk p.text L) {t n:Nat} {tk:Tk} {nn:Bool} (h6:L≠[]→n=6) {ov:DV} {fr s k:Nat} (hk:k<L.length) :
 (E tab).F 133 [.int .i64 k,.ptr (st.heap.length+3) 0,.ptr (st.heap.length+2) 0] (pst st (HI st P0 (av p w u) ov (.list t n tk nn (L.map ak.dv)) fr s J) K)=some (.bool (lB p.text (L.getD k mz)),pst st (HI st P0 (av p w u) ov (.list t n tk nn (L.map ak.dv)) fr s J) K):=by
 rw [eC alU rfl]
 obtain rfl:=h6 (by intro e;simp [e] at hk)
 have g1:=r8 (L:=L) hk
 have l1:k<(L.map ak.dv).length:=by simpa using hk
 have hm:=hL.at_ _ (List.mem_of_getElem? (getM hk))
 generalize L.map ak.dv=V at *
 have g1':V[k]'l1=(L.getD k mz).dv:=by rw [List.getElem?_eq_getElem l1] at g1;exact Option.some.inj g1
 generalize L.getD k mz=m at *
 have hb:p.text[m.a.toNat]? = some (bAt p.text m.a.toNat):=z2 (by omega)
 have hlt:m.a.toNat<p.text.length:=by omega
 have hge:p.text[m.a.toNat]'hlt=bAt p.text m.a.toNat:=by rw [List.getElem?_eq_getElem hlt] at hb;exact Option.some.inj hb
 by_cases h2:m.k=2
 · by_cases h45:bAt p.text m.a.toNat=45
   · simp [f133,HI,g1,g1',l1,ak.dv,ak.cs,h2,hb,hge,hlt,hm.1,h45,lB]
   · have h45':(((bAt p.text m.a.toNat).toNat:Int)==45)=(bAt p.text m.a.toNat==45):=EX _ 45
     simp [f133,HI,g1,g1',l1,ak.dv,ak.cs,h2,hb,hge,hlt,hm.1,h45',lB]
 · simp [f133,HI,g1,g1',l1,ak.dv,ak.cs,h2,lB]
theorem AJ {L:List ak} {s:List UInt8} (hL:MOk s L) {t n:Nat} {tk:Tk} {nn:Bool} (h6:L≠[]→n=6) (h7:nn=true→n=6) {xs:List It} {ov:DV} {fr k:Nat} (hk:k≤L.length) (hx:xs.length≤100000) (hA:Acc st K 8 (xs.map It.dv) ov) :
 ∃ ov' J' K',(E tab).F 134 [.int .i64 k,.ptr (st.heap.length+6) 0,.ptr (st.heap.length+5) 0,.ptr (st.heap.length+3) 0] (pst st (HI st P0 P1 ov (.list t n tk nn (L.map ak.dv)) fr 0 J) K) =
   some (.bool true,pst st (HI st P0 P1 ov' (.list t n tk nn (L.map ak.dv)) fr 0 (J++J')) K')∧Acc st K' 8 ((xs++if fr<k then [fJ L fr k] else []).map It.dv) ov':=by
 rw [eC aoG rfl]
 by_cases h:fr<k
 · have h':¬ (k:Int)≤fr:=by omega
   obtain ⟨ov',K',hy,hA'⟩:=yi (P0:=P0) (P1:=P1) (lv:=.list t n tk nn (L.map ak.dv)) (J:=J) (fr:=fr) (fJ L fr k) hx hA
   have hb:=fun st=>abS (st:=st) hL (t:=t) (n:=n) (tk:=tk) h6 h7 h hk
   refine ⟨ov',[.cells .plain (fJ L fr k).cs],K',?_,by simpa [h] using hA'⟩
   generalize fJ L fr k=x at *
   generalize L.map ak.dv=V at *
   simp [HI] at hy
   have h'':¬ k≤fr:=by omega
   simp [f134,HI,h',h'',hb,hy]
 · have h':(k:Int)≤fr:=by omega
   have h'':k≤fr:=by omega
   refine ⟨ov,[],K,?_,by simpa [h] using hA⟩
   generalize L.map ak.dv=V at *
   simp [f134,HI,h',h'']
end
def plV (t:Nat) (tk:Tk) (pl:List Bool):DV:=.list t 1 tk true (pl.map DV.bool)
section
variable {st:St} {P0:List DV}
theorem aj4 {L:List ak} {p:bq} {w u:LW} (hL:MOk p.text L) {t n:Nat} {tk:Tk} {nn:Bool} (h6:L≠[]→n=6) (h7:nn=true→n=6) {pl:List Bool} (hpl:pl.length=L.length+1) {t2:Nat} {tk2:Tk} :
 ∀ (r d:List ak) (run fr:Nat) (J:List HO) (K:List Nat) (xs:List It) (ov:DV),L=d++r→fr≤d.length→run≤d.length→xs.length≤3*d.length→Acc st K 8 (xs.map It.dv) ov →
 ∃ (ov':DV) (fr':Nat) (J':List HO) (K':List Nat) (X:List It) (y6:DV) (tl:Fr),
   (E tab).C gL [(2,.ptr (st.heap.length+3) 0),(3,.ptr (st.heap.length+5) 0),(4,plV t2 tk2 pl),(5,.fn 133 [] [.ptr (st.heap.length+3) 0,.ptr (st.heap.length+2) 0]),(6,.int .i64 run),(7,.ptr (st.heap.length+6) 0),(8,.fn 134 [] [.ptr (st.heap.length+6) 0,.ptr (st.heap.length+5) 0,.ptr (st.heap.length+3) 0]),(17,.list t n tk nn (L.map ak.dv)),(18,.int .i64 L.length),(19,.int .i64 d.length)]
    (pst st (HI st P0 (av p w u) ov (.list t n tk nn (L.map ak.dv)) fr 0 J) K) =
   some (.exit 0,[(2,.ptr (st.heap.length+3) 0),(3,.ptr (st.heap.length+5) 0),(4,plV t2 tk2 pl),(5,.fn 133 [] [.ptr (st.heap.length+3) 0,.ptr (st.heap.length+2) 0]),(6,y6),(7,.ptr (st.heap.length+6) 0),(8,.fn 134 [] [.ptr (st.heap.length+6) 0,.ptr (st.heap.length+5) 0,.ptr (st.heap.length+3) 0])]++tl,
    pst st (HI st P0 (av p w u) ov' (.list t n tk nn (L.map ak.dv)) fr' 0 J') K')∧Acc st K' 8 ((xs++X).map It.dv) ov'∧(xs++X).length≤3*L.length∧bx p.text L pl d.length run fr r=X++(if fr'<L.length then [fJ L fr' L.length] else []):=by
 have hlen:=hL.len
 intro r
 induction r with
 | nil=>
   intro d run fr J K xs ov hd hf hr hx hA
   obtain rfl:L=d:=by simpa using hd
   refine ⟨ov,fr,J,K,[],.int .i64 run,[(17,.list t n tk nn (L.map ak.dv)),(18,.int .i64 L.length),(19,.int .i64 L.length),(20,.bool false)],?_,by simpa using hA,by simpa using hx,by simp [bx]⟩
   generalize L.map ak.dv=V at *
   rw [aj (L:=gL) rfl]
   simp [jM]
 | cons m r ih=>
   intro d run fr J K xs ov hd hf hr hx hA
   have h0:d.length<L.length:=by simp [hd]
   have hmem:m∈L:=by simp [hd]
   have hok:=List.all_eq_true.1 hL.ok m hmem
   have hsz:=hL.sz m hmem
   have hgm:L.getD d.length mz=m:=by simp [hd]
   have hw1:IntKind.i64.wrap ((d.length:Int)+1)=(d.length:Int)+1:=by rw [aD (by omega)]
   have hwm:IntKind.i64.wrap ((d.length:Int)-1)=(d.length:Int)-1:=by rw [aD (by omega)]
   obtain rfl:=h6 (by intro e;simp [e] at h0)
   have g1:=r8 (L:=L) h0
   rw [hgm] at g1
   have l1:d.length<(L.map ak.dv).length:=by simpa using h0
   have hbx:=fun st=>Ej (st:=st) m
   have hln:=fun st=>N8 (st:=st) m hok hsz
   have hhy:=fun st=>su (st:=st) hsz
   have hsh:=fun (J:List HO)=>AJ (st:=st) (P0:=P0) (P1:=av p w u) (J:=J) (K:=K) (t:=t) (n:=6) (tk:=tk) (nn:=nn) hL (fun _=>rfl) (fun _=>rfl) (k:=d.length) (fr:=fr) (by omega) (by omega) hA
   have hds:=fun (J:List HO) (k:Nat) (hk:k<L.length)=>Gi (st:=st) (P0:=P0) (w:=w) (u:=u) (J:=J) (K:=K) (ov:=ov) (fr:=fr) (s:=0) (t:=t) (n:=6) (tk:=tk) (nn:=nn) hL (fun _=>rfl) (k:=k) hk
   have hpd:(pl.map DV.bool)[d.length]? = some (.bool (pl.getD d.length false)):=by
    rw [List.getElem?_map,List.getElem?_eq_getElem (show d.length<pl.length by omega),List.getD_eq_getElem?_getD,List.getElem?_eq_getElem (show d.length<pl.length by omega)];rfl
   have lpd:d.length<(pl.map DV.bool).length:=by simp;omega
   cases hb:qD m with
   | false=>
     obtain ⟨ov1,J1,K1,hS,hA1⟩:=hsh (J++[.cells .plain m.cs])
     have hxl:(xs++if fr<d.length then [fJ L fr d.length] else []).length≤3*d.length+1:=by split<;>simp<;>omega
     obtain ⟨ov2,K2,hY,hA2⟩:=yi (st:=st) (P0:=P0) (P1:=av p w u) (lv:=.list t 6 tk nn (L.map ak.dv)) (J:=(J++[.cells .plain m.cs])++J1) (fr:=fr) (ik m) (by omega) hA1
     obtain ⟨ov',fr',J',K',X,y6,tl,hJ,a1,a2,a3⟩:=ih (d++[m]) (d.length+1) (d.length+1) (((J++[.cells .plain m.cs])++J1)++[.cells .plain (ik m).cs]) K2 ((xs++if fr<d.length then [fJ L fr d.length] else [])++[ik m]) ov2 (by simp [hd]) (by simp) (by simp) (by
      rw [List.length_append];simp only [List.length_append,List.length_singleton] at hxl ⊢;omega) hA2
     refine ⟨ov',fr',J',K',(if fr<d.length then [fJ L fr d.length] else [])++ik m::X,y6,tl,?_,by simpa using a1,by simpa using a2,?_⟩
     · generalize L.map ak.dv=V at *
       have g1':V[d.length]'l1=m.dv:=by rw [List.getElem?_eq_getElem l1] at g1;exact Option.some.inj g1
       rw [hb] at hbx
       simp only [HI,List.append_assoc,List.cons_append,List.nil_append] at hS hY hJ ⊢
       simp only [ak.dv,ak.cs] at hbx hln hS hY hJ g1'
       simp at hS hY hJ
       rw [aj (L:=gL) rfl]
       simp [jM,h0,g1,g1',l1,hbx,hln,hS,hY,dF,hw1,hJ,ak.dv,ak.cs]
     · simp only [List.length_append,List.length_singleton] at a3
       simp only [bx,hb,if_true,a3,List.append_assoc,List.cons_append]
   | true=>
     by_cases hkf:fr=d.length
     · obtain ⟨ov',fr',J',K',X,y6,tl,hJ,a1,a2,a3⟩:=ih (d++[m]) run fr (J++[.cells .plain m.cs]) K xs ov (by simp [hd]) (by simp;omega) (by simp;omega) (by simp;omega) hA
       refine ⟨ov',fr',J',K',X,y6,tl,?_,a1,a2,?_⟩
       · generalize L.map ak.dv=V at *
         have g1':V[d.length]'l1=m.dv:=by rw [List.getElem?_eq_getElem l1] at g1;exact Option.some.inj g1
         rw [hb] at hbx
         subst hkf
         simp only [HI,List.append_assoc,List.cons_append,List.nil_append] at hJ ⊢
         simp only [ak.dv,ak.cs] at hbx hJ g1'
         simp at hJ
         rw [aj (L:=gL) rfl]
         simp [jM,h0,g1,g1',l1,hbx,hw1,hJ,ak.dv,ak.cs]
       · simp only [List.length_append,List.length_singleton] at a3
         simp only [bx,hb,hkf,if_true,Bool.true_eq_false,if_false]
         rw [← hkf] at a3 ⊢
         rw [← a3,hkf]
     · have hkf':¬ (d.length:Int)=fr:=by omega
       have hkf2:¬ d.length=fr:=by omega
       have hfl:fr<d.length:=by omega
       have hif:(if fr<d.length then [fJ L fr d.length] else [])=[fJ L fr d.length]:=if_pos hfl
       rw [hif] at hsh
       have fin:∀ q:It,(bx p.text L pl d.length run fr (m::r)=fJ L fr d.length::q::bx p.text L pl (d.length+1) run d.length r) →
        ∃ (ov':DV) (fr':Nat) (J':List HO) (K':List Nat) (X:List It) (y6:DV) (tl:Fr) (ov1 ov2:DV) (J1:List HO) (K1 K2:List Nat),
        (E tab).F 134 [.int .i64 d.length,.ptr (st.heap.length+6) 0,.ptr (st.heap.length+5) 0,.ptr (st.heap.length+3) 0] (pst st (HI st P0 (av p w u) ov (.list t 6 tk nn (L.map ak.dv)) fr 0 (J++[.cells .plain m.cs,.cells .plain q.cs])) K) =
         some (.bool true,pst st (HI st P0 (av p w u) ov1 (.list t 6 tk nn (L.map ak.dv)) fr 0 ((J++[.cells .plain m.cs,.cells .plain q.cs])++J1)) K1) ∧
        (E tab).V (.yield (st.heap.length+4)) [q.dv] (pst st (HI st P0 (av p w u) ov1 (.list t 6 tk nn (L.map ak.dv)) fr 0 ((J++[.cells .plain m.cs,.cells .plain q.cs])++J1)) K1) =
         some (.bool true,pst st (HI st P0 (av p w u) ov2 (.list t 6 tk nn (L.map ak.dv)) fr 0 (((J++[.cells .plain m.cs,.cells .plain q.cs])++J1)++[.cells .plain q.cs])) K2) ∧
        (E tab).C gL [(2,.ptr (st.heap.length+3) 0),(3,.ptr (st.heap.length+5) 0),(4,plV t2 tk2 pl),(5,.fn 133 [] [.ptr (st.heap.length+3) 0,.ptr (st.heap.length+2) 0]),(6,.int .i64 run),(7,.ptr (st.heap.length+6) 0),(8,.fn 134 [] [.ptr (st.heap.length+6) 0,.ptr (st.heap.length+5) 0,.ptr (st.heap.length+3) 0]),(17,.list t 6 tk nn (L.map ak.dv)),(18,.int .i64 L.length),(19,.int .i64 (d.length+1:Nat))]
         (pst st (HI st P0 (av p w u) ov2 (.list t 6 tk nn (L.map ak.dv)) d.length 0 (((J++[.cells .plain m.cs,.cells .plain q.cs])++J1)++[.cells .plain q.cs])) K2) =
        some (.exit 0,[(2,.ptr (st.heap.length+3) 0),(3,.ptr (st.heap.length+5) 0),(4,plV t2 tk2 pl),(5,.fn 133 [] [.ptr (st.heap.length+3) 0,.ptr (st.heap.length+2) 0]),(6,y6),(7,.ptr (st.heap.length+6) 0),(8,.fn 134 [] [.ptr (st.heap.length+6) 0,.ptr (st.heap.length+5) 0,.ptr (st.heap.length+3) 0])]++tl,
         pst st (HI st P0 (av p w u) ov' (.list t 6 tk nn (L.map ak.dv)) fr' 0 J') K')∧Acc st K' 8 ((xs++X).map It.dv) ov'∧(xs++X).length≤3*L.length∧bx p.text L pl d.length run fr (m::r)=X++(if fr'<L.length then [fJ L fr' L.length] else []):=by
        intro q hq
        obtain ⟨ov1,J1,K1,hS,hA1⟩:=hsh (J++[.cells .plain m.cs,.cells .plain q.cs])
        obtain ⟨ov2,K2,hY,hA2⟩:=yi (st:=st) (P0:=P0) (P1:=av p w u) (lv:=.list t 6 tk nn (L.map ak.dv)) (J:=(J++[.cells .plain m.cs,.cells .plain q.cs])++J1) (fr:=fr) q (by simp;omega) hA1
        obtain ⟨ov',fr',J',K',X,y6,tl,hJ,a1,a2,a3⟩:=ih (d++[m]) run d.length (((J++[.cells .plain m.cs,.cells .plain q.cs])++J1)++[.cells .plain q.cs]) K2 ((xs++[fJ L fr d.length])++[q]) ov2 (by simp [hd]) (by simp) (by simp;omega) (by simp;omega) hA2
        simp only [List.length_append,List.length_singleton] at hJ a3
        refine ⟨ov',fr',J',K',fJ L fr d.length::q::X,y6,tl,ov1,ov2,J1,K1,K2,hS,hY,hJ,by simpa using a1,by simpa using a2,?_⟩
        rw [hq,a3];rfl
       cases hp:pl.getD d.length false with
       | true=>
         have hq:bx p.text L pl d.length run fr (m::r)=fJ L fr d.length::u6 m::bx p.text L pl (d.length+1) run d.length r:=by
          simp only [bx,hb,hkf2,hp,if_false,if_true,Bool.true_eq_false]
         obtain ⟨ov',fr',J',K',X,y6,tl,ov1,ov2,J1,K1,K2,hS,hY,hJ,a1,a2,a3⟩:=fin (u6 m) hq
         refine ⟨ov',fr',J',K',X,y6,tl,?_,a1,a2,a3⟩
         rw [hp] at hpd
         generalize L.map ak.dv=V at *
         have g1':V[d.length]'l1=m.dv:=by rw [List.getElem?_eq_getElem l1] at g1;exact Option.some.inj g1
         simp only [plV] at hJ ⊢
         generalize pl.map DV.bool=PL at *
         have p1':PL[d.length]'lpd=.bool true:=by rw [List.getElem?_eq_getElem lpd] at hpd;exact Option.some.inj hpd
         rw [hb] at hbx
         simp only [HI,List.append_assoc,List.cons_append,List.nil_append] at hS hY hJ ⊢
         simp only [ak.dv,ak.cs,u6,It.dv,It.cs] at hbx hS hY hJ g1'
         simp at hS hY hJ
         rw [aj (L:=gL) rfl]
         simp [jM,h0,g1,g1',l1,hbx,hkf',hkf2,hpd,p1',lpd,hhy,hS,hY,dF,hw1,hJ,ak.dv,ak.cs]
       | false=>
         have hd1:=hds (J++[.cells .plain m.cs,.cells .plain [.int .i64 3,.int .i64 m.a,.int .i64 m.a,.int .i64 0,.int .i64 0,.int .i64 0,.int .i64 0,.bool false]]) (d.length-1) (by omega)
         have hd2:=hds (J++[.cells .plain m.cs,.cells .plain [.int .i64 3,.int .i64 m.a,.int .i64 m.a,.int .i64 0,.int .i64 0,.int .i64 0,.int .i64 0,.bool false]]) d.length h0
         have hcz:((d.length-1:Nat):Int)=(d.length:Int)-1:=by omega
         rw [hcz] at hd1
         rw [hgm] at hd2
         cases hdash:lB p.text (L.getD (d.length-1) mz) && !lB p.text m&&decide (run<d.length-1) with
         | true=>
           have hq:bx p.text L pl d.length run fr (m::r)=fJ L fr d.length::uc m::bx p.text L pl (d.length+1) run d.length r:=by
            simp only [bx,hb,hkf2,hp,hdash,if_false,if_true,Bool.true_eq_false,Bool.false_eq_true]
           obtain ⟨ov',fr',J',K',X,y6,tl,ov1,ov2,J1,K1,K2,hS,hY,hJ,a1,a2,a3⟩:=fin (uc m) hq
           refine ⟨ov',fr',J',K',X,y6,tl,?_,a1,a2,a3⟩
           simp only [Bool.and_eq_true,Bool.not_eq_true',decide_eq_true_eq] at hdash
           obtain ⟨⟨q1,q2⟩,q3⟩:=hdash
           have q3':(run:Int)<(d.length:Int)-1:=by omega
           rw [q1] at hd1
           rw [q2] at hd2
           rw [hp] at hpd
           generalize L.map ak.dv=V at *
           have g1':V[d.length]'l1=m.dv:=by rw [List.getElem?_eq_getElem l1] at g1;exact Option.some.inj g1
           simp only [plV] at hJ ⊢
           generalize pl.map DV.bool=PL at *
           have p1':PL[d.length]'lpd=.bool false:=by rw [List.getElem?_eq_getElem lpd] at hpd;exact Option.some.inj hpd
           rw [hb] at hbx
           simp only [HI,List.append_assoc,List.cons_append,List.nil_append] at hS hY hJ hd1 hd2 ⊢
           simp only [ak.dv,ak.cs,uc,It.dv,It.cs] at hbx hS hY hJ hd1 hd2 g1'
           simp at hS hY hJ hd1 hd2
           rw [aj (L:=gL) rfl]
           simp [jM,h0,g1,g1',l1,hbx,hkf',hkf2,hpd,p1',lpd,hwm,hd1,hd2,q3',hS,hY,dF,hw1,hJ,ak.dv,ak.cs]
         | false=>
           have hq:bx p.text L pl d.length run fr (m::r)=bx p.text L pl (d.length+1) run fr r:=by
            simp only [bx,hb,hkf2,hp,hdash,if_false,Bool.true_eq_false,Bool.false_eq_true]
           obtain ⟨ov',fr',J',K',X,y6,tl,hJ,a1,a2,a3⟩:=ih (d++[m]) run fr (J++[.cells .plain m.cs,.cells .plain [.int .i64 3,.int .i64 m.a,.int .i64 m.a,.int .i64 0,.int .i64 0,.int .i64 0,.int .i64 0,.bool false]]) K xs ov (by simp [hd]) (by simp;omega) (by simp;omega) (by simp;omega) hA
           simp only [List.length_append,List.length_singleton] at hJ a3
           refine ⟨ov',fr',J',K',X,y6,tl,?_,a1,a2,by rw [hq,a3]⟩
           rw [hp] at hpd
           generalize L.map ak.dv=V at *
           have g1':V[d.length]'l1=m.dv:=by rw [List.getElem?_eq_getElem l1] at g1;exact Option.some.inj g1
           simp only [plV] at hJ ⊢
           generalize pl.map DV.bool=PL at *
           have p1':PL[d.length]'lpd=.bool false:=by rw [List.getElem?_eq_getElem lpd] at hpd;exact Option.some.inj hpd
           rw [hb] at hbx
           simp only [HI,List.append_assoc,List.cons_append,List.nil_append] at hJ hd1 hd2 ⊢
           simp only [ak.dv,ak.cs] at hbx hJ hd1 hd2 g1'
           cases q1:lB p.text (L.getD (d.length-1) mz) with
           | false=>
             rw [q1] at hd1
             simp at hJ hd1
             rw [aj (L:=gL) rfl]
             simp [jM,h0,g1,g1',l1,hbx,hkf',hkf2,hpd,p1',lpd,hwm,hd1,dF,hw1,hJ,ak.dv,ak.cs]
           | true=>
             rw [q1] at hd1 hdash
             cases q2:lB p.text m with
             | true=>
               rw [q2] at hd2
               simp at hJ hd1 hd2
               rw [aj (L:=gL) rfl]
               simp [jM,h0,g1,g1',l1,hbx,hkf',hkf2,hpd,p1',lpd,hwm,hd1,hd2,dF,hw1,hJ,ak.dv,ak.cs]
             | false=>
               rw [q2] at hd2 hdash
               have q3:¬ run<d.length-1:=by simpa using hdash
               have q3':¬ (run:Int)<(d.length:Int)-1:=by omega
               simp at hJ hd1 hd2
               rw [aj (L:=gL) rfl]
               simp [jM,h0,g1,g1',l1,hbx,hkf',hkf2,hpd,p1',lpd,hwm,hd1,hd2,q3',dF,hw1,hJ,ak.dv,ak.cs]
end
def fj (L:List ak) (z:Int):Nat→Nat→Nat
 | 0,b=>b
 | f+1,b=>match L[b]? with | some m=>if m.k=1∧m.s=z then fj L z f (b+1) else b | none=>b
def byL (s:List UInt8) (l:List ak):List UInt8:=l.map fun m=>bAt s m.a.toNat
def mS (pl:List Bool) (a:Nat) (pts:List Nat):List Bool:=pts.foldl (fun o k=>o.set (a+k) true) pl
def m8 (w:List UInt8):List Nat:=if lE w=true then points fi ir (w.map dJ) else []
def dI (s:List UInt8) (L:List ak):Nat→Nat→List Bool→List Bool
 | 0,_,pl=>pl
 | f+1,a,pl=>match L[a]? with
   | none=>pl
   | some m=>if m.k=1 then dI s L f (fj L m.s L.length a) (mS pl a (m8 (byL s ((L.drop a).take (fj L m.s L.length a-a))))) else dI s L f (a+1) pl
def jy (s:List UInt8) (L:List ak) (hy:Int):List Bool:=if hy=0 then List.replicate (L.length+1) false else dI s L (L.length+1) 0 (List.replicate (L.length+1) false)
theorem qk:∀ (pts:List Nat) (pl:List Bool) (a:Nat),(mS pl a pts).length=pl.length
 | [],_,_=>rfl
 | k::r,pl,a=>by unfold mS;rw [List.foldl_cons];have:=qk r (pl.set (a+k) true) a;unfold mS at this;rw [this];simp
theorem lI (s:List UInt8) (L:List ak):∀ (f a:Nat) (pl:List Bool),(dI s L f a pl).length=pl.length
 | 0,_,_=>rfl
 | f+1,a,pl=>by
   simp only [dI]
   split
   · rfl
   · split
     · rw [lI s L f,qk]
     · rw [lI s L f]
theorem wM (s:List UInt8) (L:List ak) (hy:Int):(jy s L hy).length=L.length+1:=by
 unfold jy;split
 · simp
 · rw [lI];simp
theorem uI (L:List ak) (z:Int):∀ f b,b≤L.length→b≤fj L z f b∧fj L z f b≤L.length
 | 0,b,h=>⟨Nat.le_refl _,h⟩
 | f+1,b,h=>by
   simp only [fj]
   split
   · rename_i m hm
     have:=(List.getElem?_eq_some_iff.1 hm).1
     split
     · have:=uI L z f (b+1) (by omega);omega
     · exact ⟨Nat.le_refl _,h⟩
   · exact ⟨Nat.le_refl _,h⟩
theorem MM {L:List ak} {a:Nat} {m:ak} (h:L[a]? = some m) (hk:m.k=1):a<fj L m.s L.length a:=by
 have hl:=(List.getElem?_eq_some_iff.1 h).1
 obtain ⟨f,hf⟩:∃ f,L.length=f+1:=⟨L.length-1,by omega⟩
 rw [hf]
 simp only [fj,h,hk,true_and,if_true]
 have:=(uI L m.s f (a+1) (by omega)).1
 omega
theorem Vu:∀ (s:List UInt8) (k:Nat),∀ x∈plc k s,x≤k+(aS s).length:=by
 intro s
 have h:∀ r:List UInt8,∀ k,∀ x∈plc k r.reverse,x≤k+(aS r.reverse).length:=by
  intro r
  induction r with
  | nil=>intro k x hx;simp [plc] at hx
  | cons c r ih=>
    intro k x hx
    rw [List.reverse_cons] at hx ⊢
    by_cases hc:c.toNat=45
    · rw [mI _ _ _ hc] at hx
      rw [sG _ _ hc]
      rcases List.mem_append.1 hx with hx | hx
      · exact ih k x hx
      · simp at hx;omega
    · rw [pb _ _ _ hc] at hx
      rw [vG _ _ hc]
      have:=ih k x hx
      simp;omega
 intro k x hx
 have:=h s.reverse k x (by simpa using hx)
 simpa using this
theorem Bx (ps es:List (List UInt8)) (w:List UInt8):∀ k∈points ps es w,k≤w.length:=by
 intro k hk
 unfold points at hk
 split at hk
 · rename_i s hs
   have h1:=List.find?_some hs
   simp only [beq_iff_eq] at h1
   have:=Vu s 0 k hk
   rw [h1] at this;omega
 · unfold BC at hk
   have:=List.mem_range'_1.1 (List.mem_filter.1 hk).1
   omega
theorem Ic (w:List UInt8):∀ k∈m8 w,k≤w.length:=by
 intro k hk
 unfold m8 at hk
 split at hk
 · have:=Bx _ _ _ k hk;simpa using this
 · cases hk
theorem Ea (w:List UInt8):(m8 w).length≤200000:=by
 unfold m8
 split
 · rename_i hok
   have:=A6 fi ir (w.map dJ) kV
   simp only [lE,Bool.and_eq_true,decide_eq_true_eq] at hok
   simp only [List.length_map] at this
   omega
 · simp
section
variable {st:St}
theorem aeu {G:List HO} {K:List Nat} {kO a b n:Nat} {y2 y6:DV} {lv v:DV} {pts:List Nat} (hp:Lw 1 (pts.map i6) v) (hpl:pts.length≤1000000) (hn:n≤100000) (ha:a≤100000) (hb:∀ k∈pts,a+k<n):∀ (r d:List Nat) (pl:List Bool) (G:List HO),pts=d++r→pl.length=n→rowAt G kO=some (.plain,pl.map DV.bool) →
 ∃ tl,(E tab).C tK [(1,lv),(2,y2),(5,.hsl 1 false (st.heap.length+kO) 0 n (some n)),(6,y6),(7,.int .i64 a),(8,.int .i64 b),(82,v),(83,.int .i64 pts.length),(84,.int .i64 d.length)] (pst st G K) =
   some (.exit 4,[(1,lv),(2,y2),(5,.hsl 1 false (st.heap.length+kO) 0 n (some n)),(6,y6),(7,.int .i64 a),(8,.int .i64 b)]++tl,pst st (G.set kO (.cells .plain ((mS pl a r).map DV.bool))) K):=by
 intro r
 induction r with
 | nil=>
   intro d pl G hd hl hr
   obtain rfl:pts=d:=by simpa using hd
   have hset:G.set kO (.cells .plain ((mS pl a []).map DV.bool))=G:=by
    have hk:=aZ hr
    apply List.ext_getElem?
    intro j
    by_cases hj:j=kO
    · subst hj;rw [List.getElem?_set_self hk,aJ.1 hr];rfl
    · rw [List.getElem?_set_ne (fun e=>hj e.symm)]
   rw [hset]
   refine ⟨[(82,v),(83,.int .i64 pts.length),(84,.int .i64 pts.length),(85,.bool false)],?_⟩
   rw [aj (L:=tK) rfl]
   simp [yP]
 | cons x r ih=>
   intro d pl G hd hl hr
   have hk:=aZ hr
   have h0:d.length<pts.length:=by simp [hd]
   have hw1:IntKind.i64.wrap ((d.length:Int)+1)=(d.length:Int)+1:=by rw [aD (by omega)]
   have hax:=hb x (by simp [hd])
   have hwa:IntKind.i64.wrap ((a:Int)+x)=((a+x:Nat):Int):=by rw [aD (by omega)];simp
   have v0:Vw (pst st G K) 1 false (pts.map i6) v:=hp.vw
   have e1:=fun st'=>v0.aE (i:=d.length) (by simpa using h0) .i64 st'
   have e2:=v0.Da Om (i:=d.length) (x:=.int .i64 x) (by simp [hd,i6])
   have hlt:a+x<(pl.map DV.bool).length:=by simp;omega
   have hsp:=eu (x:=.bool true) hlt
   have hset:(pl.map DV.bool).set (a+x) (.bool true)=(pl.set (a+x) true).map DV.bool:=by rw [List.map_set]
   rw [hset] at hsp
   have hle:a+x+1≤(pl.map DV.bool).length:=by omega
   obtain ⟨tl,hJ⟩:=ih (d++[x]) (pl.set (a+x) true) (G.set kO (.cells .plain ((pl.set (a+x) true).map DV.bool))) (by simp [hd]) (by simpa using hl) (cP hk _ _)
   refine ⟨tl,?_⟩
   rw [List.set_set] at hJ
   have e3:mS pl a (x::r)=mS (pl.set (a+x) true) a r:=rfl
   rw [e3]
   generalize (mS (pl.set (a+x) true) a r).map DV.bool=W at *
   generalize (pl.set (a+x) true).map DV.bool=W1 at *
   generalize pl.map DV.bool=PM at *
   generalize a+x=ax at *
   simp only [bl] at hsp
   simp at hJ hsp
   have hax2:(ax:Int)<n:=by omega
   rw [aj (L:=tK) rfl]
   simp [yP,h0,e1,e2,hwa,hax,hax2,hr,hle,hsp,hw1,hJ]
theorem BM {L:List ak} {a b:Nat} {m:ak} (h:L[b]? = some m) (hab:a≤b):(L.drop a).take (b+1-a)=(L.drop a).take (b-a)++[m]:=by
 have e:b+1-a=(b-a)+1:=by omega
 rw [e,List.take_add_one,List.getElem?_drop,show a+(b-a)=b by omega,h];rfl
theorem XG {L:List ak} {p:bq} {w u:LW} (hL:MOk p.text L) {t n:Nat} {tk:Tk} {nn:Bool} (h6:L≠[]→n=6) {H:List HO} (hr:rowAt H 0=some (.plain,av p w u)) {y5 y6:DV} {a:Nat} {ma:ak} (hma:L[a]? = some ma):∀ (f b:Nat) (K:List Nat) (v:DV),L.length≤b+f→a≤b→b≤L.length→Acc st K 1 ((byL p.text ((L.drop a).take (b-a))).map u8) v →
 ∃ (K':List Nat) (v':DV) (tl:Fr),(E tab).C lW [(1,.list t n tk nn (L.map ak.dv)),(2,.ptr st.heap.length 0),(5,y5),(6,y6),(7,.int .i64 a),(8,.int .i64 b),(9,v)] (pst st H K) =
   some (.exit 2,[(1,.list t n tk nn (L.map ak.dv)),(2,.ptr st.heap.length 0),(5,y5),(6,y6),(7,.int .i64 a),(8,.int .i64 (fj L ma.s f b:Nat)),(9,v')]++tl,pst st H K')∧Acc st K' 1 ((byL p.text ((L.drop a).take (fj L ma.s f b-a))).map u8) v':=by
 have hlen:=hL.len
 have hal:=(List.getElem?_eq_some_iff.1 hma).1
 have hV0:(L.map ak.dv).length=L.length:=by simp
 obtain rfl:=h6 (by intro e;simp [e] at hal)
 have ga:(L.map ak.dv)[a]? = some ma.dv:=by rw [List.getElem?_map,hma];rfl
 have la:a<(L.map ak.dv).length:=by simpa using hal
 have ga':(L.map ak.dv)[a]'la=ma.dv:=by rw [List.getElem?_eq_getElem la] at ga;exact Option.some.inj ga
 intro f
 induction f with
 | zero=>
   intro b K v h1 h2 h3 hA
   obtain rfl:b=L.length:=by omega
   refine ⟨K,v,[(61,.bool false)],?_,hA⟩
   generalize L.map ak.dv=V at *
   rw [aj (L:=lW) rfl]
   simp [nZ,fj,hV0]
 | succ f ih=>
   intro b K v h1 h2 h3 hA
   have hw1:IntKind.i64.wrap ((b:Int)+1)=(b:Int)+1:=by rw [aD (by omega)]
   by_cases hb:b<L.length
   · obtain ⟨m,hm⟩:∃ m,L[b]? = some m:=⟨L[b],List.getElem?_eq_getElem hb⟩
     have gb:(L.map ak.dv)[b]? = some m.dv:=by rw [List.getElem?_map,hm];rfl
     have lb:b<(L.map ak.dv).length:=by simpa using hb
     have gb':(L.map ak.dv)[b]'lb=m.dv:=by rw [List.getElem?_eq_getElem lb] at gb;exact Option.some.inj gb
     have hat:=hL.at_ m (List.mem_of_getElem? hm)
     have hbt:p.text[m.a.toNat]? = some (bAt p.text m.a.toNat):=z2 (by omega)
     have hlt:m.a.toNat<p.text.length:=by omega
     have hge:p.text[m.a.toNat]'hlt=bAt p.text m.a.toNat:=by rw [List.getElem?_eq_getElem hlt] at hbt;exact Option.some.inj hbt
     by_cases hk:m.k=1
     · by_cases hz:m.s=ma.s
       · have e:fj L ma.s (f+1) b=fj L ma.s f (b+1):=by simp only [fj,hm,hk,hz,and_self,if_true]
         rw [e]
         have hts:=BM hm h2
         have hbl:(byL p.text ((L.drop a).take (b-a))).length≤4096:=by simp [byL];omega
         obtain ⟨v1,K1,hap,hA1⟩:=fy (st:=st) (H:=H) (by_:=1) (ag:=false) (ys:=[u8 (bAt p.text m.a.toNat)]) (t:=st.cur) (tk:=.tight) hA (by omega) (by simp) (by intro y hy;simp only [List.mem_singleton] at hy;subst hy;exact ⟨rfl,rfl,rfl⟩) (by simp [aA];omega) (by simp [aA];omega)
         obtain ⟨K',v',tl,hJ,hA2⟩:=ih (b+1) K1 v1 (by omega) (by omega) (by omega) (by rw [hts];simpa [byL] using hA1)
         refine ⟨K',v',tl,?_,hA2⟩
         simp only [u8] at hap
         generalize fj L ma.s f (b+1)=eb at *
         generalize L.map ak.dv=V at *
         simp at hJ
         rw [aj (L:=lW) rfl]
         simp [nZ,hV0,hb,ga,ga',la,gb,gb',lb,ak.dv,ak.cs,hk,hz,hr,hat.1,hlt,hbt,hge,a0,bk,chunk,hap,hw1,hJ]
       · have e:fj L ma.s (f+1) b=b:=by simp only [fj,hm,hz,and_false,if_false]
         rw [e]
         refine ⟨K,v,[(61,.bool false)],?_,hA⟩
         generalize L.map ak.dv=V at *
         rw [aj (L:=lW) rfl]
         simp [nZ,hV0,hb,ga,ga',la,gb,gb',lb,ak.dv,ak.cs,hk,hz]
     · have e:fj L ma.s (f+1) b=b:=by simp only [fj,hm,hk,false_and,if_false]
       rw [e]
       refine ⟨K,v,[(61,.bool false)],?_,hA⟩
       generalize L.map ak.dv=V at *
       rw [aj (L:=lW) rfl]
       simp [nZ,hV0,hb,gb,gb',lb,ak.dv,ak.cs,hk]
   · have hbn:L[b]? = none:=List.getElem?_eq_none (by omega)
     have e:fj L ma.s (f+1) b=b:=by simp only [fj,hbn]
     rw [e]
     refine ⟨K,v,[(61,.bool false)],?_,hA⟩
     have hb':¬ (b:Int)<L.length:=by omega
     generalize L.map ak.dv=V at *
     rw [aj (L:=lW) rfl]
     simp [nZ,hV0,hb,hb']
theorem SV {L:List ak} {p:bq} {w u:LW} (hL:MOk p.text L) {t n:Nat} {tk:Tk} {nn:Bool} (h6:L≠[]→n=6):∀ (f a:Nat) (pl:List Bool) (G:List HO) (K:List Nat),L.length<a+f→a≤L.length→pl.length=L.length+1→rowAt G 0=some (.plain,av p w u)→rowAt G 1=some (.plain,pl.map DV.bool)→rb st G 2 fi ir →
 ∃ (G':List HO) (K':List Nat) (tl:Fr),(E tab).C pq [(1,.list t n tk nn (L.map ak.dv)),(2,.ptr st.heap.length 0),(5,.hsl 1 false (st.heap.length+1) 0 (L.length+1) (some (L.length+1))),(6,.ptr (st.heap.length+4) 0),(7,.int .i64 a)] (pst st G K) =
   some (.exit 0,[(1,.list t n tk nn (L.map ak.dv)),(2,.ptr st.heap.length 0),(5,.hsl 1 false (st.heap.length+1) 0 (L.length+1) (some (L.length+1)))]++tl,pst st G' K')∧rowAt G' 1=some (.plain,(dI p.text L f a pl).map DV.bool):=by
 have hlen:=hL.len
 have hV0:(L.map ak.dv).length=L.length:=by simp
 intro f
 induction f with
 | zero=>intro a pl G K h1 h2;omega
 | succ f ih=>
   intro a pl G K h1 h2 h3 hr0 hr1 hH
   have hw1:IntKind.i64.wrap ((a:Int)+1)=(a:Int)+1:=by rw [aD (by omega)]
   by_cases ha:a<L.length
   · obtain ⟨m,hm⟩:∃ m,L[a]? = some m:=⟨L[a],List.getElem?_eq_getElem ha⟩
     obtain rfl:=h6 (by intro e;simp [e] at ha)
     have gb:(L.map ak.dv)[a]? = some m.dv:=by rw [List.getElem?_map,hm];rfl
     have lb:a<(L.map ak.dv).length:=by simpa using ha
     have gb':(L.map ak.dv)[a]'lb=m.dv:=by rw [List.getElem?_eq_getElem lb] at gb;exact Option.some.inj gb
     by_cases hk:m.k=1
     · have hgt:=MM hm hk
       have hle:=(uI L m.s L.length a (by omega)).2
       have e:dI p.text L (f+1) a pl=dI p.text L f (fj L m.s L.length a) (mS pl a (m8 (byL p.text ((L.drop a).take (fj L m.s L.length a-a))))):=by simp only [dI,hm,hk,if_true]
       rw [e]
       obtain ⟨K1,v1,tl1,hI,hA1⟩:=XG (K:=K) hL (fun _=>rfl) hr0 (y5:=.hsl 1 false (st.heap.length+1) 0 (L.length+1) (some (L.length+1))) (y6:=.ptr (st.heap.length+4) 0) (t:=t) (tk:=tk) (nn:=nn) (st:=st) hm L.length a (.list 0 0 .no false []) (by omega) (Nat.le_refl _) (by omega) (by rw [Nat.sub_self];simpa [byL] using dW st K 1 0 0 .no)
       have hwl:(byL p.text ((L.drop a).take (fj L m.s L.length a-a))).length=fj L m.s L.length a-a:=by simp [byL];omega
       generalize hW:byL p.text ((L.drop a).take (fj L m.s L.length a-a))=W at *
       generalize fj L m.s L.length a=b at *
       obtain ⟨q1,q2⟩:=tf hA1 (pst st G K1)
       obtain ⟨v2,X2,K2,hP,hl2⟩:=B5 (K:=K1) hH kV W
       have hpts:(if lE W=true then points fi ir (W.map dJ) else [])=m8 W:=rfl
       rw [hpts] at hl2
       have hpl:=Ce (ps:=fi) kV W
       rw [hpts] at hpl
       have hple:=Ic W
       have hplen:(m8 W).length≤1000000:=by
        have:=Ea W;omega
       have hr1':rowAt (G++X2) 1=some (.plain,pl.map DV.bool):=b5 hr1 _
       obtain ⟨tl2,hI2⟩:=aeu (st:=st) (G:=G) (K:=K2) (kO:=1) (a:=a) (b:=b) (n:=L.length+1) (y2:=.ptr st.heap.length 0) (y6:=.ptr (st.heap.length+4) 0) (lv:=.list t 6 tk nn (L.map ak.dv)) hl2 hplen (by omega) (by omega) (fun k hk=>by have:=hple k hk;omega) (m8 W) [] pl (G++X2) rfl h3 hr1'
       obtain ⟨G',K',tl,hJ,hG'⟩:=ih b (mS pl a (m8 W)) ((G++X2).set 1 (.cells .plain ((mS pl a (m8 W)).map DV.bool))) K2 (by omega) hle (by rw [qk];exact h3) (by
        rw [aJ,List.getElem?_set_ne (by omega)];exact aJ.1 (b5 hr0 _)) (cP (aZ hr1') _ _) (by
        refine (hH.same (G':=(G++X2).set 1 (.cells .plain ((mS pl a (m8 W)).map DV.bool))) fun j hj hjl => ?_)
        rw [List.getElem?_set_ne (by omega),List.getElem?_append_left hjl])
       refine ⟨G',K',tl,?_,hG'⟩
       obtain ⟨vt,vn,vtk,vnn,rfl⟩:=dS hA1
       have e2:=(hl2.vw (st:=st) (ag:=false)).len
       simp only [List.length_map] at e2
       have hbb:=kF W
       generalize (mS pl a (m8 W)).map DV.bool=SP at *
       generalize (m8 W).length=pw at *
       generalize W.map u8=WU at *
       generalize L.map ak.dv=V at *
       generalize G++X2=G2 at *
       simp at hI hI2 hJ
       rw [aj (L:=pq) rfl]
       simp [tU,hV0,ha,gb,gb',lb,ak.dv,ak.cs,hk,hI,pX,q1,hbb,hP,e2,hI2,hJ]
     · have e:dI p.text L (f+1) a pl=dI p.text L f (a+1) pl:=by simp only [dI,hm,hk,if_false]
       rw [e]
       obtain ⟨G',K',tl,hJ,hG'⟩:=ih (a+1) pl G K (by omega) (by omega) h3 hr0 hr1 hH
       refine ⟨G',K',tl,?_,hG'⟩
       generalize L.map ak.dv=V at *
       simp at hJ
       rw [aj (L:=pq) rfl]
       simp [tU,hV0,ha,gb,gb',lb,ak.dv,ak.cs,hk,hw1,hJ]
   · have hbn:L[a]? = none:=List.getElem?_eq_none (by omega)
     have e:dI p.text L (f+1) a pl=pl:=by simp only [dI,hbn]
     rw [e]
     refine ⟨G,K,[(6,.ptr (st.heap.length+4) 0),(7,.int .i64 a),(27,.bool false)],?_,hr1⟩
     have ha':¬ (a:Int)<L.length:=by omega
     generalize L.map ak.dv=V at *
     rw [aj (L:=pq) rfl]
     simp [tU,hV0,ha,ha']
theorem CJ {L:List ak} {p:bq} {w u:LW} (hL:MOk p.text L) {t n:Nat} {tk:Tk} {nn:Bool} (h6:L≠[]→n=6) :
 ∃ t',(E tab).F 132 [.agg (av p w u),.list t n tk nn (L.map ak.dv)] st=some (.list t' 1 .tight true ((jy p.text L p.pr.cb).map DV.bool),st):=by
 have hlen:=hL.len
 have hV0:(L.map ak.dv).length=L.length:=by simp
 have hel:∀ (b:List Bool),∀ y∈b.map DV.bool,cX 1 false y:=by intro b y hy;obtain ⟨c,_,rfl⟩:=List.mem_map.1 hy;exact ⟨rfl,rfl,rfl⟩
 have hw1:IntKind.i64.wrap ((L.length:Int)+1)=(L.length:Int)+1:=by rw [aD (by omega)]
 have hroom:((L.length:Int)+1)≤140737488355328:=by omega
 have hroom2:L.length+1≤140737488355328:=by omega
 have hpos:(0:Int)≤(L.length:Int)+1:=by omega
 have htn:((L.length:Int)+1).toNat=L.length+1:=by omega
 have hrep:bk [DV.bool false] (L.length+1)=(List.replicate (L.length+1) false).map DV.bool:=by rw [mR,List.map_replicate]
 have ph:(av p w u)[14]? = some (.int .i64 p.pr.cb):=rfl
 have hpl:=wM p.text L p.pr.cb
 have hex:∀ (G:List HO) (K:List Nat),rowAt G 1=some (.plain,(jy p.text L p.pr.cb).map DV.bool)→a9 st (pst st G K) (.hsl 1 false (st.heap.length+1) 0 (L.length+1) (some (L.length+1)))=some (.list st.cur 1 .tight true ((jy p.text L p.pr.cb).map DV.bool)):=by
  intro G K h
  have hfl:=gq _ (hel (jy p.text L p.pr.cb))
  have:=tJ (st:=st) (H:=G) (K:=K) (k:=1) (n:=1) (ag:=false) (g:=.plain) (ys:=(jy p.text L p.pr.cb).map DV.bool) (cap:=some (L.length+1)) (by rw [hfl];exact h) (by omega) (.inr rfl) (hel _)
  rw [List.length_map,hpl,if_pos rfl] at this
  exact this
 refine ⟨st.cur,?_⟩
 rw [aT asD rfl]
 by_cases hy:p.pr.cb=0
 · have e:jy p.text L p.pr.cb=List.replicate (L.length+1) false:=by simp only [jy,hy,if_true]
   have hx:=hex [.cells .plain (av p w u),.cells .plain ((List.replicate (L.length+1) false).map DV.bool)] [] (by rw [e];rfl)
   rw [e] at hx ⊢
   rw [hy] at ph
   generalize (List.replicate (L.length+1) false).map DV.bool=Z at *
   generalize L.map ak.dv=V at *
   simp [f132,hV0,hw1,aA,hroom,hroom2,hpos,htn,hrep,ph,hx]
 · obtain ⟨X,hP,hH⟩:=CN (st:=st) [.cells .plain (av p w u),.cells .plain ((List.replicate (L.length+1) false).map DV.bool)] []
   obtain ⟨G',K',tl,hL2,hG'⟩:=SV (st:=st) (w:=w) (u:=u) hL (t:=t) (tk:=tk) (nn:=nn) h6 (L.length+1) 0 (List.replicate (L.length+1) false) ([.cells .plain (av p w u),.cells .plain ((List.replicate (L.length+1) false).map DV.bool)]++X) [] (by omega) (by omega) (by simp) rfl rfl hH
   have e:jy p.text L p.pr.cb=dI p.text L (L.length+1) 0 (List.replicate (L.length+1) false):=by simp only [jy,hy,if_false]
   have hx:=hex G' K' (by rw [e];exact hG')
   rw [e] at hx ⊢
   generalize (dI p.text L (L.length+1) 0 (List.replicate (L.length+1) false)).map DV.bool=Y at *
   generalize (List.replicate (L.length+1) false).map DV.bool=Z at *
   generalize L.map ak.dv=V at *
   simp at hP hL2
   simp [f132,hV0,hw1,aA,hroom,hroom2,hpos,htn,hrep,ph,hy,hP,hL2,hx]
end
def eX (p:bq):Bool:=decide (2≤p.pr.drop)&&(decide (0<(aH p).length)&&((aH p).getD 0 mz).k==1)
def cg (p:bq):List ak:=if eX p=true then (aH p).drop 1 else aH p
def bU (p:bq):List It:=bx p.text (cg p) (jy p.text (cg p) p.pr.cb) 0 0 0 (cg p)
theorem lQ (p:bq):∀ (l:List Clu) (kr:Bool) (bf:UInt8) (ps:Int) (mk:List (List UInt8)),∀ m∈dq p kr bf ps mk l,∃ c∈l,m.a=c.a∧m.s=sizeOf p c.a
 | [],_,_,_,_,m,h=>by cases h
 | c::r,kr,bf,ps,mk,m,h=>by
   simp only [dq] at h
   rcases List.mem_cons.1 h with rfl | h
   · exact ⟨c,by simp,rfl,rfl⟩
   · obtain ⟨c',h1,h2⟩:=lQ p r _ _ _ _ m h
     exact ⟨c',by simp [h1],h2⟩
theorem kY (p:bq):MOk p.text (aH p):=by
 refine ⟨Bu p,EG p,?_,?_⟩
 · intro m hm
   unfold aH at hm
   split at hm
   · obtain ⟨c,hc,h1,_⟩:=lQ p _ _ _ _ _ m hm
     have:=wS (l6 p.text p.text.length 0).1 c hc
     rw [h1];omega
   · cases hm
 · intro m hm
   unfold aH at hm
   split at hm
   · rename_i h0
     obtain ⟨_,_,hsp,hpr,_⟩:=di h0
     obtain ⟨c,hc,_,h2⟩:=lQ p _ _ _ _ _ m hm
     have hS:oZ p.aV:=by
      unfold dX at hsp
      cases e:eW p.text.length p.aV with
      | none=>rw [e] at hsp;simp at hsp
      | some k=>exact (kW _ _ _ e).1
     have:=ny p hpr hS c.a
     rw [h2];exact ⟨this.1,this.2.1⟩
   · cases hm
theorem MOk.drop {s:List UInt8} {L:List ak} (h:MOk s L) (n:Nat):MOk s (L.drop n):=
 ⟨by rw [List.length_drop];have:=h.len;omega,List.all_eq_true.2 fun m hm=>List.all_eq_true.1 h.ok m (List.mem_of_mem_drop hm),fun m hm=>h.at_ m (List.mem_of_mem_drop hm),fun m hm=>h.sz m (List.mem_of_mem_drop hm)⟩
theorem Ct (p:bq):MOk p.text (cg p):=by
 unfold cg;split
 · exact (kY p).drop 1
 · exact kY p
def tD (tk:Tk):Tk:=match tk with | .own _ _=>.no | k=>k
theorem exl (st st':St) (tag n:Nat) (tk:Tk) (nn:Bool) (xs:List DV):a9 st st' (.list tag n tk nn xs)=some (.list tag n (tD tk) nn xs):=by cases tk<;>rfl
@[simp] theorem LO (l:Nat):(DV.yield l).leaves=[.yield l]:=rfl
section
variable {st:St} {p:bq} {w u:LW}
theorem DK:(av p w u)[16]? = some (.int .i64 p.pr.drop):=rfl
theorem Hp (hp:p.small) (hw:w.ok 4 p.aV) (hu:u.ok 1 p.marks):∃ v:LW,(E tab).F 117 [.agg (av p w u)] st=some (.tuple [.list v.t v.n v.tk v.nn ((if aI p=0 then cg p else []).map ak.dv),.int .i64 (aI p)],st)∧v.ok 6 (if aI p=0 then cg p else []):=by
 rw [aT aqn rfl]
 obtain ⟨_,hm,v,rfl,hv⟩:=wP p hp w u hw hu (pst st [.cells .plain (av p w u)] [])
 have hpd:=DK (p:=p) (w:=w) (u:=u)
 by_cases h0:aI p=0
 · have hV0:((aH p).map ak.dv).length=(aH p).length:=by simp
   rw [if_pos h0]
   unfold cg eX
   by_cases h1:2≤p.pr.drop
   · by_cases h2:0<(aH p).length
     · have h2':(0:Int)<(aH p).length:=by omega
       have hvn:=hv.n (by intro e;rw [e] at h2;simp at h2)
       have g0:=r8 (L:=aH p) h2
       have l0:0<((aH p).map ak.dv).length:=by simpa using h2
       by_cases h3:((aH p).getD 0 mz).k=1
       · rw [if_pos (by simp only [h1,h2,h3,decide_true,Bool.true_and,beq_self_eq_true])]
         have hs:=o9 (n:=6) (en:=v.n) (t:=v.t) (tk:=v.tk) (nn:=v.nn) (xs:=(aH p).map ak.dv) (k:=.i64) (lo:=1) (fun _=>hvn) (by omega) (by simp;omega)
         refine ⟨⟨v.t,v.n,tD (rG v.tk ((aH p).map ak.dv).length 1 ((aH p).map ak.dv).length),v.nn⟩,?_,fun e=>hvn,fun e=>by have:=hv.2 e;simp [this]⟩
         have hdr:((aH p).map ak.dv).drop (1:Int).toNat=((aH p).drop 1).map ak.dv:=by rw [List.map_drop];rfl
         rw [hdr] at hs
         generalize ((aH p).drop 1).map ak.dv=D at *
         generalize (aH p).getD 0 mz=m at *
         generalize (aH p).map ak.dv=V at *
         have g0':V[0]'l0=m.dv:=by rw [List.getElem?_eq_getElem l0] at g0;exact Option.some.inj g0
         rw [hvn] at hm hs ⊢
         have hVl:V.length=(aH p).length:=hV0
         rw [hVl] at hs ⊢
         simp only [show (1:Int).toNat=1 from rfl] at hs
         simp [-gm,exl,f117,hm,h0,hpd,h1,hV0,h2,h2',g0,g0',l0,ak.dv,ak.cs,h3,hs]
       · have h3b:(((aH p).getD 0 mz).k==1)=false:=by rw [beq_eq_false_iff_ne];exact h3
         rw [if_neg (by rw [h3b];simp)]
         refine ⟨⟨v.t,v.n,tD v.tk,v.nn⟩,?_,hv⟩
         generalize (aH p).getD 0 mz=m at *
         generalize (aH p).map ak.dv=V at *
         have g0':V[0]'l0=m.dv:=by rw [List.getElem?_eq_getElem l0] at g0;exact Option.some.inj g0
         rw [hvn] at hm
         simp [-gm,exl,f117,hm,h0,hpd,h1,hV0,h2,h2',g0,g0',l0,ak.dv,ak.cs,h3,hvn]
     · have h2':¬ (0:Int)<(aH p).length:=by omega
       rw [if_neg (by simp [h2])]
       refine ⟨⟨v.t,v.n,tD v.tk,v.nn⟩,?_,hv⟩
       generalize (aH p).map ak.dv=V at *
       simp [-gm,exl,f117,hm,h0,hpd,h1,hV0,h2,h2']
   · rw [if_neg (by simp [h1])]
     refine ⟨⟨v.t,v.n,tD v.tk,v.nn⟩,?_,hv⟩
     generalize (aH p).map ak.dv=V at *
     simp [-gm,exl,f117,hm,h0,hpd,h1]
 · have hm0:aH p=[]:=by unfold aH;rw [if_neg h0]
   rw [hm0] at hm hv
   rw [if_neg h0]
   refine ⟨⟨v.t,v.n,tD v.tk,v.nn⟩,?_,hv⟩
   simp at hm
   simp [-gm,exl,f117,hm,h0]
theorem F7 {L:List ak} (hL:MOk p.text L) {t n:Nat} {tk:Tk} {nn:Bool} (h6:L≠[]→n=6) (h7:nn=true→n=6) (P0:List DV):∃ (ov:DV) (fr:Nat) (J:List HO) (K:List Nat),
 (E tab).F 131 [.yield (st.heap.length+4),.ptr (st.heap.length+2) 0,.ptr (st.heap.length+3) 0] (pst st [.cells .plain P0,.cells .plain [.list 0 0 .no false []],.cells .plain (av p w u),.cells .plain [.list t n tk nn (L.map ak.dv)],loI st 0] []) =
  some (.tuple [],pst st (HI st P0 (av p w u) ov (.list t n tk nn (L.map ak.dv)) fr 0 J) K)∧Acc st K 8 ((bx p.text L (jy p.text L p.pr.cb) 0 0 0 L).map It.dv) ov:=by
 obtain ⟨t2,hwd⟩:=CJ (st:=pst st [.cells .plain P0,.cells .plain [.list 0 0 .no false []],.cells .plain (av p w u),.cells .plain [.list t n tk nn (L.map ak.dv)],loI st 0,.cells .plain [.yield (st.heap.length+4)]] []) (w:=w) (u:=u) hL (t:=t) (n:=n) (tk:=tk) (nn:=nn) h6
 obtain ⟨ov',fr',J',K',X,y6,tl,hJ,a1,a2,a3⟩:=aj4 (st:=st) (P0:=P0) (w:=w) (u:=u) hL (t:=t) (n:=n) (tk:=tk) (nn:=nn) h6 h7 (wM p.text L p.pr.cb) (t2:=t2) (tk2:=.tight) L [] 0 0 [] [] [] (.list 0 0 .no false []) rfl (Nat.le_refl _) (Nat.le_refl _) (by simp) (dW _ _ _ _ _ _)
 simp only [List.nil_append] at a1 a2
 obtain ⟨ov2,J2,K2,hS,hA2⟩:=AJ (st:=st) (P0:=P0) (P1:=av p w u) (J:=J') (t:=t) (n:=n) (tk:=tk) (nn:=nn) (fr:=fr') hL h6 h7 (k:=L.length) (Nat.le_refl _) (by have:=hL.len;omega) a1
 refine ⟨ov2,fr',J'++J2,K2,?_,by rw [List.length_nil] at a3;rw [a3];exact hA2⟩
 rw [eC OA rfl]
 have hV0:(L.map ak.dv).length=L.length:=by simp
 simp only [plV] at hJ
 generalize (jy p.text L p.pr.cb).map DV.bool=PL at *
 generalize L.map ak.dv=V at *
 simp only [HI] at hS hJ ⊢
 simp at hS hJ
 have hpa:takeN (av p w u) 0 21 true=some (.agg (av p w u)):=rfl
 simp [f131,hwd,hV0,hJ,dF,hS]
theorem DQ (hp:p.small) (hw:w.ok 4 p.aV) (hu:u.ok 1 p.marks):∃ v,(E tab).F 106 [.agg (av p w u)] st=some (.tuple [v,.int .i64 (aI p)],st)∧Lw 8 ((if aI p=0 then bU p else []).map It.dv) v:=by
 rw [aT anQ rfl]
 obtain ⟨v,hb,hv⟩:=Hp (st:=pst st [.cells .plain (av p w u)] []) hp hw hu
 by_cases h0:aI p=0
 · rw [if_pos h0] at hb hv ⊢
   obtain ⟨ov,fr,J,K,hwk,hA⟩:=F7 (st:=st) (p:=p) (w:=w) (u:=u) (Ct p) (t:=v.t) (tk:=v.tk) hv.n hv.1 (av p w u)
   have hrf:=oG (T:=tab) (st:=st) (H:=[.cells .plain (av p w u),.cells .plain [.list 0 0 .no false []],.cells .plain (av p w u),.cells .plain [.list v.t v.n v.tk v.nn ((cg p).map ak.dv)]]) (K:=[]) (f:=.t 18) (params:=[19]) (live:=[6,18]) (assign:=.region ug [6,7]) (body:=.block 1 (.region tT []))
    (fr:=[(6,.ptr (st.heap.length+1) 0),(18,.fn 131 [] [.ptr (st.heap.length+2) 0,.ptr (st.heap.length+3) 0])]) (g:=131) (first:=[]) (captured:=[.ptr (st.heap.length+2) 0,.ptr (st.heap.length+3) 0]) rfl OA hwk rfl (by decide)
   have h118:(E tab).F 118 [.agg (av p w u),.list v.t v.n v.tk v.nn ((cg p).map ak.dv)] (pst st [.cells .plain (av p w u),.cells .plain [.list 0 0 .no false []]] [])=some (.fn 131 [] [.ptr (st.heap.length+2) 0,.ptr (st.heap.length+3) 0],pst st [.cells .plain (av p w u),.cells .plain [.list 0 0 .no false []],.cells .plain (av p w u),.cells .plain [.list v.t v.n v.tk v.nn ((cg p).map ak.dv)]] []):=by
    rw [eC aoc rfl]
    simp [f118]
   have hA':=qC (st':=pst st ((HI st (av p w u) (av p w u) ov (.list v.t v.n v.tk v.nn ((cg p).map ak.dv)) fr 0 J).set 4 (loI st 3)) K) hA
   obtain ⟨t',n',tk',nn',e1,e2,e3,e4⟩:=hA'
   refine ⟨.list t' n' tk' nn' ((bU p).map It.dv),?_,.list _ _ _ _ e3 e2⟩
   obtain ⟨q1,q2,q3,q4,rfl⟩:=dS hA
   rw [h0] at hb ⊢
   have e1':bV st (pst st ((HI st (av p w u) (av p w u) (.list q1 q2 q3 q4 ((bx p.text (cg p) (jy p.text (cg p) p.pr.cb) 0 0 0 (cg p)).map It.dv)) (.list v.t v.n v.tk v.nn ((cg p).map ak.dv)) fr 0 J).set 4 (loI st 3)) K) (.list q1 q2 q3 q4 ((bx p.text (cg p) (jy p.text (cg p) p.pr.cb) 0 0 0 (cg p)).map It.dv))=_:=e1
   unfold bU
   generalize (bx p.text (cg p) (jy p.text (cg p) p.pr.cb) 0 0 0 (cg p)).map It.dv=X at *
   generalize (cg p).map ak.dv=V at *
   simp only [HI] at hrf e1'
   simp only [loI] at hrf e1'
   simp at hrf e1'
   simp [f106,hb,h118,hrf,e1']
 · rw [if_neg h0] at hb hv ⊢
   refine ⟨.list 0 0 .no false [],?_,.list _ _ _ _ (fun h=>by cases h) (fun _=>rfl)⟩
   simp at hb
   simp [f106,hb,h0]
end
section
variable {st:St}
end
section
variable {st:St} {p:bq} {w u:LW}
end
section
variable {st:St}
end
section
variable {st:St}
theorem z0 {n:Nat} {xs:List DV} {v:DV} (h:Lw n xs v):∃ t n' tk nn,v=.list t n' tk nn xs∧(xs≠[]→n'=n)∧(nn=true→n'=n)∧(nn=false→xs=[]):=by
 cases h with
 | list t n' tk nn h1 h2=>exact ⟨t,n',tk,nn,rfl,fun hx=>h1 (by cases nn with | true=>rfl | false=>exact absurd (h2 rfl) hx),h1,h2⟩
end
theorem apN:tab 234=some (.code f234):=by kernel_rfl
theorem akS:tab 211=some (.code f211):=by kernel_rfl
theorem auz (x y:Int):dw jb [.int .i64 x,.int .i64 y]=some (.int .i64 (min x y)):=by
 have:(if y<x then y else x)=min x y:=by split<;>omega
 simp [dw,jb,this]
def o5 (p:bq):Int:=if eX p=true then wd (bAt p.text 0) (min (p.pr.size*p.pr.drop) 64)+4 else 0
theorem dD {p:bq} (h:aI p=0):1≤p.pr.size∧p.pr.size≤64∧0≤p.pr.drop∧p.pr.drop≤4∧0≤p.pr.align∧p.pr.align≤3∧p.text.length≤4096:=by
 obtain ⟨h1,_,_,hpr,_⟩:=di h
 have:=(fH h1).1
 simp only [cH,fb,Bool.and_eq_true,decide_eq_true_eq] at hpr
 omega
theorem lL {p:bq} (h:eX p=true):aI p=0∧0<p.text.length∧0<(aH p).length:=by
 simp only [eX,Bool.and_eq_true,decide_eq_true_eq] at h
 have h0:aI p=0:=by
  refine Classical.byContradiction fun hc => ?_
  have:aH p=[]:=by unfold aH;rw [if_neg hc]
  rw [this] at h;simp at h
 have hm:=(kY p).at_ ((aH p)[0]'h.2.1) (List.getElem_mem _)
 exact ⟨h0,by omega,h.2.1⟩
theorem Mo (p:bq):0≤o5 p∧o5 p≤68∧(eX p=true→4≤o5 p):=by
 unfold o5
 by_cases h:eX p=true
 · have hc:=dD (lL h).1
   have h2:2≤p.pr.drop:=by simp only [eX,Bool.and_eq_true,decide_eq_true_eq] at h;exact h.1
   have hm:(2:Int)≤p.pr.size*p.pr.drop:=by
    have:=Int.mul_le_mul hc.1 h2 (by omega) (by omega);omega
   have h1:1≤min (p.pr.size*p.pr.drop) 64:=by omega
   have h3:min (p.pr.size*p.pr.drop) 64≤64:=by omega
   have:=qh (bAt p.text 0) h1 h3
   rw [if_pos h];omega
 · rw [if_neg h];exact ⟨by omega,by omega,fun e=>absurd e h⟩
section
variable {st:St} {p:bq} {w u:LW}
theorem yH {t n:Nat} {tk:Tk} {nn:Bool} (h6:aH p≠[]→n=6):(E tab).F 234 [.agg (av p w u),.list t n tk nn ((aH p).map ak.dv)] st=some (.int .i64 (o5 p),st):=by
 rw [aT apN rfl]
 have hV0:((aH p).map ak.dv).length=(aH p).length:=by simp
 have hpd:=DK (p:=p) (w:=w) (u:=u)
 unfold o5
 by_cases h1:2≤p.pr.drop
 · have h1':¬ p.pr.drop<2:=by omega
   by_cases h2:0<(aH p).length
   · have h2':¬ ((aH p).length:Int)=0:=by omega
     have h2b:¬ aH p=[]:=by intro e;rw [e] at h2;simp at h2
     obtain rfl:=h6 h2b
     have g0:=r8 (L:=aH p) h2
     have l0:0<((aH p).map ak.dv).length:=by simpa using h2
     by_cases h3:((aH p).getD 0 mz).k=1
     · have hb:eX p=true:=by simp only [eX,h1,h2,h3,decide_true,Bool.true_and,beq_self_eq_true]
       rw [if_pos hb]
       obtain ⟨h0,ht,_⟩:=lL hb
       have hc:=dD h0
       have hm:(2:Int)≤p.pr.size*p.pr.drop∧p.pr.size*p.pr.drop≤256:=by
        have a:=Int.mul_le_mul hc.1 h1 (by omega) (by omega)
        have b:=Int.mul_le_mul hc.2.1 hc.2.2.2.1 hc.2.2.1 (by omega)
        omega
       have hm1:1≤min (p.pr.size*p.pr.drop) 64:=by omega
       have hm3:min (p.pr.size*p.pr.drop) 64≤64:=by omega
       have hww:=qh (bAt p.text 0) hm1 hm3
       have hmin:=auz (p.pr.size*p.pr.drop) 64
       have hsl:bY true 1 (.str p.text) none (some (.int .i64 1)) none=some (.str (p.text.take 1)):=by rw [xH (by omega) (by omega)];simp
       have hW:∀ st,(E tab).F 17 [.str (p.text.take 1),.int .i64 (min (p.pr.size*p.pr.drop) 64)] st=some (.tuple [.int .i64 (wd (bAt p.text 0) (min (p.pr.size*p.pr.drop) 64)),.int .i64 0],st):=by
        intro st
        have e:p.text.take 1=[bAt p.text 0]:=by
         cases hs:p.text with
         | nil=>rw [hs] at ht;simp at ht
         | cons a r=>simp [bAt]
        rw [tP,e]
        have hw:IntKind.i64.wrap (wd (bAt p.text 0) (min (p.pr.size*p.pr.drop) 64))=wd (bAt p.text 0) (min (p.pr.size*p.pr.drop) 64):=aD (by omega)
        simp only [fq]
        rw [if_pos ⟨hm1,hm3⟩]
        simp [tw,hw]
       have hw2:IntKind.i64.wrap (p.pr.size*p.pr.drop)=p.pr.size*p.pr.drop:=aD (by omega)
       have hw3:IntKind.i64.wrap (wd (bAt p.text 0) (min (p.pr.size*p.pr.drop) 64)+4)=wd (bAt p.text 0) (min (p.pr.size*p.pr.drop) 64)+4:=aD (by omega)
       generalize (aH p).getD 0 mz=m at *
       generalize (aH p).map ak.dv=V at *
       have g0':V[0]'l0=m.dv:=by rw [List.getElem?_eq_getElem l0] at g0;exact Option.some.inj g0
       generalize wd (bAt p.text 0) (min (p.pr.size*p.pr.drop) 64)=W at *
       have ht1:(1:Int)≤p.text.length:=by omega
       simp [f234,hpd,h1',hV0,h2b,h2',g0,g0',l0,ak.dv,ak.cs,h3,hw2,hw3,hW,hsl,hmin]
     · have hb:¬ eX p=true:=by
        simp only [eX,Bool.and_eq_true]
        rintro ⟨_,_,h⟩
        exact h3 (by simpa using h)
       rw [if_neg hb]
       generalize (aH p).getD 0 mz=m at *
       generalize (aH p).map ak.dv=V at *
       have g0':V[0]'l0=m.dv:=by rw [List.getElem?_eq_getElem l0] at g0;exact Option.some.inj g0
       simp [f234,hpd,h1',hV0,h2b,h2',g0,g0',l0,ak.dv,ak.cs,h3]
   · have h2':aH p=[]:=List.length_eq_zero_iff.1 (by omega)
     have hb:¬ eX p=true:=by simp [eX,h2']
     rw [if_neg hb,h2']
     simp [f234,hpd,h1']
 · have h1':p.pr.drop<2:=by omega
   have hb:¬ eX p=true:=by simp only [eX,Bool.and_eq_true,decide_eq_true_eq];rintro ⟨h,_⟩;exact h1 h
   rw [if_neg hb]
   generalize (aH p).map ak.dv=V at *
   simp [f234,hpd,h1']
theorem Jj (hp:p.small) (hw:w.ok 4 p.aV) (hu:u.ok 1 p.marks):(E tab).F 211 [.agg (av p w u)] st=some (.tuple [.int .i64 (o5 p),.int .i64 (aI p)],st):=by
 rw [aT akS rfl]
 obtain ⟨_,hm,v,rfl,hv⟩:=wP p hp w u hw hu (pst st [.cells .plain (av p w u)] [])
 have hc:=fun st=>yH (st:=st) (p:=p) (w:=w) (u:=u) (t:=v.t) (tk:=v.tk) (nn:=v.nn) hv.n
 by_cases h0:aI p=0
 · generalize (aH p).map ak.dv=V at *
   simp [f211,hm,h0,hc]
 · have hb:¬ eX p=true:=fun h=>h0 (lL h).1
   have hcp:o5 p=0:=by unfold o5;rw [if_neg hb]
   generalize (aH p).map ak.dv=V at *
   simp [f211,hm,h0,hcp]
structure Ln where
 f:Int
 t:Int
 x:Int
 w:Int
 n:Int
 h:Bool
 g:Int
def Ln.cs (l:Ln):List DV:=[.int .i64 l.f,.int .i64 l.t,.int .i64 l.x,.int .i64 l.w,.int .i64 l.n,.bool l.h,.int .i64 l.g]
def Ln.dv (l:Ln):DV:=.agg l.cs
end
section
variable {st:St} {l:List It} {v:DV} {H:List HO} {K:List Nat}
end
theorem aob:tab 322=some (.code BV):=by kernel_rfl
def jP:List It→Int
 | []=>0
 | x::r=>x.s+jP r
def jr:List It→Int
 | []=>0
 | x::r=>x.h+jr r
theorem wg:∀ a b,jP (a++b)=jP a+jP b
 | [],b=>by simp [jP]
 | x::a,b=>by simp only [List.cons_append,jP,wg a b];omega
theorem v8:∀ a b,jr (a++b)=jr a+jr b
 | [],b=>by simp [jr]
 | x::a,b=>by simp only [List.cons_append,jr,v8 a b];omega
def okS (l:List It):Prop:=∀ x∈l,0≤x.s∧x.s≤4095∧0≤x.h∧x.h≤4095
theorem acx {l:List It} (h:bA l=0):okS l:=by
 unfold bA at h
 split at h
 · omega
 · split at h
   · omega
   · rename_i h2
     intro x hx
     rw [Bool.not_eq_true,List.any_eq_false] at h2
     have:=h2 x hx
     simp [fG,oS,bp] at this
     omega
theorem Fi:∀ {l:List It},okS l→0≤jP l∧jP l≤4095*l.length∧0≤jr l∧jr l≤4095*l.length
 | [],_=>by simp [jP,jr]
 | x::r,h=>by
   have h1:=h x (List.mem_cons_self ..)
   have h2:=Fi (l:=r) fun y hy=>h y (List.mem_cons_of_mem _ hy)
   simp only [jP,jr,List.length_cons]
   omega
def AV (l:List It) (a b:Int):DV:=
 if dV l a b≠0 then .tuple [.int .i64 0,.int .i64 0,.int .i64 (dV l a b)]
 else .tuple [.int .i64 (jP ((l.drop a.toNat).take (br l a.toNat b.toNat-a.toNat))),.int .i64 (jr ((l.drop a.toNat).take (br l a.toNat b.toNat-a.toNat))),.int .i64 0]
section
variable {st:St} {l:List It} {v:DV}
theorem SQ (l':List It) {v':DV} (hv':Its st l' v') (hok:okS l') (hl:l'.length≤8192) (K:List Nat):∀ (r d:List It) (H:List HO),l'=d++r →
 ∃ J fr,(E tab).C tF [(10,.int .i64 (jP d)),(11,.int .i64 (jr d)),(24,v'),(25,.int .i64 l'.length),(26,.int .i64 d.length)] (pst st H K) =
   some (.exit 0,[(10,.int .i64 (jP l')),(11,.int .i64 (jr l'))]++fr,pst st (H++J) K):=by
 intro r
 induction r with
 | nil=>
   intro d H hd
   refine ⟨[],[(24,v'),(25,.int .i64 l'.length),(26,.int .i64 l'.length),(27,.bool false)],?_⟩
   rw [aj (L:=tF) rfl]
   simp [yY,hd]
 | cons x r ih=>
   intro d H hd
   have h0:d.length<l'.length:=by simp [hd]
   have hx:l'[d.length]? = some x:=by simp [hd]
   have hw1:IntKind.i64.wrap ((d.length:Int)+1)=((d++[x]).length:Nat):=by rw [aD (by omega)];simp
   have e1:=fun st'=>ew hv' h0 .i64 st'
   have e2:=fun H K=>qb hv' hx H K
   simp only [It.dv,It.cs] at e2
   have hs:=Fi (l:=d++[x]) fun y hy=>hok y (by rw [hd];simp at hy ⊢;rcases hy with h | h;exact .inl h;exact .inr (.inl h))
   have hlen:(d++[x]).length≤8192:=by have:=congrArg List.length hd;simp at this ⊢;omega
   have eS:jP (d++[x])=jP d+x.s:=by rw [wg];simp [jP]
   have eH:jr (d++[x])=jr d+x.h:=by rw [v8];simp [jr]
   have w2:IntKind.i64.wrap (jP d+x.s)=jP (d++[x]):=by rw [eS,aD (by omega)]
   have w3:IntKind.i64.wrap (jr d+x.h)=jr (d++[x]):=by rw [eH,aD (by omega)]
   obtain ⟨J,fr,hJ⟩:=ih (d++[x]) (H++[.cells .plain x.cs]) (by simp [hd])
   refine ⟨.cells .plain x.cs::J,fr,?_⟩
   simp only [List.length_append,List.length_singleton] at hJ hw1
   simp [It.cs] at hJ
   rw [aj (L:=tF) rfl]
   simp [yY,h0,e1,e2,It.cs,hw1,w2,w3,hJ]
theorem Gn (hv:Its st l v) (a b:Int):(E tab).F 322 [v,.int .i64 a,.int .i64 b] st=some (AV l a b,st):=by
 rw [aT aob rfl]
 have e0:=fun st'=>cY hv st'
 have e1:=sU (hv.inn [] []) a b
 unfold AV
 by_cases h1:dV l a b=0
 · obtain ⟨h3,h4,h5,h6⟩:=my h1
   obtain ⟨hok,hlen⟩:=ix h3
   have hok2:=acx h3
   obtain ⟨A,rfl⟩:=Int.eq_ofNat_of_zero_le h4
   obtain ⟨B,rfl⟩:=Int.eq_ofNat_of_zero_le (show 0≤b by omega)
   obtain ⟨v',et,hv'⟩:=qW (hv.inn [] []) (by omega) A B (by omega) (by omega)
   have hv':=Vw.out hv'
   have hlt:=ml l A B
   have hok':okS ((l.drop A).take (br l A B-A)):=fun y hy=>hok2 y (List.mem_of_mem_drop (List.mem_of_mem_take hy))
   have hlen':((l.drop A).take (br l A B-A)).length≤8192:=by simp;omega
   obtain ⟨J,fr,hL⟩:=SQ _ hv' hok' hlen' [] _ [] [] rfl
   have e3:=fun st'=>cY hv' st'
   simp only [Int.toNat_natCast]
   generalize ((l.drop A).take (br l A B-A))=l' at *
   simp [jP,jr] at hL
   simp [BV,e0,e1,e3,h1,et,hL]
 · simp [BV,e1,h1]
end
structure Sl where
 x:Int
 w:Int
def Sl.cs (s:Sl):List DV:=[.int .i64 s.x,.int .i64 s.w]
def Sl.dv (s:Sl):DV:=.agg s.cs
theorem wq (s:Sl):cX 2 true s.dv:=⟨rfl,rfl,rfl⟩
theorem uQ {l:List Sl}:∀ y∈l.map Sl.dv,cX 2 true y:=fun y hy=>by obtain ⟨x,_,rfl⟩:=List.mem_map.1 hy;exact wq x
abbrev Sls (st:St) (l:List Sl) (v:DV):Prop:=Vw st 2 true (l.map Sl.dv) v
structure Pc where
 a:Int
 b:Int
 wide:Bool
 hy:Bool
 n:Int
def Pc.cs (p:Pc):List DV:=[.int .i64 p.a,.int .i64 p.b,.bool p.wide,.bool p.hy,.int .i64 p.n]
def Pc.dv (p:Pc):DV:=.agg p.cs
theorem anj (p:Pc):cX 5 true p.dv:=⟨rfl,rfl,rfl⟩
theorem amH:tab 113=some (.code f113):=by kernel_rfl
theorem asi:tab 114=some (.code f114):=by kernel_rfl
theorem anr:tab 126=some (.code f126):=by kernel_rfl
theorem aok:tab 127=some (.code f127):=by kernel_rfl
theorem asf:tab 128=some (.code f128):=by kernel_rfl
theorem ap1:tab 129=some (.code f129):=by kernel_rfl
theorem alB:tab 130=some (.code f130):=by kernel_rfl
theorem aoT:tab 140=some (.code f140):=by kernel_rfl
theorem ale:tab 141=some (.code f141):=by kernel_rfl
theorem aoH:tab 142=some (.code f142):=by kernel_rfl
def j7 (s:Sl):Bool:=bp s.x&&bp s.w
theorem ahC (s:Sl) (st:St):(E tab).F 140 [s.dv] st=some (.bool (j7 s),st):=by
 rw [aT aoT rfl]
 unfold j7 bp
 by_cases h1:0≤s.x
 · by_cases h2:s.x≤4095
   · by_cases h3:0≤s.w
     · simp [f140,Sl.dv,Sl.cs,h1,h2,h3]
     · simp [f140,Sl.dv,Sl.cs,h1,h2,h3]
   · simp [f140,Sl.dv,Sl.cs,h1,h2]
 · simp [f140,Sl.dv,Sl.cs,h1]
def qz (l:List Sl) (rest:Sl) (n:Nat):Sl:=(l[n]?).getD rest
def bD (l:List Sl) (rest:Sl) (n:Int):Sl:=if n<0 then ⟨0,0⟩ else qz l rest n.toNat
section
variable {st:St} {l:List It} {v:DV} {sl:List Sl} {sv:DV} {rest:Sl}
theorem ue (hv:Sls st sl sv) (n:Int):(E tab).F 114 [sv,rest.dv,.int .i64 n] st=some ((bD sl rest n).dv,st):=by
 rw [aT asi rfl]
 have e0:=fun st'=>Vw.len hv st'
 simp only [List.length_map] at e0
 unfold bD qz
 by_cases h1:n<0
 · simp [f114,Sl.dv,Sl.cs,h1]
 · obtain ⟨n,rfl⟩:=Int.eq_ofNat_of_zero_le (show 0≤n by omega)
   by_cases h2:n<sl.length
   · have hx:sl[n]? = some sl[n]:=List.getElem?_eq_getElem h2
     have e1:=fun st'=>Vw.aE hv (i:=n) (by simpa using h2) .i64 st'
     have e2:=fun H K=>Vw.load (Vw.inn hv H K) uQ rfl (i:=n) (x:=sl[n].dv) (by simp [hx])
     simp only [Sl.dv,Sl.cs] at e2
     simp [f114,Sl.dv,Sl.cs,e0,h2,e1,e2]
   · simp [f114,Sl.dv,Sl.cs,e0,h2]
def cB (sl:List Sl) (rest:Sl):Int:=if 256<sl.length then 3 else if sl.all j7&&j7 rest then 0 else 2
theorem afK (all:List Sl) (hl:all.length≤1000) (t:Nat) (tk:Tk) (K:List Nat):∀ (r d:List Sl) (H:List HO),all=d++r →
 ∃ J fr,(E tab).C n5 [(14,.list t 2 tk true (all.map Sl.dv)),(15,.int .i64 all.length),(16,.int .i64 d.length)] (pst st H K) =
   some (if r.all j7 then (.exit 0,fr,pst st (H++J) K) else (.ret,[(4,.int .i64 2)],pst st (H++J) K)):=by
 intro r
 induction r with
 | nil=>
   intro d H hd
   refine ⟨[],[(14,.list t 2 tk true (all.map Sl.dv)),(15,.int .i64 all.length),(16,.int .i64 all.length),(17,.bool false)],?_⟩
   rw [aj (L:=n5) rfl]
   simp [tL,hd]
 | cons x r ih=>
   intro d H hd
   have h0:d.length<all.length:=by simp [hd]
   have hg:all[d.length]=x:=by simp [hd]
   have hw1:IntKind.i64.wrap ((d.length:Int)+1)=((d++[x]).length:Nat):=by rw [aD (by omega)];simp
   have e1:=fun st=>ahC x st
   simp only [Sl.dv,Sl.cs] at e1
   rw [List.all_cons]
   cases hm:j7 x with
   | false=>
     rw [hm] at e1
     refine ⟨[.cells .plain x.cs],[],?_⟩
     rw [aj (L:=n5) rfl]
     simp [tL,h0,hg,Sl.dv,Sl.cs,e1]
   | true=>
     rw [hm] at e1
     obtain ⟨J,fr,hJ⟩:=ih (d++[x]) (H++[.cells .plain x.cs]) (by simp [hd])
     refine ⟨.cells .plain x.cs::J,fr,?_⟩
     rw [Bool.true_and]
     generalize r.all j7=b at hJ ⊢
     simp only [List.length_append,List.length_singleton] at hJ hw1
     simp [Sl.cs,Sl.dv] at hJ
     rw [aj (L:=n5) rfl]
     simp [tL,h0,hg,Sl.dv,Sl.cs,e1,hw1,hJ]
theorem xO (hv:Sls st sl sv):(E tab).F 126 [sv,rest.dv] st=some (.int .i64 (cB sl rest),st):=by
 rw [aT anr rfl]
 have e0:=fun st'=>Vw.len hv st'
 simp only [List.length_map] at e0
 unfold cB
 by_cases h:256<sl.length
 · have h':(256:Int)<sl.length:=by omega
   simp [f126,Sl.dv,Sl.cs,e0,h,h']
 have h':¬ (256:Int)<sl.length:=by omega
 have hn:=Vw.news (Vw.inn hv [.cells .plain rest.cs] [])
 simp only [List.length_map] at hn
 have hfl:=iT (n:=2) (ag:=true) (ys:=sl.map Sl.dv) uQ
 have hdm:=dx hfl
 have hch:=fp (n:=2) (ag:=true) (ys:=sl.map Sl.dv) uQ
 simp only [List.length_map] at hch
 have hL:=afK (st:=st) (sl++[rest]) (by simp;omega) st.cur (.own st.aW.length (if sl.length=0 then 0 else 1)) [if sl.length=0 then 0 else 1] (sl++[rest]) [] [.cells .plain rest.cs] rfl
 obtain ⟨J,fr,hL⟩:=hL
 have ea:((sl++[rest]).all j7)=(sl.all j7&&j7 rest):=by simp
 rw [ea] at hL
 have hb1:sl.length*16≤140737488355328:=by omega
 have hb2:sl.length≤140737488355328:=by omega
 have hb3:(sl.length+1)*16≤140737488355328:=by omega
 have hb4:sl.length+1≤140737488355328:=by omega
 generalize (sl.all j7&&j7 rest)=b at *
 have hreg:(E tab).C (.au zv [] [(2,[0]),(3,[0])] [14,15,16]) [(0,sv),(3,.ptr st.heap.length 0),(9,.bool false)] (pst st [.cells .plain rest.cs] []) =
  some (.normal,[(14,.list st.cur 2 (.own st.aW.length (if sl.length=0 then 0 else 1)) true ((sl++[rest]).map Sl.dv)),(15,.int .i64 (sl++[rest]).length),(16,.int .i64 0)],pst st [.cells .plain rest.cs] [if sl.length=0 then 0 else 1]):=by
  have hvi:=hv.inn [.cells .plain rest.cs] []
  by_cases hz:sl=[]
  · subst hz
    have a1:=Bv (t:=0) (n':=0) (by_:=16) (tk:=.no) (nn:=false) (ys:=[]) hvi
    have a2:=o8 (st:=st) (H:=[.cells .plain rest.cs]) (K:=[]) (n:=2) (n':=0) (t:=0) (t':=st.cur) (by_:=16) (ag:=true) (tk:=.no) (tk':=.tight) (nn:=false) (xs:=[]) (ys:=[rest.dv]) (.inl rfl) (by omega) (by simp) (by simp [wq]) (by simp [aA]) (by simp [aA])
    simp [Sl.dv,Sl.cs] at a1 a2
    have hp4:bh (ab tab) (.append 2 true 16 (.c (.list 0 0 .no false [])) (.t 10))=true:=rfl
    simp [eB,jH,lD,lO,bh,a0,bk,chunk,Sl.dv,Sl.cs,a1,a2]
  · have hp:0<sl.length:=List.length_pos_iff.2 hz
    have hne:¬ sl.length=0:=by omega
    have a1:=Ei (t:=0) (n':=0) (by_:=16) (tk:=.no) hvi uQ (by simpa using hz) (by omega) (by simp [aA];omega) (by simp [aA];omega)
    have a2:=uZ (st:=st) (H:=[.cells .plain rest.cs]) (K:=[0]) (n:=2) (t:=st.cur) (t':=st.cur) (by_:=16) (k:=0) (s:=0) (ag:=true) (tk':=.tight) (xs:=sl.map Sl.dv) (ys:=[rest.dv]) rfl (by omega) (by simp) (by simp [wq]) (by simp [aA];omega) (by simp [aA];omega)
    simp [Sl.dv,Sl.cs] at a1 a2
    have w1:((sl.length:Int)+1)=((sl.length+1:Nat):Int):=by simp
    simp [eB,jH,lD,lO,bh,a0,bk,chunk,Sl.dv,Sl.cs,a1,a2,hne,hz]
 have h0:(E tab).C (.region zL [0,3]) (bz [sv,rest.dv] 0) (pst st [] [])=some (.normal,[(0,sv),(3,.ptr st.heap.length 0)],pst st [.cells .plain rest.cs] []):=by simp [Sl.dv,Sl.cs]
 have h1:(E tab).C (.seq (.region yQ [0,3,9]) (.cond (.t 9) (.seq (.region zg [4]) .ret) .skip)) [(0,sv),(3,.ptr st.heap.length 0)] (pst st [.cells .plain rest.cs] [])=some (.normal,[(0,sv),(3,.ptr st.heap.length 0),(9,.bool false)],pst st [.cells .plain rest.cs] []):=by simp [e0,h,h']
 rw [show f126.body=(.seq (.region zL [0,3]) (.seq (.seq (.region yQ [0,3,9]) (.cond (.t 9) (.seq (.region zg [4]) .ret) .skip)) (.seq (.seq (.au zv [] [(2,[0]),(3,[0])] [14,15,16]) (.block 0 n5)) (.seq (.region C0 [4]) .ret)))) from rfl,cK,h0]
 simp only
 rw [cK,h1]
 simp only
 rw [cK,cK,hreg]
 simp only [List.length_nil] at hL
 simp only [l9]
 have hL':=hL
 simp only [Int.natCast_zero] at hL'
 erw [hL']
 cases b<;>simp [f126,h]
end
structure BrS (N:Nat) (lv sv ov:DV) (rest:Sl) (G:List HO):Prop where
 r0:rowAt G 0=some (.plain,[sv])
 r1:rowAt G 1=some (.plain,rest.cs)
 r2:rowAt G 2=some (.plain,[lv,.fn 127 [] [.ptr N 0,.ptr (N+1) 0],ov])
theorem BrS.app {N:Nat} {lv sv ov:DV} {rest:Sl} {G:List HO} (h:BrS N lv sv ov rest G) (X:List HO):BrS N lv sv ov rest (G++X):=⟨b5 h.r0 X,b5 h.r1 X,b5 h.r2 X⟩
section
variable {st:St} {l:List It} {lv sv ov:DV} {sl:List Sl} {rest:Sl} {G:List HO} {K:List Nat}
theorem KK (hs:Sls st sl sv) (hG:BrS st.heap.length lv sv ov rest G) (n:Int):(E tab).F 127 [.int .i64 n,.ptr st.heap.length 0,.ptr (st.heap.length+1) 0] (pst st G K)=some ((bD sl rest n).dv,pst st (G++[.cells .plain (bD sl rest n).cs]) K):=by
 rw [eC aok rfl]
 have e1:=ue (rest:=rest) (hs.inn (G++[.cells .plain [.int .i64 0,.int .i64 0]]) K) n
 have hr0:=b5 hG.r0 [.cells .plain [.int .i64 0,.int .i64 0]]
 have hr1:=b5 hG.r1 [.cells .plain [.int .i64 0,.int .i64 0]]
 generalize bD sl rest n=s at *
 simp only [Sl.cs,Sl.dv] at hr1 e1
 simp [f127,hr0,hr1,e1,Sl.cs,Sl.dv]
theorem BI (hv:Its st l lv) (hl:l.length≤140737488355328) (hG:BrS st.heap.length lv sv ov rest G) (i:Nat) (hi:i≤l.length):(E tab).F 141 [.ptr (st.heap.length+2) 0,.int .i64 i] (pst st G K)=some (.bool (ox l i),pst st G K):=by
 have e0:=fun st'=>cY hv st'
 have hr:=hG.r2
 rw [eC ale rfl]
 unfold ox
 by_cases h:i=l.length
 · simp [f141,hr,e0,h]
 have h0:i<l.length:=by omega
 have hb:(i==l.length)=false:=by simp [h]
 have h':¬ (i:Int)=l.length:=by omega
 have hx:l[i]? = some l[i]:=List.getElem?_eq_getElem h0
 have e1:=fun st'=>ew hv h0 .i64 st'
 have e2:=fun st'=>gK hv hx (off:=0) (by omega) st'
 have e3:=fun H K=>ln hv hx H K
 rw [hx,hb]
 generalize l[i]=x at *
 by_cases k3:x.k=3
 · simp [f141,hr,e0,h,h',e1,e2,e3,k3]
 by_cases k2:x.k=2
 · by_cases hp:0<i
   · have h1:i-1<l.length:=by omega
     have hy:l[i-1]? = some l[i-1]:=List.getElem?_eq_getElem h1
     have q1:=fun st'=>ew hv h1 .i64 st'
     have q2:=fun st'=>gK hv hy (off:=0) (by omega) st'
     have q3:=fun H K=>ln hv hy H K
     have w:IntKind.i64.wrap ((i:Int)-1)=((i-1:Nat):Int):=by rw [aD (by omega)];omega
     rw [hy]
     generalize l[i-1]=y at *
     simp [f141,hr,e0,h,h',e1,e2,e3,k2,hp,w,q1,q2,q3]
   · simp [f141,hr,e0,h,h',e1,e2,e3,k2,hp]
 · simp [f141,hr,e0,h,h',e1,e2,e3,k3,k2]
theorem Kx (hv:Its st l lv) (hc:bA l=0) (hG:BrS st.heap.length lv sv ov rest G) (i:Nat) (hi:i<l.length) (a:Int) (ha:0≤a∧a≤100000000000):(E tab).F 142 [.ptr (st.heap.length+2) 0,.int .i64 i,.int .i64 a] (pst st G K)=some (.int .i64 (cN a l[i]),pst st G K):=by
 have hr:=hG.r2
 obtain ⟨hok,hlen⟩:=ix hc
 rw [eC aoH rfl]
 have hx:l[i]? = some l[i]:=List.getElem?_eq_getElem hi
 have hxm:=hok _ (List.getElem_mem hi)
 have e1:=fun st'=>ew hv hi .i64 st'
 have e2:=fun st'=>gK hv hx (off:=0) (by omega) st'
 have e3:=fun H K=>ln hv hx H K
 have e4:=fun st'=>gK hv hx (off:=3) (by omega) st'
 have e5:=fun H K=>E8 hv hx H K
 have hd:(l.drop i).take (i+1-i)=[l[i]]:=by rw [show i+1-i=1 by omega,List.drop_eq_getElem_cons hi];rfl
 have hs:=rj hxm ha.1
 by_cases k1:l[i].k=1
 · have w1:IntKind.i64.wrap (a+l[i].w)=cN a l[i]:=by simp only [cN,k1,true_or,if_true] at hs ⊢;exact aD (by omega)
   generalize l[i]=x at *
   simp [f142,hr,e1,e2,e3,e4,e5,k1,w1]
 by_cases k2:l[i].k=2
 · have w1:IntKind.i64.wrap (a+l[i].w)=cN a l[i]:=by simp only [cN,k2,or_true,if_true] at hs ⊢;exact aD (by omega)
   generalize l[i]=x at *
   simp [f142,hr,e1,e2,e3,e4,e5,k1,k2,w1]
 by_cases k4:l[i].k=4
 · obtain ⟨v',hsl,hv'⟩:=Vw.slice hv (by omega) pJ (lo:=i) (hi:=i+1) (by omega) (by simp;omega) .i64 .i64
   have w1:IntKind.i64.wrap ((i:Int)+1)=((i+1:Nat):Int):=by rw [aD (by omega)];simp
   rw [← List.map_drop,← List.map_take,hd] at hv'
   have hc1:bA [l[i]]=0:=by
    have:l.any fG=false:=by
     unfold bA at hc
     split at hc
     · omega
     · split at hc
       · omega
       · rename_i h;simpa using h
    have ho:=List.any_eq_false.1 this _ (List.getElem_mem hi)
    simp only [Bool.not_eq_true] at ho
    simp [bA,ho]
   have eS:cN a l[i]=gX a:=by simp [cN,k4]
   have hmin:dw jb [.int .i64 a,.int .i64 4095]=some (.int .i64 (min a 4095)):=by
    have:(if (4095:Int)<a then (4095:Int) else a)=min a 4095:=by split<;>omega
    simp [dw,jb,this]
   have hmw:bp (min a 4095)=true:=by simp [bp];omega
   have hwid:=DO (hv'.inn G K) 0 1 (min a 4095)
   have hrg:dV [l[i]] 0 1=0:=by unfold dV;rw [if_neg (by simp),hc1]
   have hwv:NG [l[i]] 0 1 (min a 4095)=.tuple [.int .i64 (gX (min a 4095)-min a 4095),.int .i64 0]:=by
    unfold NG
    rw [hrg,hmw]
    simp [eY,br,k8,k4,goI,cN]
   rw [hwv] at hwid
   rw [eS]
   by_cases hm:4095<a
   · have q1:IntKind.i64.wrap (a.tdiv 48)=a/48:=IntWalk.i64_quo _ _ (by omega)
     have q2:IntKind.i64.wrap (a/48+1)=a/48+1:=aD (by omega)
     have q3:IntKind.i64.wrap ((a/48+1)*48)=gX a:=aD (by omega)
     simp at hsl w1
     simp [f142,hr,e1,e2,e3,k1,k2,k4,hsl,w1,hmin,hwid,hm,q1,q2,q3]
   · have em:min a 4095=a:=by omega
     rw [em] at hwid hmin
     have q1:IntKind.i64.wrap (a+(gX a-a))=gX a:=by rw [aD (by unfold gX;omega)];omega
     simp at hsl w1
     simp [f142,hr,e1,e2,e3,k1,k2,k4,hsl,w1,hmin,hwid,hm,q1]
 · have w1:cN a l[i]=a:=by simp [cN,k1,k2,k4]
   rw [w1]
   simp [f142,hr,e1,e2,e3,k1,k2,k4]
theorem yn (x y z:DV) (st:St):(E tab).C ju [(0,x),(1,y),(26,z)] st=(E tab).C ju [(0,x),(1,y)] st:=by
 unfold ju;rw [wY];rfl
theorem zk (hv:Its st l lv) (hl:l.length≤140737488355328) (hG:BrS st.heap.length lv sv ov rest G):∀ (f i:Nat),l.length≤i+f→i≤l.length →
 ∃ fr,(E tab).C ju [(0,.ptr (st.heap.length+2) 0),(1,.int .i64 i)] (pst st G K)=some (.exit 0,[(0,.ptr (st.heap.length+2) 0),(1,.int .i64 (cd l f i:Nat))]++fr,pst st G K):=by
 have e0:=fun st'=>cY hv st'
 have hr:=hG.r2
 intro f
 induction f with
 | zero=>
   intro i h1 h2
   obtain rfl:i=l.length:=by omega
   refine ⟨[(46,.bool false)],?_⟩
   rw [aj (L:=ju) rfl]
   simp [qU,hr,e0,cd]
 | succ f ih=>
   intro i h1 h2
   by_cases h0:i<l.length
   · have hx:l[i]? = some l[i]:=List.getElem?_eq_getElem h0
     have e1:=fun st'=>ew hv h0 .i64 st'
     have e2:=fun st'=>gK hv hx (off:=0) (by omega) st'
     have e3:=fun H K=>ln hv hx H K
     have hw1:IntKind.i64.wrap ((i:Int)+1)=(i+1:Nat):=by rw [aD (by omega)];simp
     by_cases hk:l[i].k=2
     · have eg:cd l (f+1) i=cd l f (i+1):=by simp [cd,hx,hk]
       obtain ⟨fr,hJ⟩:=ih (i+1) (by omega) (by omega)
       rw [eg]
       refine ⟨fr,?_⟩
       simp at hJ
       rw [aj (L:=ju) rfl]
       simp [qU,hr,e0,h0,e1,e2,e3,hk,hw1,hJ]
     · have eg:cd l (f+1) i=i:=by simp [cd,hx,hk]
       rw [eg]
       refine ⟨[(46,.bool false)],?_⟩
       rw [aj (L:=ju) rfl]
       simp [qU,hr,e0,h0,e1,e2,e3,hk]
   · have eg:cd l (f+1) i=i:=by simp [cd,h0]
     have h0':¬ (i:Int)<l.length:=by omega
     rw [eg]
     refine ⟨[(46,.bool false)],?_⟩
     rw [aj (L:=ju) rfl]
     simp [qU,hr,e0,h0,h0']
theorem CU (hv:Its st l lv) (hl:l.length≤140737488355328) (hG:BrS st.heap.length lv sv ov rest G) (i:Nat) (hi:i≤l.length):(E tab).F 130 [.ptr (st.heap.length+2) 0,.int .i64 i] (pst st G K)=some (.int .i64 (dm l i:Nat),pst st G K):=by
 have e0:=fun st'=>cY hv st'
 have hr:=hG.r2
 rw [eC alB rfl]
 unfold dm
 by_cases h0:i<l.length
 · have hx:l[i]? = some l[i]:=List.getElem?_eq_getElem h0
   have e1:=fun st'=>ew hv h0 .i64 st'
   have e2:=fun st'=>gK hv hx (off:=0) (by omega) st'
   have e3:=fun H K=>ln hv hx H K
   have hw1:IntKind.i64.wrap ((i:Int)+1)=(i+1:Nat):=by rw [aD (by omega)];simp
   rw [hx]
   by_cases hk:l[i].k=3
   · obtain ⟨fr,hL⟩:=zk (K:=K) hv hl hG l.length (i+1) (by omega) (by omega)
     simp at hL
     simp [f130,hr,e0,h0,e1,e2,e3,hk,hw1,yn,hL]
   · obtain ⟨fr,hL⟩:=zk (K:=K) hv hl hG l.length i (by omega) hi
     simp at hL
     simp [f130,hr,e0,h0,e1,e2,e3,hk,yn,hL]
 · obtain ⟨fr,hL⟩:=zk (K:=K) hv hl hG l.length i (by omega) hi
   simp at hL
   simp [f130,hr,e0,h0,yn,hL]
end
def rC (l:List It) (a:Nat) (X W:Int):Nat→Nat→Option Nat→Option (Nat×Bool)
 | 0,_,best=>best.map (·,false)
 | f+1,i,best=>
   if a<i∧ox l i=true then
    if W<eY l a i X then (match best with | none=>some (i,true) | some c=>some (c,false))
    else rC l a X W f (i+1) (some i)
   else rC l a X W f (i+1) best
theorem Ff (l:List It):ox l l.length=true:=by simp [ox]
theorem kT (l:List It) (a:Nat) (X W:Int) (h:a<l.length):∀ (f i:Nat) (best:Option Nat),i+f=l.length+1→(best=none→i≤l.length)→a≤i→(∀ c,best=some c→a<c∧c≤l.length)→∃ b w,rC l a X W f i best=some (b,w)∧a<b∧b≤l.length
 | 0,i,best,h1,h2,h3,h4=>by
   cases best with
   | none=>have:=h2 rfl;omega
   | some c=>exact ⟨c,false,rfl,h4 c rfl⟩
 | f+1,i,best,h1,h2,h3,h4=>by
   unfold rC
   split
   · rename_i hc
     split
     · cases best with
       | none=>exact ⟨i,true,rfl,hc.1,h2 rfl⟩
       | some c=>exact ⟨c,false,rfl,h4 c rfl⟩
     · exact kT l a X W h f (i+1) (some i) (by omega) (fun e=>by cases e) (by omega) (fun c e=>by cases e;omega)
   · rename_i hc
     refine kT l a X W h f (i+1) best (by omega) (fun e => ?_) (by omega) h4
     have:=h2 e
     by_cases hi:i=l.length
     · subst hi;exact absurd ⟨by omega,Ff l⟩ hc
     · omega
def eG:Option Nat→Int
 | none => -1
 | some c=>c
def iX (l:List It) (a:Nat) (X:Int):Option Nat→Int
 | none=>0
 | some c=>eY l a c X
def hyI (l:List It) (b:Nat):Bool:=match l[b]? with | some x=>x.y | none=>false
def eA (l:List It) (a:Nat) (s:Sl):Pc:=
 match rC l a s.x s.w (l.length+1-a) a none with
 | some (b,w)=>⟨a,b,w,hyI l b,eY l a b s.x⟩
 | none=>⟨a,-1,false,false,0⟩
section
variable {st:St} {l:List It} {lv sv ov:DV} {sl:List Sl} {rest:Sl} {G:List HO} {K:List Nat}
theorem HK (l:List It) (a:Nat) (X:Int) (i:Nat) (ha:a≤i) (hi:i<l.length) :
 goI X ((l.drop a).take (i+1-a))=cN (goI X ((l.drop a).take (i-a))) l[i] ∧
 goI X ((l.drop a).take (br l a (i+1)-a))=(if l[i].k=2 then goI X ((l.drop a).take (br l a i-a)) else cN (goI X ((l.drop a).take (i-a))) l[i]):=by
 have ed:(l.drop a).take (i+1-a)=(l.drop a).take (i-a)++[l[i]]:=by
  rw [show i+1-a=(i-a)+1 by omega,List.take_succ_eq_append_getElem (by simp;omega)]
  congr 2
  rw [List.getElem_drop];congr 1;omega
 have e1:goI X ((l.drop a).take (i+1-a))=cN (goI X ((l.drop a).take (i-a))) l[i]:=by rw [ed,Ba];rfl
 refine ⟨e1,?_⟩
 have hx:l[i]? = some l[i]:=List.getElem?_eq_getElem hi
 by_cases hk:l[i].k=2
 · rw [if_pos hk,br,if_pos ⟨ha,by simp [hx,hk]⟩]
 · rw [if_neg hk,br,if_neg (by rintro ⟨_,h⟩;simp [hx] at h;exact hk h),e1]
theorem XS (hv:Its st l lv) (hc:bA l=0) (hG:BrS st.heap.length lv sv ov rest G) (i:Nat) (hi:i≤l.length) (w0:Int) (hw:-100000000000≤w0∧w0≤100000000000) (y1 y5 y6 y7 y8 y9 y10:DV) :
 ∃ ex,(E tab).C (.seq (.region tG [0,1,5,6,7,8,9,10,11,12,67]) (.cond (.t 67) (.region pd [0,1,5,6,7,8,9,10,11,12]) .skip)) [(0,.ptr (st.heap.length+2) 0),(1,y1),(5,y5),(6,y6),(7,y7),(8,y8),(9,y9),(10,y10),(11,.int .i64 i),(12,.int .i64 w0)] (pst st G K) =
   some (.normal,[(0,.ptr (st.heap.length+2) 0),(1,y1),(5,y5),(6,y6),(7,y7),(8,y8),(9,y9),(10,y10),(11,.int .i64 i),(12,.int .i64 (w0+k8 l i))]++ex,pst st G K):=by
 have e0:=fun st'=>cY hv st'
 have hr:=hG.r2
 by_cases h0:i<l.length
 · have hx:l[i]? = some l[i]:=List.getElem?_eq_getElem h0
   have e1:=fun st'=>ew hv h0 .i64 st'
   have e2:=fun st'=>gK hv hx (off:=0) (by omega) st'
   have e3:=fun H K=>ln hv hx H K
   have e4:=fun st'=>gK hv hx (off:=3) (by omega) st'
   have e5:=fun H K=>E8 hv hx H K
   have hb:=(ix hc).1 _ (List.getElem_mem h0)
   by_cases k3:l[i].k=3
   · have ep:k8 l i=l[i].w:=by simp [k8,hx,k3]
     have w1:IntKind.i64.wrap (w0+l[i].w)=w0+l[i].w:=aD (by omega)
     rw [ep]
     generalize l[i]=x at *
     refine ⟨[],?_⟩
     simp [hr,e0,h0,e1,e2,e3,e4,e5,k3,w1]
   · have ep:k8 l i=0:=by simp [k8,hx,k3]
     rw [ep]
     generalize l[i]=x at *
     refine ⟨[(67,.bool false)],?_⟩
     simp [hr,e0,h0,e1,e2,e3,k3]
 · have ep:k8 l i=0:=by simp [k8,h0]
   rw [ep]
   refine ⟨[(67,.bool false)],?_⟩
   simp [hr,e0,h0]
theorem T7 (hv:Its st l lv) (hc:bA l=0) (hG:BrS st.heap.length lv sv ov rest G) (a:Nat) (ha:a<l.length) (X W:Int) (hX:0≤X∧X≤4095) (h:Nat) (hh:rowAt G h=some (.plain,[.int .i64 X,.int .i64 W])) (i:Nat) (hi:i≤l.length) (hai:a≤i) (best:Option Nat) (y9:DV) (ex0:Fr) :
 ∃ ex,(E tab).C (.seq (.region u1 [0,1,5,6,7,8,9,10,11,45]) (.cond (.t 45) (.seq (.region tY [0,1,5,6,7,8,9,10,11,12]) (.seq (.seq (.region tG [0,1,5,6,7,8,9,10,11,12,67]) (.cond (.t 67) (.region pd [0,1,5,6,7,8,9,10,11,12]) .skip)) (.seq (.seq (.region uq [0,1,5,6,7,8,9,10,11,12,85]) (.cond (.t 85) (.seq (.seq (.region uy [0,1,5,8,9,10,11,12,89]) (.cond (.t 89) (.region tN [0,1,5,8,9,10,11,12]) .skip)) (.region u4 [0,1,5,6,7,8,9,10,11,12])) .skip)) (.seq (.region tZ [0,1,5,6,7,8,9,10,11,95]) (.cond (.t 95) (.exit 0) .skip))))) .skip))
  ([(0,.ptr (st.heap.length+2) 0),(1,.int .i64 a),(5,.ptr (st.heap.length+h) 0),(6,.int .i64 (eG best)),(7,.int .i64 (iX l a X best)),(8,.bool false),(9,y9),(10,.int .i64 (goI X ((l.drop a).take (br l a i-a)))),(11,.int .i64 i)]++ex0) (pst st G K) =
  some (if a<i∧ox l i=true then
   (if W<eY l a i X then (.exit 0,(match best with
       | none=>[(0,.ptr (st.heap.length+2) 0),(1,.int .i64 a),(5,.ptr (st.heap.length+h) 0),(6,.int .i64 i),(7,.int .i64 (eY l a i X)),(8,.bool true)]
       | some c=>[(0,.ptr (st.heap.length+2) 0),(1,.int .i64 a),(5,.ptr (st.heap.length+h) 0),(6,.int .i64 c),(7,.int .i64 (eY l a c X)),(8,.bool false)])++ex,pst st G K)
   else (.normal,[(0,.ptr (st.heap.length+2) 0),(1,.int .i64 a),(5,.ptr (st.heap.length+h) 0),(6,.int .i64 i),(7,.int .i64 (eY l a i X)),(8,.bool false),(9,y9),(10,.int .i64 (goI X ((l.drop a).take (br l a i-a)))),(11,.int .i64 i)]++ex,pst st G K))
   else (.normal,[(0,.ptr (st.heap.length+2) 0),(1,.int .i64 a),(5,.ptr (st.heap.length+h) 0),(6,.int .i64 (eG best)),(7,.int .i64 (iX l a X best)),(8,.bool false),(9,y9),(10,.int .i64 (goI X ((l.drop a).take (br l a i-a)))),(11,.int .i64 i)]++ex,pst st G K)):=by
 obtain ⟨hok,hlen⟩:=ix hc
 have hleg:=BI (K:=K) hv (by omega) hG i hi
 by_cases h1:a<i
 · cases h2:ox l i with
   | false=>
     rw [h2] at hleg
     simp only [Bool.false_eq_true,and_false,if_false]
     refine ⟨[(45,.bool false)],?_⟩
     simp [h1,hleg]
   | true=>
     rw [h2] at hleg
     simp only [h1,and_self,if_true]
     have hp:okW ((l.drop a).take (br l a i-a)):=fun y hy=>hok y (List.mem_of_mem_drop (List.mem_of_mem_take hy))
     have hlen':((l.drop a).take (br l a i-a)).length≤8192:=by simp;omega
     have hg:=te (a:=X) hp (by omega)
     have hwid:eY l a i X=goI X ((l.drop a).take (br l a i-a))-X+k8 l i:=by unfold eY;omega
     generalize goI X ((l.drop a).take (br l a i-a))=g at *
     obtain ⟨ex9,h9⟩:=XS (K:=K) hv hc hG i hi (g-X) (by omega) (.int .i64 a) (.ptr (st.heap.length+h) 0) (.int .i64 (eG best)) (.int .i64 (iX l a X best)) (.bool false) y9 (.int .i64 g)
     have w1:IntKind.i64.wrap (g-X)=g-X:=aD (by omega)
     have hr7:(E tab).C (.region u1 [0,1,5,6,7,8,9,10,11,45]) ([(0,.ptr (st.heap.length+2) 0),(1,.int .i64 a),(5,.ptr (st.heap.length+h) 0),(6,.int .i64 (eG best)),(7,.int .i64 (iX l a X best)),(8,.bool false),(9,y9),(10,.int .i64 g),(11,.int .i64 i)]++ex0) (pst st G K) =
      some (.normal,[(0,.ptr (st.heap.length+2) 0),(1,.int .i64 a),(5,.ptr (st.heap.length+h) 0),(6,.int .i64 (eG best)),(7,.int .i64 (iX l a X best)),(8,.bool false),(9,y9),(10,.int .i64 g),(11,.int .i64 i),(45,.bool true)],pst st G K):=by simp [h1,hleg]
     have hr8:(E tab).C (.region tY [0,1,5,6,7,8,9,10,11,12]) [(0,.ptr (st.heap.length+2) 0),(1,.int .i64 a),(5,.ptr (st.heap.length+h) 0),(6,.int .i64 (eG best)),(7,.int .i64 (iX l a X best)),(8,.bool false),(9,y9),(10,.int .i64 g),(11,.int .i64 i),(45,.bool true)] (pst st G K) =
      some (.normal,[(0,.ptr (st.heap.length+2) 0),(1,.int .i64 a),(5,.ptr (st.heap.length+h) 0),(6,.int .i64 (eG best)),(7,.int .i64 (iX l a X best)),(8,.bool false),(9,y9),(10,.int .i64 g),(11,.int .i64 i),(12,.int .i64 (g-X))],pst st G K):=by simp [hh,w1]
     rw [← hwid] at h9
     rw [cK,hr7]
     simp only
     rw [UJ _ _ _ _ _ true rfl]
     simp only [if_true]
     rw [cK,hr8]
     simp only
     rw [cK,h9]
     simp only
     generalize eY l a i X=w at *
     by_cases hW:W<w
     · have hW':¬ w≤W:=by omega
       simp only [hW,if_true]
       cases best with
       | none=>
         refine ⟨[(9,y9),(10,.int .i64 g),(11,.int .i64 i),(95,.bool true)],?_⟩
         simp [eG,iX,hh,hW]
       | some c=>
         refine ⟨[(9,y9),(10,.int .i64 g),(11,.int .i64 i),(95,.bool true)],?_⟩
         simp [eG,iX,hh,hW,hW']
     · have hW':w≤W:=by omega
       simp only [hW,if_false]
       cases best with
       | none=>
         refine ⟨[(95,.bool false)],?_⟩
         simp [eG,iX,hh,hW]
       | some c=>
         refine ⟨[(95,.bool false)],?_⟩
         simp [eG,iX,hh,hW,hW']
 · simp only [h1,false_and,if_false]
   refine ⟨[(45,.bool false)],?_⟩
   simp [h1]
end
section
variable {st:St} {l:List It} {lv sv ov:DV} {sl:List Sl} {rest:Sl} {G:List HO} {K:List Nat}
theorem Q9 (hv:Its st l lv) (hc:bA l=0) (hG:BrS st.heap.length lv sv ov rest G) (a:Nat) (X:Int) (hX:0≤X∧X≤4095) (i:Nat) (hi:i≤l.length) (hai:a≤i) (y1 y5 y6 y7 y8:DV) (ex:Fr) :
 ∃ ex',(E tab).C (.seq (.region Bp [0,1,5,6,7,8,9,10,11,102]) (.cond (.t 102) (.seq (.region Ao [0,1,5,6,7,8,9,10,11]) (.seq (.region Ap [0,1,5,6,7,8,9,10,11,115]) (.cond (.t 115) (.region z7 [0,1,5,6,7,8,9,10,11]) .skip))) .skip))
  ([(0,.ptr (st.heap.length+2) 0),(1,y1),(5,y5),(6,y6),(7,y7),(8,y8),(9,.int .i64 (goI X ((l.drop a).take (i-a)))),(10,.int .i64 (goI X ((l.drop a).take (br l a i-a)))),(11,.int .i64 i)]++ex) (pst st G K) =
  some (.normal,[(0,.ptr (st.heap.length+2) 0),(1,y1),(5,y5),(6,y6),(7,y7),(8,y8),(9,.int .i64 (goI X ((l.drop a).take ((if i<l.length then i+1 else i)-a)))),(10,.int .i64 (goI X ((l.drop a).take (br l a (if i<l.length then i+1 else i)-a)))),(11,.int .i64 i)]++ex',pst st G K):=by
 obtain ⟨hok,hlen⟩:=ix hc
 have e0:=fun st'=>cY hv st'
 have hr:=hG.r2
 by_cases h0:i<l.length
 · obtain ⟨g1,g2⟩:=HK l a X i hai h0
   simp only [h0,if_true]
   rw [g1,g2]
   have hp:okW ((l.drop a).take (i-a)):=fun y hy=>hok y (List.mem_of_mem_drop (List.mem_of_mem_take hy))
   have hlen':((l.drop a).take (i-a)).length≤8192:=by simp;omega
   have hg:=te (a:=X) hp (by omega)
   generalize goI X ((l.drop a).take (i-a))=g at *
   generalize goI X ((l.drop a).take (br l a i-a))=e at *
   have hpa:=Kx (K:=K) hv hc hG i h0 g (by omega)
   have hx:l[i]? = some l[i]:=List.getElem?_eq_getElem h0
   have e1:=fun st'=>ew hv h0 .i64 st'
   have e2:=fun st'=>gK hv hx (off:=0) (by omega) st'
   have e3:=fun H K=>ln hv hx H K
   generalize l[i]=x at *
   by_cases hk:x.k=2
   · refine ⟨[(115,.bool false)],?_⟩
     simp [hr,e0,h0,hpa,e1,e2,e3,hk]
   · refine ⟨[],?_⟩
     simp [hr,e0,h0,hpa,e1,e2,e3,hk]
 · simp only [h0,if_false]
   refine ⟨[(102,.bool false)],?_⟩
   simp [hr,e0,h0]
theorem ag4 (hv:Its st l lv) (hc:bA l=0) (hG:BrS st.heap.length lv sv ov rest G) (a:Nat) (ha:a<l.length) (X W:Int) (hX:0≤X∧X≤4095) (h:Nat) (hh:rowAt G h=some (.plain,[.int .i64 X,.int .i64 W])) :
 ∀ (m i:Nat) (best:Option Nat) (y9 y10:DV),i+m=l.length+1→a≤i→(i≤l.length→y9=.int .i64 (goI X ((l.drop a).take (i-a)))∧y10=.int .i64 (goI X ((l.drop a).take (br l a i-a)))) →
 ∀ b w,rC l a X W m i best=some (b,w)→∃ fr,(E tab).C jh [(0,.ptr (st.heap.length+2) 0),(1,.int .i64 a),(5,.ptr (st.heap.length+h) 0),(6,.int .i64 (eG best)),(7,.int .i64 (iX l a X best)),(8,.bool false),(9,y9),(10,y10),(11,.int .i64 i)] (pst st G K) =
   some (.exit 0,[(0,.ptr (st.heap.length+2) 0),(1,.int .i64 a),(5,.ptr (st.heap.length+h) 0),(6,.int .i64 b),(7,.int .i64 (eY l a b X)),(8,.bool w)]++fr,pst st G K):=by
 obtain ⟨hok,hlen⟩:=ix hc
 have e0:=fun st'=>cY hv st'
 have hr:=hG.r2
 intro m
 induction m with
 | zero=>
   intro i best y9 y10 hi hai hy b w ho
   have h0:¬ i≤l.length:=by omega
   cases best with
   | none=>simp [rC] at ho
   | some c=>
     simp only [rC,Option.map_some,Option.some.injEq,Prod.mk.injEq] at ho
     obtain ⟨rfl,rfl⟩:=ho
     refine ⟨[(9,y9),(10,y10),(11,.int .i64 i),(35,.bool false)],?_⟩
     rw [aj (L:=jh) rfl]
     simp [ri,hr,e0,h0,eG,iX]
 | succ m ih=>
   intro i best y9 y10 hi hai hy b w ho
   have h0:i≤l.length:=by omega
   obtain ⟨rfl,rfl⟩:=hy h0
   have hw1:IntKind.i64.wrap ((i:Int)+1)=((i+1:Nat):Int):=by rw [aD (by omega)];simp
   obtain ⟨ex,hA⟩:=T7 (K:=K) hv hc hG a ha X W hX h hh i h0 hai best (.int .i64 (goI X ((l.drop a).take (i-a)))) [(35,.bool true)]
   have h6:(E tab).C (.seq (.region FD [0,1,5,6,7,8,9,10,11,35]) (.cond (.t 35) .skip (.exit 0))) (Fr.bF [(0,.ptr (st.heap.length+2) 0),(1,.int .i64 a),(5,.ptr (st.heap.length+h) 0),(6,.int .i64 (eG best)),(7,.int .i64 (iX l a X best)),(8,.bool false),(9,.int .i64 (goI X ((l.drop a).take (i-a)))),(10,.int .i64 (goI X ((l.drop a).take (br l a i-a)))),(11,.int .i64 i)] [0,1,5,6,7,8,9,10,11]) (pst st G K) =
    some (.normal,[(0,.ptr (st.heap.length+2) 0),(1,.int .i64 a),(5,.ptr (st.heap.length+h) 0),(6,.int .i64 (eG best)),(7,.int .i64 (iX l a X best)),(8,.bool false),(9,.int .i64 (goI X ((l.drop a).take (i-a)))),(10,.int .i64 (goI X ((l.drop a).take (br l a i-a)))),(11,.int .i64 i)]++[(35,.bool true)],pst st G K):=by simp [hr,e0,h0]
   have turn:∀ (best':Option Nat) (ex:Fr) ,(E tab).C (.seq (.region u1 [0,1,5,6,7,8,9,10,11,45]) (.cond (.t 45) (.seq (.region tY [0,1,5,6,7,8,9,10,11,12]) (.seq (.seq (.region tG [0,1,5,6,7,8,9,10,11,12,67]) (.cond (.t 67) (.region pd [0,1,5,6,7,8,9,10,11,12]) .skip)) (.seq (.seq (.region uq [0,1,5,6,7,8,9,10,11,12,85]) (.cond (.t 85) (.seq (.seq (.region uy [0,1,5,8,9,10,11,12,89]) (.cond (.t 89) (.region tN [0,1,5,8,9,10,11,12]) .skip)) (.region u4 [0,1,5,6,7,8,9,10,11,12])) .skip)) (.seq (.region tZ [0,1,5,6,7,8,9,10,11,95]) (.cond (.t 95) (.exit 0) .skip))))) .skip)) ([(0,.ptr (st.heap.length+2) 0),(1,.int .i64 a),(5,.ptr (st.heap.length+h) 0),(6,.int .i64 (eG best)),(7,.int .i64 (iX l a X best)),(8,.bool false),(9,.int .i64 (goI X ((l.drop a).take (i-a)))),(10,.int .i64 (goI X ((l.drop a).take (br l a i-a)))),(11,.int .i64 i)]++[(35,.bool true)]) (pst st G K) =
    some (.normal,[(0,.ptr (st.heap.length+2) 0),(1,.int .i64 a),(5,.ptr (st.heap.length+h) 0),(6,.int .i64 (eG best')),(7,.int .i64 (iX l a X best')),(8,.bool false),(9,.int .i64 (goI X ((l.drop a).take (i-a)))),(10,.int .i64 (goI X ((l.drop a).take (br l a i-a)))),(11,.int .i64 i)]++ex,pst st G K) →
    rC l a X W m (i+1) best'=some (b,w)→∃ fr,(E tab).C jh [(0,.ptr (st.heap.length+2) 0),(1,.int .i64 a),(5,.ptr (st.heap.length+h) 0),(6,.int .i64 (eG best)),(7,.int .i64 (iX l a X best)),(8,.bool false),(9,.int .i64 (goI X ((l.drop a).take (i-a)))),(10,.int .i64 (goI X ((l.drop a).take (br l a i-a)))),(11,.int .i64 i)] (pst st G K) =
    some (.exit 0,[(0,.ptr (st.heap.length+2) 0),(1,.int .i64 a),(5,.ptr (st.heap.length+h) 0),(6,.int .i64 b),(7,.int .i64 (eY l a b X)),(8,.bool w)]++fr,pst st G K):=by
    intro best' ex hA' ho'
    obtain ⟨ex2,hB⟩:=Q9 (K:=K) hv hc hG a X hX i h0 hai (.int .i64 a) (.ptr (st.heap.length+h) 0) (.int .i64 (eG best')) (.int .i64 (iX l a X best')) (.bool false) ex
    obtain ⟨fr,hJ⟩:=ih (i+1) best' (.int .i64 (goI X ((l.drop a).take ((if i<l.length then i+1 else i)-a)))) (.int .i64 (goI X ((l.drop a).take (br l a (if i<l.length then i+1 else i)-a)))) (by omega) (by omega) (fun hle=>by rw [if_pos (by omega)];exact ⟨rfl,rfl⟩) b w ho'
    refine ⟨fr,?_⟩
    rw [aj (L:=jh) rfl,ri,cK,h6]
    simp only
    rw [cK,l9,cK,hA']
    simp only
    rw [hB]
    simp at hJ
    simp [hw1,hJ]
   unfold rC at ho
   by_cases hle:a<i∧ox l i=true
   · rw [if_pos hle] at ho hA
     by_cases hW:W<eY l a i X
     · rw [if_pos hW] at ho hA
       cases best with
       | none=>
         simp only [Option.some.injEq,Prod.mk.injEq] at ho
         obtain ⟨rfl,rfl⟩:=ho
         refine ⟨ex,?_⟩
         rw [aj (L:=jh) rfl,ri,cK,h6]
         simp only
         rw [cK,l9,cK,hA]
         simp
       | some c=>
         simp only [Option.some.injEq,Prod.mk.injEq] at ho
         obtain ⟨rfl,rfl⟩:=ho
         refine ⟨ex,?_⟩
         rw [aj (L:=jh) rfl,ri,cK,h6]
         simp only
         rw [cK,l9,cK,hA]
         simp
     · rw [if_neg hW] at ho hA
       exact turn (some i) ex hA ho
   · rw [if_neg hle] at ho hA
     exact turn best ex hA ho
end
section
variable {st:St} {l:List It} {lv sv ov:DV} {sl:List Sl} {rest:Sl} {G:List HO} {K:List Nat}
def tz (N h:Nat):List aq:=[
 ⟨some 14,.mv (.t 0),none⟩,
 ⟨some 15,.al (.t 14),none⟩,
 ⟨some 16,.fF 1 (.t 15),none⟩,
 ⟨some 17,.load 1 false (.t 16),none⟩,
 ⟨some 18,.mv (.t 0),none⟩,
 ⟨some 19,.al (.t 18),none⟩,
 ⟨some 20,.fF 2 (.t 19),none⟩,
 ⟨some 21,.load 1 false (.t 20),none⟩,
 ⟨some 22,.len .slice (.t 21),none⟩,
 ⟨some 23,.bt (.t 17) [(.t 22)],none⟩,
 ⟨some 5,.got (.ptr (N+h) 0) [],none⟩,
 ⟨none,.store 2 (.t 5) (.t 23),none⟩]
theorem BR (hs:Sls st sl sv) (hG:BrS st.heap.length lv sv ov rest G) {ps:List Pc} (hA:Acc st K 5 (ps.map Pc.dv) ov) (y1:DV) :
 ∃ J,(E tab).C (.au u5 [10] [] [0,1,5]) [(0,.ptr (st.heap.length+2) 0),(1,y1)] (pst st G K) =
   some (.normal,[(0,.ptr (st.heap.length+2) 0),(1,y1),(5,.ptr (st.heap.length+G.length) 0)],pst st (G++.cells .plain (bD sl rest ps.length).cs::J) K):=by
 have hr:=hG.r2
 have hG2:=hG.app [.cells .plain [.int .i64 0,.int .i64 0]]
 have hr2:=hG2.r2
 obtain ⟨t,n',tk,nn,rfl⟩:=dS hA
 have hc:=KK (K:=K) hs hG2 ps.length
 have hV:=dF (T:=tab) 127 [] [.ptr st.heap.length 0,.ptr (st.heap.length+1) 0] [.int .i64 (ps.length:Nat)] (pst st (G++[.cells .plain [.int .i64 0,.int .i64 0]]) K)
 simp only [List.nil_append,List.singleton_append] at hV
 rw [hc] at hV
 have hp:gO [(0,.ptr (st.heap.length+2) 0),(1,y1)] [10] (pst st G K) u5=some (pst st (G++[.cells .plain [.int .i64 0,.int .i64 0]]) K,tz st.heap.length G.length):=by
  simp [gO,C6,E9,bh,rR,iM,mw,tz,hr]
 refine ⟨[.cells .plain (bD sl rest ps.length).cs],?_⟩
 rw [zt hp]
 generalize bD sl rest ps.length=s at *
 simp only [Sl.cs,Sl.dv] at hV
 simp [jH,tz,bh,hr2,hV,Sl.cs]
theorem BrS.auG {N:Nat} (h:BrS N lv sv ov rest G) (ov':DV):BrS N lv sv ov' rest (G.set 2 (.cells .plain [lv,.fn 127 [] [.ptr N 0,.ptr (N+1) 0],ov'])):=by
 have k2:=aZ h.r2
 refine ⟨?_,?_,cP k2 _ _⟩
 · have:=h.r0;unfold rowAt at this ⊢;rw [List.getElem?_set_ne (by omega)];exact this
 · have:=h.r1;unfold rowAt at this ⊢;rw [List.getElem?_set_ne (by omega)];exact this
theorem FN (hs:Sls st sl sv) (hv:Its st l lv) (hc:bA l=0) (hG:BrS st.heap.length lv sv ov rest G) {ps:List Pc} (hA:Acc st K 5 (ps.map Pc.dv) ov) (hps:ps.length≤10000) (a:Nat) (ha:a<l.length)
 (hX:0≤(bD sl rest ps.length).x∧(bD sl rest ps.length).x≤4095) :
 ∃ (b:Nat) (G':List HO) (K':List Nat) (ov':DV),a<b∧b≤l.length∧(eA l a (bD sl rest ps.length)).b=b∧(E tab).F 129 [.ptr (st.heap.length+2) 0,.int .i64 a] (pst st G K)=some (.int .i64 b,pst st G' K')∧BrS st.heap.length lv sv ov' rest G' ∧
   Acc st K' 5 ((ps++[eA l a (bD sl rest ps.length)]).map Pc.dv) ov':=by
 have e0:=fun st'=>cY hv st'
 obtain ⟨hok,hlen⟩:=ix hc
 obtain ⟨J,hH⟩:=BR hs hG hA (.int .i64 a)
 generalize hsl:bD sl rest ps.length=s at *
 obtain ⟨b,w,ho,hab,hbl⟩:=kT l a s.x s.w ha (l.length+1-a) a none (by omega) (fun _=>by omega) (Nat.le_refl _) (fun c e=>by cases e)
 have hpc:eA l a s=⟨a,b,w,hyI l b,eY l a b s.x⟩:=by unfold eA;rw [ho]
 have hG1:=hG.app (.cells .plain s.cs::J)
 have hh:rowAt (G++.cells .plain s.cs::J) G.length=some (.plain,[.int .i64 s.x,.int .i64 s.w]):=by rw [show G.length=G.length+0 from rfl,dn];rfl
 generalize hG1e:G++HO.cells .plain s.cs::J=G1 at *
 obtain ⟨fr,hL⟩:=ag4 (K:=K) hv hc hG1 a ha s.x s.w hX G.length hh (l.length+1-a) a none (.int .i64 s.x) (.int .i64 s.x) (by omega) (Nat.le_refl _) (fun _=>by
  have ht:br l a a=a:=by
   cases a with
   | zero=>rfl
   | succ k=>rw [br,if_neg (by omega)]
  rw [ht];simp [goI]) b w ho
 have hG2:=hG1.app [.cells .plain (Pc.cs ⟨a,b,w,false,eY l a b s.x⟩)]
 have hG3:=hG1.app [.cells .plain (Pc.cs ⟨a,b,w,hyI l b,eY l a b s.x⟩)]
 obtain ⟨ov',K',hap,hA'⟩:=fy (H:=G1++[.cells .plain (Pc.cs ⟨a,b,w,hyI l b,eY l a b s.x⟩)]) (by_:=32) (ag:=true) (tk:=.tight) (t:=st.cur) (ys:=[Pc.dv ⟨a,b,w,hyI l b,eY l a b s.x⟩]) hA (by omega) (by simp) (by simp [anj]) (by simp [aA];omega) (by simp [aA];omega)
 refine ⟨b,(G1++[HO.cells .plain (Pc.cs ⟨a,b,w,hyI l b,eY l a b s.x⟩)]).set 2 (.cells .plain [lv,.fn 127 [] [.ptr st.heap.length 0,.ptr (st.heap.length+1) 0],ov']),K',ov',hab,hbl,by rw [hpc],?_,hG3.auG ov',by rw [hpc];simpa using hA'⟩
 have hr2:=hG2.r2
 have hr3:=hG3.r2
 have k3:=aZ hr3
 have hov:ov'.leaves=[ov']∧ov'.bg=true:=by
  rcases hA' with ⟨_,t,n',tk,rfl⟩ | ⟨k,s,rfl,_⟩<;>exact ⟨rfl,rfl⟩
 have h22:(E tab).C (.region uC [0,6,13]) [(0,.ptr (st.heap.length+2) 0),(6,.int .i64 b),(13,.ptr (st.heap.length+G1.length) 0)] (pst st (G1++[.cells .plain (Pc.cs ⟨a,b,w,false,eY l a b s.x⟩)]) K) =
  some (.normal,[(0,.ptr (st.heap.length+2) 0),(6,.int .i64 b),(13,.ptr (st.heap.length+G1.length) 0)],pst st (G1++[.cells .plain (Pc.cs ⟨a,b,w,hyI l b,eY l a b s.x⟩)]) K):=by
  by_cases hb:b<l.length
  · have hx:l[b]? = some l[b]:=List.getElem?_eq_getElem hb
    have e1:=fun st'=>ew hv hb .i64 st'
    have e2:=fun st'=>gK hv hx (off:=7) (by omega) st'
    have e3:=fun H K=>aoO hv hx H K
    have eh:hyI l b=l[b].y:=by simp [hyI,hx]
    rw [eh]
    generalize l[b]=x at *
    simp only [Pc.cs] at hr2
    simp [hr2,e0,hb,e1,e2,e3,Pc.cs]
  · have eh:hyI l b=false:=by simp [hyI,hb]
    rw [eh]
    simp only [Pc.cs] at hr2
    simp [hr2,e0,hb,Pc.cs]
 have h23:(E tab).C (.au tI [] [] [6]) [(0,.ptr (st.heap.length+2) 0),(6,.int .i64 b),(13,.ptr (st.heap.length+G1.length) 0)] (pst st (G1++[.cells .plain (Pc.cs ⟨a,b,w,hyI l b,eY l a b s.x⟩)]) K) =
  some (.normal,[(6,.int .i64 b)],pst st ((G1++[HO.cells .plain (Pc.cs ⟨a,b,w,hyI l b,eY l a b s.x⟩)]).set 2 (.cells .plain [lv,.fn 127 [] [.ptr st.heap.length 0,.ptr (st.heap.length+1) 0],ov'])) K'):=by
  simp only [Pc.cs,Pc.dv] at hr3 hap k3
  simp [hr3,a0,bk,chunk,Pc.cs,hap,hov.1,hov.2]
 rw [eC ap1 rfl]
 have h0:(E tab).C (.region zf [0,1]) (bz [.ptr (st.heap.length+2) 0,.int .i64 a] 0) (pst st G K)=some (.normal,[(0,.ptr (st.heap.length+2) 0),(1,.int .i64 a)],pst st G K):=by simp
 have hmid:(E tab).C (.seq (.region yp [0,1,5,6,7,8]) (.seq (.region yg [0,1,5,6,7,8,9]) (.seq (.region zu [0,1,5,6,7,8,9,10]) (.seq (.region zG [0,1,5,6,7,8,9,10,11]) (.block 0 jh))))) [(0,.ptr (st.heap.length+2) 0),(1,.int .i64 a),(5,.ptr (st.heap.length+G.length) 0)] (pst st G1 K) =
  some (.normal,[(0,.ptr (st.heap.length+2) 0),(1,.int .i64 a),(5,.ptr (st.heap.length+G.length) 0),(6,.int .i64 b),(7,.int .i64 (eY l a b s.x)),(8,.bool w)]++fr,pst st G1 K):=by
  have e1:(-1:Int)=Int.negSucc 0:=rfl
  simp [eG,iX] at hL
  simp [hh,hL]
 have h21:(E tab).C (.region vq [0,6,13]) ([(0,.ptr (st.heap.length+2) 0),(1,.int .i64 a),(5,.ptr (st.heap.length+G.length) 0),(6,.int .i64 b),(7,.int .i64 (eY l a b s.x)),(8,.bool w)]++fr) (pst st G1 K) =
  some (.normal,[(0,.ptr (st.heap.length+2) 0),(6,.int .i64 b),(13,.ptr (st.heap.length+G1.length) 0)],pst st (G1++[.cells .plain (Pc.cs ⟨a,b,w,false,eY l a b s.x⟩)]) K):=by
  simp [Pc.cs]
 rw [show f129.body=(.seq (.region zf [0,1]) (.seq (.au u5 [10] [] [0,1,5]) (.seq (.region yp [0,1,5,6,7,8]) (.seq (.region yg [0,1,5,6,7,8,9]) (.seq (.region zu [0,1,5,6,7,8,9,10]) (.seq (.seq (.region zG [0,1,5,6,7,8,9,10,11]) (.block 0 jh)) (.seq (.region vq [0,6,13]) (.seq (.region uC [0,6,13]) (.seq (.au tI [] [] [6]) (.seq (.region AU [4]) .ret)))))))))) from rfl,cK,h0]
 simp only
 rw [cK,hH]
 simp only
 obtain ⟨fu1,S1,m1,m2⟩:=nA hmid
 obtain ⟨fu2,S2,m3,m4⟩:=nA m2
 obtain ⟨fu3,S3,m5,m6⟩:=nA m4
 rw [cK,m1]
 simp only
 rw [cK,m3]
 simp only
 rw [cK,m5]
 simp only
 rw [cK,m6]
 simp only
 rw [cK,h21]
 simp only
 rw [cK,h22]
 simp only
 rw [cK,h23]
 simp [f129]
end
theorem iR (l:List It):∀ f i,i≤l.length→i≤cd l f i∧cd l f i≤l.length
 | 0,i,h=>⟨Nat.le_refl _,h⟩
 | f+1,i,h=>by
   unfold cd
   split
   · rename_i x hx
     have hi:=(List.getElem?_eq_some_iff.1 hx).1
     split
     · have:=iR l f (i+1) hi;omega
     · exact ⟨Nat.le_refl _,h⟩
   · exact ⟨Nat.le_refl _,h⟩
theorem sL (l:List It) (i:Nat) (h:i≤l.length):i≤dm l i∧dm l i≤l.length:=by
 unfold dm
 cases hx:l[i]? with
 | none=>exact iR l _ _ h
 | some x=>
   have hi:=(List.getElem?_eq_some_iff.1 hx).1
   simp only
   split
   · have:=iR l l.length (i+1) hi;omega
   · exact iR l _ _ h
def jI (l:List It) (sl:List Sl) (rest:Sl):Nat→Nat→Nat→List Pc
 | 0,_,_=>[]
 | f+1,a,n=>if a<l.length then eA l a (bD sl rest n)::jI l sl rest f (dm l (eA l a (bD sl rest n)).b.toNat) (n+1) else []
def Uh (sl:List Sl) (rest:Sl):Prop:=∀ n:Nat,0≤(bD sl rest n).x∧(bD sl rest n).x≤4095∧0≤(bD sl rest n).w∧(bD sl rest n).w≤4095
theorem l7 {sl:List Sl} {rest:Sl} (h:cB sl rest=0):Uh sl rest∧sl.length≤256:=by
 unfold cB at h
 split at h
 · omega
 · split at h
   · rename_i h1 h2
     simp only [Bool.and_eq_true,List.all_eq_true] at h2
     refine ⟨fun n => ?_,by omega⟩
     have hm:j7 (bD sl rest n)=true:=by
      unfold bD qz
      rw [if_neg (by omega)]
      cases hx:sl[((n:Nat):Int).toNat]? with
      | none=>exact h2.2
      | some s=>exact h2.1 s (List.mem_of_getElem? hx)
     simp [j7,bp] at hm
     omega
   · omega
section
variable {st:St} {l:List It} {lv sv ov:DV} {sl:List Sl} {rest:Sl} {G:List HO} {K:List Nat}
theorem QE (hs:Sls st sl sv) (hv:Its st l lv) (hc:bA l=0) (hso:Uh sl rest):∀ (f a:Nat) (ps:List Pc) (ov:DV) (G:List HO) (K:List Nat),l.length≤a+f→a≤l.length→ps.length≤a→BrS st.heap.length lv sv ov rest G→Acc st K 5 (ps.map Pc.dv) ov →
 ∃ G' K' ov' fr,(E tab).C p7 [(1,.int .i64 l.length),(2,.fn 129 [.ptr (st.heap.length+2) 0] []),(3,.fn 130 [.ptr (st.heap.length+2) 0] []),(8,.int .i64 a)] (pst st G K)=some (.exit 0,fr,pst st G' K') ∧
   BrS st.heap.length lv sv ov' rest G'∧Acc st K' 5 ((ps++jI l sl rest f a ps.length).map Pc.dv) ov':=by
 obtain ⟨hok,hlen⟩:=ix hc
 intro f
 induction f with
 | zero=>
   intro a ps ov G K h1 h2 h3 hG hA
   refine ⟨G,K,ov,[(1,.int .i64 l.length),(2,.fn 129 [.ptr (st.heap.length+2) 0] []),(3,.fn 130 [.ptr (st.heap.length+2) 0] []),(8,.int .i64 a),(12,.bool false)],?_,hG,by simpa [jI] using hA⟩
   have h0:¬ a<l.length:=by omega
   rw [aj (L:=p7) rfl]
   simp [uP,h0]
 | succ f ih=>
   intro a ps ov G K h1 h2 h3 hG hA
   by_cases h0:a<l.length
   · have hX:=hso ps.length
     obtain ⟨b,G1,K1,ov1,hab,hbl,hpb,hF,hG1,hA1⟩:=FN hs hv hc hG hA (by omega) a h0 ⟨hX.1,hX.2.1⟩
     have hS:=CU (K:=K1) hv (by omega) hG1 b hbl
     have hbe:=sL l b hbl
     obtain ⟨G2,K2,ov2,fr,hJ,hG2,hA2⟩:=ih (dm l b) (ps++[eA l a (bD sl rest ps.length)]) ov1 G1 K1 (by omega) hbe.2 (by simp;omega) hG1 hA1
     refine ⟨G2,K2,ov2,fr,?_,hG2,?_⟩
     · have hV1:=dF (T:=tab) 129 [.ptr (st.heap.length+2) 0] [] [.int .i64 (a:Nat)] (pst st G K)
       have hV2:=dF (T:=tab) 130 [.ptr (st.heap.length+2) 0] [] [.int .i64 (b:Nat)] (pst st G1 K1)
       simp only [List.singleton_append,List.append_nil] at hV1 hV2
       rw [hF] at hV1
       rw [hS] at hV2
       rw [aj (L:=p7) rfl]
       simp [uP,h0,hV1,hV2,hJ]
     · rw [jI,if_pos h0,hpb,Int.toNat_natCast]
       simpa using hA2
   · refine ⟨G,K,ov,[(1,.int .i64 l.length),(2,.fn 129 [.ptr (st.heap.length+2) 0] []),(3,.fn 130 [.ptr (st.heap.length+2) 0] []),(8,.int .i64 a),(12,.bool false)],?_,hG,by simpa [jI,h0] using hA⟩
     rw [aj (L:=p7) rfl]
     simp [uP,h0]
theorem Vh (hv:Its st l lv) (hl:l.length≤140737488355328) (y10:DV) (H:List HO) (K:List Nat):∀ (f i:Nat),l.length≤i+f→i≤l.length →
 ∃ fr,(E tab).C n4 [(0,lv),(10,y10),(11,.int .i64 i)] (pst st H K)=some (.exit 0,[(0,lv),(10,y10),(11,.int .i64 (cd l f i:Nat))]++fr,pst st H K):=by
 have e0:=fun st'=>cY hv st'
 intro f
 induction f with
 | zero=>
   intro i h1 h2
   obtain rfl:i=l.length:=by omega
   refine ⟨[(38,.bool false)],?_⟩
   rw [aj (L:=n4) rfl]
   simp [pO,e0,cd]
 | succ f ih=>
   intro i h1 h2
   by_cases h0:i<l.length
   · have hx:l[i]? = some l[i]:=List.getElem?_eq_getElem h0
     have e1:=fun st'=>ew hv h0 .i64 st'
     have e2:=fun st'=>gK hv hx (off:=0) (by omega) st'
     have e3:=fun H K=>ln hv hx H K
     have hw1:IntKind.i64.wrap ((i:Int)+1)=(i+1:Nat):=by rw [aD (by omega)];simp
     by_cases hk:l[i].k=2
     · have eg:cd l (f+1) i=cd l f (i+1):=by simp [cd,hx,hk]
       obtain ⟨fr,hJ⟩:=ih (i+1) (by omega) (by omega)
       rw [eg]
       refine ⟨fr,?_⟩
       simp at hJ
       rw [aj (L:=n4) rfl]
       simp [pO,e0,h0,e1,e2,e3,hk,hw1,hJ]
     · have eg:cd l (f+1) i=i:=by simp [cd,hx,hk]
       rw [eg]
       refine ⟨[(38,.bool false)],?_⟩
       rw [aj (L:=n4) rfl]
       simp [pO,e0,h0,e1,e2,e3,hk]
   · have eg:cd l (f+1) i=i:=by simp [cd,h0]
     rw [eg]
     refine ⟨[(38,.bool false)],?_⟩
     rw [aj (L:=n4) rfl]
     simp [pO,e0,h0]
def fP (l:List It) (sl:List Sl) (rest:Sl):Int:=if bA l≠0 then bA l else cB sl rest
def jK (l:List It) (sl:List Sl) (rest:Sl):List Pc:=
 if fP l sl rest≠0 then [] else if cd l l.length 0=l.length then [⟨l.length,l.length,false,false,0⟩] else jI l sl rest l.length (cd l l.length 0) 0
theorem CX (hs:Sls st sl sv) (hv:Its st l lv):∃ v,(E tab).F 113 [lv,sv,rest.dv] st=some (.tuple [v,.int .i64 (fP l sl rest)],st)∧Lw 5 ((jK l sl rest).map Pc.dv) v:=by
 rw [aT amH rfl]
 have e0:=fun st'=>cY hv st'
 have c1:=xg (hv.inn [.cells .plain [sv],.cells .plain rest.cs] [])
 have c2:=xO (rest:=rest) (hs.inn [.cells .plain [sv],.cells .plain rest.cs] [])
 have hsv:sv.leaves=[sv]∧sv.bg=true:=by cases hs<;>exact ⟨rfl,rfl⟩
 have hlv:lv.leaves=[lv]∧lv.bg=true:=by cases hv<;>exact ⟨rfl,rfl⟩
 unfold jK
 by_cases hc:bA l=0
 · have hE:fP l sl rest=cB sl rest:=by simp [fP,hc]
   rw [hE]
   by_cases hd:cB sl rest=0
   · obtain ⟨hok,hlen⟩:=ix hc
     obtain ⟨hso,_⟩:=l7 hd
     have hG:BrS st.heap.length lv sv (.list 0 0 .no false []) rest [.cells .plain [sv],.cells .plain rest.cs,.cells .plain [lv,.fn 127 [] [.ptr st.heap.length 0,.ptr (st.heap.length+1) 0],.list 0 0 .no false []]]:=⟨rfl,rfl,rfl⟩
     obtain ⟨fr,hL0⟩:=Vh hv (by omega) (.ptr (st.heap.length+2) 0) [.cells .plain [sv],.cells .plain rest.cs,.cells .plain [lv,.fn 127 [] [.ptr st.heap.length 0,.ptr (st.heap.length+1) 0],.list 0 0 .no false []]] [] l.length 0 (by omega) (by omega)
     have hg:=iR l l.length 0 (by omega)
     simp only [hd,ne_eq,not_true_eq_false,if_false]
     generalize cd l l.length 0=g at *
     by_cases hgl:g=l.length
     · simp only [hgl,if_true]
       rw [hgl] at hL0
       refine ⟨.list st.cur 5 .tight true [Pc.dv ⟨l.length,l.length,false,false,0⟩],?_,.list _ _ _ _ (fun _=>rfl) (fun e=>by cases e)⟩
       simp only [Sl.cs,Sl.dv] at c1 c2 hL0
       simp at hL0
       simp [f113,Sl.cs,Sl.dv,hsv.1,hsv.2,hlv.1,hlv.2,c1,c2,hc,hd,hL0,e0,a0,bk,chunk,Pc.dv,Pc.cs]
     · simp only [hgl,if_false]
       obtain ⟨G',K',ov',fr2,hL,hG',hA'⟩:=QE hs hv hc hso l.length g [] (.list 0 0 .no false []) _ [] (by omega) (by omega) (by simp) hG (dW st [] 5 0 0 .no)
       obtain ⟨t,n',tk,nn,hx,hx1,hx2,_⟩:=qC (st':=pst st G' K') hA'
       have hF:(E tab).F 128 [.int .i64 g,.int .i64 l.length,.fn 129 [.ptr (st.heap.length+2) 0] [],.fn 130 [.ptr (st.heap.length+2) 0] []] (pst st [.cells .plain [sv],.cells .plain rest.cs,.cells .plain [lv,.fn 127 [] [.ptr st.heap.length 0,.ptr (st.heap.length+1) 0],.list 0 0 .no false []]] [])=some (.tuple [],pst st G' K'):=by
        rw [eC asf rfl]
        simp [f128,hL]
       have hr2:=hG'.r2
       have hgl':¬ (g:Int)=l.length:=by omega
       refine ⟨.list t n' tk nn ((jI l sl rest l.length g 0).map Pc.dv),?_,.list _ _ _ _ (fun h=>hx2 h) (fun h=>hx1 h)⟩
       simp only [Sl.cs,Sl.dv] at c1 c2 hL0 hF
       simp at hL0 hx
       have hxA:bV st (pst st G' K') ov'=a9 st (pst st G' K') ov':=by
        rcases hA' with ⟨_,t,n',tk,rfl⟩ | ⟨k,s,rfl,_⟩<;>rfl
       simp [f113,Sl.cs,Sl.dv,hsv.1,hsv.2,hlv.1,hlv.2,c1,c2,hc,hd,hL0,e0,hgl,hgl',hF,hr2,hxA,hx]
   · simp only [ne_eq,hd,not_false_eq_true,if_true]
     refine ⟨.list 0 0 .no false [],?_,.list _ _ _ _ (fun e=>by cases e) (fun _=>rfl)⟩
     simp only [Sl.cs,Sl.dv] at c1 c2
     simp [f113,Sl.cs,Sl.dv,hsv.1,hsv.2,c1,c2,hc,hd]
 · have hE:fP l sl rest=bA l:=by simp [fP,hc]
   rw [hE]
   simp only [ne_eq,hc,not_false_eq_true,if_true]
   refine ⟨.list 0 0 .no false [],?_,.list _ _ _ _ (fun e=>by cases e) (fun _=>rfl)⟩
   simp only [Sl.cs,Sl.dv] at c1
   simp [f113,Sl.cs,Sl.dv,hsv.1,hsv.2,c1,hc]
end
section
variable {st:St} {l:List Sl} {v:DV}
end
section
variable {st:St} {l:List Sl} {v:DV} {H:List HO} {K:List Nat}
end
end Go.D.Tab
end
section
set_option linter.unusedSimpArgs false
set_option linter.unusedVariables false
set_option linter.unnecessarySimpa false
namespace Go.D.Tab
theorem Eh:tab 307=some (.code xu):=by kernel_rfl
theorem aqV:tab 319=some (.code Ci):=by kernel_rfl
theorem alW:tab 320=some (.code Dg):=by kernel_rfl
theorem alD:tab 321=some (.code B8):=by kernel_rfl
theorem anf:tab 330=some (.code Fa):=by kernel_rfl
theorem amD:tab 331=some (.code C7):=by kernel_rfl
theorem anM:tab 343=some (.code Dw):=by kernel_rfl
theorem asw:tab 344=some (.code BP):=by kernel_rfl
theorem ash:tab 345=some (.code CH):=by kernel_rfl
theorem amL:tab 346=some (.code Cz):=by kernel_rfl
theorem amv (k:IntKind) (x y:Int):dw lq [.int k x,.int k y]=some (.int k (max x y)):=by
 have:(if y>x then y else x)=max x y:=by split<;>omega
 simp [dw,lq,this]
theorem amT (k:IntKind) (x y:Int):dw jb [.int k x,.int k y]=some (.int k (min x y)):=by
 have:(if y<x then y else x)=min x y:=by split<;>omega
 simp [dw,jb,this]
def kl (p:bq):Int:=if p.label=[] then 0 else tw p.pr.size 0 p.label+4
def cA (p:bq):Nat→Int→Int
 | 0,_=>p.pr.inn
 | 1,n=>if 0<n then 0 else p.pr.first+kl p
 | _,n=>if p.pr.drop≤n then 0 else o5 p
def xN (p:bq) (n:Int):Int:=cA p 0 n+cA p 1 n+cA p 2 n
def iC (p:bq) (s:Sl) (n:Int):Sl:=⟨min (s.x+xN p n) 4095,max (s.w-xN p n-p.pr.out) 0⟩
section
variable {st:St} {p:bq} {w u:LW}
theorem tC {n:Int} (hn:1≤n∧n≤64):∀ (l:List UInt8) (a:Int),0≤a→a+64*l.length≤1000000→a≤tw n a l∧tw n a l≤a+64*l.length
 | [],a,_,_=>by simp [tw]
 | c::r,a,h,h2=>by
   have hb:=qh c hn.1 hn.2
   simp only [List.length_cons] at h2 ⊢
   simp only [tw]
   rw [aD (by omega)]
   have:=tC hn r (a+wd c n) (by omega) (by omega)
   omega
theorem sS (h0:aI p=0):p.label.length≤16:=by
 have h:=(di h0).2.2.2.2.1
 unfold dU at h
 simp only [Bool.and_eq_true,decide_eq_true_eq] at h
 omega
theorem xl (h0:aI p=0):0≤kl p∧kl p≤1028:=by
 have hl:=sS h0
 have hc:=dD h0
 have ht:=tC ⟨hc.1,hc.2.1⟩ p.label 0 (by omega) (by omega)
 unfold kl
 split<;>omega
theorem Dk (h0:aI p=0):(E tab).F 345 [.agg (av p w u)] st=some (.int .i64 (kl p),st):=by
 rw [aT ash rfl]
 have hc:=dD h0
 have hw:=fun st=>tP p.label p.pr.size st
 unfold kl
 by_cases h:p.label=[]
 · simp [CH,h]
 · have hl:=sS h0
   have h2:¬ 4096<p.label.length:=by omega
   have ht:=tC ⟨hc.1,hc.2.1⟩ p.label 0 (by omega) (by omega)
   have w1:IntKind.i64.wrap (tw p.pr.size 0 p.label+4)=tw p.pr.size 0 p.label+4:=aD (by omega)
   unfold fq at hw
   rw [if_pos ⟨hc.1,hc.2.1⟩,if_neg h2] at hw
   simp [CH,h,hw,w1]
def prH (p:bq) (w u:LW) (N:Nat):List HO:=[.cells .plain (av p w u),.cells .plain [.int .i64 (o5 p)],.cells .plain [.fn 343 [] [.ptr N 0],.fn 344 [] [.ptr N 0],.fn 346 [] [.ptr N 0,.ptr (N+1) 0]]]
theorem E1 (h0:aI p=0) (hp:p.small) (hw:w.ok 4 p.aV) (hu:u.ok 1 p.marks) (H:List HO) (K:List Nat):(E tab).F 330 [.agg (av p w u)] (pst st H K)=some (.hsl 1 false (st.heap.length+(H.length+2)) 0 3 (some 3),pst st (H++prH p w u (st.heap.length+H.length)) K):=by
 rw [eC anf rfl]
 have hd:=fun st=>Jj (st:=st) hp hw hu
 rw [h0] at hd
 simp [Fa,hd,kL,bk,chunk,prH,Nat.add_assoc]
structure tM (st:St) (p:bq) (w u:LW) (H:List HO) (k:Nat):Prop where
 r0:rowAt H k=some (.plain,av p w u)
 r1:rowAt H (k+1)=some (.plain,[.int .i64 (o5 p)])
 r2:rowAt H (k+2)=some (.plain,[.fn 343 [] [.ptr (st.heap.length+k) 0],.fn 344 [] [.ptr (st.heap.length+k) 0],.fn 346 [] [.ptr (st.heap.length+k) 0,.ptr (st.heap.length+(k+1)) 0]])
theorem tM.add {H:List HO} {k:Nat} (h:tM st p w u H k) (X:List HO):tM st p w u (H++X) k:=⟨b5 h.r0 X,b5 h.r1 X,b5 h.r2 X⟩
theorem jq (h0:aI p=0):0≤p.pr.first∧p.pr.first≤255∧0≤p.pr.inn∧p.pr.inn≤255∧0≤p.pr.out∧p.pr.out≤255:=by
 have h:=(di h0).2.2.2.1
 simp only [cH,fb,Bool.and_eq_true,decide_eq_true_eq] at h
 omega
theorem NM {H:List HO} {K:List Nat} {k:Nat} (hk:tM st p w u H k) (n:Int):(E tab).F 343 [.int .i64 n,.ptr (st.heap.length+k) 0] (pst st H K)=some (.int .i64 (cA p 0 n),pst st H K):=by
 rw [eC anM rfl]
 have r0:=hk.r0
 have e:(av p w u)[6]? = some (.int .i64 p.pr.inn):=rfl
 simp [Dw,r0,e,cA]
theorem Kr (h0:aI p=0) {H:List HO} {K:List Nat} {k:Nat} (hk:tM st p w u H k) (n:Int):(E tab).F 344 [.int .i64 n,.ptr (st.heap.length+k) 0] (pst st H K)=some (.int .i64 (cA p 1 n),pst st H K):=by
 rw [eC asw rfl]
 have r0:=hk.r0
 have hl:=xl h0
 have hm:=jq h0
 have h3:=fun st=>Dk (st:=st) (w:=w) (u:=u) h0
 have e:(av p w u)[5]? = some (.int .i64 p.pr.first):=rfl
 have w1:IntKind.i64.wrap (p.pr.first+kl p)=p.pr.first+kl p:=aD (by omega)
 by_cases hn:0<n
 · simp [BP,hn,cA]
 · simp [BP,hn,cA,eB,jH,lD,lO,bh,r0,e,h3,w1]
theorem Ld {H:List HO} {K:List Nat} {k:Nat} (hk:tM st p w u H k) (n:Int):(E tab).F 346 [.int .i64 n,.ptr (st.heap.length+k) 0,.ptr (st.heap.length+(k+1)) 0] (pst st H K)=some (.int .i64 (cA p 2 n),pst st H K):=by
 rw [eC amL rfl]
 have r0:=hk.r0
 have r1:=hk.r1
 have e:(av p w u)[16]? = some (.int .i64 p.pr.drop):=rfl
 by_cases hn:p.pr.drop≤n
 · simp [Cz,hn,cA,r0,e]
 · simp [Cz,hn,cA,r0,r1,e]
theorem Aj (h0:aI p=0) (n:Int):0≤cA p 0 n∧cA p 0 n≤255∧0≤cA p 1 n∧cA p 1 n≤1283∧0≤cA p 2 n∧cA p 2 n≤68:=by
 have hl:=xl h0
 have hm:=jq h0
 have hc:=Mo p
 simp only [cA]
 refine ⟨by omega,by omega,?_,?_,?_,?_⟩<;>split<;>omega
theorem wx (h0:aI p=0) {H:List HO} {K:List Nat} {k:Nat} (hk:tM st p w u H k) (s:Sl) (hs:0≤s.x∧s.x≤4095∧0≤s.w∧s.w≤4095) (n:Int):∃ J,(E tab).F 331 [.agg (av p w u),.hsl 1 false (st.heap.length+(k+2)) 0 3 (some 3),s.dv,.int .i64 n] (pst st H K)=some ((iC p s n).dv,pst st (H++J) K):=by
 have hpl:=Aj h0 n
 have hm:=jq h0
 have hk2:=hk.add [.cells .plain (av p w u),.cells .plain s.cs,.cells .plain [.int .i64 0,.int .i64 0]]
 have h1:=NM (K:=K) hk2 n
 have h2:=Kr (K:=K) h0 hk2 n
 have h3:=Ld (K:=K) hk2 n
 have r2:=hk2.r2
 have e:(av p w u)[7]? = some (.int .i64 p.pr.out):=rfl
 refine ⟨[.cells .plain (av p w u),.cells .plain s.cs,.cells .plain (iC p s n).cs],?_⟩
 rw [eC amD rfl]
 unfold iC xN
 generalize cA p 0 n=A at *
 generalize cA p 1 n=B at *
 generalize cA p 2 n=C at *
 have w0:IntKind.i64.wrap A=A:=aD (by omega)
 have w1:IntKind.i64.wrap (A+B)=A+B:=aD (by omega)
 have w2:IntKind.i64.wrap (A+B+C)=A+B+C:=aD (by omega)
 have w3:IntKind.i64.wrap (s.x+(A+B+C))=s.x+(A+B+C):=aD (by omega)
 have w4:IntKind.i64.wrap (s.w-(A+B+C))=s.w-(A+B+C):=aD (by omega)
 have w5:IntKind.i64.wrap (s.w-(A+B+C)-p.pr.out)=s.w-(A+B+C)-p.pr.out:=aD (by omega)
 simp only [Sl.cs] at h1 h2 h3 r2
 generalize hS:pst st (H++[.cells .plain (av p w u),.cells .plain [.int .i64 s.x,.int .i64 s.w],.cells .plain [.int .i64 0,.int .i64 0]]) K=S at h1 h2 h3
 have hld:∀ i (v:DV),[DV.fn 343 [] [.ptr (st.heap.length+k) 0],.fn 344 [] [.ptr (st.heap.length+k) 0],.fn 346 [] [.ptr (st.heap.length+k) 0,.ptr (st.heap.length+(k+1)) 0]][i]? = some v→cE S 1 false (.ptr (st.heap.length+(k+2)) i)=some v:=by
  intro i v hv
  subst hS
  simp [r2,hv]
 have l0:=hld 0 _ rfl
 have l1:=hld 1 _ rfl
 have l2:=hld 2 _ rfl
 have t3:(E tab).C jA [(3,.int .i64 n),(4,.ptr (st.heap.length+H.length) 0),(6,.ptr (st.heap.length+(H.length+1)) 0),(8,.ptr (st.heap.length+(H.length+2)) 0),(9,.int .i64 (A+B+C)),(12,.hsl 1 false (st.heap.length+(k+2)) 0 3 (some 3)),(13,.int .i64 3),(14,.int .i64 3)] S=some (.exit 0,[(3,.int .i64 n),(4,.ptr (st.heap.length+H.length) 0),(6,.ptr (st.heap.length+(H.length+1)) 0),(8,.ptr (st.heap.length+(H.length+2)) 0),(9,.int .i64 (A+B+C)),(12,.hsl 1 false (st.heap.length+(k+2)) 0 3 (some 3)),(13,.int .i64 3),(14,.int .i64 3),(15,.bool false)],S):=by
  rw [aj (L:=jA) rfl]
  simp [pH]
 have t2:(E tab).C jA [(3,.int .i64 n),(4,.ptr (st.heap.length+H.length) 0),(6,.ptr (st.heap.length+(H.length+1)) 0),(8,.ptr (st.heap.length+(H.length+2)) 0),(9,.int .i64 (A+B)),(12,.hsl 1 false (st.heap.length+(k+2)) 0 3 (some 3)),(13,.int .i64 3),(14,.int .i64 2)] S=some (.exit 0,[(3,.int .i64 n),(4,.ptr (st.heap.length+H.length) 0),(6,.ptr (st.heap.length+(H.length+1)) 0),(8,.ptr (st.heap.length+(H.length+2)) 0),(9,.int .i64 (A+B+C)),(12,.hsl 1 false (st.heap.length+(k+2)) 0 3 (some 3)),(13,.int .i64 3),(14,.int .i64 3),(15,.bool false)],S):=by
  rw [aj (L:=jA) rfl]
  simp [pH,dF,l2,h3,w2,show IntKind.i64.wrap 3=3 by decide,t3]
 have t1:(E tab).C jA [(3,.int .i64 n),(4,.ptr (st.heap.length+H.length) 0),(6,.ptr (st.heap.length+(H.length+1)) 0),(8,.ptr (st.heap.length+(H.length+2)) 0),(9,.int .i64 A),(12,.hsl 1 false (st.heap.length+(k+2)) 0 3 (some 3)),(13,.int .i64 3),(14,.int .i64 1)] S=some (.exit 0,[(3,.int .i64 n),(4,.ptr (st.heap.length+H.length) 0),(6,.ptr (st.heap.length+(H.length+1)) 0),(8,.ptr (st.heap.length+(H.length+2)) 0),(9,.int .i64 (A+B+C)),(12,.hsl 1 false (st.heap.length+(k+2)) 0 3 (some 3)),(13,.int .i64 3),(14,.int .i64 3),(15,.bool false)],S):=by
  rw [aj (L:=jA) rfl]
  simp [pH,dF,l1,h2,w1,show IntKind.i64.wrap 2=2 by decide,t2]
 have t0:(E tab).C jA [(3,.int .i64 n),(4,.ptr (st.heap.length+H.length) 0),(6,.ptr (st.heap.length+(H.length+1)) 0),(8,.ptr (st.heap.length+(H.length+2)) 0),(9,.int .i64 0),(12,.hsl 1 false (st.heap.length+(k+2)) 0 3 (some 3)),(13,.int .i64 3),(14,.int .i64 0)] S=some (.exit 0,[(3,.int .i64 n),(4,.ptr (st.heap.length+H.length) 0),(6,.ptr (st.heap.length+(H.length+1)) 0),(8,.ptr (st.heap.length+(H.length+2)) 0),(9,.int .i64 (A+B+C)),(12,.hsl 1 false (st.heap.length+(k+2)) 0 3 (some 3)),(13,.int .i64 3),(14,.int .i64 3),(15,.bool false)],S):=by
  rw [aj (L:=jA) rfl]
  simp [pH,dF,l0,h1,w0,show IntKind.i64.wrap 1=1 by decide,t1]
 subst hS
 simp [C7,Sl.dv,Sl.cs,t0,w3,w4,w5,e,amv,amT]
end
theorem as3 (k:IntKind) (x y z:Int):dw lq [.int k x,.int k y,.int k z]=some (.int k (max (max x y) z)):=by
 have h1:(if y>x then y else x)=max x y:=by split<;>omega
 have h2:(if z>max x y then z else max x y)=max (max x y) z:=by split<;>omega
 simp [dw,lq,h1,h2]
def manyN (p:bq) (sl:List Sl):Nat:=(max (max (sl.length:Int) 1) p.pr.drop).toNat
def inF (p:bq) (sl:List Sl) (rest:Sl) (n:Nat):Sl:=iC p (bD sl rest n) n
def inL (p:bq) (sl:List Sl) (rest:Sl):List Sl:=(List.range (manyN p sl)).map (inF p sl rest)
def lZ (p:bq) (sl:List Sl) (rest:Sl):Sl:=iC p rest (manyN p sl)
section
variable {st:St} {p:bq} {w u:LW} {sl:List Sl} {sv:DV} {rest:Sl}
theorem pg (h0:aI p=0) (hl:sl.length≤256):1≤manyN p sl∧manyN p sl≤256∧((manyN p sl:Nat):Int)=max (max (sl.length:Int) 1) p.pr.drop:=by
 have hc:=dD h0
 unfold manyN
 omega
theorem abL (h0:aI p=0) (hs:Sls st sl sv) (hso:Uh sl rest) (hl:sl.length≤256) (x2:HO):∀ (k i:Nat) (J:List HO) (K:List Nat) (ov:DV),i+k=manyN p sl →
 tM st p w u (.cells .plain (av p w u)::.cells .plain rest.cs::x2::J) 3 →
 Acc st K 2 (((List.range i).map (inF p sl rest)).map Sl.dv) ov→∃ ov' K' J' fr,
 (E tab).C uA [(1,sv),(3,.ptr st.heap.length 0),(5,.ptr (st.heap.length+1) 0),(7,.ptr (st.heap.length+2) 0),(8,.hsl 1 false (st.heap.length+5) 0 3 (some 3)),(9,.int .i64 (manyN p sl)),(10,ov),(20,.int .i64 (manyN p sl)),(21,.int .i64 i)] (pst st (.cells .plain (av p w u)::.cells .plain rest.cs::x2::J) K) =
  some (.exit 0,(1,sv)::(3,.ptr st.heap.length 0)::(5,.ptr (st.heap.length+1) 0)::(7,.ptr (st.heap.length+2) 0)::(8,.hsl 1 false (st.heap.length+5) 0 3 (some 3))::(9,.int .i64 (manyN p sl))::(10,ov')::fr,pst st (.cells .plain (av p w u)::.cells .plain rest.cs::x2::(J++J')) K') ∧
  Acc st K' 2 ((inL p sl rest).map Sl.dv) ov':=by
 have hm:=pg (p:=p) h0 hl
 intro k
 induction k with
 | zero=>
   intro i J K ov hi hk hA
   obtain rfl:i=manyN p sl:=by omega
   refine ⟨ov,K,[],[(20,.int .i64 (manyN p sl)),(21,.int .i64 (manyN p sl)),(22,.bool false)],?_,hA⟩
   rw [aj (L:=uA) rfl]
   simp [zB]
 | succ k ih=>
   intro i J K ov hi hk hA
   have his:(i:Int)<manyN p sl:=by omega
   have his':i<manyN p sl:=by omega
   have hw:IntKind.i64.wrap ((i:Int)+1)=((i+1:Nat):Int):=by rw [aD (by omega)];simp
   have hrange:(List.range (i+1)).map (inF p sl rest)=(List.range i).map (inF p sl rest)++[inF p sl rest i]:=by rw [List.range_succ];simp
   have h114:=ue (rest:=rest) (hs.inn (.cells .plain (av p w u)::.cells .plain rest.cs::x2::J) K) i
   obtain ⟨J1,h331⟩:=wx (K:=K) h0 hk (bD sl rest i) (hso i) i
   have hk2:=hk.add J1
   obtain ⟨ov2,K2,hap,hA2⟩:=fy (H:=.cells .plain (av p w u)::.cells .plain rest.cs::x2::(J++J1)) (by_:=16) (ag:=true) (tk:=.tight) (t:=st.cur) (ys:=[(inF p sl rest i).dv]) hA (by omega) (by simp) (by simp [wq]) (by simp [aA];omega) (by simp [aA];omega)
   obtain ⟨ov',K',J',fr,hJ,hR⟩:=ih (i+1) (J++J1) K2 ov2 (by omega) hk2 (by rw [hrange];simpa using hA2)
   refine ⟨ov',K',J1++J',fr,?_,hR⟩
   rw [aj (L:=uA) rfl]
   rw [show iC p (bD sl rest i) i=inF p sl rest i from rfl] at h331
   generalize inF p sl rest i=g at *
   generalize bD sl rest i=s at *
   simp only [Sl.cs,Sl.dv] at h114 h331 hap hJ ⊢
   simp at h331 hap hJ
   simp [zB,his,eB,jH,lD,lO,bh,h114,h331,a0,bk,chunk,hap,hw,hJ]
theorem BF (h0:aI p=0) (hp:p.small) (hw:w.ok 4 p.aV) (hu:u.ok 1 p.marks) (hs:Sls st sl sv) (hc:cB sl rest=0) :
 ∃ v,(E tab).F 320 [.agg (av p w u),sv,rest.dv] st=some (.tuple [v,(lZ p sl rest).dv],st)∧Lw 2 ((inL p sl rest).map Sl.dv) v:=by
 rw [aT alW rfl]
 obtain ⟨hso,hl⟩:=l7 hc
 have hm:=pg (p:=p) h0 hl
 have hcp:=dD h0
 have e0:=fun st'=>Vw.len hs st'
 simp only [List.length_map] at e0
 have hsv:sv.leaves=[sv]∧sv.bg=true:=by cases hs<;>exact ⟨rfl,rfl⟩
 have h330:=E1 (st:=st) h0 hp hw hu [.cells .plain (av p w u),.cells .plain rest.cs,.cells .plain [.int .i64 0,.int .i64 0]] []
 have hk:tM st p w u (.cells .plain (av p w u)::.cells .plain rest.cs::.cells .plain [.int .i64 0,.int .i64 0]::prH p w u (st.heap.length+3)) 3:=⟨rfl,rfl,rfl⟩
 obtain ⟨ov,K1,J1,fr1,hJ,hA⟩:=abL (st:=st) h0 hs hso hl (.cells .plain [.int .i64 0,.int .i64 0]) (manyN p sl) 0 (prH p w u (st.heap.length+3)) [] (.list 0 0 .no false []) (by omega) hk (dW _ _ _ _ _ _)
 have hk1:=hk.add J1
 have hrest:0≤rest.x∧rest.x≤4095∧0≤rest.w∧rest.w≤4095:=by
  have:=hso sl.length
  unfold bD qz at this
  rw [if_neg (by omega)] at this
  simpa using this
 obtain ⟨J2,h331⟩:=wx (K:=K1) h0 hk1 rest hrest (manyN p sl)
 obtain ⟨t,n,tk,nn,rfl,c1,c2⟩:∃ t n tk nn,ov=.list t n tk nn ((inL p sl rest).map Sl.dv)∧(nn=true→n=2)∧(nn=false→(inL p sl rest).map Sl.dv=[]):=by
  rcases hA with ⟨hx,t,n',tk,rfl⟩ | ⟨k,s,rfl,hk⟩
  · exact ⟨_,_,_,_,by rw [hx],(fun h=>by cases h),fun _=>hx⟩
  · exact ⟨_,_,_,_,rfl,fun _=>rfl,(fun h=>by cases h)⟩
 refine ⟨.list t n (tD tk) nn ((inL p sl rest).map Sl.dv),?_,.list _ _ _ _ c1 c2⟩
 have e14:(av p w u)[16]? = some (.int .i64 p.pr.drop):=rfl
 have wl:IntKind.i64.wrap (sl.length:Int)=sl.length:=aD (by omega)
 have hmx:=as3 .i64 (sl.length:Int) 1 p.pr.drop
 rw [← hm.2.2] at hmx
 rw [show iC p rest (manyN p sl)=lZ p sl rest from rfl] at h331
 generalize (inL p sl rest).map Sl.dv=VI at *
 generalize lZ p sl rest=R at *
 generalize manyN p sl=MN at *
 simp only [Sl.cs,Sl.dv,prH] at h330 hJ h331 ⊢
 simp at h330 hJ h331
 simp [-gm,exl,Dg,e0,e14,hmx,h330,hJ,h331]
theorem EP (hp:p.small) (hw:w.ok 4 p.aV) (hu:u.ok 1 p.marks) (hs:Sls st sl sv):(E tab).F 319 [.agg (av p w u),sv,rest.dv] st=some (.int .i64 (if aI p≠0 then aI p else cB sl rest),st):=by
 rw [aT aqV rfl]
 have h13:=fun st=>Am p hp w u hw hu st
 have h126:=xO (rest:=rest) (hs.inn [.cells .plain (av p w u),.cells .plain rest.cs] [])
 by_cases h0:aI p=0
 · simp only [Sl.cs,Sl.dv] at h126 ⊢
   simp [Ci,h13,h0,h126]
 · simp only [Sl.cs,Sl.dv] at h126 ⊢
   simp [Ci,h13,h0]
theorem B6 (hl1:p.pr.least≠1) {l:List It} {lv:DV} (hv:Its st l lv) (hs:Sls st sl sv) :
 ∃ v,(E tab).F 321 [.agg (av p w u),lv,sv,rest.dv] st=some (.agg [v,.bool true,.bool (decide (fP l sl rest≠0))],st)∧Lw 5 ((jK l sl rest).map Pc.dv) v:=by
 rw [aT alD rfl]
 have e15:(av p w u)[15]? = some (.int .i64 p.pr.least):=rfl
 obtain ⟨v,hb,hv5⟩:=CX (rest:=rest) (hs.inn [.cells .plain (av p w u),.cells .plain rest.cs,.cells .plain [.list 0 0 .no false [],.bool false,.bool false]] []) (hv.inn [.cells .plain (av p w u),.cells .plain rest.cs,.cells .plain [.list 0 0 .no false [],.bool false,.bool false]] [])
 have hlv:lv.leaves=[lv]∧lv.bg=true:=by cases hv<;>exact ⟨rfl,rfl⟩
 have hsv:sv.leaves=[sv]∧sv.bg=true:=by cases hs<;>exact ⟨rfl,rfl⟩
 obtain ⟨t,n,tk,nn,rfl,c0,c1,c2⟩:=z0 hv5
 refine ⟨.list t n (tD tk) nn ((jK l sl rest).map Pc.dv),?_,.list _ _ _ _ c1 c2⟩
 generalize (jK l sl rest).map Pc.dv=VB at *
 by_cases hE:fP l sl rest=0
 · rw [hE] at hb
   simp only [Sl.cs,Sl.dv] at hb ⊢
   simp [-gm,exl,B8,e15,hl1,dF,hb,hE]
 · simp only [Sl.cs,Sl.dv] at hb ⊢
   simp [-gm,exl,B8,e15,hl1,dF,hb,hE]
end
def iz0:It:=⟨0,0,0,0,0,0,0,false⟩
def toP (T:Int) (it:List It):List Pc→Int
 | []=>T
 | y::_=>(it.getD y.a.toNat iz0).f
def lnP (fr to:Int) (s:Sl) (x:Pc):Ln:=⟨fr,to,s.x,s.w,x.n,x.hy,if x.wide then 1 else 0⟩
def l5 (T:Int) (it:List It) (sl:List Sl) (rest:Sl):Nat→Int→List Pc→List Ln
 | _,_,[]=>[]
 | n,fr,x::r=>lnP fr (toP T it r) (bD sl rest n) x::l5 T it sl rest (n+1) (toP T it r) r
section
variable {st:St} {p:bq} {w u:LW} {sl:List Sl} {sv:DV} {rest:Sl}
theorem BN (l:List It) (a b:Int):∃ x y z:Int,AV l a b=.tuple [.int .i64 x,.int .i64 y,.int .i64 z]:=by
 unfold AV
 split<;>exact ⟨_,_,_,rfl⟩
theorem alV (l:Ln):cX 7 true l.dv:=⟨rfl,rfl,rfl⟩
theorem se (T:Int) (it:List It) (sl:List Sl) (rest:Sl):∀ (P:List Pc) (n:Nat) (fr:Int),(l5 T it sl rest n fr P).length=P.length
 | [],_,_=>rfl
 | x::r,n,fr=>by simp [l5,se T it sl rest r]
theorem afR {it:List It} {iv:DV} {c1:List DV} (hi:Its st it iv) (hs:Sls st sl sv) {P:List Pc} (hP:P.length≤20000) (hPa:∀ y∈P,0≤y.a) (hPb:2≤P.length→∀ y∈P,y.a<it.length) {t n:Nat} {tk:Tk} {nn:Bool} (h5:P≠[]→n=5) {lo:Bool} (hlo:P≠[]→lo=false) :
 ∀ (r d:List Pc) (J:List HO) (K:List Nat) (ov:DV) (fr0:Int) (ls:List Ln),P=d++r→ls.length=d.length →
 Acc st K 7 (ls.map Ln.dv) ov→∃ ov' K' J' fr,
 (E tab).C tV [(3,.ptr st.heap.length 0),(9,iv),(11,sv),(12,.ptr (st.heap.length+2) 0),(13,.ptr (st.heap.length+3) 0),(14,ov),(15,.int .i64 fr0),(49,.list t n tk nn (P.map Pc.dv)),(50,.int .i64 P.length),(51,.int .i64 d.length)] (pst st (.cells .plain (av p w u)::.cells .plain c1::.cells .plain rest.cs::.cells .plain [.list t n tk nn (P.map Pc.dv),.bool true,.bool lo]::J) K) =
  some (.exit 0,(3,.ptr st.heap.length 0)::(9,iv)::(11,sv)::(12,.ptr (st.heap.length+2) 0)::(13,.ptr (st.heap.length+3) 0)::(14,ov')::fr,pst st (.cells .plain (av p w u)::.cells .plain c1::.cells .plain rest.cs::.cells .plain [.list t n tk nn (P.map Pc.dv),.bool true,.bool lo]::(J++J')) K') ∧
  Acc st K' 7 ((ls++l5 p.text.length it sl rest d.length fr0 r).map Ln.dv) ov':=by
 intro r
 induction r with
 | nil=>
   intro d J K ov fr0 ls hd hls hA
   rw [List.append_nil] at hd
   subst hd
   refine ⟨ov,K,[],[(15,.int .i64 fr0),(49,.list t n tk nn (P.map Pc.dv)),(50,.int .i64 P.length),(51,.int .i64 P.length),(52,.bool false)],?_,by simpa [l5] using hA⟩
   rw [aj (L:=tV) rfl]
   simp [nt]
 | cons x r ih=>
   intro d J K ov fr0 ls hd hls hA
   have hlt:d.length<P.length:=by simp [hd]
   obtain rfl:=h5 (by intro e;rw [e] at hlt;simp at hlt)
   obtain rfl:=hlo (by intro e;rw [e] at hlt;simp at hlt)
   have hlt':(d.length:Int)<P.length:=by omega
   have hw:IntKind.i64.wrap ((d.length:Int)+1)=((d++[x]).length:Nat):=by rw [aD (by omega)];simp
   have hVl:(P.map Pc.dv).length=P.length:=by simp
   have l0:d.length<(P.map Pc.dv).length:=by rw [hVl];exact hlt
   have g0:(P.map Pc.dv)[d.length]'l0=x.dv:=by simp [hd]
   have h114:=ue (rest:=rest) (hs.inn (.cells .plain (av p w u)::.cells .plain c1::.cells .plain rest.cs::.cells .plain [.list t 5 tk nn (P.map Pc.dv),.bool true,.bool false]::(J++[.cells .plain x.cs])) K) d.length
   obtain ⟨g1,g2,g3,hgv⟩:=BN it x.a x.b
   have h322:=Gn (hi.inn (.cells .plain (av p w u)::.cells .plain c1::.cells .plain rest.cs::.cells .plain [.list t 5 tk nn (P.map Pc.dv),.bool true,.bool false]::(J++[.cells .plain x.cs,.cells .plain (bD sl rest d.length).cs,.cells .plain ([.int .i64 fr0,.int .i64 (toP p.text.length it r),.int .i64 (bD sl rest d.length).x,.int .i64 (bD sl rest d.length).w,.int .i64 x.n,.bool x.hy,.int .i64 0])])) K) x.a x.b
   rw [hgv] at h322
   obtain ⟨ov2,K2,hap,hA2⟩:=fy (H:=.cells .plain (av p w u)::.cells .plain c1::.cells .plain rest.cs::.cells .plain [.list t 5 tk nn (P.map Pc.dv),.bool true,.bool false]::(J++[.cells .plain x.cs,.cells .plain (bD sl rest d.length).cs,.cells .plain (lnP fr0 (toP p.text.length it r) (bD sl rest d.length) x).cs])) (by_:=56) (ag:=true) (tk:=.tight) (t:=st.cur) (ys:=[(lnP fr0 (toP p.text.length it r) (bD sl rest d.length) x).dv]) hA (by omega) (by simp) (by simp [alV]) (by simp [aA];omega) (by simp [aA];omega)
   obtain ⟨ov',K',J',fr,hJ,hR⟩:=ih (d++[x]) (J++[.cells .plain x.cs,.cells .plain (bD sl rest d.length).cs,.cells .plain (lnP fr0 (toP p.text.length it r) (bD sl rest d.length) x).cs]) K2 ov2 (toP p.text.length it r) (ls++[lnP fr0 (toP p.text.length it r) (bD sl rest d.length) x]) (by simp [hd]) (by simp [hls]) (by simpa using hA2)
   refine ⟨ov',K',.cells .plain x.cs::.cells .plain (bD sl rest d.length).cs::.cells .plain (lnP fr0 (toP p.text.length it r) (bD sl rest d.length) x).cs::J',fr,?_,by
    simpa [l5] using hR⟩
   rw [aj (L:=tV) rfl]
   have hxa:=hPa x (by simp [hd])
   cases r with
   | nil=>
     have hlen:P.length=d.length+1:=by simp [hd]
     have hlt2:(d.length:Int)<(d.length:Int)+1:=by omega
     generalize P.map Pc.dv=V at *
     unfold lnP at hap hJ ⊢
     simp only [toP] at hap hJ h322 ⊢
     generalize bD sl rest d.length=s at *
     simp only [Sl.dv,Sl.cs,Ln.dv,Ln.cs,Pc.dv,Pc.cs] at h114 h322 hap hJ g0 ⊢
     simp at h114 h322 hap hJ
     cases hwd:x.wide with
     | false=>
       rw [hwd] at g0 h114 h322 hap hJ
       simp at hap hJ
       simp [nt,hlt2,g0,l0,h114,hVl,hlen,h322,hw,a0,bk,chunk,hap]
       simpa [hlen] using hJ
     | true=>
       rw [hwd] at g0 h114 h322 hap hJ
       simp at hap hJ
       simp [nt,hlt2,g0,l0,h114,hVl,hlen,h322,hw,show IntKind.i64.wrap 1=1 by decide,a0,bk,chunk,hap]
       simpa [hlen] using hJ
   | cons y r'=>
     have hlen:P.length=d.length+1+1+r'.length:=by simp [hd];omega
     have hlt2:(d.length:Int)<(d.length:Int)+1+1+r'.length:=by omega
     have hge:(0:Int)≤(d.length:Int)+1:=by omega
     have hlt4:d.length<d.length+1+1+r'.length:=by omega
     have hlt5:d.length+1<d.length+1+1+r'.length:=by omega
     have hlt3:(d.length:Int)+1<(d.length:Int)+1+1+r'.length:=by omega
     have l1:d.length+1<(P.map Pc.dv).length:=by rw [hVl,hlen];omega
     have g1':(P.map Pc.dv)[d.length+1]'l1=y.dv:=by simp [hd]
     have hya:=hPa y (by simp [hd])
     have hyb:=hPb (by rw [hlen];omega) y (by simp [hd])
     obtain ⟨ya,hy⟩:∃ ya:Nat,y.a=ya:=⟨y.a.toNat,by omega⟩
     have hyl:ya<it.length:=by omega
     have hx:it[ya]? = some (it.getD ya iz0):=by rw [List.getD_eq_getElem?_getD,List.getElem?_eq_getElem hyl];rfl
     have i1:=fun st'=>ew hi hyl .i64 st'
     have i2:=fun st'=>gK hi hx (off:=1) (by omega) st'
     have i3:=fun H K=>uk hi hx (off:=1) (y:=.int .i64 (it.getD ya iz0).f) rfl H K
     have et:toP p.text.length it (y::r')=(it.getD ya iz0).f:=by simp only [toP,hy];rfl
     rw [et] at hap hJ h322 ⊢
     generalize it.getD ya iz0=q at *
     generalize P.map Pc.dv=V at *
     unfold lnP at hap hJ ⊢
     generalize bD sl rest d.length=s at *
     simp only [Sl.dv,Sl.cs,Ln.dv,Ln.cs,Pc.dv,Pc.cs] at h114 h322 hap hJ g0 g1' ⊢
     simp at h114 h322 hap hJ
     have w1:IntKind.i64.wrap ((d.length:Int)+1)=(d.length:Int)+1:=aD (by omega)
     rw [hy] at g1'
     cases hwd:x.wide with
     | false=>
       rw [hwd] at g0 h114 h322 hap hJ
       simp at hap hJ
       simp [nt,hlt2,hlt3,hlt4,hlt5,hge,g0,l0,g1',h114,hVl,hlen,h322,w1,i1,i2,i3,a0,bk,chunk,hap]
       simpa [hlen] using hJ
     | true=>
       rw [hwd] at g0 h114 h322 hap hJ
       simp at hap hJ
       simp [nt,hlt2,hlt3,hlt4,hlt5,hge,g0,l0,g1',h114,hVl,hlen,h322,w1,i1,i2,i3,show IntKind.i64.wrap 1=1 by decide,a0,bk,chunk,hap]
       simpa [hlen] using hJ
end
section
variable {p:bq} {sl:List Sl} {rest:Sl}
theorem vO (h0:aI p=0) (hl:sl.length≤256) (n:Nat):bD (inL p sl rest) (lZ p sl rest) n=inF p sl rest n:=by
 have hm:=pg (p:=p) h0 hl
 unfold bD qz
 rw [if_neg (by omega),show (n:Int).toNat=n from rfl]
 by_cases h:n<manyN p sl
 · unfold inL
   simp [h]
 · have e:(inL p sl rest)[n]? = none:=by
    rw [List.getElem?_eq_none_iff];simp [inL];omega
   rw [e]
   unfold inF bD qz
   have e2:sl[(n:Int).toNat]? = none:=by
    rw [List.getElem?_eq_none_iff];show sl.length≤n;omega
   rw [if_neg (by omega),e2]
   simp only [Option.getD_none]
   unfold lZ iC xN
   have p0:cA p 0 (manyN p sl)=cA p 0 n:=rfl
   have p1:cA p 1 (manyN p sl)=cA p 1 n:=by
    simp only [cA];rw [if_pos (by omega),if_pos (by omega)]
   have p2:cA p 2 (manyN p sl)=cA p 2 n:=by
    simp only [cA];rw [if_pos (by omega),if_pos (by omega)]
   rw [p0,p1,p2]
theorem xQ (h0:aI p=0) (s:Sl) (hs:0≤s.x∧s.x≤4095∧0≤s.w∧s.w≤4095) (n:Int):j7 (iC p s n)=true:=by
 have hp:=Aj h0 n
 have hm:=jq h0
 unfold j7 bp iC xN
 simp only [Bool.and_eq_true,decide_eq_true_eq]
 omega
theorem as4 (h0:aI p=0) (hc:cB sl rest=0):cB (inL p sl rest) (lZ p sl rest)=0:=by
 obtain ⟨hso,hl⟩:=l7 hc
 have hm:=pg (p:=p) h0 hl
 have hrest:0≤rest.x∧rest.x≤4095∧0≤rest.w∧rest.w≤4095:=by
  have:=hso sl.length
  unfold bD qz at this
  rw [if_neg (by omega)] at this
  simpa using this
 unfold cB
 rw [if_neg (by simp [inL];omega),if_pos]
 rw [Bool.and_eq_true,List.all_eq_true]
 refine ⟨fun s hs => ?_,xQ h0 rest hrest _⟩
 obtain ⟨n,_,rfl⟩:=List.mem_map.1 hs
 exact xQ h0 _ (hso n) _
def dp (l:List It) (F:Nat→Sl):Nat→Nat→Nat→List Pc
 | 0,_,_=>[]
 | f+1,a,n=>if a<l.length then eA l a (F n)::dp l F f (dm l (eA l a (F n)).b.toNat) (n+1) else []
theorem Ar (l:List It) {sl:List Sl} {rest:Sl} {F:Nat→Sl} (h:∀ n:Nat,bD sl rest n=F n):∀ f a n,jI l sl rest f a n=dp l F f a n
 | 0,_,_=>rfl
 | f+1,a,n=>by simp only [jI,dp,h n,Ar l h f]
def zW (T:Int) (it:List It) (F:Nat→Sl):Nat→Int→List Pc→List Ln
 | _,_,[]=>[]
 | n,fr,x::r=>lnP fr (toP T it r) (F n) x::zW T it F (n+1) (toP T it r) r
theorem OH (T:Int) (it:List It) {sl:List Sl} {rest:Sl} {F:Nat→Sl} (h:∀ n:Nat,bD sl rest n=F n):∀ (P:List Pc) (n:Nat) (fr:Int),l5 T it sl rest n fr P=zW T it F n fr P
 | [],_,_=>rfl
 | x::r,n,fr=>by simp only [l5,zW,h n,OH T it h r]
def ng (p:bq) (sl:List Sl) (rest:Sl):List Pc:=jK (bU p) (inL p sl rest) (lZ p sl rest)
def lN (p:bq) (sl:List Sl) (rest:Sl):List Ln:=l5 p.text.length (bU p) (inL p sl rest) (lZ p sl rest) 0 0 (ng p sl rest)
def fw (l:List It) (F:Nat→Sl):List Pc:=
 if bA l≠0 then [] else if cd l l.length 0=l.length then [⟨l.length,l.length,false,false,0⟩] else dp l F l.length (cd l l.length 0) 0
theorem zV (h0:aI p=0) (hc:cB sl rest=0):ng p sl rest=fw (bU p) (inF p sl rest):=by
 obtain ⟨_,hl⟩:=l7 hc
 have hin:=as4 h0 hc
 have hE:fP (bU p) (inL p sl rest) (lZ p sl rest)=bA (bU p):=by
  unfold fP
  by_cases h:bA (bU p)=0
  · rw [if_neg (by simp [h]),h,hin]
  · rw [if_pos h]
 unfold ng jK fw
 rw [hE,Ar _ (vO h0 hl)]
theorem CL (h0:aI p=0) (hc:cB sl rest=0):lN p sl rest=zW p.text.length (bU p) (inF p sl rest) 0 0 (ng p sl rest):=by
 obtain ⟨_,hl⟩:=l7 hc
 exact OH _ _ (vO h0 hl) _ _ _
theorem Er (l:List It) (a:Nat) (s:Sl):(eA l a s).a=a:=by
 unfold eA
 split<;>rfl
theorem ra (l:List It) (F:Nat→Sl):∀ f a n,∀ y∈dp l F f a n,0≤y.a∧y.a<l.length
 | 0,_,_,y,h=>by simp [dp] at h
 | f+1,a,n,y,h=>by
   simp only [dp] at h
   split at h
   · rename_i ha
     rcases List.mem_cons.1 h with rfl | h
     · have e:=Er l a (F n)
       rw [e];omega
     · exact ra l F f _ _ y h
   · cases h
theorem si (l:List It) (F:Nat→Sl):∀ f a n,(dp l F f a n).length≤f
 | 0,_,_=>by simp [dp]
 | f+1,a,n=>by
   simp only [dp]
   split
   · have:=si l F f (dm l (eA l a (F n)).b.toNat) (n+1);simp;omega
   · simp
theorem sf (l:List It) (F:Nat→Sl):(∀ y∈fw l F,0≤y.a)∧(2≤(fw l F).length→∀ y∈fw l F,y.a<l.length)∧(fw l F).length≤8193:=by
 unfold fw
 split
 · simp
 · rename_i h1
   have hlen:l.length≤8192:=by
    apply Classical.byContradiction
    intro h
    apply h1
    unfold bA
    rw [if_pos (by omega)];simp
   split
   · refine ⟨?_,?_,?_⟩
     · simp
     · intro h;simp at h
     · simp
   · exact ⟨fun y hy=>(ra l F _ _ _ y hy).1,fun _ y hy=>(ra l F _ _ _ y hy).2,by have:=si l F l.length (cd l l.length 0) 0;omega⟩
end
section
variable {st:St} {p:bq} {w u:LW} {sl:List Sl} {sv:DV} {rest:Sl}
def qw (p:bq) (sl:List Sl) (rest:Sl):Int:=if aI p≠0 then aI p else cB sl rest
theorem D9 (hp:p.small) (hw:w.ok 4 p.aV) (hu:u.ok 1 p.marks) (hl1:p.pr.least≠1) (hs:Sls st sl sv) :
 ∃ v,(E tab).F 307 [.agg (av p w u),sv,rest.dv] st=some (.tuple [v,.int .i64 (qw p sl rest)],st)∧Lw 7 ((if qw p sl rest=0 then lN p sl rest else []).map Ln.dv) v:=by
 rw [aT Eh rfl]
 have h319:=EP (rest:=rest) hp hw hu (hs.inn [.cells .plain (av p w u),.cells .plain rest.cs] [])
 rw [show (if aI p≠0 then aI p else cB sl rest)=qw p sl rest from rfl] at h319
 have hsv:sv.leaves=[sv]∧sv.bg=true:=by cases hs<;>exact ⟨rfl,rfl⟩
 by_cases hE:qw p sl rest=0
 rotate_left
 · rw [if_neg hE]
   refine ⟨.list 0 0 .no false [],?_,.list _ _ _ _ (fun h=>by cases h) (fun _=>rfl)⟩
   simp only [Sl.dv,Sl.cs] at h319 ⊢
   simp [xu,h319,hE]
 rw [if_pos hE,hE]
 rw [hE] at h319
 have h0:aI p=0:=by
  apply Classical.byContradiction
  intro h;unfold qw at hE;rw [if_pos h] at hE;exact h hE
 have hc:cB sl rest=0:=by unfold qw at hE;rw [if_neg (by simp [h0])] at hE;exact hE
 obtain ⟨iv,h106,hiv⟩:=DQ (st:=pst st [.cells .plain (av p w u),.cells .plain rest.cs] []) hp hw hu
 rw [h0] at h106
 rw [if_pos h0] at hiv
 obtain ⟨nv,h320,hnv⟩:=BF (st:=pst st [.cells .plain (av p w u),.cells .plain rest.cs] []) h0 hp hw hu (hs.inn _ _) hc
 obtain ⟨bv,h321,hbv⟩:=B6 (st:=pst st [.cells .plain (av p w u),.cells .plain rest.cs,.cells .plain (lZ p sl rest).cs] []) (w:=w) (u:=u) (rest:=lZ p sl rest) hl1 (Lw.vw hiv:Its _ (bU p) iv) (Lw.vw hnv)
 obtain ⟨t,n,tk,nn,rfl,c0,_,_⟩:=z0 hbv
 have hP:=zV h0 hc
 obtain ⟨q1,q2,q3⟩:=sf (bU p) (inF p sl rest)
 rw [← hP] at q1 q2 q3
 have hlo:ng p sl rest≠[]→decide (fP (bU p) (inL p sl rest) (lZ p sl rest)≠0)=false:=by
  intro h
  apply decide_eq_false
  intro h2
  apply h
  unfold ng jK
  rw [if_pos h2]
 rw [show jK (bU p) (inL p sl rest) (lZ p sl rest)=ng p sl rest from rfl] at h321 c0
 obtain ⟨ov,K1,J1,fr1,hJ,hA⟩:=afR (st:=st) (p:=p) (w:=w) (u:=u) (rest:=lZ p sl rest) (c1:=rest.cs) (Lw.vw hiv:Its st (bU p) iv) (Lw.vw hnv) (P:=ng p sl rest) (by omega) q1 q2 (t:=t) (tk:=tk) (nn:=nn) (fun h=>c0 (by
  intro e;rw [List.map_eq_nil_iff] at e;exact h e)) hlo (ng p sl rest) [] [] [] (.list 0 0 .no false []) 0 [] rfl rfl (dW _ _ _ _ _ _)
 obtain ⟨t2,n2,tk2,nn2,rfl,c1,c2⟩:∃ t n tk nn,ov=.list t n tk nn ((lN p sl rest).map Ln.dv)∧(nn=true→n=7)∧(nn=false→(lN p sl rest).map Ln.dv=[]):=by
  have hA':Acc st K1 7 ((lN p sl rest).map Ln.dv) ov:=by simpa [lN] using hA
  rcases hA' with ⟨hx,t,n',tk,rfl⟩ | ⟨k,s,rfl,hk⟩
  · exact ⟨_,_,_,_,by rw [hx],(fun h=>by cases h),fun _=>hx⟩
  · exact ⟨_,_,_,_,rfl,fun _=>rfl,(fun h=>by cases h)⟩
 refine ⟨.list t2 n2 (tD tk2) nn2 ((lN p sl rest).map Ln.dv),?_,.list _ _ _ _ c1 c2⟩
 have hVl:((ng p sl rest).map Pc.dv).length=(ng p sl rest).length:=by simp
 generalize (lN p sl rest).map Ln.dv=VL at *
 generalize lZ p sl rest=R2 at *
 generalize decide (fP (bU p) (inL p sl rest) R2≠0)=lo at *
 generalize (ng p sl rest).map Pc.dv=VP at *
 simp only [Sl.dv,Sl.cs] at h319 h106 h320 h321 hJ ⊢
 simp at h106 h320 h321 hJ
 simp [-gm,exl,xu,h319,h106,h320,h321,hVl,hJ]
end
def yz:Nat→List Clu→Nat→Prop
 | i,[],e=>i=e
 | i,c::r,e=>c.a=i∧i<c.b∧yz c.b r e
def Chn:Int→List ak→Int→Prop
 | i,[],e=>i=e
 | i,m::r,e=>m.a=i∧i<m.b∧Chn m.b r e
theorem sn (s:List UInt8):∀ n i,s.length≤i+n→i≤s.length→yz i (eT s n i) s.length
 | 0,i,h1,h2=>by
   obtain rfl:i=s.length:=by omega
   simp [eT,yz]
 | n+1,i,h1,h2=>by
   have ht:=qy s (kG s i) 2 (i+1)
   by_cases hi:i<s.length
   · simp only [eT,hi,if_true,yz]
     exact ⟨trivial,by unfold cTo;omega,sn s n (cTo s i) (by unfold cTo;omega) (by unfold cTo;omega)⟩
   · obtain rfl:i=s.length:=by omega
     simp [eT,yz]
theorem rn (p:bq):∀ (l:List Clu) (i e:Nat) (kr:Bool) (bf:UInt8) (ps:Int) (mk:List (List UInt8)),yz i l e→Chn i (dq p kr bf ps mk l) e
 | [],i,e,_,_,_,_,h=>by simp only [yz] at h;subst h;simp [dq,Chn]
 | c::r,i,e,kr,bf,ps,mk,h=>by
   obtain ⟨h1,h2,h3⟩:=h
   simp only [dq,Chn,aY]
   exact ⟨by omega,by omega,rn p r c.b e _ _ _ _ h3⟩
theorem sb {p:bq} (h0:aI p=0):Chn 0 (aH p) p.text.length:=by
 have:=rn p (lP p.text) 0 p.text.length false 0 0 p.marks (sn p.text p.text.length 0 (by omega) (by omega))
 unfold aH qT
 rw [if_pos h0]
 exact this
theorem Chn.ge:∀ {L:List ak} {i e:Int},Chn i L e→i≤e∧∀ m∈L,i≤m.a∧m.a<m.b∧m.b≤e
 | [],i,e,h=>by simp only [Chn] at h;subst h;simp
 | m::r,i,e,h=>by
   obtain ⟨h1,h2,h3⟩:=h
   have ih:=Chn.ge h3
   refine ⟨by omega,fun x hx => ?_⟩
   rcases List.mem_cons.1 hx with rfl | hx
   · omega
   · have:=ih.2 x hx;omega
def sW:List ak→Int
 | []=>0
 | m::r=>m.w+sW r
theorem yI:∀ (a b:List ak),sW (a++b)=sW a+sW b
 | [],b=>by simp [sW]
 | x::a,b=>by simp only [List.cons_append,sW,yI a b];omega
theorem vA:∀ (l:List ak) (o:Bool) (n:Int),(∀ m∈l,m.e=0)→jX o n l=n+sW l
 | [],o,n,_=>by simp [jX,sW]
 | m::r,o,n,h=>by
   have h1:=h m (List.mem_cons_self ..)
   rw [jX,vA r _ _ fun x hx=>h x (List.mem_cons_of_mem _ hx),sW,h1]
   split<;>omega
theorem DJ:∀ (l:List ak),l.all okM=true→0≤sW l∧sW l≤4095*l.length
 | [],_=>by simp [sW]
 | m::r,h=>by
   simp only [List.all_cons,Bool.and_eq_true] at h
   have h1:=DJ r h.2
   have h2:=h.1
   simp [okM] at h2
   simp only [sW,List.length_cons]
   omega
theorem GH (l:List ak) (h:l.all okM=true) (i k:Nat):0≤sW ((l.drop i).take k)∧sW ((l.drop i).take k)≤sW l:=by
 have e:l=l.take i++((l.drop i).take k++(l.drop i).drop k):=by rw [List.take_append_drop,List.take_append_drop]
 have hs:=congrArg sW e
 rw [yI,yI] at hs
 have hall:=List.all_eq_true.1 h
 have sub:∀ l':List ak,(∀ m∈l',m∈l)→0≤sW l':=fun l' hm=>(DJ l' (List.all_eq_true.2 fun m h=>hall m (hm m h))).1
 have h1:=sub (l.take i) fun m hm=>List.mem_of_mem_take hm
 have h2:=sub ((l.drop i).take k) fun m hm=>List.mem_of_mem_drop (List.mem_of_mem_take hm)
 have h3:=sub ((l.drop i).drop k) fun m hm=>List.mem_of_mem_drop (List.mem_of_mem_drop hm)
 omega
theorem ft (s:List UInt8) (L:List ak) (pl:List Bool):∀ (l:List ak) (k run fr:Nat),(bx s L pl k run fr l).length≤3*l.length+1
 | [],k,run,fr=>by simp only [bx];split<;>simp
 | m::r,k,run,fr=>by
   simp only [bx,List.length_cons]
   split
   · have:=ft s L pl r (k+1) (k+1) (k+1)
     split<;>simp<;>omega
   · split
     · have:=ft s L pl r (k+1) run fr;omega
     · split
       · have:=ft s L pl r (k+1) run k;simp;omega
       · split
         · have:=ft s L pl r (k+1) run k;simp;omega
         · have:=ft s L pl r (k+1) run fr;omega
def gP (pr:dP) (s:List UInt8):bq:=⟨s,if s=[] then [] else [⟨s.length,⟨0,0,0⟩⟩],pr,[],[]⟩
def gW (st:St) (s:List UInt8):LW:=if s=[] then ⟨0,0,.no,false⟩ else ⟨st.cur,4,.tight,true⟩
theorem ON (st:St) (pr:dP) (s:List UInt8):(gW st s).ok 4 (gP pr s).aV:=by
 unfold gW gP
 by_cases h:s=[]<;>simp [h,LW.ok]
theorem wQ (pr:dP) (s:List UInt8):(gP pr s).small:=⟨by simp [gP],by simp [gP],by simp [gP]⟩
theorem Oj (pr:dP) (s:List UInt8):LW.ok ⟨0,0,.no,false⟩ 1 (gP pr s).marks:=⟨(fun h=>by cases h),fun _=>rfl⟩
def ly (c:UInt8):Bool:=decide (32≤c.toNat)&&decide (c.toNat≤126)
theorem aup:((List.range 256).all fun c => !(decide (32≤c∧c≤126)) || !(kd c==0))=true:=by decide +kernel
theorem pG {c:UInt8} (h:ly c=true):zq c=true∧c≠2∧c≠3:=by
 simp only [ly,Bool.and_eq_true,decide_eq_true_eq] at h
 have:=List.all_eq_true.1 aup c.toNat (List.mem_range.2 c.toNat_lt)
 rw [decide_eq_true h,Bool.not_true,Bool.false_or] at this
 refine ⟨this,?_,?_⟩<;>rintro rfl<;>revert h<;>decide
theorem Dp {pr:dP} (hpr:cH pr=true) {s:List UInt8} (hl:s.length≤4096) (hb:s.all ly=true):aI (gP pr s)=0:=by
 have hall:=List.all_eq_true.1 hb
 have h1:db s=0:=by
  unfold db
  rw [if_neg (by omega),if_pos]
  rw [List.all_eq_true]
  exact fun c hc=>(pG (hall c hc)).1
 have h3:¬ (3:UInt8)∈s:=fun h=>(pG (hall 3 h)).2.2 rfl
 have h2:s.count 2=0:=List.count_eq_zero.2 fun h=>(pG (hall 2 h)).2.1 rfl
 have hs:dX s.length (if s=[] then [] else [⟨s.length,⟨0,0,0⟩⟩])=true:=by
  by_cases h:s=[]
  · subst h;rfl
  · have hp:0<s.length:=List.length_pos_iff.2 h
    rw [if_neg h]
    have h1:(1:Int)≤s.length:=by omega
    have hlk:ez ⟨0,0,0⟩=true:=rfl
    unfold dX
    simp [eW,h1,hlk]
 unfold aI gP
 simp only [h1,if_true]
 rw [if_neg h3,if_pos]
 · rfl
 · rw [hs,hpr,h2];rfl
theorem at5 (pr:dP) (s:List UInt8):∀ m∈aH (gP pr s),m.e=0:=by
 have hl:∀ i,(bK (gP pr s).aV i).e=0:=by
  intro i
  unfold bK gP
  by_cases h:s=[]
  · simp [h,cZ,qg]
  · simp only [h,if_false,cZ]
    split<;>rfl
 have go:∀ (l:List Clu) (kr:Bool) (bf:UInt8) (ps:Int) (mk:List (List UInt8)),∀ m∈dq (gP pr s) kr bf ps mk l,m.e=0:=by
  intro l
  induction l with
  | nil=>intro kr bf ps mk m h;cases h
  | cons c r ih=>
    intro kr bf ps mk m h
    rcases List.mem_cons.1 h with rfl | h
    · simp [aY,bN,hl]
    · exact ih _ _ _ _ m h
 unfold aH
 split
 · exact go _ _ _ _ _
 · intro m h;cases h
theorem uo {L:List ak} (hok:L.all okM=true) (he:∀ m∈L,m.e=0) {i e:Int} (hc:Chn i L e) (hi:0≤i) (hlen:L.length≤500) {fr k:Nat} (h1:fr<k) (h2:k≤L.length):fG (fJ L fr k)=false:=by
 have hsw:=GH L hok fr (k-fr)
 have hle:=DJ L hok
 have hr:=vA ((L.drop fr).take (k-fr)) true 0 fun m hm=>he m (List.mem_of_mem_drop (List.mem_of_mem_take hm))
 have hma:=List.mem_of_getElem? (getM (L:=L) (i:=fr) (by omega))
 have hmb:=List.mem_of_getElem? (getM (L:=L) (i:=k-1) (by omega))
 have ha:=hc.ge.2 _ hma
 have hb:=hc.ge.2 _ hmb
 have hab:(L.getD fr mz).a<(L.getD (k-1) mz).b:=by
  by_cases hz:fr=k-1
  · rw [hz];omega
  · have hlt:∀ {L:List ak} {i e:Int},Chn i L e→∀ {j k:Nat},j<k→k<L.length→(L.getD j mz).b≤(L.getD k mz).a:=by
     intro L
     induction L with
     | nil=>intro i e _ j k _ h;simp at h
     | cons m r ih=>
       intro i e h j k h1 h2
       obtain ⟨g1,g2,g3⟩:=h
       cases k with
       | zero=>omega
       | succ k=>
         have hk:k<r.length:=by simpa using h2
         cases j with
         | zero=>
           have:=g3.ge.2 _ (List.mem_of_getElem? (getM hk))
           simp only [List.getD_cons_zero,List.getD_cons_succ];omega
         | succ j=>
           simp only [List.getD_cons_succ]
           exact ih g3 (by omega) hk
    have:=hlt hc (j:=fr) (k:=k-1) (by omega) (by omega)
    omega
 unfold fG oS kI fJ bp
 simp only
 rw [hr]
 have e1:decide ((L.getD fr mz).a<0)=false:=decide_eq_false (by omega)
 have e2:decide ((L.getD (k-1) mz).b<(L.getD fr mz).a)=false:=decide_eq_false (by omega)
 have e3:decide (0+sW ((L.drop fr).take (k-fr))<0)=false:=decide_eq_false (by omega)
 have e4:decide (2097152<0+sW ((L.drop fr).take (k-fr)))=false:=decide_eq_false (by omega)
 rw [e1,e2,e3,e4];rfl
theorem D6 {n:Int} (h1:1≤n) (h2:n≤64):0≤hyW n∧hyW n≤64:=by
 have:=qh 45 h1 h2
 exact ⟨this.1,this.2.1⟩
theorem KQ {m:ak} (ha:0≤m.a) (hb:m.a<m.b) (hw:okM m=true) (hz:1≤m.s∧m.s≤64):fG (ik m)=false:=by
 have hw':=Dl hw
 have hh:=D6 hz.1 hz.2
 unfold ik
 split
 · unfold fG oS kI bp
   simp only
   have e1:decide (m.a<0)=false:=decide_eq_false (by omega)
   have e2:decide (m.b<m.a)=false:=decide_eq_false (by omega)
   have e3:decide (m.w<0)=false:=decide_eq_false (by omega)
   have e4:decide (2097152<m.w)=false:=decide_eq_false (by omega)
   have e5:decide (0≤m.w/2)=true:=decide_eq_true (by omega)
   have e6:decide (m.w/2≤4095)=true:=decide_eq_true (by omega)
   have e7:decide (0≤m.w/3)=true:=decide_eq_true (by omega)
   have e8:decide (m.w/3≤4095)=true:=decide_eq_true (by omega)
   rw [e1,e2,e3,e4,e5,e6,e7,e8];rfl
 · split
   · unfold fG oS kI bp
     simp only
     have e1:decide (m.a<0)=false:=decide_eq_false (by omega)
     have e2:decide (m.b<m.a)=false:=decide_eq_false (by omega)
     rw [e1,e2];rfl
   · unfold fG oS kI bp
     simp only
     have e1:decide (m.a<0)=false:=decide_eq_false (by omega)
     have e2:decide (m.b<m.a)=false:=decide_eq_false (by omega)
     have e3:decide (hyW m.s<0)=false:=decide_eq_false (by omega)
     have e4:decide (2097152<hyW m.s)=false:=decide_eq_false (by omega)
     rw [e1,e2,e3,e4];rfl
theorem Me {m:ak} (ha:0≤m.a) (hz:1≤m.s∧m.s≤64):fG (u6 m)=false:=by
 have hh:=D6 hz.1 hz.2
 unfold u6 fG oS kI bp
 simp only
 have e1:decide (m.a<0)=false:=decide_eq_false (by omega)
 have e2:decide (m.a<m.a)=false:=decide_eq_false (by omega)
 have e3:decide (hyW m.s<0)=false:=decide_eq_false (by omega)
 have e4:decide (2097152<hyW m.s)=false:=decide_eq_false (by omega)
 rw [e1,e2,e3,e4];rfl
theorem ML {m:ak} (ha:0≤m.a):fG (uc m)=false:=by
 unfold uc fG oS kI bp
 simp only
 have e1:decide (m.a<0)=false:=decide_eq_false (by omega)
 have e2:decide (m.a<m.a)=false:=decide_eq_false (by omega)
 rw [e1,e2];rfl
theorem r9 {s:List UInt8} {L:List ak} {pl:List Bool} (hok:L.all okM=true) (he:∀ m∈L,m.e=0) {i e:Int} (hc:Chn i L e) (hi:0≤i) (hlen:L.length≤500) (hz:∀ m∈L,1≤m.s∧m.s≤64):∀ (r d:List ak) (run fr:Nat),L=d++r→fr≤d.length→(bx s L pl d.length run fr r).any fG=false
 | [],d,run,fr,hd,hf=>by
   simp only [bx]
   split
   · rename_i h
     simp [uo hok he hc hi hlen h (by simp [hd])]
   · rfl
 | m::r,d,run,fr,hd,hf=>by
   have hm:m∈L:=by rw [hd];simp
   have hm1:=hc.ge.2 m hm
   have hk:d.length<L.length:=by simp [hd]
   have hd':L=(d++[m])++r:=by simp [hd]
   have ih:=fun run fr h=>r9 hok he hc hi hlen hz r (d++[m]) run fr hd' h (s:=s) (pl:=pl)
   have hl:(d++[m]).length=d.length+1:=by simp
   rw [hl] at ih
   simp only [bx]
   split
   · rw [List.any_append,List.any_cons,ih _ _ (Nat.le_refl _),KQ (by omega) hm1.2.1 (List.all_eq_true.1 hok m hm) (hz m hm)]
     split
     · rename_i h
       simp [uo hok he hc hi hlen h (by omega)]
     · rfl
   · split
     · exact ih _ _ (by omega)
     · rename_i h1 h2
       split
       · rw [List.any_cons,List.any_cons,ih _ _ (by omega),uo hok he hc hi hlen (by omega) (by omega),Me (by omega) (hz m hm)];rfl
       · split
         · rw [List.any_cons,List.any_cons,ih _ _ (by omega),uo hok he hc hi hlen (by omega) (by omega),ML (by omega)];rfl
         · exact ih _ _ (by omega)
theorem xK {p:bq} (h0:aI p=0) (hD:p.pr.drop=0) (he:∀ m∈aH p,m.e=0) (hl:p.text.length≤500):bA (bU p)=0:=by
 have hM:=kY p
 have hch:=sb h0
 have hlen:(aH p).length≤500:=by
  have:∀ {L:List ak} {i e:Int},Chn i L e→(L.length:Int)≤e-i:=by
   intro L
   induction L with
   | nil=>intro i e h;simp only [Chn] at h;simp;omega
   | cons m r ih=>
     intro i e h
     obtain ⟨g1,g2,g3⟩:=h
     have:=ih g3
     simp only [List.length_cons];omega
  have:=this hch
  omega
 have hb:cg p=aH p:=by
  unfold cg eX
  rw [if_neg]
  rw [hD];simp
 have hodd:=r9 (s:=p.text) (pl:=jy p.text (aH p) p.pr.cb) hM.ok he hch (Int.le_refl 0) hlen (fun m hm=>hM.sz m hm) (aH p) [] 0 0 rfl (Nat.le_refl _)
 have hil:(bU p).length≤3*(aH p).length+1:=by
  have:=ft p.text (cg p) (jy p.text (cg p) p.pr.cb) (cg p) 0 0 0
  rw [hb] at this
  unfold bU
  rw [hb];exact this
 unfold bA
 rw [if_neg (by omega)]
 have e:(bU p).any fG=false:=by
  unfold bU
  rw [hb];exact hodd
 rw [e];rfl
def DE:Int→List Ln→Int→Prop
 | i,[],e=>i=e
 | i,l::r,e=>l.f=i∧DE l.t r e
theorem xW (T:Int) (it:List It) (F:Nat→Sl):∀ (P:List Pc) (n:Nat) (fr:Int),P≠[]→DE fr (zW T it F n fr P) T
 | [],_,_,h=>absurd rfl h
 | [x],n,fr,_=>⟨rfl,rfl⟩
 | x::y::r,n,fr,_=>⟨rfl,xW T it F (y::r) (n+1) _ (by simp)⟩
theorem oB (l:List It) (F:Nat→Sl) (hc:bA l=0):fw l F≠[]:=by
 unfold fw
 rw [if_neg (by simp [hc])]
 split
 · simp
 · rename_i h
   have hg:=iR l l.length 0 (by omega)
   have hlt:cd l l.length 0<l.length:=by omega
   cases hl:l.length with
   | zero=>omega
   | succ n=>
     rw [hl] at hlt hg
     simp only [dp]
     rw [if_pos (by rw [hl];exact hlt)];simp
theorem LA {p:bq} {sl:List Sl} {rest:Sl} (h0:aI p=0) (hc:cB sl rest=0) (hi:bA (bU p)=0):DE 0 (lN p sl rest) p.text.length∧lN p sl rest≠[]∧(lN p sl rest).length≤8193:=by
 have hP:=zV h0 hc
 have hs:=oB (bU p) (inF p sl rest) hi
 have hlen:(lN p sl rest).length=(ng p sl rest).length:=se _ _ _ _ _ _ _
 refine ⟨?_,?_,?_⟩
 · rw [CL h0 hc]
   exact xW _ _ _ _ _ _ (by rw [hP];exact hs)
 · intro e
   rw [e] at hlen
   exact hs (by rw [← hP];exact List.length_eq_zero_iff.1 hlen.symm)
 · rw [hlen,hP];exact (sf _ _).2.2
theorem akY:tab 435=some (.code Fc):=by kernel_rfl
theorem apU:tab 461=some (.code C1):=by kernel_rfl
theorem aua:tab 65=some (.code f65):=by kernel_rfl
theorem auA:tab 73=some (.code f73):=by kernel_rfl
def bH:List UInt8→List (List UInt8)
 | []=>[[]]
 | c::r=>if c=10 then []::bH r else match bH r with | s::t=>(c::s)::t | []=>[[c]]
theorem gp (s:List UInt8):bH s≠[]:=by
 cases s with
 | nil=>simp [bH]
 | cons c r=>
   unfold bH
   split
   · simp
   · split<;>simp
theorem qH:∀ s:List UInt8,(bH s).length=s.count 10+1
 | []=>rfl
 | c::r=>by
   have h:=qH r
   unfold bH
   by_cases hc:c=10
   · simp [hc,h]
   · simp only [if_neg hc]
     have:List.count 10 (c::r)=r.count 10:=by simp [List.count_cons,hc]
     rw [this,← h]
     split
     · rename_i e;rw [e];rfl
     · rename_i e;exact absurd e (gp r)
theorem pK:∀ s:List UInt8,s.count 10=0→bH s=[s]
 | [],_=>rfl
 | c::r,h=>by
   have hc:c≠10:=by intro e;subst e;simp at h
   have hr:r.count 10=0:=by simpa [List.count_cons,hc] using h
   unfold bH
   rw [if_neg hc,pK r hr]
theorem ot:∀ s:List UInt8,0<s.count 10→∃ m:Nat,Lib.indexByte s 10=m∧m<s.length∧bH s=s.take m::bH (s.drop (m+1))∧(s.drop (m+1)).count 10+1=s.count 10
 | [],h=>by simp at h
 | c::r,h=>by
   by_cases hc:c=10
   · subst hc
     exact ⟨0,by simp [Lib.indexByte],by simp,by simp [bH],by simp⟩
   · have hr:r.count 10=(c::r).count 10:=by simp [List.count_cons,hc]
     obtain ⟨m,h1,h2,h3,h4⟩:=ot r (by omega)
     refine ⟨m+1,?_,by simp;omega,?_,by simp only [List.drop_succ_cons];omega⟩
     · simp only [Lib.indexByte,beq_iff_eq]
       rw [if_neg hc,h1,if_neg (by omega)]
       omega
     · rw [bH,if_neg hc,h3]
       rfl
theorem Bs (s:List UInt8):∀ x∈bH s,∀ c∈x,c≠10∧c∈s:=by
 induction s with
 | nil=>intro x hx c hc;simp [bH] at hx;subst hx;cases hc
 | cons c r ih=>
   intro x hx b hb
   unfold bH at hx
   split at hx
   · rcases List.mem_cons.1 hx with rfl | hx
     · cases hb
     · exact ⟨(ih x hx b hb).1,List.mem_cons_of_mem _ (ih x hx b hb).2⟩
   · rename_i hc
     split at hx
     · rename_i y t e
       rcases List.mem_cons.1 hx with rfl | hx
       · rcases List.mem_cons.1 hb with rfl | hb
         · exact ⟨hc,List.mem_cons_self ..⟩
         · have:=ih y (by rw [e];exact List.mem_cons_self ..) b hb
           exact ⟨this.1,List.mem_cons_of_mem _ this.2⟩
       · have:=ih x (by rw [e];exact List.mem_cons_of_mem _ hx) b hb
         exact ⟨this.1,List.mem_cons_of_mem _ this.2⟩
     · rename_i e;exact absurd e (gp r)
section
variable {st:St}
theorem FG (s:List UInt8) (st:St):(E tab).F 44 [.str s,.str [10]] st=some (.int .i64 (s.count 10),st):=by
 have h64:∀ st,(E tab).F 64 [.str s,.int .u8 10] st=some (.int .i64 (s.count 10),st):=fun st=>by
  rw [pc alo];simp [ef,Lib.countByte]
 rw [aT ao9 rfl]
 simp [f44,h64]
theorem Ho (s:List UInt8) (st:St):(E tab).F 65 [.str s,.str [10]] st=some (.int .i64 (Lib.indexByte s 10),st):=by
 have h72:∀ st,(E tab).F 72 [.str s,.int .u8 10] st=some (.int .i64 (Lib.indexByte s 10),st):=fun st=>by
  rw [pc asK];simp [eE]
 have h61:∀ st,(E tab).F 61 [.str s,.int .u8 10] st=some (.int .i64 (Lib.indexByte s 10),st):=fun st=>by
  rw [aT apz rfl];simp [f61,h72]
 have h73:∀ st,(E tab).F 73 [.str s,.str [10]] st=some (.int .i64 (Lib.indexByte s 10),st):=fun st=>by
  rw [aT auA rfl]
  by_cases h:[10]=s
  · subst h
    simp [f73,Lib.indexByte]
  · simp [f73,h61,h]
 rw [aT aua rfl];simp [f65,h73]
theorem aik (N:Nat) (hN:N≤1000000):∀ (m:Nat) (s:List UInt8) (d:List (List UInt8)),s.count 10=m→d.length+m=N→s.length≤1000000 →
 ∃ (d2:List (List UInt8)) (s2:List UInt8) (fr:Fr),d++bH s=d2++[s2]∧d2.length=N∧(E tab).C ua [(0,.str s),(1,.str [10]),(2,.int .i64 0),(3,.int .i64 N),(9,.hsl 1 false st.heap.length 0 (N+1) (some (N+1))),(10,.int .i64 d.length)] (pst st [.cells .plain (d.map DV.str++List.replicate (m+1) (DV.str []))] []) =
   some (.exit 0,(0,.str s2)::(1,.str [10])::(2,.int .i64 0)::(3,.int .i64 N)::(9,.hsl 1 false st.heap.length 0 (N+1) (some (N+1)))::(10,.int .i64 N)::fr,pst st [.cells .plain (d2.map DV.str++[DV.str []])] []):=by
 intro m
 induction m with
 | zero=>
   intro s d hm hd hs
   obtain rfl:d.length=N:=by omega
   refine ⟨d,s,[(36,.bool false)],by rw [pK s hm],rfl,?_⟩
   rw [aj (L:=ua) rfl]
   simp [zZ]
 | succ m ih=>
   intro s d hm hd hs
   obtain ⟨k,h1,h2,h3,h4⟩:=ot s (by omega)
   have h0:d.length<N:=by omega
   have h65:=fun st=>Ho s st
   rw [h1] at h65
   have hk0:¬ (k:Int)<0:=by omega
   have w0:IntKind.i64.wrap ((k:Int)+0)=k:=by rw [aD (by omega)];simp
   have w1:IntKind.i64.wrap ((k:Int)+1)=((k+1:Nat):Int):=by rw [aD (by omega)];simp
   have w2:IntKind.i64.wrap ((d.length:Int)+1)=((d++[s.take k]).length:Nat):=by rw [aD (by omega)];simp
   have hkle:k≤s.length:=by omega
   have hkle1:k+1≤s.length:=by omega
   obtain ⟨d2,s2,fr,g1,g2,hJ⟩:=ih (s.drop (k+1)) (d++[s.take k]) (by omega) (by simp;omega) (by simp;omega)
   refine ⟨d2,s2,fr,by rw [← g1,h3];simp,g2,?_⟩
   have hsp:bl (d.map DV.str++List.replicate (m+1+1) (DV.str [])) d.length [.str (s.take k)]=(d++[s.take k]).map DV.str++List.replicate (m+1) (DV.str []):=by
    rw [eu (by simp),List.set_append_right _ _ (by simp)]
    simp [List.replicate_succ]
   have hlen:d.length+1≤(d.map DV.str++List.replicate (m+1+1) (DV.str [])).length:=by simp
   have h0n:(d.length:Int)<N+1:=by omega
   have hsl1:bY true 1 (.str s) none (some (.int .i64 (k:Int))) none=some (.str (s.take k)):=by rw [xH (by omega) (by omega)];simp
   have hsl2:bY true 1 (.str s) (some (.int .i64 ((k+1:Nat):Int))) none none=some (.str (s.drop (k+1))):=by rw [AY (by omega) (by omega)];simp
   simp only [List.length_append,List.length_singleton] at hJ w2
   generalize (d++[s.take k]).map DV.str++List.replicate (m+1) (DV.str [])=R at *
   generalize d.map DV.str++List.replicate (m+1+1) (DV.str [])=R0 at *
   generalize d2.map DV.str++[DV.str []]=R1 at *
   generalize s.take k=tk at *
   generalize s.drop (k+1)=dk at *
   simp only [bl] at hsp
   simp at hJ hsp w0 w1 w2 hsl1 hsl2
   rw [aj (L:=ua) rfl]
   simp [zZ,h0,h0n,h65,hk0,w0,w1,w2,hsl1,hsl2,hsp,hlen,hJ]
theorem EL (s:List UInt8) (hs:s.length≤1000000) (st:St):(E tab).F 435 [.str s,.str [10]] st=some (.list st.cur 1 .tight true ((bH s).map DV.str),st):=by
 have h461:∀ st,(E tab).F 461 [.str s,.str [10],.int .i64 0,.int .i64 (-1)] st=some (.list st.cur 1 .tight true ((bH s).map DV.str),st):=fun st=>by
  rw [aT apU rfl]
  have h44:=fun st=>FG s st
  have hc:s.count 10≤s.length:=List.count_le_length
  generalize hN:s.count 10=N at *
  obtain ⟨d2,s2,fr,g1,g2,hL⟩:=aik (st:=st) N (by omega) N s [] hN (by simp) hs
  simp only [List.nil_append] at g1
  have w1:IntKind.i64.wrap ((N:Int)+1)=N+1:=aD (by omega)
  have w2:IntKind.i64.wrap ((s.length:Int)+1)=s.length+1:=aD (by omega)
  have w3:IntKind.i64.wrap (N:Int)=N:=aD (by omega)
  have hmin:dw jb [.int .i64 ((N:Int)+1),.int .i64 ((s.length:Int)+1)]=some (.int .i64 ((N:Int)+1)):=by
   have:¬ (s.length:Int)+1<(N:Int)+1:=by omega
   simp [dw,jb,this]
  have b1:((N:Int)+1)*16≤140737488355328:=by omega
  have b2:N+1≤140737488355328:=by omega
  have b3:(N:Int)+1≤140737488355328:=by omega
  have b4:(0:Int)≤(N:Int)+1:=by omega
  have t1:((N:Int)+1).toNat=N+1:=by omega
  have hsp:bl (d2.map DV.str++[DV.str []]) N [.str s2]=(bH s).map DV.str:=by
   rw [g1,eu (by simp [g2]),List.set_append_right _ _ (by simp [g2])]
   simp [g2]
  have hlen:N+1≤(d2.map DV.str++[DV.str []]).length:=by simp [g2]
  have hln:(bH s).length=N+1:=by rw [g1];simp [g2]
  have x1:=tJ (st:=st) (K:=[]) (k:=0) (H:=[.cells .plain ((bH s).map DV.str)]) (cap:=some (N+1)) (ys:=(bH s).map DV.str) (by rw [NB];rfl) (by omega) (.inr rfl) OR
  rw [List.length_map,hln,if_pos rfl] at x1
  have hsl:=Fk (n:=1) (b:=st.heap.length) (off:=0) (len:=N+1) (c:=N+1) (hi:=N+1) (ag:=false) (k:=.i64) (Nat.le_refl _)
  have er:([]:List (List UInt8)).map DV.str++List.replicate (N+1) (DV.str [])=bk [.str []] (N+1):=by rw [mR];rfl
  rw [er] at hL
  generalize hZ:bk [DV.str []] (N+1)=Z at *
  generalize d2.map DV.str++[DV.str []]=R at *
  generalize (bH s).map DV.str=R1 at *
  simp only [bl] at hsp
  have eZ:bk [DV.str []] (N+1)=Z:=hZ
  simp at hL hsp x1 hsl
  simp [C1,eZ,show (N:Int)<N+1 by omega,h44,w1,w2,w3,hmin,aA,b1,b2,b3,b4,t1,hL,hsp,hlen,hsl,x1]
 rw [aT akY rfl]
 have h:=h461 (pst st [] [])
 simp at h
 simp [Fc,h]
end
theorem CS:tab 409=some (.code xn):=by kernel_rfl
theorem arW:tab 410=some (.code EB):=by kernel_rfl
theorem amE:tab 412=some (.code zp):=by kernel_rfl
theorem apD:tab 433=some (.code yO):=by kernel_rfl
theorem asB:tab 434=some (.code Ep):=by kernel_rfl
theorem apa:tab 436=some (.code Co):=by kernel_rfl
theorem aoj:tab 437=some (.code BB):=by kernel_rfl
theorem Oz:tab 460=some (.code CY):=by kernel_rfl
theorem ED:tab 462=some (.code wK):=by kernel_rfl
structure Fm where
 p:Int
 x:Int
 y:Int
 w:Int
 h:Int
def Fm.cs (f:Fm):List DV:=[.int .i64 f.p,.int .i64 f.x,.int .i64 f.y,.int .i64 f.w,.int .i64 f.h]
def Fm.dv (f:Fm):DV:=.agg f.cs
theorem alg (f:Fm):cX 5 true f.dv:=⟨rfl,rfl,rfl⟩
theorem pU {l:List Fm}:∀ y∈l.map Fm.dv,cX 5 true y:=fun y hy=>by obtain ⟨x,_,rfl⟩:=List.mem_map.1 hy;exact alg x
abbrev Fms (st:St) (l:List Fm) (v:DV):Prop:=Vw st 5 true (l.map Fm.dv) v
def lT (x:Int):Bool:=decide (0≤x)&&decide (x≤4095)
def gy (f:Fm):Bool:=decide (1≤f.p)&&decide (f.p≤4096)&&lT f.x&&lT f.y&&lT f.w&&lT f.h
def chF (l:List Fm):Int:=if 16<l.length then 2 else if l.all gy then 0 else 2
def zh (i:Nat) (h:Int):List (Nat×Nat):=(List.range (h.toNat/10)).map fun n=>(i,10*n)
def PL:List Fm→Nat→List (Nat×Nat)
 | [],_=>[]
 | f::r,i=>zh i f.h++PL r (i+1)
theorem q8:∀ (a b:List Fm) (i:Nat),PL (a++b) i=PL a i++PL b (i+a.length)
 | [],b,i=>by simp [PL]
 | f::a,b,i=>by simp only [List.cons_append,PL,q8 a b,List.append_assoc,List.length_cons];congr 3;omega
theorem mb (i:Nat) (h:Int):(zh i h).length=h.toNat/10:=by simp [zh]
theorem pW {f:Fm} (h:gy f=true):0≤f.w∧f.w≤4095∧0≤f.h∧f.h≤4095:=by
 simp [gy,lT] at h;omega
theorem pP:∀ (l:List Fm) (i:Nat),l.all gy=true→(PL l i).length≤409*l.length
 | [],_,_=>by simp [PL]
 | f::r,i,h=>by
   simp only [List.all_cons,Bool.and_eq_true] at h
   have h1:=pP r (i+1) h.2
   have h2:=pW h.1
   simp only [PL,List.length_append,mb,List.length_cons]
   omega
theorem Eg:∀ (l:List Fm) (i:Nat),∀ p∈PL l i,i≤p.1∧p.1<i+l.length
 | [],_,p,h=>by cases h
 | f::r,i,p,h=>by
   rcases List.mem_append.1 h with h | h
   · obtain ⟨n,_,rfl⟩:=List.mem_map.1 h
     simp
   · have:=Eg r (i+1) p h
     simp;omega
section
variable {st:St} {l:List Fm} {v:DV}
theorem ij (h:Fms st l v) (st':St):oY st' .slice v=some (.int .i64 l.length,st'):=by simpa using Vw.len h st'
theorem qY (h:Fms st l v) {i:Nat} (hi:i<l.length) (k:IntKind) (st':St):iF st' 5 v (.int k i)=some (elP 5 v i,st'):=Vw.aE h (by simpa using hi) k st'
theorem rf (h:Fms st l v) {i:Nat} {x:Fm} (hx:l[i]? = some x) (H:List HO) (K:List Nat):cE (pst st H K) 5 true (elP 5 v i)=some (.agg x.cs):=Vw.load (Vw.inn h H K) pU rfl (by simp [hx,Fm.dv])
theorem Eu (h:Fms st l v):v.bg=true:=by cases h<;>rfl
theorem aaD (x:Int) (st:St):(E tab).F 437 [.int .i64 x] st=some (.bool (lT x),st):=by
 rw [aT aoj rfl]
 unfold lT
 by_cases h:0≤x
 · simp [BB,h]
 · simp [BB,h]
theorem SE (hl:l.length≤16) (hv:Fms st l v) (K:List Nat):∀ (r d:List Fm) (H:List HO),l=d++r →
 ∃ J fr,(E tab).C iJ [(8,v),(9,.int .i64 l.length),(10,.int .i64 d.length)] (pst st H K) =
   some (if r.all gy then (.exit 0,fr,pst st (H++J) K) else (.ret,[(2,.int .i64 2)],pst st (H++J) K)):=by
 intro r
 induction r with
 | nil=>
   intro d H hd
   refine ⟨[],[(8,v),(9,.int .i64 l.length),(10,.int .i64 l.length),(11,.bool false)],?_⟩
   rw [aj (L:=iJ) rfl]
   simp [jn,hd]
 | cons f r ih=>
   intro d H hd
   have h0:d.length<l.length:=by simp [hd]
   have hg:l[d.length]? = some f:=by simp [hd]
   have a1:=fun st'=>qY hv h0 .i64 st'
   have a2:=fun H=>rf hv hg H K
   have hw1:IntKind.i64.wrap ((d.length:Int)+1)=((d++[f]).length:Nat):=by rw [aD (by omega)];simp
   have h437:=fun x st=>aaD x st
   obtain ⟨J,fr,hJ⟩:=ih (d++[f]) (H++[.cells .plain f.cs]) (by simp [hd])
   simp only [List.length_append,List.length_singleton] at hJ hw1
   simp only [Fm.cs] at a2 hJ
   by_cases c1:f.p<1
   · have:gy f=false:=by simp [gy];omega
     refine ⟨[.cells .plain f.cs],[],?_⟩
     rw [aj (L:=iJ) rfl]
     simp [jn,h0,a1,a2,c1,this,Fm.cs]
   by_cases c2:4096<f.p
   · have:gy f=false:=by simp [gy];omega
     refine ⟨[.cells .plain f.cs],[],?_⟩
     rw [aj (L:=iJ) rfl]
     simp [jn,h0,a1,a2,c1,c2,this,Fm.cs]
   have hok:gy f=(lT f.x&&lT f.y&&lT f.w&&lT f.h):=by
    have e1:1≤f.p:=by omega
    have e2:f.p≤4096:=by omega
    simp [gy,e1,e2]
   simp only [List.all_cons,hok]
   cases b1:lT f.x with
   | false=>
     refine ⟨[.cells .plain f.cs],[],?_⟩
     rw [aj (L:=iJ) rfl]
     simp [jn,h0,a1,a2,c1,c2,h437,b1,Fm.cs]
   | true=>
   cases b2:lT f.y with
   | false=>
     refine ⟨[.cells .plain f.cs],[],?_⟩
     rw [aj (L:=iJ) rfl]
     simp [jn,h0,a1,a2,c1,c2,h437,b1,b2,Fm.cs]
   | true=>
   cases b3:lT f.w with
   | false=>
     refine ⟨[.cells .plain f.cs],[],?_⟩
     rw [aj (L:=iJ) rfl]
     simp [jn,h0,a1,a2,c1,c2,h437,b1,b2,b3,Fm.cs]
   | true=>
   cases b4:lT f.h with
   | false=>
     refine ⟨[.cells .plain f.cs],[],?_⟩
     rw [aj (L:=iJ) rfl]
     simp [jn,h0,a1,a2,c1,c2,h437,b1,b2,b3,b4,Fm.cs]
   | true=>
     refine ⟨[.cells .plain f.cs]++J,fr,?_⟩
     simp only [Bool.and_self,Bool.true_and]
     rw [← List.append_assoc]
     simp only [Fm.cs]
     rw [← hJ]
     rw [aj (L:=iJ) rfl]
     simp [jn,h0,a1,a2,c1,c2,h437,b1,b2,b3,b4,hw1]
theorem rm (hv:Fms st l v):(E tab).F 412 [v] st=some (.int .i64 (chF l),st):=by
 rw [aT amE rfl]
 have hn:=fun st'=>ij hv st'
 unfold chF
 by_cases h1:16<l.length
 · have h1':(16:Int)<l.length:=by omega
   simp [zp,hn,h1,h1']
 have h1':¬ (16:Int)<l.length:=by omega
 obtain ⟨J,fr,hL⟩:=SE (by omega) hv [] l [] [] rfl
 simp only [List.length_nil,Int.natCast_zero] at hL
 rw [if_neg h1]
 cases ha:l.all gy with
 | false=>rw [ha] at hL;simp at hL;simp [zp,hn,h1',hL]
 | true=>rw [ha] at hL;simp at hL;simp [zp,hn,h1',hL]
theorem aiQ (hl:l.length≤16) (hv:Fms st l v) (hok:l.all gy=true) (K:List Nat):∀ (r d:List Fm) (H:List HO),l=d++r →
 ∃ J fr,(E tab).C uL [(5,.int .i64 (PL d 0).length),(13,v),(14,.int .i64 l.length),(15,.int .i64 d.length)] (pst st H K) =
   some (.exit 0,(5,.int .i64 (PL l 0).length)::fr,pst st (H++J) K):=by
 intro r
 induction r with
 | nil=>
   intro d H hd
   refine ⟨[],[(13,v),(14,.int .i64 l.length),(15,.int .i64 l.length),(16,.bool false)],?_⟩
   rw [aj (L:=uL) rfl]
   simp [yG,hd]
 | cons f r ih=>
   intro d H hd
   have h0:d.length<l.length:=by simp [hd]
   have hg:l[d.length]? = some f:=by simp [hd]
   have a1:=fun st'=>qY hv h0 .i64 st'
   have a2:=fun H=>rf hv hg H K
   have hf:=pW (List.all_eq_true.1 hok f (by rw [hd];simp))
   have hw1:IntKind.i64.wrap ((d.length:Int)+1)=((d++[f]).length:Nat):=by rw [aD (by omega)];simp
   have hpl:=pP l 0 hok
   have hpd:(PL (d++[f]) 0).length=(PL d 0).length+f.h.toNat/10:=by rw [q8];simp [PL,mb]
   have hle:(PL (d++[f]) 0).length≤(PL l 0).length:=by rw [hd,show d++f::r=(d++[f])++r by simp,q8 (d++[f])];simp
   have w2:IntKind.i64.wrap (f.h.tdiv 10)=((f.h.toNat/10:Nat):Int):=by
    rw [Int.tdiv_eq_ediv_of_nonneg hf.2.2.1,aD (by omega)];omega
   have w3:IntKind.i64.wrap (((PL d 0).length:Int)+((f.h.toNat/10:Nat):Int))=((PL (d++[f]) 0).length:Nat):=by rw [hpd,aD (by omega)];simp
   obtain ⟨J,fr,hJ⟩:=ih (d++[f]) (H++[.cells .plain f.cs]) (by simp [hd])
   refine ⟨[.cells .plain f.cs]++J,fr,?_⟩
   simp only [List.length_append,List.length_singleton] at hw1
   rw [show (d++[f]).length=d.length+1 by simp] at hJ
   simp only [Fm.cs] at a2 hJ ⊢
   rw [← List.append_assoc,← hJ]
   generalize (PL (d++[f]) 0).length=n2 at *
   generalize (PL d 0).length=n1 at *
   generalize f.h.toNat/10=q at *
   rw [aj (L:=uL) rfl]
   simp [yG,h0,a1,a2,w2,w3,hw1]
theorem Dh (hv:Fms st l v) (hc:chF l=0):(E tab).F 410 [v] st=some (.tuple [.int .i64 (PL l 0).length,.int .i64 0],st):=by
 rw [aT arW rfl]
 have hn:=fun st'=>ij hv st'
 have h412:=fun H K=>rm (st:=pst st H K) (hv.inn H K)
 rw [hc] at h412
 have hc2:l.length≤16∧l.all gy=true:=by
  unfold chF at hc
  split at hc
  · omega
  · split at hc
    · rename_i h;exact ⟨by omega,h⟩
    · omega
 obtain ⟨J,fr,hL⟩:=aiQ hc2.1 hv hc2.2 [] l [] [] rfl
 simp [PL] at hL h412
 simp [EB,hn,h412,hL]
def jY (c:UInt8):Bool:=ly c||decide (c=10)
def wrF (s:List UInt8):Int:=if 4096<s.length then 3 else if s.all jY then 0 else 4
theorem W6 (s:List UInt8) (hs:s.length≤4096) (c0:Nat) (st:St):∀ (r d:List UInt8),s=d++r →
 ∃ fr,(E tab).C uF [(9,.list c0 1 .no true (s.map fun b=>.int .u8 b.toNat)),(10,.int .i64 s.length),(11,.int .i64 d.length)] st =
   some (if r.all jY then (.exit 0,fr,st) else (.ret,[(2,.int .i64 4)],st)):=by
 intro r
 induction r with
 | nil=>
   intro d hd
   rw [aj (L:=uF) rfl]
   simp [nO,hd]
 | cons c r ih=>
   intro d hd
   have h0:d.length<s.length:=by simp [hd]
   have hg:s[d.length]=c:=by simp [hd]
   have hw:IntKind.i64.wrap ((d.length:Int)+1)=((d++[c]).length:Nat):=by rw [aD (by omega)];simp
   obtain ⟨fr,hJ⟩:=ih (d++[c]) (by simp [hd])
   refine ⟨fr,?_⟩
   rw [aj (L:=uF) rfl]
   simp only [List.length_append,List.length_singleton] at hJ hw
   by_cases h10:c=10
   · subst h10
     have hb:jY 10=true:=by decide
     simp [nO,h0,hg,hb,hw]
     simpa using hJ
   have h10':¬ (c.toNat:Int)=10:=by
    intro e
    apply h10
    have:c.toNat=10:=by omega
    exact UInt8.toNat_inj.1 (by simpa using this)
   have h10'':¬ c.toNat=10:=by omega
   by_cases h1:c.toNat<32
   · have hb:jY c=false:=by simp [jY,ly,h10];omega
     have h1':(c.toNat:Int)<32:=by omega
     simp [nO,h0,hg,h1,h1',hb,h10',h10'']
   · have h1':¬ (c.toNat:Int)<32:=by omega
     by_cases h2:126<c.toNat
     · have hb:jY c=false:=by simp [jY,ly,h10];omega
       have h2':126<(c.toNat:Int):=by omega
       simp [nO,h0,hg,h1,h1',h2,h2',hb,h10',h10'']
     · have hb:jY c=true:=by simp [jY,ly];left;omega
       have h2':¬ 126<(c.toNat:Int):=by omega
       simp [nO,h0,hg,h1,h1',h2,h2',hb,hw]
       simpa using hJ
theorem wv (s:List UInt8) (st:St):(E tab).F 433 [.str s] st=some (.int .i64 (wrF s),st):=by
 rw [aT apD rfl]
 unfold wrF
 by_cases h1:4096<s.length
 · have h1':(4096:Int)<s.length:=by omega
   simp [yO,h1,h1']
 have h1':¬ (4096:Int)<s.length:=by omega
 obtain ⟨fr,hL⟩:=W6 s (by omega) st.cur (pst st [] []) s [] rfl
 simp only [List.length_nil,Int.natCast_zero] at hL
 rw [if_neg h1]
 cases ha:s.all jY with
 | false=>rw [ha] at hL;simp at hL;simp [yO,h1',hL]
 | true=>rw [ha] at hL;simp at hL;simp [yO,h1',hL]
end
def pD (p:Nat×Nat):DV:=.agg [.int .i64 p.1,.int .i64 p.2]
theorem Oe (p:Nat×Nat):cX 2 true (pD p):=⟨rfl,rfl,rfl⟩
theorem D3 {l:List (Nat×Nat)}:∀ y∈l.map pD,cX 2 true y:=fun y hy=>by obtain ⟨x,_,rfl⟩:=List.mem_map.1 hy;exact Oe x
section
variable {st:St} {k:Nat} {l:List Fm} {v y:DV} {P:Nat→List HO→List Nat→Prop}
theorem Hx (i:Nat) (h:Int) {n:Nat} (hn:n<h.toNat/10):(zh i h)[n]? = some (i,10*n):=by
 simp [zh,hn]
theorem Vq (hP:∀ j H K o,P j H K→P j (H++[o]) K)
 (step:∀ j p,(PL l 0)[j]? = some p→∀ H K,P j H K→∃ H' K',(E tab).V y [.int .i64 p.1,.int .i64 p.2] (pst st H K)=some (.bool true,pst st H' K')∧P (j+1) H' K')
 (i cnt base:Nat) (hc:cnt≤409) (hb:∀ n,n<cnt→(PL l 0)[base+n]? = some (i,10*n)) (c6 c7 c8:DV):∀ (m n:Nat) (H:List HO) (K:List Nat),n+m=cnt→P (base+n) H K →
 ∃ H' K',P (base+cnt) H' K'∧(E tab).C uV [(0,y),(3,.int .i64 i),(6,c6),(7,c7),(8,c8),(15,.int .i64 cnt),(16,.int .i64 n)] (pst st H K) =
   some (.exit 2,[(0,y),(3,.int .i64 i),(6,c6),(7,c7),(8,c8),(15,.int .i64 cnt),(16,.int .i64 cnt),(17,.bool false)],pst st H' K'):=by
 intro m
 induction m with
 | zero=>
   intro n H K hn hp
   obtain rfl:n=cnt:=by omega
   refine ⟨H,K,hp,?_⟩
   rw [aj (L:=uV) rfl]
   simp [zc]
 | succ m ih=>
   intro n H K hn hp
   have hlt:n<cnt:=by omega
   obtain ⟨H1,K1,hV,hp1⟩:=step (base+n) _ (hb n hlt) H K hp
   obtain ⟨H',K',hp',hJ⟩:=ih (n+1) H1 K1 (by omega) hp1
   refine ⟨H',K',hp',?_⟩
   have w1:IntKind.i64.wrap ((n:Int)+1)=(n+1:Nat):=by rw [aD (by omega)];simp
   have w2:IntKind.i64.wrap ((n:Int)*10)=((10*n:Nat):Int):=by rw [aD (by omega)];omega
   simp only at hV
   rw [aj (L:=uV) rfl]
   simp [zc,hlt,w2]
   simp at hV hJ w1
   simp [hV,w1,hJ]
theorem aaN (hl:l.length≤16) (hok:l.all gy=true) (hv:Fms st l v) (hP:∀ j H K o,P j H K→P j (H++[o]) K)
 (step:∀ j p,(PL l 0)[j]? = some p→∀ H K,P j H K→∃ H' K',(E tab).V y [.int .i64 p.1,.int .i64 p.2] (pst st H K)=some (.bool true,pst st H' K')∧P (j+1) H' K') :
 ∀ (r d:List Fm) (H:List HO) (K:List Nat),l=d++r→P (PL d 0).length H K →
 ∃ H' K' fr,P (PL l 0).length H' K'∧(E tab).C vm [(0,y),(6,v),(7,.int .i64 l.length),(8,.int .i64 d.length)] (pst st H K)=some (.exit 0,fr,pst st H' K'):=by
 intro r
 induction r with
 | nil=>
   intro d H K hd hp
   obtain rfl:l=d:=by simpa using hd
   refine ⟨H,K,[(0,y),(6,v),(7,.int .i64 l.length),(8,.int .i64 l.length),(9,.bool false)],hp,?_⟩
   rw [aj (L:=vm) rfl]
   simp [yy]
 | cons f r ih=>
   intro d H K hd hp
   have h0:d.length<l.length:=by simp [hd]
   have hg:l[d.length]? = some f:=by simp [hd]
   have a1:=fun st'=>qY hv h0 .i64 st'
   have a2:=rf hv hg H K
   have hf:=pW (List.all_eq_true.1 hok f (by rw [hd];simp))
   have hw1:IntKind.i64.wrap ((d.length:Int)+1)=((d++[f]).length:Nat):=by rw [aD (by omega)];simp
   have w2:IntKind.i64.wrap (f.h.tdiv 10)=((f.h.toNat/10:Nat):Int):=by
    rw [Int.tdiv_eq_ediv_of_nonneg hf.2.2.1,aD (by omega)];omega
   have hPL:PL l 0=PL d 0++(zh d.length f.h++PL r (d.length+1)):=by rw [hd,q8];simp [PL]
   obtain ⟨H1,K1,hp1,hI⟩:=Vq hP step d.length (f.h.toNat/10) (PL d 0).length (by omega) (fun n hn=>by
    rw [hPL,List.getElem?_append_right (by omega),List.getElem?_append_left (by rw [mb];omega),show (PL d 0).length+n-(PL d 0).length=n by omega]
    exact Hx _ _ hn) v (.int .i64 l.length) (.int .i64 d.length) (f.h.toNat/10) 0 (H++[.cells .plain f.cs]) K (by omega) (hP _ _ _ _ hp)
   have hpd:(PL (d++[f]) 0).length=(PL d 0).length+f.h.toNat/10:=by rw [q8];simp [PL,mb]
   rw [← hpd] at hp1
   obtain ⟨H',K',fr,hp',hJ⟩:=ih (d++[f]) H1 K1 (by simp [hd]) hp1
   refine ⟨H',K',fr,hp',?_⟩
   simp only [List.length_append,List.length_singleton] at hJ hw1
   simp only [Fm.cs] at a2 hI
   generalize f.h.toNat/10=q at *
   simp at hI hJ hw1
   rw [aj (L:=vm) rfl]
   simp [yy,h0,a1,a2,w2,hI,hw1,hJ]
theorem Cd (hl:l.length≤16) (hok:l.all gy=true) (hv:Fms st l v) (hP:∀ j H K o,P j H K→P j (H++[o]) K) (hrow:∀ j H K,P j H K→rowAt H k=some (.plain,[v]))
 (step:∀ j p,(PL l 0)[j]? = some p→∀ H K,P j H K→∃ H' K',(E tab).V y [.int .i64 p.1,.int .i64 p.2] (pst st H K)=some (.bool true,pst st H' K')∧P (j+1) H' K') (H:List HO) (K:List Nat) (hp:P 0 H K) :
 ∃ H' K',P (PL l 0).length H' K'∧(E tab).F 460 [y,.ptr (st.heap.length+k) 0] (pst st H K)=some (.tuple [],pst st H' K'):=by
 have hn:=fun st'=>ij hv st'
 obtain ⟨H',K',fr,hp',hL⟩:=aaN (y:=y) hl hok hv hP step l [] H K rfl hp
 refine ⟨H',K',hp',?_⟩
 rw [eC Oz rfl]
 simp at hL
 simp [CY,hrow 0 H K hp,hn,hL]
end
def kJ:RC:=(.seq (.region DR [9,10,35]) (.region AX [9,10,11]))
def jW:RC:=(.block 1 (.au Ae [] [(0,[1])] []))
def lh (v t:DV) (N:Nat):Fr:=[(0,t),(9,.ptr (N+1) 0),(33,.fn 460 [] [.ptr (N+2) 0])]
abbrev o0 (v t:DV) (N:Nat) (s:Nat) (q:Option Ex):HO:=.loop (fZ (lh v t N) [34,35] kJ jW s q)
structure FlS (st:St) (l:List Fm) (v t:DV) (lo:HO) (j:Nat) (H:List HO) (K:List Nat):Prop where
 r0:∃ u,rowAt H 0=some (.plain,[v,u])∧Acc st K 2 (((PL l 0).take j).map pD) u
 r1:rowAt H 1=some (.plain,[.ptr st.heap.length 0])
 r2:rowAt H 2=some (.plain,[v])
 r3:H[3]? = some lo
section
variable {st:St} {l:List Fm} {v t:DV} {lo:HO} {j:Nat} {H:List HO} {K:List Nat}
theorem FlS.app (h:FlS st l v t lo j H K) (X:List HO):FlS st l v t lo j (H++X) K:=by
 obtain ⟨⟨u,h0,hu⟩,h1,h2,h3⟩:=h
 exact ⟨⟨u,b5 h0 X,hu⟩,b5 h1 X,b5 h2 X,by rw [List.getElem?_append_left (List.getElem?_eq_some_iff.1 h3).1];exact h3⟩
theorem oO {j i:Nat} {o:HO} {H:List HO} (h:j≠i):rowAt (H.set i o) j=rowAt H j:=by
 unfold rowAt;rw [List.getElem?_set_ne (fun e=>h e.symm)]
theorem FlS.put (h:FlS st l v t lo j H K) (lo':HO):FlS st l v t lo' j (H.set 3 lo') K:=by
 obtain ⟨⟨u,h0,hu⟩,h1,h2,h3⟩:=h
 exact ⟨⟨u,by rw [oO (by omega)];exact h0,hu⟩,by rw [oO (by omega)];exact h1,by rw [oO (by omega)];exact h2,by rw [List.getElem?_set_self (List.getElem?_eq_some_iff.1 h3).1]⟩
theorem M3 (hl:l.length≤16) (hok:l.all gy=true) {p:Nat×Nat} (hp:(PL l 0)[j]? = some p) (h:FlS st l v t (o0 v t st.heap.length 0 none) j H K) :
 ∃ H' K',(E tab).V (.yield (st.heap.length+3)) [.int .i64 p.1,.int .i64 p.2] (pst st H K)=some (.bool true,pst st H' K')∧FlS st l v t (o0 v t st.heap.length 0 none) (j+1) H' K':=by
 obtain ⟨⟨u,h0,hu⟩,h1,h2,h3⟩:=h.put (o0 v t st.heap.length 1 none)
 have hpl:=pP l 0 hok
 have hj:j<(PL l 0).length:=(List.getElem?_eq_some_iff.1 hp).1
 obtain ⟨u',K',hA,hu'⟩:=fy (H:=H.set 3 (o0 v t st.heap.length 1 none)) (by_:=16) (ag:=true) (tk:=.tight) (t:=st.cur) (ys:=[pD p]) hu (by omega) (by simp) (fun y hy=>by rw [List.mem_singleton] at hy;subst hy;exact Oe p) (by simp [aA];omega) (by simp [aA];omega)
 have ht:((PL l 0).take j).map pD++[pD p]=((PL l 0).take (j+1)).map pD:=by rw [List.take_add_one,hp,List.map_append];rfl
 rw [ht] at hu'
 have hk0:=aZ h0
 have hul:u'.leaves=[u']∧u'.bg=true:=by obtain ⟨t,n',tk,nn,rfl⟩:=dS hu';exact ⟨rfl,rfl⟩
 have hK2:∃ fr2,(E tab).C jW [(9,.ptr (st.heap.length+1) 0),(10,.int .i64 p.1),(11,.int .i64 p.2)] (pst st (H.set 3 (o0 v t st.heap.length 1 none)) K)=some (.normal,fr2,pst st ((H.set 3 (o0 v t st.heap.length 1 none)).set 0 (.cells .plain [v,u'])) K'):=by
  refine ⟨[],?_⟩
  generalize H.set 3 (o0 v t st.heap.length 1 none)=G at *
  simp only [pD] at hA
  unfold jW
  simp [eB,jH,lD,lO,bh,h0,h1,a0,bk,chunk,hA,hul]
 have s2:FlS st l v t (o0 v t st.heap.length 1 none) (j+1) ((H.set 3 (o0 v t st.heap.length 1 none)).set 0 (.cells .plain [v,u'])) K':=
  ⟨⟨u',cP hk0 _ _,hu'⟩,by rw [oO (by omega)];exact h1,by rw [oO (by omega)];exact h2,by rw [List.getElem?_set_ne (by omega)];exact h3⟩
 refine ⟨_,K',?_,s2.put (o0 v t st.heap.length 0 none)⟩
 have hV:=wL (T:=tab) (st:=st) (H:=H) (H1:=H) (K:=K) (K1:=K) (K2:=K') (k:=3) (fr:=lh v t st.heap.length) (params:=[34,35]) (assign:=kJ) (body:=jW) (args:=[.int .i64 p.1,.int .i64 p.2])
  (e:=.normal) (fr1:=[(9,.ptr (st.heap.length+1) 0),(10,.int .i64 p.1),(11,.int .i64 p.2)]) h.r3 rfl (by simp [kJ,lh]) h.r3 ?_ s2.r3
 · simpa [yT] using hV
 · exact hK2
end
def gI:dP:=⟨8,10,0,0,0,0,0,0,0,0,1,1,0,0,0,0,0⟩
def ky (l:List Fm):Sl:=⟨0,match l.getLast? with | some f=>f.w | none=>0⟩
def slF (l:List Fm) (ah:List (Nat×Nat)):List Sl:=(ah.take 256).map fun p=>⟨0,match l[p.1]? with | some f=>f.w | none=>0⟩
def flL (l:List Fm) (ah:List (Nat×Nat)) (s:List UInt8):List Ln:=if qw (gP gI s) (slF l ah) (ky l)=0 then lN (gP gI s) (slF l ah) (ky l) else []
theorem Jy {n:Nat} {xs:List DV} {u:DV} (h:Lw n xs u) {m:Nat} (hm:m≤xs.length) (k:IntKind):∃ u',bY false n u none (some (.int k m)) none=some u'∧Lw n (xs.take m) u':=by
 cases h with
 | list t n' tk nn h1 h2=>
   refine ⟨_,Kc h1 (by omega) (by omega),?_⟩
   simp only [Int.toNat_natCast]
   exact .list _ _ _ _ h1 fun e=>by rw [h2 e];simp
theorem Lx {n:Nat} {xs:List DV} {u:DV} (h:Lw n xs u) {m:Nat} (hm:m≤xs.length) (k:IntKind):∃ u',bY false n u (some (.int k m)) none none=some u'∧Lw n (xs.drop m) u':=by
 cases h with
 | list t n' tk nn h1 h2=>
   refine ⟨_,o9 h1 (by omega) (by omega),?_⟩
   simp only [Int.toNat_natCast]
   exact .list _ _ _ _ h1 fun e=>by rw [h2 e];simp
theorem Lw.sc {n:Nat} {xs:List DV} {u:DV} (h:Lw n xs u):u.leaves=[u]∧u.bg=true:=by cases h;exact ⟨rfl,rfl⟩
section
variable {st:St} {l:List Fm} {v u:DV} {H:List HO} {K:List Nat} {ah:List (Nat×Nat)}
theorem OE (h:Fms st l v) {i:Nat} {f:Fm} (hf:l[i]? = some f) (H:List HO) (K:List Nat) (k:IntKind) (st':St) :
 iF st' 5 v (.int k i)=some (elP 5 v i,st')∧km st' 3 (elP 5 v i)=some (faP 3 (elP 5 v i),st')∧cE (pst st H K) 1 false (faP 3 (elP 5 v i))=some (.int .i64 f.w):=by
 have hi:=(List.getElem?_eq_some_iff.1 hf).1
 refine ⟨qY h hi k st',Vw.fF h pU (by simpa using hi) (by omega) st',?_⟩
 exact Vw.Fg (Vw.inn h H K) pU (i:=i) (x:=f.dv) (by simp [hf]) rfl
theorem Bc (h0:rowAt H 0=some (.plain,[v,u])) (hv:Fms st l v) (hl:l.length≤16):∃ X,(E tab).F 462 [.ptr st.heap.length 0] (pst st H K)=some (.agg (ky l).cs,pst st (H++X) K):=by
 have hn:=fun st'=>ij hv st'
 have h0':=fun X=>b5 h0 X
 rw [eC ED rfl]
 by_cases he:l=[]
 · subst he
   refine ⟨[.cells .plain [.int .i64 0,.int .i64 0]],?_⟩
   simp at hn
   simp [wK,h0',hn,ky,Sl.cs]
 · have hp:0<l.length:=List.length_pos_iff.2 he
   have hne:¬ (l.length:Int)=0:=by omega
   obtain ⟨f,hf⟩:∃ f,l[l.length-1]? = some f:=⟨l[l.length-1],List.getElem?_eq_getElem (by omega)⟩
   have hg:l.getLast? = some f:=by rw [List.getLast?_eq_getElem?];exact hf
   have w1:IntKind.i64.wrap ((l.length:Int)-1)=((l.length-1:Nat):Int):=by rw [aD (by omega)];omega
   have a:=fun H K st'=>OE hv hf H K .i64 st'
   refine ⟨[.cells .plain [.int .i64 0,.int .i64 f.w]],?_⟩
   simp only [ky,hg,Sl.cs]
   simp [wK,h0',hn,hne,he,w1,fun st'=>(a [] [] st').1,fun st'=>(a [] [] st').2.1,fun H K=>(a H K st).2.2]
theorem acN (hv:Fms st l v) {as_:List (Nat×Nat)} {u':DV} (hu:Lw 2 (as_.map pD) u') (hah:∀ p∈as_,p.1<l.length) (hal:as_.length≤256) (s:DV) (K0:List Nat):∀ (r d:List (Nat×Nat)) (G:List HO) (K:List Nat) (ov:DV) (o:Option Nat),as_=d++r→rowAt G 0=some (.plain,[v,u]) →
 Ac st K 2 ((d.map fun p=>(⟨0,match l[p.1]? with | some f=>f.w | none=>0⟩:Sl)).map Sl.dv) ov o→(∀ k,o=some k→K0.length≤k)→K0.length≤K.length→(∀ j,j<K0.length→K[j]? = K0[j]?) →
 ∃ Y K' ov' fr,Lw 2 ((as_.map fun p=>(⟨0,match l[p.1]? with | some f=>f.w | none=>0⟩:Sl)).map Sl.dv) ov'∧K0.length≤K'.length∧(∀ j,j<K0.length→K'[j]? = K0[j]?) ∧
   (E tab).C tW [(0,.ptr st.heap.length 0),(1,s),(5,ov),(21,u'),(22,.int .i64 as_.length),(23,.int .i64 d.length)] (pst st G K) =
   some (.exit 0,(0,.ptr st.heap.length 0)::(1,s)::(5,ov')::fr,pst st (G++Y) K'):=by
 have hvw:Vw st 2 true (as_.map pD) u':=hu.vw
 have e0:=fun st'=>hvw.len st'
 simp only [List.length_map] at e0
 intro r
 induction r with
 | nil=>
   intro d G K ov o hd h0 ho _ hK hKK
   obtain rfl:as_=d:=by simpa using hd
   refine ⟨[],K,ov,[(21,u'),(22,.int .i64 as_.length),(23,.int .i64 as_.length),(24,.bool false)],yb ho.acc,hK,hKK,?_⟩
   rw [aj (L:=tW) rfl]
   simp [za]
 | cons p r ih=>
   intro d G K ov o hd h0 ho hoK hK hKK
   have hlt:d.length<as_.length:=by simp [hd]
   have hg:as_[d.length]? = some p:=by simp [hd]
   have a1:=fun st'=>hvw.aE (i:=d.length) (by simpa using hlt) .i64 st'
   have a2:=fun H K=>Vw.load (Vw.inn hvw H K) D3 rfl (i:=d.length) (x:=pD p) (by simp [hg])
   obtain ⟨f,hf⟩:∃ f,l[p.1]? = some f:=⟨l[p.1]'(hah p (by rw [hd];simp)),List.getElem?_eq_getElem _⟩
   have b:=fun H K st'=>OE hv hf H K .i64 st'
   have hw1:IntKind.i64.wrap ((d.length:Int)+1)=((d++[p]).length:Nat):=by rw [aD (by omega)];simp
   obtain ⟨ov2,K2,k2,hA,ho2,hk2,hst⟩:=uH (st:=st) (H:=G++[.cells .plain [.int .i64 p.1,.int .i64 p.2]]) (by_:=16) (ag:=true) (ys:=[(⟨0,f.w⟩:Sl).dv]) (w:=.list st.cur 2 .tight true [(⟨0,f.w⟩:Sl).dv]) ho (.list _ _ _ _ (fun _=>rfl) (fun h=>by cases h)) (by omega) (by simp) (fun y hy=>by rw [List.mem_singleton] at hy;subst hy;exact wq _) (by simp [aA];omega) (by simp [aA];omega)
   have hk3:K0.length≤k2:=by
    rcases hk2 with h | ⟨_,h⟩
    · exact hoK k2 h
    · omega
   have hK2:∀ j,j<K0.length→K2[j]? = K0[j]?:=fun j hj=>by rw [hst j (by omega) (by omega)];exact hKK j hj
   have hK2l:K0.length≤K2.length:=by
    by_cases hz:K0.length=0
    · omega
    · have h1:=hK2 (K0.length-1) (by omega)
      rw [List.getElem?_eq_getElem (by omega:K0.length-1<K0.length)] at h1
      have:=(List.getElem?_eq_some_iff.1 h1).1
      omega
   have ed:(d++[p]).map (fun p=>(⟨0,match l[p.1]? with | some f=>f.w | none=>0⟩:Sl))=d.map (fun p=>(⟨0,match l[p.1]? with | some f=>f.w | none=>0⟩:Sl))++[⟨0,f.w⟩]:=by simp [hf]
   obtain ⟨Y,K',ov',fr,hL,g1,g2,hJ⟩:=ih (d++[p]) (G++[.cells .plain [.int .i64 p.1,.int .i64 p.2]]) K2 ov2 (some k2) (by simp [hd]) (b5 h0 _) (by rw [ed,List.map_append];exact ho2) (fun k hk=>by cases hk;exact hk3) hK2l hK2
   have h0':=b5 h0 [HO.cells .plain [.int .i64 p.1,.int .i64 p.2]]
   refine ⟨[.cells .plain [.int .i64 p.1,.int .i64 p.2]]++Y,K',ov',fr,hL,g1,g2,?_⟩
   rw [← List.append_assoc]
   simp only [List.length_append,List.length_singleton] at hJ hw1
   simp only [pD,Sl.dv,Sl.cs] at a2 hA
   rw [aj (L:=tW) rfl]
   simp at hJ hA hw1 h0' ⊢
   simp [za,hlt,a1,a2,h0',fun st'=>(b [] [] st').1,fun st'=>(b [] [] st').2.1,fun H K=>(b H K st).2.2,a0,bk,chunk,hA,hw1,hJ]
theorem ad0 (h0:rowAt H 0=some (.plain,[v,u])) (hv:Fms st l v) (hl:l.length≤16) (hu:Lw 2 (ah.map pD) u) (hah:∀ p∈ah,p.1<l.length) (hal:ah.length≤10000) (s:List UInt8) :
 ∃ vl X K',(E tab).F 436 [.ptr st.heap.length 0,.str s] (pst st H K)=some (vl,pst st (H++X) K')∧Lw 7 ((flL l ah s).map Ln.dv) vl∧K.length≤K'.length∧∀ j,j<K.length→K'[j]? = K[j]?:=by
 have hvw:Vw st 2 true (ah.map pD) u:=hu.vw
 have e0:=fun st'=>hvw.len st'
 simp only [List.length_map] at e0
 have h0':=fun X=>b5 h0 X
 obtain ⟨u',hs,hu'⟩:=Jy hu (m:=min ah.length 256) (by simp;omega) .i64
 have hmin:dw jb [.int .i64 (ah.length:Int),.int .i64 256]=some (.int .i64 ((min ah.length 256:Nat):Int)):=by
  have:(if (256:Int)<(ah.length:Int) then (256:Int) else (ah.length:Int))=((min ah.length 256:Nat):Int):=by split<;>omega
  simp [dw,jb,this]
 have htk:(ah.map pD).take (min ah.length 256)=(ah.take 256).map pD:=by
  rw [← List.map_take];congr 1
  by_cases h:ah.length≤256
  · rw [Nat.min_eq_left h,List.take_length,List.take_of_length_le h]
  · rw [Nat.min_eq_right (by omega)]
 rw [htk] at hu'
 have hlen:(ah.take 256).length=min ah.length 256:=by simp;omega
 have hvw':Vw st 2 true ((ah.take 256).map pD) u':=hu'.vw
 have e0':=fun st'=>hvw'.len st'
 simp only [List.length_map] at e0'
 obtain ⟨X1,K1,ov,fr,hov,hK1,hKK1,hL⟩:=acN hv hu' (fun p hp=>hah p (List.mem_of_mem_take hp)) (by rw [hlen];omega) (.str s) K (ah.take 256) [] H K (.list 0 0 .no false []) none rfl h0 ⟨rfl,_,_,_,rfl⟩ (fun k h=>by cases h) (Nat.le_refl _) (fun _ _=>rfl)
 rw [show ((ah.take 256).map fun p=>(⟨0,match l[p.1]? with | some f=>f.w | none=>0⟩:Sl))=slF l ah from rfl] at hov
 obtain ⟨G,hG⟩:∃ G,G=H++X1:=⟨_,rfl⟩
 have g0:rowAt G 0=some (.plain,[v,u]):=by rw [hG];exact b5 h0 X1
 rw [← hG] at hL
 have g0':=fun X=>b5 g0 X
 rw [eC apa rfl]
 by_cases hse:s=[]
 · subst hse
   obtain ⟨X2,hR⟩:=Bc (u:=u) (K:=K1) (g0' [.cells .plain (av (gP gI []) (gW st []) ⟨0,0,.no,false⟩)]) hv hl
   obtain ⟨vl,h307,hvl⟩:=D9 (st:=pst st (G++[.cells .plain (av (gP gI []) (gW st []) ⟨0,0,.no,false⟩)]++X2) K1) (p:=gP gI []) (w:=gW st []) (u:=⟨0,0,.no,false⟩) (sl:=slF l ah) (sv:=ov) (rest:=ky l) (wQ _ _) (ON _ _ _) (Oj _ _) (by simp [gP,gI]) hov.vw
   refine ⟨vl,X1++([.cells .plain (av (gP gI []) (gW st []) ⟨0,0,.no,false⟩)]++X2),K1,?_,hvl,hK1,hKK1⟩
   rw [← List.append_assoc,← hG,← List.append_assoc]
   generalize qw (gP gI []) (slF l ah) (ky l)=EE at *
   clear hG
   simp [av,gP,gW,gI,dP.cs,LW.dv,Sl.dv] at hL hR h307
   simp [Co,h0,h0',g0,g0',e0,hmin,hs,e0',hL,hR,h307,eB,jH,lD,lO,bh,av,gP,gW,gI,dP.cs,LW.dv,kS ED,show wK.fe=false from rfl,kS Eh,show xu.fe=true from rfl]
 · have hs2:s.isEmpty=false:=by simpa using hse
   obtain ⟨X2,hR⟩:=Bc (u:=u) (K:=K1) (g0' [.cells .plain (av (gP gI s) (gW st s) ⟨0,0,.no,false⟩)]) hv hl
   obtain ⟨vl,h307,hvl⟩:=D9 (st:=pst st (G++[.cells .plain (av (gP gI s) (gW st s) ⟨0,0,.no,false⟩)]++X2) K1) (p:=gP gI s) (w:=gW st s) (u:=⟨0,0,.no,false⟩) (sl:=slF l ah) (sv:=ov) (rest:=ky l) (wQ _ _) (ON _ _ _) (Oj _ _) (by simp [gP,gI]) hov.vw
   refine ⟨vl,X1++([.cells .plain (av (gP gI s) (gW st s) ⟨0,0,.no,false⟩)]++X2),K1,?_,hvl,hK1,hKK1⟩
   rw [← List.append_assoc,← hG,← List.append_assoc]
   generalize qw (gP gI s) (slF l ah) (ky l)=EE at *
   clear hG
   simp [av,gP,gW,gI,dP.cs,LW.dv,Sl.dv,hse,Span.dv,Span.cs] at hL hR h307
   simp [Co,h0,h0',g0,g0',e0,hmin,hs,e0',hL,hR,h307,eB,jH,lD,lO,bh,av,gP,gW,gI,dP.cs,LW.dv,hse,hs2,a0,bk,chunk,Span.dv,Span.cs,kS ED,show wK.fe=false from rfl,kS Eh,show xu.fe=true from rfl]
end
structure Fd where
 fr:Nat
 y:Nat
 pa:Nat
 l:Ln
def Fd.cs (f:Fd):List DV:=[.int .i64 f.fr,.int .i64 f.y,.int .i64 f.pa,.int .i64 f.l.f,.int .i64 f.l.t,.int .i64 f.l.x,.int .i64 f.l.w,.int .i64 f.l.n,.bool f.l.h,.int .i64 f.l.g]
def Fd.dv (f:Fd):DV:=.agg f.cs
theorem apc (f:Fd):cX 10 true f.dv:=⟨rfl,rfl,rfl⟩
def shL (fo:Nat) (x:Ln):Ln:={ x with f:=IntKind.i64.wrap (x.f+fo),t:=IntKind.i64.wrap (x.t+fo) }
def cT (n fo:Nat):List Ln→List (Nat×Nat)→List Fd→List Fd×List (Nat×Nat)×Option Int
 | [],ah,out=>(out,ah,none)
 | x::_,[],out=>(out,[],some (IntKind.i64.wrap (x.f+fo)))
 | x::r,p::q,out=>cT n fo r q (out++[⟨p.1,p.2,n,shL fo x⟩])
def ib (l:List Fm):List (List UInt8)→Nat→Nat→List (Nat×Nat)→List Fd→List Fd×Option Int
 | [],_,_,_,out=>(out,none)
 | s::r,n,fo,ah,out=>match cT n fo (flL l ah s) ah out with
   | (out',ah',none)=>ib l r (n+1) (fo+(s.length+1)) ah' out'
   | (out',_,some k)=>(out',some k)
def jV (s:List UInt8) (l:List Fm):List Fd×Int:=
 match ib l (bH s) 0 0 (PL l 0) [] with
 | (out,none)=>(out,-1)
 | (out,some k)=>if s=[] then ([],-1) else (out,k)
theorem rU (n fo:Nat):∀ (L:List Ln) (ah:List (Nat×Nat)) (out:List Fd),(cT n fo L ah out).1.length+(cT n fo L ah out).2.1.length=out.length+ah.length
 | [],ah,out=>rfl
 | _::_,[],out=>rfl
 | x::r,p::q,out=>by rw [cT,rU n fo r q];simp;omega
theorem sB (n fo:Nat):∀ (L:List Ln) (ah:List (Nat×Nat)) (out:List Fd),∀ p∈(cT n fo L ah out).2.1,p∈ah
 | [],ah,out,p,h=>h
 | _::_,[],out,p,h=>h
 | x::r,q0::q,out,p,h=>List.mem_cons_of_mem _ (sB n fo r q _ p h)
theorem Ac.bF {st:St} {K K':List Nat} {n:Nat} {xs:List DV} {v:DV} {o:Option Nat} (h:Ac st K n xs v o) (hk:∀ j,j<K.length→K'[j]? = K[j]?):Ac st K' n xs v o:=by
 cases o with
 | none=>exact h
 | some j=>
   obtain ⟨s,h1,h2⟩:=h
   exact ⟨s,h1,by rw [hk j (List.getElem?_eq_some_iff.1 h2).1];exact h2⟩
structure FlR (st:St) (v u:DV) (H:List HO):Prop where
 r0:rowAt H 0=some (.plain,[v,u])
 r1:rowAt H 1=some (.plain,[.ptr st.heap.length 0])
def AW (text:List UInt8) (ov:DV) (k:Int):Fr:=if text=[] then [(4,.list 0 0 .no false []),(5,.int .i64 (-1)),(6,.int .i64 0)] else [(4,ov),(5,.int .i64 k),(6,.int .i64 0)]
section
variable {st:St} {v:DV} {text:List UInt8}
theorem agj (n fo:Nat) (s:DV) (c49 c50 c51:DV) {L:List Ln} {vl:DV} (hvl:Lw 7 (L.map Ln.dv) vl):∀ (r d:List Ln) (H:List HO) (K:List Nat) (u ov:DV) (oo:Option Nat) (ah:List (Nat×Nat)) (out:List Fd),L=d++r→FlR st v u H→Lw 2 (ah.map pD) u→Ac st K 10 (out.map Fd.dv) ov oo→d.length+ah.length≤10000→out.length+ah.length≤10000 →
 ∃ H' K' u' ov' oo',FlR st v u' H'∧Lw 2 ((cT n fo r ah out).2.1.map pD) u'∧Ac st K' 10 ((cT n fo r ah out).1.map Fd.dv) ov' oo' ∧
   match (cT n fo r ah out).2.2 with
   | none=>∃ fr,(E tab).C lY [(0,.str text),(9,.ptr (st.heap.length+1) 0),(12,ov),(13,.int .i64 fo),(14,.int .i64 n),(15,s),(49,c49),(50,c50),(51,c51),(58,vl),(59,.int .i64 L.length),(60,.int .i64 d.length)] (pst st H K) =
    some (.exit 4,(0,.str text)::(9,.ptr (st.heap.length+1) 0)::(12,ov')::(13,.int .i64 fo)::(14,.int .i64 n)::(15,s)::(49,c49)::(50,c50)::(51,c51)::fr,pst st H' K')
   | some k=>(E tab).C lY [(0,.str text),(9,.ptr (st.heap.length+1) 0),(12,ov),(13,.int .i64 fo),(14,.int .i64 n),(15,s),(49,c49),(50,c50),(51,c51),(58,vl),(59,.int .i64 L.length),(60,.int .i64 d.length)] (pst st H K) =
    some (.ret,AW text ov' k,pst st H' K'):=by
 have hvw:Vw st 7 true (L.map Ln.dv) vl:=hvl.vw
 intro r
 induction r with
 | nil=>
   intro d H K u ov oo ah out hd hF hu ho _ _
   obtain rfl:L=d:=by simpa using hd
   refine ⟨H,K,u,ov,oo,hF,hu,ho,[(58,vl),(59,.int .i64 L.length),(60,.int .i64 L.length),(61,.bool false)],?_⟩
   rw [aj (L:=lY) rfl]
   simp [oc]
 | cons x r ih=>
   intro d H K u ov oo ah out hd hF hu ho hb1 hb2
   have hlt:d.length<L.length:=by simp [hd]
   have hg:L[d.length]? = some x:=by simp [hd]
   have a1:=fun st'=>hvw.aE (i:=d.length) (by simpa using hlt) .i64 st'
   have a2:=fun H K=>Vw.load (Vw.inn hvw H K) (fun y hy=>by obtain ⟨z,_,rfl⟩:=List.mem_map.1 hy;exact (⟨rfl,rfl,rfl⟩:cX 7 true z.dv)) rfl (i:=d.length) (x:=x.dv) (by simp [hg])
   have huw:Vw st 2 true (ah.map pD) u:=hu.vw
   have e0:=fun st'=>huw.len st'
   simp only [List.length_map] at e0
   have h0:=hF.r0
   have h1:=hF.r1
   have k0:=aZ h0
   have h0':=fun X=>b5 h0 X
   have h1':=fun X=>b5 h1 X
   have hus:=Lw.sc hu
   simp only [Ln.dv,Ln.cs] at a2
   cases ah with
   | nil=>
     refine ⟨H++[HO.cells .plain [.int .i64 (IntKind.i64.wrap (x.f+fo)),.int .i64 (IntKind.i64.wrap (x.t+fo)),.int .i64 x.x,.int .i64 x.w,.int .i64 x.n,.bool x.h,.int .i64 x.g]],K,u,ov,oo,⟨h0' _,h1' _⟩,hu,ho,?_⟩
     simp only [cT]
     simp at e0
     rw [aj (L:=lY) rfl]
     unfold AW
     by_cases ht:text=[]
     · subst ht
       simp [oc,hlt,a1,a2,h0',h1',e0]
     · have ht2:text.isEmpty=false:=by simpa using ht
       simp [oc,hlt,a1,a2,h0',h1',e0,ht,ht2]
   | cons p q=>
     simp only [List.length_cons] at hb1 hb2
     have b1:∀ st',iF st' 2 u (.int .i64 0)=some (elP 2 u 0,st'):=fun st'=>huw.aE (i:=0) (by simp) .i64 st'
     have b2:=fun H K=>Vw.load (Vw.inn huw H K) D3 rfl (i:=0) (x:=pD p) rfl
     simp only [pD] at b2
     obtain ⟨u2,hs,hu2⟩:=Lx hu (m:=1) (by simp) .i64
     have hu2s:=Lw.sc hu2
     have hw1:IntKind.i64.wrap ((d.length:Int)+1)=((d++[x]).length:Nat):=by rw [aD (by omega)];simp
     obtain ⟨ov2,K2,k2,hA,ho2,hk2,hst⟩:=uH (st:=st) (H:=(H++[HO.cells .plain [.int .i64 (IntKind.i64.wrap (x.f+fo)),.int .i64 (IntKind.i64.wrap (x.t+fo)),.int .i64 x.x,.int .i64 x.w,.int .i64 x.n,.bool x.h,.int .i64 x.g],HO.cells .plain [.int .i64 p.1,.int .i64 p.2]]).set 0 (.cells .plain [v,u2])) (by_:=80) (ag:=true) (ys:=[(⟨p.1,p.2,n,shL fo x⟩:Fd).dv]) (w:=.list st.cur 10 .tight true [(⟨p.1,p.2,n,shL fo x⟩:Fd).dv]) ho (.list _ _ _ _ (fun _=>rfl) (fun h=>by cases h)) (by omega) (by simp) (fun y hy=>by rw [List.mem_singleton] at hy;subst hy;exact apc _) (by simp [aA];omega) (by simp [aA];omega)
     have hF2:FlR st v u2 ((H++[HO.cells .plain [.int .i64 (IntKind.i64.wrap (x.f+fo)),.int .i64 (IntKind.i64.wrap (x.t+fo)),.int .i64 x.x,.int .i64 x.w,.int .i64 x.n,.bool x.h,.int .i64 x.g],HO.cells .plain [.int .i64 p.1,.int .i64 p.2]]).set 0 (.cells .plain [v,u2])):=
      ⟨cP (by simp) _ _,by rw [oO (by omega)];exact h1' _⟩
     have eo:out.map Fd.dv++[(⟨p.1,p.2,n,shL fo x⟩:Fd).dv]=(out++[(⟨p.1,p.2,n,shL fo x⟩:Fd)]).map Fd.dv:=by simp
     rw [eo] at ho2
     obtain ⟨H',K',u',ov',oo',g1,g2,g3,hJ⟩:=ih (d++[x]) _ K2 u2 ov2 (some k2) q (out++[⟨p.1,p.2,n,shL fo x⟩]) (by simp [hd]) hF2 (by simpa using hu2) ho2 (by simp;omega) (by simp;omega)
     refine ⟨H',K',u',ov',oo',g1,g2,g3,?_⟩
     simp only [List.length_append,List.length_singleton] at hJ hw1
     simp only [Fd.dv,Fd.cs,shL] at hA
     have rA:∀ (a b:List DV) (c:HO),rowAt ((H++[HO.cells .plain a,HO.cells .plain b]).set 0 c) H.length=some (.plain,a):=fun a b c=>by
      rw [oO (by omega)];simp
     have rB:∀ (a b:List DV) (c:HO),rowAt ((H++[HO.cells .plain a,HO.cells .plain b]).set 0 c) (H.length+1)=some (.plain,b):=fun a b c=>by
      rw [oO (by omega),dn];rfl
     simp only [cT]
     generalize hR:(cT n fo r q (out++[⟨p.1,p.2,n,shL fo x⟩])).2.2=R at *
     simp at e0 hA hs hw1
     cases R with
     | none=>
       obtain ⟨fr,hJ⟩:=hJ
       refine ⟨fr,?_⟩
       simp at hJ
       rw [aj (L:=lY) rfl]
       simp [oc,hlt,a1,a2,h0',h1',e0,b1,b2,rA,rB,hs,hu2s,hw1,a0,bk,chunk,hA,hJ,show (0:Int)<(q.length:Int)+1 by omega]
     | some k=>
       simp at hJ
       rw [aj (L:=lY) rfl]
       simp [oc,hlt,a1,a2,h0',h1',e0,b1,b2,rA,rB,hs,hu2s,hw1,a0,bk,chunk,hA,hJ,show (0:Int)<(q.length:Int)+1 by omega]
theorem FlR.app {u:DV} {H:List HO} (h:FlR st v u H) (X:List HO):FlR st v u (H++X):=⟨b5 h.r0 X,b5 h.r1 X⟩
theorem Tc {l:List Fm} (hv:Fms st l v) (hl:l.length≤16) {ps:List (List UInt8)} (hps:ps.length≤10000) (c0:Nat):∀ (r d:List (List UInt8)) (H:List HO) (K:List Nat) (u ov:DV) (oo:Option Nat) (ah:List (Nat×Nat)) (out:List Fd) (fo:Nat),ps=d++r→FlR st v u H→Lw 2 (ah.map pD) u→(∀ p∈ah,p.1<l.length)→Ac st K 10 (out.map Fd.dv) ov oo→out.length+ah.length≤10000→fo+(r.map fun s=>s.length+1).sum≤20000 →
 ∃ H' K' ov' oo',Ac st K' 10 ((ib l r d.length fo ah out).1.map Fd.dv) ov' oo' ∧
   match (ib l r d.length fo ah out).2 with
   | none=>∃ fr,(E tab).C kc [(0,.str text),(9,.ptr (st.heap.length+1) 0),(12,ov),(13,.int .i64 fo),(49,.list c0 1 .tight true (ps.map DV.str)),(50,.int .i64 ps.length),(51,.int .i64 d.length)] (pst st H K) =
    some (.exit 2,(0,.str text)::(9,.ptr (st.heap.length+1) 0)::(12,ov')::fr,pst st H' K')
   | some k=>(E tab).C kc [(0,.str text),(9,.ptr (st.heap.length+1) 0),(12,ov),(13,.int .i64 fo),(49,.list c0 1 .tight true (ps.map DV.str)),(50,.int .i64 ps.length),(51,.int .i64 d.length)] (pst st H K) =
    some (.ret,AW text ov' k,pst st H' K'):=by
 intro r
 induction r with
 | nil=>
   intro d H K u ov oo ah out fo hd hF hu hah ho hb hs
   obtain rfl:ps=d:=by simpa using hd
   refine ⟨H,K,ov,oo,ho,[(13,.int .i64 fo),(49,.list c0 1 .tight true (ps.map DV.str)),(50,.int .i64 ps.length),(51,.int .i64 ps.length),(52,.bool false)],?_⟩
   rw [aj (L:=kc) rfl]
   simp [px]
 | cons s r ih=>
   intro d H K u ov oo ah out fo hd hF hu hah ho hb hs
   have hlt:d.length<ps.length:=by simp [hd]
   have hg:ps[d.length]=s:=by simp [hd]
   simp only [List.map_cons,List.sum_cons] at hs
   obtain ⟨vl,X,K1,h436,hvl,hK1,hKK⟩:=ad0 (K:=K) hF.r0 hv hl hu hah (by omega) s
   have hlen:=fun st'=>(hvl.vw (st:=st) (ag:=true)).len st'
   simp only [List.length_map] at hlen
   obtain ⟨H2,K2,u2,ov2,oo2,g1,g2,g3,hI⟩:=agj (text:=text) d.length fo (.str s) (.list c0 1 .tight true (ps.map DV.str)) (.int .i64 ps.length) (.int .i64 d.length) hvl (flL l ah s) [] (H++X) K1 u ov oo ah out rfl (hF.app X) hu (Ac.bF ho hKK) (by simp;omega) hb
   have hlen2:=rU d.length fo (flL l ah s) ah out
   have hmem:=sB d.length fo (flL l ah s) ah out
   have h1:=hF.r1
   have hw1:IntKind.i64.wrap ((d.length:Int)+1)=((d++[s]).length:Nat):=by rw [aD (by omega)];simp
   have hw2:IntKind.i64.wrap ((s.length:Int)+1)=((s.length+1:Nat):Int):=by rw [aD (by omega)];simp
   have hw3:IntKind.i64.wrap ((fo:Int)+((s.length+1:Nat):Int))=((fo+(s.length+1):Nat):Int):=by rw [aD (by omega)];simp
   rw [ib]
   rcases hS:cT d.length fo (flL l ah s) ah out with ⟨out2,ah2,R⟩
   rw [hS] at g2 g3 hI hlen2 hmem
   simp only at g2 g3 hI hlen2 hmem
   cases R with
   | some k=>
     refine ⟨H2,K2,ov2,oo2,g3,?_⟩
     simp only at hI ⊢
     simp at hI
     rw [aj (L:=kc) rfl]
     simp [px,hlt,hg,h1,h436,hlen,hI]
   | none=>
     obtain ⟨fr,hI⟩:=hI
     obtain ⟨H3,K3,ov3,oo3,q1,hJ⟩:=ih (d++[s]) H2 K2 u2 ov2 oo2 ah2 out2 (fo+(s.length+1)) (by simp [hd]) g1 g2 (fun p hp=>hah p (hmem p hp)) g3 (by omega) (by omega)
     rw [show (d++[s]).length=d.length+1 by simp] at q1 hJ
     refine ⟨H3,K3,ov3,oo3,q1,?_⟩
     simp only [List.length_append,List.length_singleton] at hw1
     generalize hR:(ib l r (d.length+1) (fo+(s.length+1)) ah2 out2).2=R at *
     simp at hI hw1 hw2 hw3
     cases R with
     | some k=>
       simp at hJ
       simp only
       rw [aj (L:=kc) rfl]
       simp [px,hlt,hg,h1,h436,hlen,hI,hw1,hw2,hw3,hJ]
     | none=>
       obtain ⟨fr2,hJ⟩:=hJ
       refine ⟨fr2,?_⟩
       simp at hJ
       rw [aj (L:=kc) rfl]
       simp [px,hlt,hg,h1,h436,hlen,hI,hw1,hw2,hw3,hJ]
theorem rW:∀ s:List UInt8,((bH s).map fun x=>x.length+1).sum=s.length+1
 | []=>rfl
 | c::r=>by
   have h:=rW r
   unfold bH
   split
   · simp [h];omega
   · split
     · rename_i y t e;rw [e] at h;simp at h ⊢;omega
     · rename_i e;exact absurd e (gp r)
def wG:RC:=(.seq (.region AD [0,9,12]) (.seq (.region Ai [0,9,12,13]) (.seq (.seq (.region Az [0,9,12,13,49,50,51]) (.block 2 kc)) (.seq (.region Al [4,5,6]) .ret))))
theorem ni:xn.body=(.seq (.region DB [0,1]) (.seq (.seq (.region DP [0,1,7]) (.seq (.region Ee [0,1,7,22]) (.cond (.t 22) (.seq (.region D8 [4,5,6]) .ret) .skip))) (.seq (.seq (.region FK [0,1,8]) (.seq (.region DD [0,1,8,27]) (.cond (.t 27) (.seq (.region Fx [4,5,6]) .ret) .skip))) (.seq (.region Ec [0,1,9]) (.seq (.seq (.region s8 [0,9,33]) (.block 0 (.fg (.t 33) [34,35] kJ jW [0,9,33]))) wG))))):=rfl
theorem zQ {l:List Fm} (h:chF l=0):l.length≤16∧l.all gy=true:=by
 unfold chF at h
 split at h
 · omega
 · split at h
   · rename_i h2;exact ⟨by omega,h2⟩
   · omega
theorem vT {l:List Fm} (hv:Fms st l v) (h:wrF text≠0∨chF l≠0):∃ e:Int,e≠0∧(E tab).F 409 [.str text,v] st=some (.tuple [.list 0 0 .no false [],.int .i64 0,.int .i64 e],st):=by
 have h433:=fun st=>wv text st
 have h412:=fun H K=>rm (st:=pst st H K) (hv.inn H K)
 by_cases h1:wrF text=0
 · have h2:chF l≠0:=by rcases h with h | h;exact absurd h1 h;exact h
   refine ⟨chF l,h2,?_⟩
   rw [h1] at h433
   rw [aT CS rfl,ni]
   simp [h433,h412,h2,xn]
 · refine ⟨wrF text,h1,?_⟩
   rw [aT CS rfl,ni]
   simp [h433,h1,xn]
theorem Lp {l:List Fm} (hv:Fms st l v) (h1:wrF text=0) (h2:chF l=0):∃ vo,(E tab).F 409 [.str text,v] st=some (.tuple [vo,.int .i64 (jV text l).2,.int .i64 0],st)∧Lw 10 ((jV text l).1.map Fd.dv) vo:=by
 have h433:=fun st=>wv text st
 have h412:=fun H K=>rm (st:=pst st H K) (hv.inn H K)
 rw [h1] at h433
 rw [h2] at h412
 obtain ⟨hl,hok⟩:=zQ h2
 have htl:text.length≤4096:=by unfold wrF at h1;split at h1<;>omega
 have hsc:=Eu hv
 have hlv:v.leaves=[v]:=by cases hv<;>rfl
 have hn:=fun st'=>ij hv st'
 have hpl:=pP l 0 hok
 obtain ⟨H',K',hP,hF⟩:=Cd (st:=st) (k:=2) (y:=.yield (st.heap.length+3)) (P:=fun j H K=>FlS st l v (.str text) (o0 v (.str text) st.heap.length 0 none) j H K) hl hok hv (fun j H K o h=>h.app [o]) (fun j H K h=>h.r2) (fun j p hp H K h=>M3 hl hok hp h)
  [.cells .plain [v,.list 0 0 .no false []],.cells .plain [.ptr st.heap.length 0],.cells .plain [v],o0 v (.str text) st.heap.length 0 none] [] ⟨⟨.list 0 0 .no false [],rfl,dW _ _ _ _ _ _⟩,rfl,rfl,rfl⟩
 have hR:=oG (T:=tab) (st:=st) (H:=[.cells .plain [v,.list 0 0 .no false []],.cells .plain [.ptr st.heap.length 0],.cells .plain [v]]) (K:=[])
  (f:=.t 33) (params:=[34,35]) (live:=[0,9,33]) (assign:=kJ) (body:=jW) (fr:=lh v (.str text) st.heap.length) (g:=460) (first:=[]) (captured:=[.ptr (st.heap.length+2) 0]) (s:=0) (q:=none) (v:=.tuple []) rfl Oz hF hP.r3 (by omega)
 have hS:=hP.put (.loop (fZ ((lh v (.str text) st.heap.length).bF [0,9,33]) [34,35] kJ jW 3 none))
 obtain ⟨⟨u,r0,hu⟩,r1,_,_⟩:=hS
 rw [List.take_length] at hu
 obtain ⟨H3,K3,ov,oo,ho,hL⟩:=Tc (st:=st) (text:=text) hv hl (ps:=bH text) (by rw [qH];have:=List.count_le_length (a:=(10:UInt8)) (l:=text);omega) st.cur (bH text) [] _ K' u (.list 0 0 .no false []) none (PL l 0) [] 0 rfl ⟨r0,r1⟩ (yb hu) (fun p hp=>by have:=Eg l 0 p hp;omega) (⟨rfl,_,_,_,rfl⟩:Ac st K' 10 (([]:List Fd).map Fd.dv) (.list 0 0 .no false []) none) (by simp;omega) (by rw [rW];omega)
 have h435:=fun st=>EL text (by omega) st
 have hT:∃ vo fr,(E tab).C wG (lh v (.str text) st.heap.length) (pst st (H'.set 3 (.loop (fZ ((lh v (.str text) st.heap.length).bF [0,9,33]) [34,35] kJ jW 3 none))) K')=some (.ret,[(4,vo),(5,.int .i64 (jV text l).2),(6,.int .i64 0)]++fr,pst st H3 K3)∧Acc st K3 10 ((jV text l).1.map Fd.dv) vo:=by
  generalize H'.set 3 (.loop (fZ ((lh v (.str text) st.heap.length).bF [0,9,33]) [34,35] kJ jW 3 none))=G at *
  unfold jV
  simp only [List.length_nil] at hL ho
  rcases hS:ib l (bH text) 0 0 (PL l 0) [] with ⟨out,R⟩
  rw [hS] at ho hL
  cases R with
  | none=>
    obtain ⟨fr,hL⟩:=hL
    refine ⟨ov,[],?_,ho.acc⟩
    simp at hL
    simp [wG,lh,h435,hL]
  | some k=>
    simp only at hL ho ⊢
    unfold AW at hL
    by_cases ht:text=[]
    · subst ht
      refine ⟨.list 0 0 .no false [],[],?_,dW _ _ _ _ _ _⟩
      simp at hL h435
      simp [wG,lh,h435,hL]
    · rw [if_neg ht] at hL ⊢
      refine ⟨ov,[],?_,ho.acc⟩
      simp at hL
      simp [wG,lh,h435,hL]
 obtain ⟨vo,fr,hT,hA⟩:=hT
 obtain ⟨t9,n9,tk9,nn9,e9,q2,q3,_⟩:=qC (st':=pst st H3 K3) hA
 obtain ⟨t8,n8,tk8,nn8,rfl⟩:=dS hA
 refine ⟨.list t9 n9 tk9 nn9 ((jV text l).1.map Fd.dv),?_,.list _ _ _ _ q3 q2⟩
 rw [aT CS rfl,ni]
 have h434:(E tab).C (.region s8 [0,9,33]) [(0,.str text),(1,v),(9,.ptr (st.heap.length+1) 0)] (pst st [.cells .plain [v,.list 0 0 .no false []],.cells .plain [.ptr st.heap.length 0]] [])=some (.normal,lh v (.str text) st.heap.length,pst st [.cells .plain [v,.list 0 0 .no false []],.cells .plain [.ptr st.heap.length 0],.cells .plain [v]] []):=by
  simp [eC asB rfl,Ep,lh,hsc,hlv]
 have hb:(E tab).C (.seq (.region s8 [0,9,33]) (.block 0 (.fg (.t 33) [34,35] kJ jW [0,9,33]))) [(0,.str text),(1,v),(9,.ptr (st.heap.length+1) 0)] (pst st [.cells .plain [v,.list 0 0 .no false []],.cells .plain [.ptr st.heap.length 0]] [])=some (.normal,lh v (.str text) st.heap.length,pst st (H'.set 3 (.loop (fZ ((lh v (.str text) st.heap.length).bF [0,9,33]) [34,35] kJ jW 3 none))) K'):=by
  rw [cK,h434]
  simp only [l9,hR,Option.getD_none]
  rfl
 generalize (jV text l).1.map Fd.dv=OV at *
 generalize H'.set 3 (.loop (fZ ((lh v (.str text) st.heap.length).bF [0,9,33]) [34,35] kJ jW 3 none))=G at *
 simp at hb e9 hT
 simp [h433,h412,hsc,hlv,hb,hT,xn,e9]
end
def lJ (T:Int):Int→List It→Prop
 | _,[]=>True
 | lo,x::r=>lo≤x.f∧x.f≤T∧lJ T x.f r
theorem lJ.wk {T:Int}:∀ {l:List It} {lo lo':Int},lo'≤lo→lJ T lo l→lJ T lo' l
 | [],_,_,_,_=>trivial
 | _::_,_,_,h,⟨h1,h2,h3⟩=>⟨by omega,h2,h3⟩
theorem lJ.get {T:Int}:∀ {l:List It} {lo:Int},lJ T lo l→∀ {i:Nat} {x:It},l[i]? = some x→lo≤x.f∧x.f≤T
 | [],_,_,i,x,hx=>by cases hx
 | y::r,lo,⟨h1,h2,h3⟩,i,x,hx=>by
   cases i with
   | zero=>simp at hx;subst hx;exact ⟨h1,h2⟩
   | succ i=>
     rw [List.getElem?_cons_succ] at hx
     have:=lJ.get h3 hx
     omega
theorem lJ.two {T:Int}:∀ {l:List It} {lo:Int},lJ T lo l→∀ {i j:Nat} {x y:It},i≤j→l[i]? = some x→l[j]? = some y→x.f≤y.f
 | [],_,_,i,j,x,y,_,hx,_=>by cases hx
 | z::r,lo,⟨h1,h2,h3⟩,i,j,x,y,hij,hx,hy=>by
   cases i with
   | zero=>
     simp at hx;subst hx
     cases j with
     | zero=>simp at hy;subst hy;omega
     | succ j=>
       rw [List.getElem?_cons_succ] at hy
       exact (lJ.get h3 hy).1
   | succ i=>
     cases j with
     | zero=>omega
     | succ j=>
       rw [List.getElem?_cons_succ] at hx hy
       exact lJ.two h3 (by omega) hx hy
def psM (L:List ak) (T:Int) (k:Nat):Int:=match L[k]? with | some m=>m.a | none=>T
theorem qa:∀ {L:List ak} {i e:Int},Chn i L e→∀ k,i≤psM L e k∧psM L e k≤e∧psM L e k≤psM L e (k+1)
 | [],i,e,h,k=>by simp only [Chn] at h;simp [psM];omega
 | m::r,i,e,⟨h1,h2,h3⟩,k=>by
   have ih:=fun k=>qa h3 k
   cases k with
   | zero=>
     have:=ih 0
     have e1:psM (m::r) e 0=m.a:=rfl
     have e2:psM (m::r) e (0+1)=psM r e 0:=rfl
     rw [e1,e2];omega
   | succ k=>
     have:=ih k
     have e1:psM (m::r) e (k+1)=psM r e k:=rfl
     have e2:psM (m::r) e (k+1+1)=psM r e (k+1):=rfl
     rw [e1,e2];omega
theorem GF {L:List ak} {i e:Int} (h:Chn i L e) {a b:Nat} (hab:a≤b):psM L e a≤psM L e b:=by
 induction b with
 | zero=>have:a=0:=by omega
         subst this;omega
 | succ b ih=>
   by_cases hb:a=b+1
   · subst hb;omega
   · have:=ih (by omega)
     have:=(qa h b).2.2
     omega
theorem zd {s:List UInt8} {L:List ak} {pl:List Bool} {i T:Int} (hc:Chn i L T):∀ (r d:List ak) (run fr:Nat) (lo:Int),L=d++r→fr≤d.length→lo≤psM L T fr→lJ T lo (bx s L pl d.length run fr r):=by
 have hbx:∀ fr k,fr<L.length→(fJ L fr k).f=psM L T fr:=fun fr k h=>by
  have hg:L[fr]? = some L[fr]:=List.getElem?_eq_getElem h
  simp [fJ,psM,List.getD_eq_getElem?_getD,hg]
 have hT:=fun k=>(qa hc k).2.1
 intro r
 induction r with
 | nil=>
   intro d run fr lo hd hf hlo
   unfold bx
   split
   · rename_i h
     have hl:fr<L.length:=by rw [hd];simpa using h
     refine ⟨by rw [hbx _ _ hl];exact hlo,by rw [hbx _ _ hl];exact hT fr,trivial⟩
   · trivial
 | cons m r ih=>
   intro d run fr lo hd hf hlo
   have hk:d.length<L.length:=by rw [hd];simp
   have hm:psM L T d.length=m.a:=by simp [psM,hd]
   have hfk:=GF hc hf
   have hk1:=(qa hc d.length).2.2
   have hTk:=hT d.length
   have hlone:(ik m).f=m.a:=by unfold ik;split;rfl;split<;>rfl
   have hd2:L=(d++[m])++r:=by simp [hd]
   have hl2:(d++[m]).length=d.length+1:=by simp
   have ih2:=fun run fr lo=>ih (d++[m]) run fr lo hd2
   rw [hl2] at ih2
   unfold bx
   split
   · have h3:lJ T (psM L T fr) (ik m::bx s L pl (d.length+1) (d.length+1) (d.length+1) r):=
      ⟨by rw [hlone];omega,by rw [hlone];omega,ih2 _ _ _ (Nat.le_refl _) (by rw [hlone];omega)⟩
     split
     · rename_i h
       have hl:fr<L.length:=by omega
       refine ⟨by rw [hbx _ _ hl];exact hlo,by rw [hbx _ _ hl];exact hT fr,by rw [hbx _ _ hl];exact h3⟩
     · exact h3.wk hlo
   · split
     · exact ih2 _ _ _ (by omega) hlo
     · have hl:fr<L.length:=by omega
       split
       · refine ⟨by rw [hbx _ _ hl];exact hlo,by rw [hbx _ _ hl];exact hT fr,?_⟩
         refine ⟨by rw [hbx _ _ hl];simp only [u6];omega,by simp only [u6];omega,ih2 _ _ _ (by omega) (by simp only [u6];omega)⟩
       · split
         · refine ⟨by rw [hbx _ _ hl];exact hlo,by rw [hbx _ _ hl];exact hT fr,?_⟩
           refine ⟨by rw [hbx _ _ hl];simp only [uc];omega,by simp only [uc];omega,ih2 _ _ _ (by omega) (by simp only [uc];omega)⟩
         · exact ih2 _ _ _ (by omega) hlo
def LnM (T:Int):Int→List Ln→Prop
 | i,[]=>i=T
 | i,l::r=>l.f=i∧i≤l.t∧l.t≤T∧LnM T l.t r
theorem wJ {T:Int} {l:List It} (hm:lJ T 0 l) (F:Nat→Sl):∀ (f a n:Nat) (fr:Int),fr≤T→(∀ x,l[a]? = some x→fr≤x.f)→dp l F f a n≠[]→LnM T fr (zW T l F n fr (dp l F f a n))
 | 0,_,_,_,_,_,h=>absurd rfl h
 | f+1,a,n,fr,hT,hx,h=>by
   unfold dp at h ⊢
   split
   · rename_i ha
     obtain ⟨b,w,ho,hab,hbl⟩:=kT l a (F n).x (F n).w ha (l.length+1-a) a none (by omega) (fun _=>by omega) (Nat.le_refl _) (fun c e=>by cases e)
     have hpc:(eA l a (F n)).b=b:=by unfold eA;rw [ho]
     have hbg:=sL l b hbl
     rw [hpc]
     simp only [Int.toNat_natCast]
     have hxa:l[a]? = some l[a]:=List.getElem?_eq_getElem ha
     have h0:=hx _ hxa
     simp only [zW]
     cases hr:dp l F f (dm l b) (n+1) with
     | nil=>exact ⟨rfl,hT,Int.le_refl _,rfl⟩
     | cons y q=>
       have hya:y.a=(dm l b:Nat)∧dm l b<l.length:=by
        cases f with
        | zero=>simp [dp] at hr
        | succ f=>
          unfold dp at hr
          split at hr
          · rename_i hlt
            injection hr with h1 h2
            refine ⟨?_,hlt⟩
            rw [← h1]
            unfold eA
            split<;>rfl
          · cases hr
       have hxb:l[dm l b]? = some l[dm l b]:=List.getElem?_eq_getElem hya.2
       have hto:toP T l (y::q)=l[dm l b].f:=by simp [toP,hya.1,List.getD_eq_getElem?_getD,hxb]
       have h1:=hm.two (show a≤dm l b by omega) hxa hxb
       have h2:=(hm.get hxb).2
       have ih:=wJ hm F f (dm l b) (n+1) (toP T l (y::q)) (by rw [hto];exact h2) (fun x e=>by rw [hxb] at e;cases e;rw [hto];omega) (by rw [hr];simp)
       rw [hr] at ih
       exact ⟨rfl,by simp only [lnP];rw [hto];omega,by simp only [lnP];rw [hto];omega,ih⟩
   · rename_i ha
     rw [if_neg ha] at h;exact absurd rfl h
theorem MF {p:bq} {sl:List Sl} {rest:Sl} (h0:aI p=0) (hD:p.pr.drop=0) (hc:cB sl rest=0) (hi:bA (bU p)=0):LnM p.text.length 0 (lN p sl rest)∧lN p sl rest≠[]:=by
 refine ⟨?_,(LA h0 hc hi).2.1⟩
 have hb:cg p=aH p:=by
  unfold cg eX
  rw [if_neg]
  rw [hD];simp
 have hch:=sb h0
 have hm:lJ p.text.length 0 (bU p):=by
  unfold bU
  rw [hb]
  exact zd hch (aH p) [] 0 0 0 rfl (Nat.le_refl _) (qa hch 0).1
 have hP:=zV h0 hc
 have hs:=oB (bU p) (inF p sl rest) hi
 rw [CL h0 hc,hP]
 unfold fw at hs ⊢
 rw [if_neg (by simp [hi])] at hs ⊢
 split
 · exact ⟨rfl,by simp only [lnP,toP];omega,by simp only [lnP,toP];omega,rfl⟩
 · rename_i h
   rw [if_neg h] at hs
   exact wJ hm _ _ _ _ _ (by omega) (fun x e=>(hm.get e).1) hs
def ke:List (List UInt8)→List UInt8
 | []=>[]
 | [s]=>s
 | s::t::r=>s++10::ke (t::r)
theorem qc:∀ s:List UInt8,ke (bH s)=s
 | []=>rfl
 | c::r=>by
   have ih:=qc r
   unfold bH
   split
   · rename_i h
     cases e:bH r with
     | nil=>exact absurd e (gp r)
     | cons y t=>rw [ke,← e,ih,h];rfl
   · split
     · rename_i y t e
       rw [e] at ih
       cases t with
       | nil=>simp only [ke] at ih ⊢;rw [ih]
       | cons z q=>simp only [ke] at ih ⊢;rw [List.cons_append,ih]
     · rename_i e;exact absurd e (gp r)
def Gd (text:List UInt8):Nat→Nat→List Fd→Nat→Nat→Prop
 | at_,k,[],e,m=>at_=e∧k=m
 | at_,k,x::r,e,m=>∃ at1 t:Nat,((x.pa=k∧at1=at_)∨(x.pa=k+1∧at1=at_+1∧text[at_]? = some 10))∧x.l.f=at1∧x.l.t=t∧at1≤t∧t≤text.length∧(∀ j,at1≤j→j<t→text[j]? ≠ some 10)∧Gd text t x.pa r e m
theorem Gd.snoc {text:List UInt8} {x:Fd} {at1 t:Nat} {e m:Nat} (h:(x.pa=m∧at1=e)∨(x.pa=m+1∧at1=e+1∧text[e]? = some 10)) (hf:x.l.f=at1) (ht:x.l.t=t) (h1:at1≤t) (h2:t≤text.length) (h3:∀ j,at1≤j→j<t→text[j]? ≠ some 10) :
 ∀ {out:List Fd} {a k:Nat},Gd text a k out e m→Gd text a k (out++[x]) t x.pa
 | [],a,k,⟨g1,g2⟩=>by subst g1;subst g2;exact ⟨at1,t,h,hf,ht,h1,h2,h3,rfl,rfl⟩
 | y::r,a,k,⟨b1,t1,q1,q2,q3,q4,q5,q6,q7⟩=>⟨b1,t1,q1,q2,q3,q4,q5,q6,Gd.snoc h hf ht h1 h2 h3 q7⟩
def plF (x:Fd):Nat×Nat:=(x.fr,x.y)
theorem qF {text s:List UInt8} {n fo:Nat} {PLs:List (Nat×Nat)} (hle:fo+s.length≤text.length) (hlen:text.length≤500) (hno:∀ j,fo≤j→j<fo+s.length→text[j]? ≠ some 10):∀ (L:List Ln) (i:Nat) (ah:List (Nat×Nat)) (out:List Fd) (e m:Nat),LnM s.length i L→i≤s.length→Gd text 0 0 out e m→out.map plF++ah=PLs →
 ((m=n∧e=fo+i)∨(n=m+1∧i=0∧fo=e+1∧text[e]? = some 10))→(L=[]→m=n∧e=fo+i) →
 (cT n fo L ah out).1.map plF++(cT n fo L ah out).2.1=PLs∧∃ e' m',Gd text 0 0 (cT n fo L ah out).1 e' m' ∧
  match (cT n fo L ah out).2.2 with
  | none=>m'=n∧e'=fo+s.length
  | some k=>(cT n fo L ah out).2.1=[]∧(k=(e':Int)∨(k=(e':Int)+1∧text[e']? = some 10))
 | [],i,ah,out,e,m,hL,hi,hG,hp,hlk,hnil=>by
   simp only [LnM] at hL
   obtain ⟨h1,h2⟩:=hnil rfl
   exact ⟨hp,e,m,hG,h1,by omega⟩
 | x::r,i,[],out,e,m,hL,hi,hG,hp,hlk,_=>by
   obtain ⟨h1,h2,h3,h4⟩:=hL
   refine ⟨hp,e,m,hG,rfl,?_⟩
   have hw:IntKind.i64.wrap (x.f+fo)=((fo+i:Nat):Int):=by rw [h1,aD (by omega)];omega
   rw [hw]
   rcases hlk with ⟨_,g⟩ | ⟨_,g1,g2,g3⟩
   · exact .inl (by rw [g])
   · exact .inr ⟨by omega,g3⟩
 | x::r,i,p::q,out,e,m,hL,hi,hG,hp,hlk,_=>by
   obtain ⟨h1,h2,h3,h4⟩:=hL
   obtain ⟨t,ht⟩:∃ t:Nat,x.t=t:=⟨x.t.toNat,by omega⟩
   rw [ht] at h2 h3 h4
   have hti:i≤t:=by omega
   have hts:t≤s.length:=by omega
   have hwf:(shL fo x).f=((fo+i:Nat):Int):=by show IntKind.i64.wrap (x.f+fo)=_;rw [h1,aD (by omega)];omega
   have hwt:(shL fo x).t=((fo+t:Nat):Int):=by show IntKind.i64.wrap (x.t+fo)=_;rw [ht,aD (by omega)];omega
   have hG2:Gd text 0 0 (out++[⟨p.1,p.2,n,shL fo x⟩]) (fo+t) n:=by
    refine Gd.snoc (x:=⟨p.1,p.2,n,shL fo x⟩) (at1:=fo+i) ?_ hwf hwt (by omega) (by omega) (fun j a b=>hno j (by omega) (by omega)) hG
    rcases hlk with ⟨g1,g2⟩ | ⟨g1,g2,g3,g4⟩
    · exact .inl ⟨g1.symm,g2.symm⟩
    · exact .inr ⟨g1,by omega,g4⟩
   rw [cT]
   exact qF hle hlen hno r t q _ (fo+t) n h4 hts hG2 (by rw [← hp];simp [plF]) (.inl ⟨rfl,rfl⟩) (fun _=>⟨rfl,rfl⟩)
theorem Bb {l:List Fm} (hok:l.all gy=true) (ah:List (Nat×Nat)) {s:List UInt8} (hs:s.length≤500) (hb:s.all ly=true):LnM s.length 0 (flL l ah s)∧flL l ah s≠[]:=by
 have h0:aI (gP gI s)=0:=Dp rfl (by omega) hb
 have hD:(gP gI s).pr.drop=0:=rfl
 have hms:∀ o:Option Fm,(∀ f,o=some f→gy f=true)→j7 ⟨0,match o with | some f=>f.w | none=>0⟩=true:=by
  intro o ho
  cases o with
  | none=>rfl
  | some f=>
    have:=pW (ho f rfl)
    simp [j7,bp];omega
 have hc:cB (slF l ah) (ky l)=0:=by
  unfold cB
  rw [if_neg (by unfold slF;rw [List.length_map,List.length_take];omega),if_pos]
  rw [Bool.and_eq_true,List.all_eq_true]
  constructor
  · intro x hx
    obtain ⟨p,_,rfl⟩:=List.mem_map.1 hx
    exact hms _ fun f hf=>List.all_eq_true.1 hok f (List.mem_of_getElem? hf)
  · exact hms _ fun f hf=>List.all_eq_true.1 hok f (List.mem_of_getLast? hf)
 have hi:bA (bU (gP gI s))=0:=xK h0 hD (at5 gI s) hs
 have hE:qw (gP gI s) (slF l ah) (ky l)=0:=by
  unfold qw
  rw [if_neg (by simp [h0])];exact hc
 unfold flL
 rw [if_pos hE]
 exact MF h0 hD hc hi
theorem Df {text:List UInt8} {l:List Fm} (hok:l.all gy=true) (hlen:text.length≤500) {PLs:List (Nat×Nat)}:∀ (r:List (List UInt8)) (s:List UInt8) (n fo:Nat) (ah:List (Nat×Nat)) (out:List Fd) (e m:Nat),
 text.drop fo=ke (s::r)→fo≤text.length→(∀ x∈s::r,x.all ly=true∧∀ c∈x,c≠10)→Gd text 0 0 out e m→out.map plF++ah=PLs →
 ((m=n∧e=fo)∨(n=m+1∧fo=e+1∧text[e]? = some 10)) →
 ∃ ah' e' m',(ib l (s::r) n fo ah out).1.map plF++ah'=PLs∧Gd text 0 0 (ib l (s::r) n fo ah out).1 e' m' ∧
   match (ib l (s::r) n fo ah out).2 with
   | none=>e'=text.length
   | some k=>ah'=[]∧(k=(e':Int)∨(k=(e':Int)+1∧text[e']? = some 10)):=by
 intro r
 induction r with
 | nil=>
   intro s n fo ah out e m hj hf hx hG hp hlk
   simp only [ke] at hj
   have hl:fo+s.length=text.length:=by have:=congrArg List.length hj;simp at this;omega
   have hs:=hx s (by simp)
   have hat:∀ j,fo≤j→j<fo+s.length→text[j]? ≠ some 10:=fun j h1 h2 hh=>by
    have:(text.drop fo)[j-fo]? = some 10:=by rw [List.getElem?_drop,show fo+(j-fo)=j by omega];exact hh
    rw [hj] at this
    exact hs.2 10 (List.mem_of_getElem? this) rfl
   have hM:=Bb hok ah (s:=s) (by omega) hs.1
   obtain ⟨g1,e',m',g2,g3⟩:=qF (text:=text) (s:=s) (n:=n) (fo:=fo) (PLs:=PLs) (by omega) hlen hat (flL l ah s) 0 ah out e m hM.1 (Nat.zero_le _) hG hp (by rcases hlk with ⟨a,b⟩ | ⟨a,b,c⟩;exact .inl ⟨a,by omega⟩;exact .inr ⟨a,rfl,b,c⟩) (fun h=>absurd h hM.2)
   rw [ib]
   rcases hS:cT n fo (flL l ah s) ah out with ⟨out2,ah2,R⟩
   rw [hS] at g1 g2 g3
   cases R with
   | none=>exact ⟨ah2,e',m',g1,g2,by have:=g3.2;simp only [ib];omega⟩
   | some k=>exact ⟨ah2,e',m',g1,g2,g3⟩
 | cons t r ih=>
   intro s n fo ah out e m hj hf hx hG hp hlk
   simp only [ke] at hj
   have hl:fo+s.length<text.length:=by have:=congrArg List.length hj;simp at this;omega
   have hs:=hx s (by simp)
   have hat:∀ j,fo≤j→j<fo+s.length→text[j]? ≠ some 10:=fun j h1 h2 hh=>by
    have:(text.drop fo)[j-fo]? = some 10:=by rw [List.getElem?_drop,show fo+(j-fo)=j by omega];exact hh
    rw [hj,List.getElem?_append_left (by omega)] at this
    exact hs.2 10 (List.mem_of_getElem? this) rfl
   have h10:text[fo+s.length]? = some 10:=by
    have:(text.drop fo)[s.length]? = some 10:=by rw [hj,List.getElem?_append_right (Nat.le_refl _)];simp
    rwa [List.getElem?_drop] at this
   have hdr:text.drop (fo+(s.length+1))=ke (t::r):=by
    rw [← List.drop_drop,hj]
    rw [show s++10::ke (t::r)=(s++[10])++ke (t::r) by simp]
    rw [show s.length+1=(s++[(10:UInt8)]).length by simp,List.drop_left]
   have hM:=Bb hok ah (s:=s) (by omega) hs.1
   obtain ⟨g1,e',m',g2,g3⟩:=qF (text:=text) (s:=s) (n:=n) (fo:=fo) (PLs:=PLs) (by omega) hlen hat (flL l ah s) 0 ah out e m hM.1 (Nat.zero_le _) hG hp (by rcases hlk with ⟨a,b⟩ | ⟨a,b,c⟩;exact .inl ⟨a,by omega⟩;exact .inr ⟨a,rfl,b,c⟩) (fun h=>absurd h hM.2)
   rw [ib]
   rcases hS:cT n fo (flL l ah s) ah out with ⟨out2,ah2,R⟩
   rw [hS] at g1 g2 g3
   cases R with
   | none=>
     obtain ⟨q1,q2⟩:=g3
     exact ih t (n+1) (fo+(s.length+1)) ah2 out2 e' m' hdr (by omega) (fun x h=>hx x (List.mem_cons_of_mem _ h)) g2 g1 (.inr ⟨by omega,by omega,by rw [q2];exact h10⟩)
   | some k=>exact ⟨ah2,e',m',g1,g2,g3⟩
structure amR (text:List UInt8) (l:List Fm) (out:List Fd) (left:Int):Prop where
 pl:∃ ah,out.map plF++ah=PL l 0∧(0≤left→ah=[])
 gd:∃ e m,Gd text 0 0 out e m∧(left<0→e=text.length)∧(0≤left→left=(e:Int)∨(left=(e:Int)+1∧text[e]? = some 10))
theorem BQ {text:List UInt8} {l:List Fm} (h1:wrF text=0) (h2:chF l=0) (hlen:text.length≤500):amR text l (jV text l).1 (jV text l).2:=by
 obtain ⟨_,hok⟩:=zQ h2
 have hby:text.all jY=true:=by
  unfold wrF at h1
  split at h1
  · omega
  · split at h1
    · assumption
    · omega
 cases hsp:bH text with
 | nil=>exact absurd hsp (gp text)
 | cons s r=>
   have hx:∀ x∈s::r,x.all ly=true∧∀ c∈x,c≠10:=by
    intro x hx
    rw [← hsp] at hx
    have hn:=Bs text x hx
    refine ⟨List.all_eq_true.2 fun c hc => ?_,fun c hc=>(hn c hc).1⟩
    have hb:=List.all_eq_true.1 hby c (hn c hc).2
    unfold jY at hb
    simpa [(hn c hc).1] using hb
   obtain ⟨ah',e',m',g1,g2,g3⟩:=Df (text:=text) (l:=l) hok hlen (PLs:=PL l 0) r s 0 0 (PL l 0) [] 0 0 (by rw [← hsp,qc];rfl) (Nat.zero_le _) hx ⟨rfl,rfl⟩ rfl (.inl ⟨rfl,rfl⟩)
   unfold jV
   rw [hsp]
   rcases hF:ib l (s::r) 0 0 (PL l 0) [] with ⟨out,R⟩
   rw [hF] at g1 g2 g3
   cases R with
   | none=>exact ⟨⟨ah',g1,fun h=>by simp at h⟩,⟨e',m',g2,fun _=>g3,fun h=>by simp at h⟩⟩
   | some k=>
     simp only
     split
     · rename_i ht
       subst ht
       exact ⟨⟨PL l 0,rfl,fun h=>by simp at h⟩,⟨0,0,⟨rfl,rfl⟩,fun _=>rfl,fun h=>by simp at h⟩⟩
     · simp only at g3
       refine ⟨⟨ah',g1,fun _=>g3.1⟩,⟨e',m',g2,fun h => ?_,fun _=>g3.2⟩⟩
       simp only at h
       rcases g3.2 with h | h<;>omega
theorem On:tab 636=some (.code tX):=by kernel_rfl
def xc:List Fm→Nat→Nat→List (Nat×Nat)
 | [],_,_=>[]
 | g::r,f,m=>(((List.range (g.h.toNat/10)).drop m).map fun n=>(f,10*n))++PL r (f+1)
theorem vN (l:List Fm) (f:Nat):xc l f 0=PL l f:=by
 cases l with
 | nil=>rfl
 | cons g r=>simp [xc,PL,zh]
section
variable {st:St} {l:List Fm} {v:DV}
theorem aqd (h:Fms st l v) {i:Nat} {f:Fm} (hf:l[i]? = some f) (H:List HO) (K:List Nat) (k:IntKind) (st':St) :
 iF st' 5 v (.int k i)=some (elP 5 v i,st')∧km st' 4 (elP 5 v i)=some (faP 4 (elP 5 v i),st')∧cE (pst st H K) 1 false (faP 4 (elP 5 v i))=some (.int .i64 f.h):=by
 have hi:=(List.getElem?_eq_some_iff.1 hf).1
 refine ⟨qY h hi k st',Vw.fF h pU (by simpa using hi) (by omega) st',?_⟩
 exact Vw.Fg (Vw.inn h H K) pU (i:=i) (x:=f.dv) (by simp [hf]) rfl
theorem Ui (hv:Fms st l v) (hl:l.length≤16) (hok:l.all gy=true) (c0 c5 c6 c7 c11 c12 c15:DV) (H:List HO) (K:List Nat) {p:Nat×Nat} {q:List (Nat×Nat)}:∀ (n f m:Nat) (fr0:Fr),l.length=f+n→m≤500→xc (l.drop f) f m=p::q →
 (E tab).C uS ((0,c0)::(1,v)::(5,c5)::(6,c6)::(7,c7)::(11,c11)::(12,c12)::(13,.int .i64 f)::(14,.int .i64 ((10*m:Nat):Int))::(15,c15)::fr0) (pst st H K) =
  some (.exit 2,[(0,c0),(1,v),(5,c5),(6,c6),(7,c7),(11,c11),(12,c12),(13,.int .i64 p.1),(14,.int .i64 p.2),(15,c15),(80,.bool false)],pst st H K) ∧
  p.1<l.length∧∃ m',p.2=10*m'∧m'≤409∧xc (l.drop p.1) p.1 (m'+1)=q:=by
 have hn:=fun st'=>ij hv st'
 intro n
 induction n with
 | zero=>
   intro f m _ hf _ hr
   rw [List.drop_eq_nil_of_le (by omega)] at hr
   cases hr
 | succ n ih=>
   intro f m fr0 hf hm hr
   have hlt:f<l.length:=by omega
   obtain ⟨g,hg⟩:∃ g,l[f]? = some g:=⟨l[f],List.getElem?_eq_getElem hlt⟩
   have hdr:l.drop f=g::l.drop (f+1):=by
    rw [List.drop_eq_getElem_cons hlt]
    rw [List.getElem?_eq_getElem hlt] at hg
    rw [Option.some.inj hg]
   have hgo:=pW (List.all_eq_true.1 hok g (List.mem_of_getElem? hg))
   have a:=fun H K st'=>aqd hv hg H K .i64 st'
   have w0:IntKind.i64.wrap (((10*m:Nat):Int)+10)=((10*m:Nat):Int)+10:=aD (by omega)
   have w1:IntKind.i64.wrap ((f:Int)+1)=((f+1:Nat):Int):=by rw [aD (by omega)];simp
   rw [hdr,xc] at hr
   by_cases hc:m<g.h.toNat/10
   · have hlt2:¬ g.h<((10*m:Nat):Int)+10:=by omega
     have hrm:(List.range (g.h.toNat/10)).drop m=m::(List.range (g.h.toNat/10)).drop (m+1):=by
      rw [List.drop_eq_getElem_cons (by simpa using hc)];simp
     rw [hrm] at hr
     simp only [List.map_cons,List.cons_append] at hr
     injection hr with h1 h2
     subst h1
     refine ⟨?_,hlt,m,rfl,by omega,?_⟩
     · rw [aj (L:=uS) rfl]
       have hlt3:¬ g.h<10*(m:Int)+10:=by omega
       simp at w0
       simp [zO,hn,hlt,fun st'=>(a [] [] st').1,fun st'=>(a [] [] st').2.1,fun H K=>(a H K st).2.2,w0,hlt3]
     · show xc (l.drop f) f (m+1)=q
       rw [hdr,xc];exact h2
   · have hlt2:g.h<((10*m:Nat):Int)+10:=by omega
     have hrm:(List.range (g.h.toNat/10)).drop m=[]:=List.drop_eq_nil_of_le (by simp;omega)
     rw [hrm] at hr
     simp only [List.map_nil,List.nil_append] at hr
     rw [← vN] at hr
     obtain ⟨hJ,h2⟩:=ih (f+1) 0 [] (by omega) (by omega) hr
     refine ⟨?_,h2⟩
     rw [aj (L:=uS) rfl]
     simp at w0 hlt2 hJ w1
     simp [zO,hn,hlt,fun st'=>(a [] [] st').1,fun st'=>(a [] [] st').2.1,fun H K=>(a H K st).2.2,w0,hlt2,w1,hJ]
theorem aei {text:List UInt8} (hlen:text.length≤500) {t:Nat} (ht:t≤text.length) {out:List Fd} {x:Fd} {i:Nat} (hx:out[i]? = some x) (hxt:x.l.t=t) (hi:i<out.length) (t0:Nat) (tk:Tk) (nn:Bool) (c1 c5 c7 c12 c13 c14:DV) (H:List HO) (K:List Nat):∀ (n b:Nat),b+n=t→(∀ j,b≤j→j<t→text[j]? ≠ some 10) →
 ∃ fr,(E tab).C uj [(0,.str text),(1,c1),(5,c5),(6,.list t0 10 tk nn (out.map Fd.dv)),(7,c7),(12,c12),(13,c13),(14,c14),(15,.int .i64 i),(16,.int .i64 b)] (pst st H K) =
   some (.exit 4,[(0,.str text),(1,c1),(5,c5),(6,.list t0 10 tk nn (out.map Fd.dv)),(7,c7),(12,c12),(13,c13),(14,c14),(15,.int .i64 i)]++fr,pst st H K):=by
 have hg:out[i]=x:=by rw [List.getElem?_eq_getElem hi] at hx;exact Option.some.inj hx
 intro n
 induction n with
 | zero=>
   intro b hb _
   obtain rfl:b=t:=by omega
   refine ⟨[(16,.int .i64 b),(175,.bool false)],?_⟩
   rw [aj (L:=uj) rfl]
   simp [yd,hi,hg,Fd.dv,Fd.cs,hxt]
 | succ n ih=>
   intro b hb hno
   have hlt:b<t:=by omega
   have hbt:b<text.length:=by omega
   have hne:text[b]≠10:=fun e=>hno b (Nat.le_refl _) hlt (by rw [List.getElem?_eq_getElem hbt,e])
   have hne':¬ (text[b].toNat:Int)=10:=by
    intro e
    apply hne
    have:text[b].toNat=10:=by omega
    exact UInt8.toNat_inj.1 (by simpa using this)
   have hne'':¬ text[b].toNat=10:=by omega
   have w1:IntKind.i64.wrap ((b:Int)+1)=((b+1:Nat):Int):=by rw [aD (by omega)];simp
   obtain ⟨fr,hJ⟩:=ih (b+1) (by omega) (fun j h1 h2=>hno j (by omega) h2)
   refine ⟨fr,?_⟩
   rw [aj (L:=uj) rfl]
   simp [Fd.dv,Fd.cs] at hJ w1
   simp [yd,hi,hg,Fd.dv,Fd.cs,hxt,hlt,hbt,hne,hne',hne'',w1,hJ]
theorem R8 {text:List UInt8} (hlen:text.length≤500) (hv:Fms st l v) (hl:l.length≤16) (hok:l.all gy=true) {out:List Fd} (hol:out.length≤10000) (t0 n0:Nat) (tk:Tk) (nn:Bool) (hn0:out≠[]→n0=10) (left:Int) {e mE:Nat} (H:List HO) (K:List Nat):∀ (r d:List Fd) (at_ k f m:Nat) (ah:List (Nat×Nat)),out=d++r→Gd text at_ k r e mE→at_≤500→k≤d.length→f≤l.length→m≤410→xc (l.drop f) f m=r.map plF++ah →
 ∃ fr,(E tab).C uz [(0,.str text),(1,v),(5,.bool true),(6,.list t0 n0 tk nn (out.map Fd.dv)),(7,.int .i64 left),(11,.int .i64 at_),(12,.int .i64 k),(13,.int .i64 f),(14,.int .i64 ((10*m:Nat):Int)),(15,.int .i64 d.length)] (pst st H K) =
   some (.exit 0,[(0,.str text),(1,v),(5,.bool true),(6,.list t0 n0 tk nn (out.map Fd.dv)),(7,.int .i64 left),(11,.int .i64 e)]++fr,pst st H K):=by
 intro r
 induction r with
 | nil=>
   intro d at_ k f m ah hd hG _ _ _ _ _
   obtain ⟨rfl,rfl⟩:=hG
   obtain rfl:out=d:=by simpa using hd
   refine ⟨[(12,.int .i64 k),(13,.int .i64 f),(14,.int .i64 ((10*m:Nat):Int)),(15,.int .i64 out.length),(64,.bool false)],?_⟩
   rw [aj (L:=uz) rfl]
   simp [uR]
 | cons x r ih=>
   intro d at_ k f m ah hd hG hat hk hf hm hrem
   obtain ⟨at1,t,h1,h2,h3,h4,h5,h6,h7⟩:=hG
   have hn:=hn0 (by rw [hd];simp)
   have h0:d.length<out.length:=by simp [hd]
   have hg:out[d.length]? = some x:=by simp [hd]
   have hg':out[d.length]=x:=by simp [hd]
   obtain ⟨hI,hp1,m',hp2,hm',hrem2⟩:=Ui (st:=st) (K:=K) (H:=H) hv hl hok (.str text) (.bool true) (.list t0 n0 tk nn (out.map Fd.dv)) (.int .i64 left) (.int .i64 at_) (.int .i64 k) (.int .i64 d.length) (p:=plF x) (q:=r.map plF++ah) (l.length-f) f m [(64,.bool true)] (by omega) (by omega) (by rw [hrem];rfl)
   simp only [plF] at hI hp1 hp2 hrem2
   have hfl:=fun st'=>ij hv st'
   have hp3:¬ l.length≤x.fr:=by omega
   have w1:IntKind.i64.wrap ((d.length:Int)+1)=((d++[x]).length:Nat):=by rw [aD (by omega)];simp
   have w2:IntKind.i64.wrap ((x.y:Int)+10)=((10*(m'+1):Nat):Int):=by rw [hp2,aD (by omega)];omega
   have w3:IntKind.i64.wrap ((k:Int)+1)=((k+1:Nat):Int):=by rw [aD (by omega)];simp
   have w4:IntKind.i64.wrap ((at_:Int)+1)=((at_+1:Nat):Int):=by rw [aD (by omega)];simp
   obtain ⟨fr1,hB⟩:=aei (st:=st) hlen h5 hg h3 h0 t0 tk nn v (.bool true) (.int .i64 left) (.int .i64 x.pa) (.int .i64 x.fr) (.int .i64 ((10*(m'+1):Nat):Int)) H K (t-at1) at1 (by omega) h6
   have hpk:x.pa≤(d++[x]).length:=by rcases h1 with ⟨a,_⟩ | ⟨a,_⟩<;>simp<;>omega
   obtain ⟨fr,hJ⟩:=ih (d++[x]) t x.pa x.fr (m'+1) ah (by simp [hd]) h7 (by omega) hpk (by omega) (by omega) hrem2
   refine ⟨fr,?_⟩
   simp only [List.length_append,List.length_singleton] at hJ w1
   rw [hn] at hI hJ ⊢
   have b1:¬ t<at1:=by omega
   have b2:¬ text.length<t:=by omega
   rw [aj (L:=uz) rfl]
   rcases h1 with ⟨e1,e2⟩ | ⟨e1,e2,e3⟩
   · subst e2
     have ne:¬ (x.pa:Int)=((k+1:Nat):Int):=by omega
     rw [e1] at hB hJ ne
     simp [Fd.dv,Fd.cs] at hI hB hJ w1 w2 w3 ne
     simp [uR,h0,hg',Fd.dv,Fd.cs,hfl,hI,hp3,w1,w2,w3,h2,h3,e1,ne,b1,b2,hB,hJ]
   · have hal:=(List.getElem?_eq_some_iff.1 e3).1
     have hat2:text[at_]=10:=by rw [List.getElem?_eq_getElem hal] at e3;exact Option.some.inj e3
     have hal2:¬ (text.length:Int)≤at_:=by omega
     have hal3:¬ text.length≤at_:=by omega
     subst e2
     rw [e1] at hB hJ
     have b3:¬ (t:Int)<(at_:Int)+1:=by omega
     simp [Fd.dv,Fd.cs] at hI hB hJ w1 w2 w3 w4
     simp [uR,h0,hg',Fd.dv,Fd.cs,hfl,hI,hp3,w1,w2,w3,w4,h2,h3,e1,hal,hal2,hal3,hat2,b1,b2,b3,hB,hJ]
end
def O0:List Sh:=[.int .i64,.int .i64,.int .i64,.int .i64,.int .i64]
theorem acW {vs:List DV} (h:jZ O0 vs):∃ x:Fm,vs=x.cs:=by
 obtain ⟨_,_,rfl,⟨a,rfl,_⟩,_,_,rfl,⟨b,rfl,_⟩,_,_,rfl,⟨c,rfl,_⟩,_,_,rfl,⟨d,rfl,_⟩,_,_,rfl,⟨e,rfl,_⟩,rfl⟩:=h
 exact ⟨⟨a,b,c,d,e⟩,rfl⟩
theorem M8 {v:DV} (h:Fit (.list true 40 O0) v) (st:St):∃ l:List Fm,Fms st l v∧l.length≤140737488355328:=by
 obtain ⟨nn,xs,rfl,hnn,hmax,hlen,hxs⟩:=h
 obtain ⟨l,rfl⟩:∃ l:List Fm,xs=l.map Fm.dv:=Bd fun x hx=>by
  obtain ⟨vs,h1,rfl⟩:=hxs x hx
  obtain ⟨m,rfl⟩:=acW h1
  exact ⟨m,rfl⟩
 refine ⟨l,.list _ _ _ _ (fun _=>rfl) hnn,?_⟩
 unfold reachBytes at hlen;simp at hlen;omega
def Oc:List (Bool×List Sh):=[(false,[.str]),(false,[.list true 40 O0])]
theorem Le (us:List DV) (hf:tt Oc us):∃ st',(E tab).F 636 us st0=some (.bool true,st'):=by
 obtain ⟨_,_,rfl,⟨_,_,rfl,⟨text,rfl,_⟩,rfl⟩,_,_,rfl,⟨lv,_,rfl,hlv,rfl⟩,rfl⟩:=hf
 obtain ⟨l,hv,hll⟩:=M8 hlv st0
 refine ⟨st0,?_⟩
 rw [aT On rfl]
 simp only [elemOf,List.headD_cons,Bool.false_eq_true,if_false,if_true]
 have hk:=yS
 have hn:=fun st'=>ij hv st'
 by_cases hbad:wrF text≠0∨chF l≠0
 · obtain ⟨e,he,h409⟩:=vT (st:=pst st0 [] []) (text:=text) (hv.inn [] []) hbad
   simp [tX,hk,h409,he]
 have hw:wrF text=0:=Decidable.not_not.1 fun h=>hbad (.inl h)
 have hc:chF l=0:=Decidable.not_not.1 fun h=>hbad (.inr h)
 obtain ⟨vo,h409,hvo⟩:=Lp (st:=pst st0 [] []) (text:=text) (hv.inn [] []) hw hc
 obtain ⟨hl16,hok⟩:=zQ hc
 have hl16':¬ (16:Int)<l.length:=by omega
 by_cases h500:500<text.length
 · have h500':(500:Int)<text.length:=by omega
   simp [tX,hk,h409,h500,h500']
 have h500':¬ (500:Int)<text.length:=by omega
 have hG:=BQ hw hc (show text.length≤500 by omega)
 obtain ⟨⟨ah,hpl,hah⟩,⟨e,mE,hgd,hneg,hpos⟩⟩:=hG
 generalize (jV text l).1=out at *
 generalize (jV text l).2=left at *
 have h410:=Dh (st:=pst st0 [] []) (hv.inn [] []) hc
 obtain ⟨t0,n0,tk,nn,rfl,hn0,_,_⟩:=z0 hvo
 have hlenPL:out.length+ah.length=(PL l 0).length:=by have:=congrArg List.length hpl;simpa using this
 have hPLl:=pP l 0 hok
 have hol:out.length≤10000:=by omega
 obtain ⟨fr,hL⟩:=R8 (st:=st0) (text:=text) (by omega) hv hl16 hok hol t0 n0 tk nn (fun h=>hn0 (by intro e;rw [List.map_eq_nil_iff] at e;exact h e)) left [] [] out [] 0 0 0 0 ah rfl hgd (by omega) (Nat.le_refl _) (Nat.zero_le _) (by omega) (by rw [List.drop_zero,vN];exact hpl.symm)
 have c1:¬ ((PL l 0).length:Int)<out.length:=by omega
 have c1':¬ (PL l 0).length<out.length:=by omega
 simp at hL h410
 by_cases hle:left<0
 · have hnl:¬ 0≤left:=by omega
   have he:=hneg hle
   subst he
   simp [tX,hk,h409,h500,h500',hn,hl16,hl16',h410,c1,c1',hnl,hL,hle]
 · have hnl:0≤left:=by omega
   have hah0:=hah hnl
   subst hah0
   have hoe:out.length=(PL l 0).length:=by simpa using hlenPL
   rcases hpos hnl with h | ⟨h,h10⟩
   · subst h
     simp [tX,hk,h409,h500,h500',hn,hl16,hl16',h410,hoe,hL]
   · have hel:=(List.getElem?_eq_some_iff.1 h10).1
     have hte:text[e]=10:=by rw [List.getElem?_eq_getElem hel] at h10;exact Option.some.inj h10
     have w:IntKind.i64.wrap ((e:Int)+1)=(e:Int)+1:=aD (by omega)
     subst h
     have hne:¬ (e:Int)+1=e:=by omega
     have hnn2:¬ (e:Int)+1<0:=by omega
     have hnn3:(0:Int)≤(e:Int)+1:=by omega
     simp [tX,hk,h409,h500,h500',hn,hl16,hl16',h410,hoe,hL,hne,hnn2,hnn3,w,hel,hte]
end Go.D.Tab
end
section
namespace Go.D
open Go.RowKit
variable {P:Program}
theorem xP {w:World}:∀ (l:List (String×DataW Unit)) (ps:List MemPlace),DataW.LaidVars P w l ps→∀ x∈l,∃ g t cs fuel p,P.globalNamed x.1=some g∧(P.globals[g]?).map (·.type)=some t∧w.var? P x.1=some cs ∧
 DataW.trod (fun _=>()) P w 0 (fun _=>true) false fuel t cs.toList=some (x.2,p)
 | [],_,_,x,hx=>by simp at hx
 | y::l,ps,h,x,hx=>by
   obtain ⟨g,t,cs,fuel,p,q,h1,h2,h3,h4,h5,h6⟩:=h
   rcases List.mem_cons.1 hx with rfl | hx
   · exact ⟨g,t,cs,fuel,p,h1,h2,h3,h4⟩
   · exact xP l _ h5 x hx
theorem zn {l:List (Nat×FuncId)} {laid:List (String×DataW Unit)} {w:World} {name:String} {tab:List Nat} {g n:Nat} {t e:TypeId} (hg:P.globalNamed name=some g) (hty:(P.globals[g]?).map (·.type)=some t) (ht:P.underlying t=some (.array n e))
 (he:P.underlying e=some (.int .u8)) (hce:P.cellsOf e=1) (hct:P.cellsOf t=n) (hx:(name,Lib.tabData .u8 (tab.map Int.ofNat))∈laid) (h:laidMet P laid w):sP (aa l [(g,tab)]) w:=by
 obtain ⟨ps,h1,_⟩:=h
 obtain ⟨g',t',cs,fuel,p,hg',ht',hvar,hd⟩:=xP laid ps h1 _ hx
 obtain rfl:=Option.some.inj (hg.symm.trans hg')
 obtain rfl:=Option.some.inj (hty.symm.trans ht')
 have hcs:=Lib.cells_of_tab ht he hce hct hd
 refine B4 fun i hi => ?_
 rw [World.var?_cell hg hvar i,← Array.getElem?_toList,hcs]
 simp [hi]
end Go.D
end
