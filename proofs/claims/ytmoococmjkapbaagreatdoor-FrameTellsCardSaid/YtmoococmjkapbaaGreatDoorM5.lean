import Derived.Lib.LaidTab
import Derived.LaidMore
import Derived.Test.YtmoococmjkapbaaGreatDoorM4
/-! Texts 5 of this claim, joined. -/
section
set_option linter.unusedSimpArgs false
set_option linter.unusedVariables false
set_option linter.unnecessarySimpa false
namespace Go.D.Tab
theorem ajT:tab 347=some (.code yj):=by kernel_rfl
theorem M9:tab 328=some (.code yZ):=by kernel_rfl
theorem agK:tab 333=some (.code CO):=by kernel_rfl
theorem aeN:tab 339=some (.code CB):=by kernel_rfl
theorem ac7:tab 341=some (.code Dx):=by kernel_rfl
theorem ajv:tab 327=some (.code CZ):=by kernel_rfl
theorem FW (s:Sl) (st:St):(E tab).F 347 [s.dv] st=some (.bool (ik s),st):=by
 rw [av ajT rfl]
 unfold ik bn
 by_cases h1:0≤s.x
 · by_cases h2:s.x≤4095
   · by_cases h3:0≤s.w
     · simp [yj,Sl.dv,Sl.cs,h1,h2,h3]
     · simp [yj,Sl.dv,Sl.cs,h1,h2,h3]
   · simp [yj,Sl.dv,Sl.cs,h1,h2]
 · simp [yj,Sl.dv,Sl.cs,h1]
section
variable {st:St} {l:List It} {v:DV} {sl:List Sl} {sv:DV} {rest:Sl}
theorem ub (hv:Sls st sl sv) (n:Int):(E tab).F 328 [sv,rest.dv,.int .i64 n] st=some ((aS sl rest n).dv,st):=by
 rw [av M9 rfl]
 have e0:=fun st'=>tC hv st'
 unfold aS mM
 by_cases h1:n<0
 · simp [yZ,Sl.dv,Sl.cs,h1]
 · obtain ⟨n,rfl⟩:=Int.eq_ofNat_of_zero_le (show 0≤n by omega)
   by_cases h2:n<sl.length
   · have hx:sl[n]? = some sl[n]:=List.getElem?_eq_getElem h2
     have e1:=fun st'=>E9 hv h2 .i64 st'
     have e2:=fun H K=>wM hv hx H K
     simp only [Sl.dv,Sl.cs] at e2
     simp [yZ,Sl.dv,Sl.cs,e0,h2,e1,e2]
   · simp [yZ,Sl.dv,Sl.cs,e0,h2]
theorem XJ (hv:Sls st sl sv) (hl:sl.length≤256) (y3:DV) (H:List HO) (K:List Nat):∀ (r d:List Sl),sl=d++r →
 ∃ fr,(E tab).C qI [(0,sv),(3,y3),(5,.int .i64 d.length)] (pst st H K) =
   some (if r.all ik then (.exit 0,[(0,sv),(3,y3)]++fr,pst st H K) else (.ret,[(4,.int .i64 2)],pst st H K)):=by
 have e0:=fun st'=>tC hv st'
 intro r
 induction r with
 | nil=>
   intro d hd
   refine ⟨[(5,.int .i64 sl.length),(12,.bool false)],?_⟩
   rw [ab (L:=qI) rfl]
   simp [tX,e0,hd]
 | cons x r ih=>
   intro d hd
   have h0:d.length<sl.length:=by simp [hd]
   have hx:sl[d.length]? = some x:=by simp [hd]
   have e1:=fun st'=>E9 hv h0 .i64 st'
   have e2:=fun H K=>wM hv hx H K
   have hw1:IntKind.i64.wrap ((d.length:Int)+1)=((d++[x]).length:Nat):=by rw [ar (by omega)];simp
   have e3:=fun st=>FW x st
   simp only [Sl.dv,Sl.cs] at e2 e3
   rw [List.all_cons]
   cases hm:ik x with
   | false=>
     rw [hm] at e3
     refine ⟨[],?_⟩
     rw [ab (L:=qI) rfl]
     simp [tX,e0,h0,e1,e2,e3]
   | true=>
     rw [hm] at e3
     obtain ⟨fr,hJ⟩:=ih (d++[x]) (by simp [hd])
     refine ⟨fr,?_⟩
     rw [Bool.true_and]
     generalize r.all ik=b at hJ ⊢
     simp only [List.length_append,List.length_singleton] at hJ hw1
     simp at hJ
     rw [ab (L:=qI) rfl]
     simp [tX,e0,h0,e1,e2,e3,hw1,hJ]
theorem Dv (hv:Sls st sl sv):(E tab).F 333 [sv,rest.dv] st=some (.int .i64 (cR sl rest),st):=by
 rw [av agK rfl]
 have e0:=fun st'=>tC hv st'
 unfold cR
 by_cases h:256<sl.length
 · have h':(256:Int)<sl.length:=by omega
   simp [CO,Sl.dv,Sl.cs,e0,h,h']
 have h':¬ (256:Int)<sl.length:=by omega
 obtain ⟨fr,hL⟩:=XJ hv (by omega) (.ptr st.heap.length 0) [.cells .plain rest.cs] [] sl [] rfl
 have e3:=fun st=>FW rest st
 simp only [Sl.dv,Sl.cs] at e3 hL
 rw [if_neg h]
 cases hb:sl.all ik with
 | false=>
   rw [hb] at hL
   simp at hL
   simp [CO,Sl.dv,Sl.cs,e0,h',hL]
 | true=>
   rw [hb] at hL
   simp at hL
   cases hm:ik rest<;>rw [hm] at e3<;>simp [CO,Sl.dv,Sl.cs,e0,h',hL,e3]
theorem Zm {l:List It} (hc:bb l=0) {b:Nat} {x:It} (hx:l[b]? = some x) (h3:x.k≠3):x.y=false:=by
 have:l.any fw=false:=by
  unfold bb at hc
  split at hc
  · omega
  · split at hc
    · omega
    · rename_i h;simpa using h
 have:=List.any_eq_false.1 this x (List.mem_of_getElem? hx)
 simp [fw,j4,h3] at this
 exact this.2.1.1.1
theorem I6 (hv:Its st l v) (hc:bb l=0) (A B:Nat) (hAB:A≤B) (hB:B≤l.length) (x:Int) (hx:0≤x∧x≤4095):(E tab).F 339 [v,.int .i64 A,.int .i64 B,.int .i64 x] st=some (Pc.dv ⟨A,B,false,hyI l B,cl l A B x⟩,st):=by
 rw [av aeN rfl]
 have e0:=fun st'=>bH hv st'
 have eN:=zn (hv.inn [.cells .plain [.int .i64 0,.int .i64 0,.bool false,.bool false,.int .i64 0]] []) hc A B hAB hB x hx
 by_cases hb:B<l.length
 · have hx:l[B]? = some l[B]:=List.getElem?_eq_getElem hb
   have e1:=fun st'=>b7 hv hb .i64 st'
   have e2:=fun st'=>cE hv hx (off:=0) (by omega) st'
   have e3:=fun H K=>fk hv hx H K
   have e4:=fun st'=>cE hv hx (off:=7) (by omega) st'
   have e5:=fun H K=>MG hv hx H K
   have eh:hyI l B=l[B].y:=by simp [hyI,hx]
   have hp:=Zm hc hx
   rw [eh]
   generalize l[B]=q at *
   by_cases k3:q.k=3
   · simp [CB,eN,e0,hb,e1,e2,e3,e4,e5,k3,Pc.dv,Pc.cs]
   · have hy:=hp k3
     simp [CB,eN,e0,hb,e1,e2,e3,k3,hy,Pc.dv,Pc.cs]
 · have eh:hyI l B=false:=by simp [hyI,hb]
   rw [eh]
   simp [CB,eN,e0,hb,Pc.dv,Pc.cs]
def pz:Pc:=⟨0,0,false,false,0⟩
def pcO (l:List It) (a:Nat) (X:Int):Option Nat→Pc
 | none=>pz
 | some c=>⟨a,c,false,hyI l c,cl l a c X⟩
theorem Y1 (hv:Its st l v) (hc:bb l=0) (a:Nat) (s:Sl) (hX:0≤s.x∧s.x≤4095) (K:List Nat):∀ (m i:Nat) (best:Option Nat) (J:List HO),i+m=l.length+1→a<i→∀ b w,lM l a s.x s.w m i best=some (b,w) →
 ∃ J' fr R,((E tab).C kM [(0,v),(1,.int .i64 a),(5,.ptr st.heap.length 0),(6,.ptr (st.heap.length+1) 0),(7,.bool best.isSome),(8,.ptr (st.heap.length+2) 0),(9,.int .i64 i)] (pst st (.cells .plain s.cs::.cells .plain pz.cs::.cells .plain (pcO l a s.x best).cs::J) K) =
  some (.ret,[(6,.ptr (st.heap.length+1) 0)],pst st (.cells .plain s.cs::.cells .plain (Pc.cs ⟨a,b,w,hyI l b,cl l a b s.x⟩)::R::J') K) ∨
  (E tab).C kM [(0,v),(1,.int .i64 a),(5,.ptr st.heap.length 0),(6,.ptr (st.heap.length+1) 0),(7,.bool best.isSome),(8,.ptr (st.heap.length+2) 0),(9,.int .i64 i)] (pst st (.cells .plain s.cs::.cells .plain pz.cs::.cells .plain (pcO l a s.x best).cs::J) K) =
   some (.exit 0,[(0,v),(1,.int .i64 a),(5,.ptr st.heap.length 0),(6,.ptr (st.heap.length+1) 0),(7,.bool true),(8,.ptr (st.heap.length+2) 0)]++fr,pst st (.cells .plain s.cs::.cells .plain pz.cs::.cells .plain (Pc.cs ⟨a,b,w,hyI l b,cl l a b s.x⟩)::J') K)):=by
 have e0:=fun st'=>bH hv st'
 obtain ⟨hok,hlen⟩:=dS hc
 intro m
 induction m with
 | zero=>
   intro i best J hi hai b w ho
   have h0:¬ i≤l.length:=by omega
   cases best with
   | none=>simp [lM] at ho
   | some c=>
     simp only [lM,Option.map_some,Option.some.injEq,Prod.mk.injEq] at ho
     obtain ⟨rfl,rfl⟩:=ho
     refine ⟨J,[(9,.int .i64 i),(16,.bool false)],.gone,.inr ?_⟩
     rw [ab (L:=kM) rfl]
     simp [nV,e0,h0,pcO]
 | succ m ih=>
   intro i best J hi hai b w ho
   have h0:i≤l.length:=by omega
   have hw1:IntKind.i64.wrap ((i:Int)+1)=((i+1:Nat):Int):=by rw [ar (by omega)];simp
   have hE:=fun H=>Hs (hv.inn H K) i h0 (by omega)
   unfold lM at ho
   cases he:kD l i with
   | false=>
     rw [he] at hE
     rw [he,if_neg (by simp)] at ho
     obtain ⟨J',fr,R,hJ⟩:=ih (i+1) best J (by omega) (by omega) b w ho
     refine ⟨J',fr,R,?_⟩
     rw [ab (L:=kM) rfl]
     simp at hJ
     simp [nV,e0,h0,hE,hw1]
     exact hJ
   | true=>
     rw [he] at hE
     rw [he,if_pos ⟨hai,rfl⟩] at ho
     have hL:=fun H=>I6 (hv.inn H K) hc a i (by omega) h0 s.x hX
     simp only [Pc.dv,Pc.cs] at hL
     by_cases hW:s.w<cl l a i s.x
     · rw [if_pos hW] at ho
       cases best with
       | none=>
         simp only [Option.some.injEq,Prod.mk.injEq] at ho
         obtain ⟨rfl,rfl⟩:=ho
         refine ⟨J++[.cells .plain (Pc.cs ⟨a,i,true,hyI l i,cl l a i s.x⟩)],[],.cells .plain pz.cs,.inl ?_⟩
         rw [ab (L:=kM) rfl]
         simp [nV,e0,h0,hE,hL,hW,Sl.cs,Pc.cs,pcO,pz]
       | some c=>
         simp only [Option.some.injEq,Prod.mk.injEq] at ho
         obtain ⟨rfl,rfl⟩:=ho
         refine ⟨J++[.cells .plain (Pc.cs ⟨a,i,false,hyI l i,cl l a i s.x⟩)],[],.cells .plain (Pc.cs ⟨a,c,false,hyI l c,cl l a c s.x⟩),.inl ?_⟩
         rw [ab (L:=kM) rfl]
         simp [nV,e0,h0,hE,hL,hW,Sl.cs,Pc.cs,pcO,pz]
     · rw [if_neg hW] at ho
       obtain ⟨J',fr,R,hJ⟩:=ih (i+1) (some i) (J++[.cells .plain (Pc.cs ⟨a,i,false,hyI l i,cl l a i s.x⟩)]) (by omega) (by omega) b w ho
       refine ⟨J',fr,R,?_⟩
       simp [Pc.cs,pcO,pz,Sl.cs] at hJ
       rw [ab (L:=kM) rfl]
       simp [nV,e0,h0,hE,hL,hW,Sl.cs,Pc.cs,pcO,pz,hw1]
       cases best<;>exact hJ
end
section
variable {st:St} {l:List It} {v:DV} {sl:List Sl} {sv:DV} {rest:Sl}
theorem P5 (hv:Its st l v) (hc:bb l=0) (a:Nat) (ha:a<l.length) (s:Sl) (hX:0≤s.x∧s.x≤4095):(E tab).F 341 [v,.int .i64 a,s.dv] st=some ((di l a s).dv,st):=by
 rw [av ac7 rfl]
 have e0:=fun st'=>bH hv st'
 obtain ⟨hok,hlen⟩:=dS hc
 obtain ⟨b,w,ho,hab,hbl⟩:=gG l a s.x s.w ha (l.length+1-a) a none (by omega) (fun _=>by omega) (Nat.le_refl _) (fun c e=>by cases e)
 have hpc:di l a s=⟨a,b,w,hyI l b,cl l a b s.x⟩:=by unfold di;rw [ho]
 rw [show l.length+1-a=(l.length-a)+1 by omega,lM,if_neg (by omega)] at ho
 have hw1:IntKind.i64.wrap ((a:Int)+1)=((a+1:Nat):Int):=by rw [ar (by omega)];simp
 obtain ⟨J',fr,R,hL⟩:=Y1 hv hc a s hX [] (l.length-a) (a+1) none [] (by omega) (by omega) b w ho
 rw [hpc]
 simp [pcO,pz,Sl.cs,Pc.cs] at hL
 rcases hL with hL | hL
 · simp [Dx,Sl.dv,Sl.cs,Pc.dv,Pc.cs,hw1,hL]
 · simp [Dx,Sl.dv,Sl.cs,Pc.dv,Pc.cs,hw1,hL]
theorem lC (l:List It) (sl:List Sl) (rest:Sl) (f n:Nat):cP l sl rest f l.length n=[]:=by
 cases f<;>simp [cP]
theorem ym (l:List It):du l l.length=l.length:=by
 have:=nQ l l.length (Nat.le_refl _)
 omega
theorem Z1 (hv:Its st l v) (hl:l.length≤140737488355328) (y1 y5:DV) (H:List HO) (K:List Nat):∀ (f i:Nat),l.length≤i+f→i≤l.length →
 ∃ fr,(E tab).C nX [(0,v),(1,y1),(5,y5),(7,.int .i64 i)] (pst st H K)=some (.exit 0,[(0,v),(1,y1),(5,y5),(7,.int .i64 (bu l f i:Nat))]++fr,pst st H K):=by
 have e0:=fun st'=>bH hv st'
 intro f
 induction f with
 | zero=>
   intro i h1 h2
   obtain rfl:i=l.length:=by omega
   refine ⟨[(21,.bool false)],?_⟩
   rw [ab (L:=nX) rfl]
   simp [qZ,e0,bu]
 | succ f ih=>
   intro i h1 h2
   by_cases h0:i<l.length
   · have hx:l[i]? = some l[i]:=List.getElem?_eq_getElem h0
     have e1:=fun st'=>b7 hv h0 .i64 st'
     have e2:=fun st'=>cE hv hx (off:=0) (by omega) st'
     have e3:=fun H K=>fk hv hx H K
     have hw1:IntKind.i64.wrap ((i:Int)+1)=(i+1:Nat):=by rw [ar (by omega)];simp
     by_cases hk:l[i].k=2
     · have eg:bu l (f+1) i=bu l f (i+1):=by simp [bu,hx,hk]
       obtain ⟨fr,hJ⟩:=ih (i+1) (by omega) (by omega)
       rw [eg]
       refine ⟨fr,?_⟩
       simp at hJ
       rw [ab (L:=nX) rfl]
       simp [qZ,e0,h0,e1,e2,e3,hk,hw1,hJ]
     · have eg:bu l (f+1) i=i:=by simp [bu,hx,hk]
       rw [eg]
       refine ⟨[(21,.bool false)],?_⟩
       rw [ab (L:=nX) rfl]
       simp [qZ,e0,h0,e1,e2,e3,hk]
   · have eg:bu l (f+1) i=i:=by simp [bu,h0]
     rw [eg]
     refine ⟨[(21,.bool false)],?_⟩
     rw [ab (L:=nX) rfl]
     simp [qZ,e0,h0]
theorem Tp (hv:Its st l v) (hs:Sls st sl sv) (hc:bb l=0) (hso:BN sl rest):∀ (f a:Nat) (ps:List Pc) (ov:DV) (J:List HO) (K:List Nat),l.length≤a+f→a≤l.length→ps.length≤a→Acc st K 5 (ps.map Pc.dv) ov →
 ∃ J' K' ov' fr,Acc st K' 5 ((ps++cP l sl rest f a ps.length).map Pc.dv) ov' ∧
   (((E tab).C eF [(0,v),(1,sv),(5,.ptr st.heap.length 0),(7,.int .i64 a),(8,ov)] (pst st (.cells .plain rest.cs::J) K)=some (.ret,[(6,ov')],pst st (.cells .plain rest.cs::J') K')∧ps++cP l sl rest f a ps.length≠[]) ∨
    (E tab).C eF [(0,v),(1,sv),(5,.ptr st.heap.length 0),(7,.int .i64 a),(8,ov)] (pst st (.cells .plain rest.cs::J) K)=some (.exit 2,[(0,v),(1,sv),(5,.ptr st.heap.length 0),(7,.int .i64 l.length),(8,ov')]++fr,pst st (.cells .plain rest.cs::J') K')):=by
 have e0:=fun st'=>bH hv st'
 obtain ⟨hok,hlen⟩:=dS hc
 intro f
 induction f with
 | zero=>
   intro a ps ov J K h1 h2 h3 hA
   obtain rfl:a=l.length:=by omega
   refine ⟨J,K,ov,[(27,.bool false)],by simpa [cP] using hA,.inr ?_⟩
   rw [ab (L:=eF) rfl]
   simp [qO,e0]
 | succ f ih=>
   intro a ps ov J K h1 h2 h3 hA
   by_cases h0:a<l.length
   · have hX:=hso ps.length
     have hS:=fun H=>ub (rest:=rest) (hs.inn H K) ps.length
     have hO:=fun H=>P5 (hv.inn H K) hc a h0 (aS sl rest ps.length) ⟨hX.1,hX.2.1⟩
     rw [cP,if_pos h0]
     obtain ⟨b,w,ho,hab,hbl⟩:=gG l a (aS sl rest ps.length).x (aS sl rest ps.length).w h0 (l.length+1-a) a none (by omega) (fun _=>by omega) (Nat.le_refl _) (fun c e=>by cases e)
     have hpc:di l a (aS sl rest ps.length)=⟨a,b,w,hyI l b,cl l a b (aS sl rest ps.length).x⟩:=by unfold di;rw [ho]
     rw [hpc] at hO ⊢
     generalize aS sl rest ps.length=s at *
     have hbe:=nQ l b hbl
     obtain ⟨t,n',tk,nn,rfl⟩:=bR hA
     obtain ⟨ov1,K1,hap,hA1⟩:=dh (H:=.cells .plain rest.cs::(J++[.cells .plain (Pc.cs ⟨a,b,w,hyI l b,cl l a b s.x⟩)])) (by_:=32) (ag:=true) (tk:=.tight) (t:=st.cur) (ys:=[Pc.dv ⟨a,b,w,hyI l b,cl l a b s.x⟩]) hA (by omega) (by simp) (by simp [M6]) (by simp [aw];omega) (by simp [aw];omega)
     have hBg:=fun H=>EG (hv.inn H K1) (by omega) b hbl
     simp only [Int.toNat_natCast]
     by_cases hbl':b=l.length
     · refine ⟨J++[.cells .plain (Pc.cs ⟨a,b,w,hyI l b,cl l a b s.x⟩)],K1,ov1,[],?_,.inl ⟨?_,by simp⟩⟩
       · rw [hbl',ym,lC,← hbl']
         simpa using hA1
       · simp only [Sl.cs,Sl.dv,Pc.dv,Pc.cs] at hS hO hap
         rw [hbl'] at hO hap hBg ⊢
         rw [ab (L:=eF) rfl]
         simp [qO,e0,h0,Sl.cs,hS,hO,aD,aR,chunk,hap,hBg,Pc.cs]
     · obtain ⟨J2,K2,ov2,fr,hA2,hJ⟩:=ih (du l b) (ps++[⟨a,b,w,hyI l b,cl l a b s.x⟩]) ov1 (J++[.cells .plain (Pc.cs ⟨a,b,w,hyI l b,cl l a b s.x⟩)]) K1 (by omega) hbe.2 (by simp;omega) (by simpa using hA1)
       have hb':¬ (b:Int)=l.length:=by omega
       refine ⟨J2,K2,ov2,fr,by simpa using hA2,?_⟩
       simp only [Sl.cs,Sl.dv,Pc.dv,Pc.cs] at hS hO hap
       have key:(E tab).C eF [(0,v),(1,sv),(5,.ptr st.heap.length 0),(7,.int .i64 a),(8,.list t n' tk nn (ps.map Pc.dv))] (pst st (.cells .plain rest.cs::J) K) =
        (E tab).C eF [(0,v),(1,sv),(5,.ptr st.heap.length 0),(7,.int .i64 (du l b:Nat)),(8,ov1)] (pst st (.cells .plain rest.cs::(J++[.cells .plain (Pc.cs ⟨a,b,w,hyI l b,cl l a b s.x⟩)])) K1):=by
        rw [ab (L:=eF) rfl]
        simp only [qO]
        simp [e0,h0,Sl.cs,hS,hO,aD,aR,chunk,hap,hBg,Pc.cs,hb',hbl']
        have hk:∀ z S,(E tab).C eF [(0,v),(1,sv),(5,.ptr st.heap.length 0),(7,.int .i64 (du l b:Nat)),(8,ov1),(48,z)] S=(E tab).C eF [(0,v),(1,sv),(5,.ptr st.heap.length 0),(7,.int .i64 (du l b:Nat)),(8,ov1)] S:=by
         intro z S;unfold eF;rw [ka];rfl
        cases hq:(E tab).C eF [(0,v),(1,sv),(5,.ptr st.heap.length 0),(7,.int .i64 (du l b:Nat)),(8,ov1)] (pst st (.cells .plain [.int .i64 rest.x,.int .i64 rest.w]::(J++[.cells .plain [.int .i64 a,.int .i64 b,.bool w,.bool (hyI l b),.int .i64 (cl l a b s.x)]])) K1) with
        | none=>simp [hk,hq]
        | some p=>obtain ⟨e,fu1,S1⟩:=p;cases e<;>simp [hk,hq]
       rw [key]
       rcases hJ with ⟨hJ,hne⟩ | hJ
       · exact .inl ⟨hJ,by simp⟩
       · exact .inr hJ
   · obtain rfl:a=l.length:=by omega
     refine ⟨J,K,ov,[(27,.bool false)],by simpa [lC] using hA,.inr ?_⟩
     rw [ab (L:=eF) rfl]
     simp [qO,e0]
end
def l5 (l:List It) (sl:List Sl) (rest:Sl):List Pc:=if bu l l.length 0=l.length then [⟨l.length,l.length,false,false,0⟩] else cP l sl rest l.length (bu l l.length 0) 0
theorem C1 {l:List It} {sl:List Sl} {rest:Sl} {f a n:Nat} (h:a<l.length) (hf:0<f):cP l sl rest f a n≠[]:=by
 cases f with
 | zero=>omega
 | succ f=>rw [cP,if_pos h];simp
section
variable {st:St} {l:List It} {v:DV} {sl:List Sl} {sv:DV} {rest:Sl}
theorem AD {n:Nat} {xs:List DV} {w:DV} {K:List Nat} {st1 st2:St} (h:Acc st K n xs w):bD st1 st2 w=aX st1 st2 w:=by
 rcases h with ⟨_,t,n',tk,rfl⟩ | ⟨k,s,rfl,_⟩<;>rfl
theorem FB (hv:Its st l v) (hs:Sls st sl sv) (hc:bb l=0) (hso:BN sl rest):∃ w,(E tab).F 327 [v,sv,rest.dv] st=some (w,st)∧Lw 5 ((l5 l sl rest).map Pc.dv) w:=by
 rw [av ajv rfl]
 have e0:=fun st'=>bH hv st'
 obtain ⟨hok,hlen⟩:=dS hc
 have hg:=jh l l.length 0 (by omega)
 obtain ⟨fr0,hL0⟩:=Z1 hv (by omega) sv (.ptr st.heap.length 0) [.cells .plain rest.cs] [] l.length 0 (by omega) (by omega)
 unfold l5
 generalize bu l l.length 0=g at *
 obtain ⟨J',K',ov',fr,hA,hJ⟩:=Tp (rest:=rest) hv hs hc hso l.length g [] (.list 0 0 .no false []) [] [] (by omega) hg.2 (by simp) (bX st [] 5 0 0 .no)
 simp only [List.nil_append,List.length_nil] at hA hJ
 have hk:∀ (ex:Fr) (S:St),(E tab).C eF (Fr.bq ([(0,v),(1,sv),(5,.ptr st.heap.length 0),(7,.int .i64 g)]++ex) [0,1,5,7,8]) S=(E tab).C eF (Fr.bq ([(0,v),(1,sv),(5,.ptr st.heap.length 0),(7,.int .i64 g)]++ex) [0,1,5,7,8]) S:=fun _ _=>rfl
 obtain ⟨t,n',tk,nn,hx,hx1,hx2,_⟩:=gR (st':=pst st (.cells .plain rest.cs::J') K') hA
 have hxT:=AD (st1:=st) (st2:=pst st (.cells .plain rest.cs::J') K') hA
 rw [hx] at hxT
 obtain ⟨t2,n2,tk2,nn2,hov⟩:=bR hA
 by_cases hgl:g=l.length
 · rw [if_pos hgl]
   subst hgl
   rw [lC] at hA hJ hov hxT
   refine ⟨.list st.cur 5 .tight true [Pc.dv ⟨l.length,l.length,false,false,0⟩],?_,.list _ _ _ _ (fun _=>rfl) (fun e=>by cases e)⟩
   rcases hJ with ⟨_,hne⟩ | hJ
   · exact absurd rfl hne
   · simp only [Sl.cs,Sl.dv] at hL0 hJ
     rw [hov] at hJ
     simp at hL0
     simp [CZ,Sl.cs,Sl.dv,hL0,hJ,e0,aD,aR,chunk,Pc.dv,Pc.cs]
 · rw [if_neg hgl]
   have hne:=C1 (l:=l) (sl:=sl) (rest:=rest) (f:=l.length) (a:=g) (n:=0) (by omega) (by omega)
   refine ⟨_,?_,.list t n' tk nn (fun h=>hx2 h) (fun h=>hx1 h)⟩
   have hlen0:¬ (cP l sl rest l.length g 0).length=0:=fun h=>hne (List.length_eq_zero_iff.1 h)
   have hlen1:¬ ((cP l sl rest l.length g 0).length:Int)=0:=by omega
   generalize cP l sl rest l.length g 0=L at *
   rcases hJ with ⟨hJ,_⟩ | hJ
   · simp only [Sl.cs,Sl.dv] at hL0 hJ hxT
     simp at hL0
     simp [CZ,Sl.cs,Sl.dv,hL0,hJ,hxT]
   · simp only [Sl.cs,Sl.dv] at hL0 hJ hxT
     rw [hov] at hJ hxT
     simp at hL0
     simp [CZ,Sl.cs,Sl.dv,hL0,hJ,hlen0,hlen1]
     simpa using hxT
end
theorem Eh:tab 311=some (.code yv):=by kernel_rfl
theorem ahd:tab 323=some (.code E7):=by kernel_rfl
theorem ak0:tab 324=some (.code L9):=by kernel_rfl
theorem MU:tab 334=some (.code Cu):=by kernel_rfl
theorem MQ:tab 348=some (.code C8):=by kernel_rfl
section
variable {st:St} {p:bk} {w u:LW} {sl:List Sl} {sv:DV} {rest:Sl}
theorem K8 (hl:p.label=[]):(E tab).F 348 [.agg (af p w u)] st=some (.int .i64 0,st):=by
 rw [av MQ rfl]
 simp [C8,hl]
theorem xk (h0:ax p=0) (hl:p.label=[]) (hd:p.pr.drop=0) (s:Sl) (hs:0≤s.x∧s.x≤4095∧0≤s.w∧s.w≤4095) (n:Int) (hn:0≤n):(E tab).F 334 [.agg (af p w u),s.dv,.int .i64 n] st=some ((eC p s n).dv,st):=by
 rw [av MU rfl]
 have hm:=ia h0
 have h348:=fun st=>K8 (st:=st) (p:=p) (w:=w) (u:=u) hl
 have e4:(af p w u)[6]? = some (.int .i64 p.pr.inn):=rfl
 have e3:(af p w u)[5]? = some (.int .i64 p.pr.first):=rfl
 have e5:(af p w u)[7]? = some (.int .i64 p.pr.out):=rfl
 have e14:(af p w u)[16]? = some (.int .i64 p.pr.drop):=rfl
 have hnd:¬ n<p.pr.drop:=by omega
 have hL:oq p n=p.pr.inn+(if n=0 then p.pr.first else 0):=by
  unfold oq
  simp only [cA,iM,hl,if_true]
  rw [if_pos (show p.pr.drop≤n by omega)]
  by_cases h:n=0
  · rw [if_neg (by omega),if_pos h];omega
  · rw [if_pos (by omega),if_neg h];omega
 unfold eC
 rw [hL]
 by_cases h:n=0
 · subst h
   simp only [if_true]
   have w1:IntKind.i64.wrap (p.pr.inn+p.pr.first)=p.pr.inn+p.pr.first:=ar (by omega)
   have w2:IntKind.i64.wrap (s.x+(p.pr.inn+p.pr.first))=s.x+(p.pr.inn+p.pr.first):=ar (by omega)
   have w3:IntKind.i64.wrap (s.w-(p.pr.inn+p.pr.first))=s.w-(p.pr.inn+p.pr.first):=ar (by omega)
   have w4:IntKind.i64.wrap (s.w-(p.pr.inn+p.pr.first)-p.pr.out)=s.w-(p.pr.inn+p.pr.first)-p.pr.out:=ar (by omega)
   simp [Cu,aF,bL,bQ,bP,aH,h348,e3,e4,e5,e14,hnd,w1,w2,w3,w4,FO,Fl,Sl.dv,Sl.cs,cX MQ,show C8.dn=true from rfl]
 · simp only [h,if_false,Int.add_zero]
   have w2:IntKind.i64.wrap (s.x+p.pr.inn)=s.x+p.pr.inn:=ar (by omega)
   have w3:IntKind.i64.wrap (s.w-p.pr.inn)=s.w-p.pr.inn:=ar (by omega)
   have w4:IntKind.i64.wrap (s.w-p.pr.inn-p.pr.out)=s.w-p.pr.inn-p.pr.out:=ar (by omega)
   simp [Cu,h,e3,e4,e5,e14,hnd,w2,w3,w4,FO,Fl,Sl.dv,Sl.cs]
theorem ZP (h0:ax p=0) (hlb:p.label=[]) (hd:p.pr.drop=0) (hs:Sls st sl sv) (hso:BN sl rest) (hl:sl.length≤256) (x2:HO):∀ (k i:Nat) (J:List HO) (K:List Nat) (ov:DV),i+k=manyN p sl →
 Acc st K 2 (((List.range i).map (inF p sl rest)).map Sl.dv) ov→∃ ov' K' J' fr,
 (E tab).C ui [(1,sv),(3,.ptr st.heap.length 0),(5,.ptr (st.heap.length+1) 0),(7,.ptr (st.heap.length+2) 0),(8,.int .i64 (manyN p sl)),(9,ov),(10,.int .i64 i)] (pst st (.cells .plain (af p w u)::.cells .plain rest.cs::x2::J) K) =
  some (.exit 0,(1,sv)::(3,.ptr st.heap.length 0)::(5,.ptr (st.heap.length+1) 0)::(7,.ptr (st.heap.length+2) 0)::(8,.int .i64 (manyN p sl))::(9,ov')::fr,pst st (.cells .plain (af p w u)::.cells .plain rest.cs::x2::(J++J')) K') ∧
  Acc st K' 2 ((inL p sl rest).map Sl.dv) ov':=by
 have hm:=kX (p:=p) h0 hl
 intro k
 induction k with
 | zero=>
   intro i J K ov hi hA
   obtain rfl:i=manyN p sl:=by omega
   refine ⟨ov,K,[],[(10,.int .i64 (manyN p sl)),(19,.bool false)],?_,hA⟩
   rw [ab (L:=ui) rfl]
   simp [zi]
 | succ k ih=>
   intro i J K ov hi hA
   have his:(i:Int)<manyN p sl:=by omega
   have his':i<manyN p sl:=by omega
   have hw:IntKind.i64.wrap ((i:Int)+1)=((i+1:Nat):Int):=by rw [ar (by omega)];simp
   have hrange:(List.range (i+1)).map (inF p sl rest)=(List.range i).map (inF p sl rest)++[inF p sl rest i]:=by rw [List.range_succ];simp
   have h328:=fun H K=>ub (rest:=rest) (hs.inn H K) i
   have h334:=fun st=>xk (st:=st) (w:=w) (u:=u) h0 hlb hd (aS sl rest i) (hso i) i (by omega)
   obtain ⟨ov2,K2,hap,hA2⟩:=dh (H:=.cells .plain (af p w u)::.cells .plain rest.cs::x2::J) (by_:=16) (ag:=true) (tk:=.tight) (t:=st.cur) (ys:=[(inF p sl rest i).dv]) hA (by omega) (by simp) (by simp [pK]) (by simp [aw];omega) (by simp [aw];omega)
   obtain ⟨ov',K',J',fr,hJ,hR⟩:=ih (i+1) J K2 ov2 (by omega) (by rw [hrange];simpa using hA2)
   refine ⟨ov',K',J',fr,?_,hR⟩
   rw [ab (L:=ui) rfl]
   rw [show eC p (aS sl rest i) i=inF p sl rest i from rfl] at h334
   generalize inF p sl rest i=g at *
   generalize aS sl rest i=s at *
   simp only [Sl.cs,Sl.dv] at h328 h334 hap hJ ⊢
   simp at hap hJ
   simp [zi,his,aF,bL,bQ,bP,aH,h328,h334,aD,aR,chunk,hap,hw,hJ,cX M9,show yZ.dn=true from rfl,cX MU,show Cu.dn=true from rfl]
theorem Ct (h0:ax p=0) (hlb:p.label=[]) (hd:p.pr.drop=0) (hs:Sls st sl sv) (hc:cR sl rest=0) :
 ∃ v,(E tab).F 324 [.agg (af p w u),sv,rest.dv] st=some (.tuple [v,(gv p sl rest).dv],st)∧Lw 2 ((inL p sl rest).map Sl.dv) v:=by
 rw [av ak0 rfl]
 obtain ⟨hso,hl⟩:=kW hc
 have hm:=kX (p:=p) h0 hl
 have e0:=fun st'=>Vw.len hs st'
 simp only [List.length_map] at e0
 obtain ⟨ov,K1,J1,fr1,hJ,hA⟩:=ZP (st:=st) (w:=w) (u:=u) h0 hlb hd hs hso hl (.cells .plain [.int .i64 0,.int .i64 0]) (manyN p sl) 0 [] [] (.list 0 0 .no false []) (by omega) (bX _ _ _ _ _ _)
 have hrest:0≤rest.x∧rest.x≤4095∧0≤rest.w∧rest.w≤4095:=by
  have:=hso sl.length
  unfold aS mM at this
  rw [if_neg (by omega)] at this
  simpa using this
 have h334:=fun st=>xk (st:=st) (w:=w) (u:=u) h0 hlb hd rest hrest 4096 (by omega)
 have eR:eC p rest 4096=gv p sl rest:=by
  unfold gv eC oq
  simp only [cA,iM,hlb,hd]
  rw [if_pos (by omega),if_pos (by omega),if_pos (by omega),if_pos (by omega)]
 obtain ⟨t,n,tk,nn,rfl,c1,c2⟩:∃ t n tk nn,ov=.list t n tk nn ((inL p sl rest).map Sl.dv)∧(nn=true→n=2)∧(nn=false→(inL p sl rest).map Sl.dv=[]):=by
  rcases hA with ⟨hx,t,n',tk,rfl⟩ | ⟨k,s,rfl,hk⟩
  · exact ⟨_,_,_,_,by rw [hx],(fun h=>by cases h),fun _=>hx⟩
  · exact ⟨_,_,_,_,rfl,fun _=>rfl,(fun h=>by cases h)⟩
 refine ⟨.list t n (mX tk) nn ((inL p sl rest).map Sl.dv),?_,.list _ _ _ _ c1 c2⟩
 have e14:(af p w u)[16]? = some (.int .i64 p.pr.drop):=rfl
 have hmx:=Nk .i64 (sl.length:Int) 1 p.pr.drop
 rw [← hm.2.2] at hmx
 rw [eR] at h334
 generalize (inL p sl rest).map Sl.dv=VI at *
 generalize gv p sl rest=R at *
 generalize manyN p sl=MN at *
 simp only [Sl.cs,Sl.dv] at hJ h334 ⊢
 simp at hJ
 simp [-dJ,exl,L9,e0,e14,hmx,hJ,h334]
theorem D5 (hp:p.small) (hw:w.ok 4 p.aC) (hu:u.ok 1 p.marks) (hs:Sls st sl sv):(E tab).F 323 [.agg (af p w u),sv,rest.dv] st=some (.int .i64 (iw p sl rest),st):=by
 rw [av ahd rfl]
 have h14:=fun st=>uS p hp w u hw hu st
 have h333:=Dv (rest:=rest) (hs.inn [.cells .plain (af p w u),.cells .plain rest.cs] [])
 unfold iw
 by_cases h0:ax p=0
 · simp only [Sl.cs,Sl.dv] at h333 ⊢
   simp [E7,h14,h0,h333]
 · simp only [Sl.cs,Sl.dv] at h333 ⊢
   simp [E7,h14,h0]
theorem vY (l:List It) (F:Nat→Sl):∀ f a n,∀ y∈fF l F f a n,0≤y.a∧y.a≤y.b∧y.b≤l.length
 | 0,_,_,y,h=>by simp [fF] at h
 | f+1,a,n,y,h=>by
   simp only [fF] at h
   split at h
   · rename_i ha
     rcases List.mem_cons.1 h with rfl | h
     · obtain ⟨b,w,ho,h1,h2⟩:=gG l a (F n).x (F n).w ha (l.length+1-a) a none (by omega) (fun _=>by omega) (Nat.le_refl _) (fun c e=>by cases e)
       have e:di l a (F n)=⟨a,b,w,hyI l b,cl l a b (F n).x⟩:=by unfold di;rw [ho]
       rw [e]
       simp only
       omega
     · exact vY l F f _ _ y h
   · cases h
theorem Ci (l:List It) (F:Nat→Sl):∀ y∈gD l F,0≤y.a∧y.a≤y.b∧y.b≤l.length:=by
 unfold gD
 split
 · simp
 · split
   · intro y hy
     rw [List.mem_singleton] at hy
     subst hy
     simp only;omega
   · exact vY l F _ _ _
theorem Wi {it:List It} {iv:DV} {c1:List DV} (hi:Its st it iv) (hs:Sls st sl sv) (hok:okS it) (hil:it.length≤8192) {P:List Pc} (hP:P.length≤20000) (hPa:∀ y∈P,0≤y.a∧y.a≤y.b∧y.b≤it.length) (hPb:2≤P.length→∀ y∈P,y.a<it.length) {t n:Nat} {tk:Tk} {nn:Bool} (h5:P≠[]→n=5) :
 ∀ (r d:List Pc) (J:List HO) (K:List Nat) (ov:DV) (fr0:Int) (ls:List Ln),P=d++r→ls.length=d.length →
 Acc st K 7 (ls.map Ln.dv) ov→∃ ov' K' J' fr,
 (E tab).C uJ [(3,.ptr st.heap.length 0),(9,iv),(11,sv),(12,.ptr (st.heap.length+2) 0),(13,.list t n tk nn (P.map Pc.dv)),(14,.int .i64 0),(15,.bool true),(19,ov),(20,.int .i64 fr0),(21,.int .i64 d.length)] (pst st (.cells .plain (af p w u)::.cells .plain c1::.cells .plain rest.cs::J) K) =
  some (.exit 0,(3,.ptr st.heap.length 0)::(9,iv)::(11,sv)::(12,.ptr (st.heap.length+2) 0)::(13,.list t n tk nn (P.map Pc.dv))::(14,.int .i64 0)::(15,.bool true)::(19,ov')::fr,pst st (.cells .plain (af p w u)::.cells .plain c1::.cells .plain rest.cs::(J++J')) K') ∧
  Acc st K' 7 ((ls++lj p.text.length it sl rest d.length fr0 r).map Ln.dv) ov':=by
 intro r
 induction r with
 | nil=>
   intro d J K ov fr0 ls hd hls hA
   rw [List.append_nil] at hd
   subst hd
   refine ⟨ov,K,[],[(20,.int .i64 fr0),(21,.int .i64 P.length),(75,.bool false)],?_,by simpa [lj] using hA⟩
   rw [ab (L:=uJ) rfl]
   simp [mW]
 | cons x r ih=>
   intro d J K ov fr0 ls hd hls hA
   have hlt:d.length<P.length:=by simp [hd]
   obtain rfl:=h5 (by intro e;rw [e] at hlt;simp at hlt)
   have hlt':(d.length:Int)<P.length:=by omega
   have hw:IntKind.i64.wrap ((d.length:Int)+1)=((d++[x]).length:Nat):=by rw [ar (by omega)];simp
   have hVl:(P.map Pc.dv).length=P.length:=by simp
   have l0:d.length<(P.map Pc.dv).length:=by rw [hVl];exact hlt
   have g0:(P.map Pc.dv)[d.length]'l0=x.dv:=by simp [hd]
   have h328:=fun H=>ub (rest:=rest) (hs.inn H K) d.length
   obtain ⟨q1,q2,q3⟩:=hPa x (by simp [hd])
   obtain ⟨xa,hxa⟩:=Int.eq_ofNat_of_zero_le q1
   obtain ⟨xb,hxb⟩:=Int.eq_ofNat_of_zero_le (show 0≤x.b by omega)
   obtain ⟨g1,g2,hgv⟩:∃ g1 g2,∀ H,(E tab).F 329 [iv,.int .i64 x.a,.int .i64 x.b] (pst st H K)=some (.tuple [.int .i64 g1,.int .i64 g2],pst st H K):=by
    refine ⟨eV ((it.drop xa).take (aG it xa xb-xa)),eW ((it.drop xa).take (aG it xa xb-xa)),fun H => ?_⟩
    obtain ⟨fr,hL⟩:=Yg (st:=pst st H K) (hi.inn H K) hok hil xa xb (by omega) (by omega) [] [] (aG it xa xb-xa) xa (by have:=mf it xa xb (by omega);omega) (Nat.le_refl _)
    rw [hxa,hxb,av afZ rfl]
    simp [eV,eW] at hL
    simp [Kb,hL]
   obtain ⟨ov2,K2,hap,hA2⟩:=dh (H:=.cells .plain (af p w u)::.cells .plain c1::.cells .plain rest.cs::(J++[.cells .plain x.cs,.cells .plain (aS sl rest d.length).cs])) (by_:=56) (ag:=true) (tk:=.tight) (t:=st.cur) (ys:=[(lnP fr0 (toP p.text.length it r) (aS sl rest d.length) x).dv]) hA (by omega) (by simp) (by simp [MO]) (by simp [aw];omega) (by simp [aw];omega)
   obtain ⟨ov',K',J',fr,hJ,hR⟩:=ih (d++[x]) (J++[.cells .plain x.cs,.cells .plain (aS sl rest d.length).cs]) K2 ov2 (toP p.text.length it r) (ls++[lnP fr0 (toP p.text.length it r) (aS sl rest d.length) x]) (by simp [hd]) (by simp [hls]) (by simpa using hA2)
   refine ⟨ov',K',.cells .plain x.cs::.cells .plain (aS sl rest d.length).cs::J',fr,?_,by
    simpa [lj] using hR⟩
   rw [ab (L:=uJ) rfl]
   clear hxa hxb
   cases r with
   | nil=>
     have hlen:P.length=d.length+1:=by simp [hd]
     have hlt2:(d.length:Int)<(d.length:Int)+1:=by omega
     generalize P.map Pc.dv=V at *
     unfold lnP at hap
     simp only [toP] at hap hJ
     generalize aS sl rest d.length=s at *
     simp only [Sl.dv,Sl.cs,Ln.dv,Ln.cs,Pc.dv,Pc.cs] at h328 hap hJ g0 ⊢
     simp at hap hJ
     cases hwd:x.wide with
     | false=>
       rw [hwd] at g0 hap hJ
       simp at hap hJ
       simp [mW,hlt2,g0,l0,h328,hVl,hlen,hgv,hw,aD,aR,chunk,hap]
       simpa [hlen] using hJ
     | true=>
       rw [hwd] at g0 hap hJ
       simp at hap hJ
       simp [mW,hlt2,g0,l0,h328,hVl,hlen,hgv,hw,show IntKind.i64.wrap 1=1 by decide,aD,aR,chunk,hap]
       simpa [hlen] using hJ
   | cons y r'=>
     have hlen:P.length=d.length+1+1+r'.length:=by simp [hd];omega
     have hlt2:(d.length:Int)<(d.length:Int)+1+1+r'.length:=by omega
     have hge:(0:Int)≤(d.length:Int)+1:=by omega
     have hlt4:d.length<d.length+1+1+r'.length:=by omega
     have hlt5:d.length+1<d.length+1+1+r'.length:=by omega
     have hlt3:(d.length:Int)+1<(d.length:Int)+1+1+r'.length:=by omega
     have l1:d.length+1<(P.map Pc.dv).length:=by rw [hVl,hlen];omega
     have g1':(P.map Pc.dv)[d.length+1]'l1=y.dv:=by simp [hd]
     have hya:=(hPa y (by simp [hd])).1
     have hyb:=hPb (by rw [hlen];omega) y (by simp [hd])
     obtain ⟨ya,hy⟩:∃ ya:Nat,y.a=ya:=⟨y.a.toNat,by omega⟩
     have hyl:ya<it.length:=by omega
     have hx:it[ya]? = some (it.getD ya iz0):=by rw [List.getD_eq_getElem?_getD,List.getElem?_eq_getElem hyl];rfl
     have i1:=fun st'=>b7 hi hyl .i64 st'
     have i2:=fun st'=>cE hi hx (off:=1) (by omega) st'
     have i3:=fun H K=>lQ hi hx (off:=1) (y:=.int .i64 (it.getD ya iz0).f) rfl H K
     have et:toP p.text.length it (y::r')=(it.getD ya iz0).f:=by simp only [toP,hy];rfl
     rw [et] at hap hJ
     generalize it.getD ya iz0=q at *
     generalize P.map Pc.dv=V at *
     unfold lnP at hap
     generalize aS sl rest d.length=s at *
     simp only [Sl.dv,Sl.cs,Ln.dv,Ln.cs,Pc.dv,Pc.cs] at h328 hap hJ g0 g1' ⊢
     simp at hap hJ
     have w1:IntKind.i64.wrap ((d.length:Int)+1)=(d.length:Int)+1:=ar (by omega)
     rw [hy] at g1'
     cases hwd:x.wide with
     | false=>
       rw [hwd] at g0 hap hJ
       simp at hap hJ
       simp [mW,hlt2,hlt3,hlt4,hlt5,hge,g0,l0,g1',h328,hVl,hlen,hgv,w1,i1,i2,i3,aD,aR,chunk,hap]
       simpa [hlen] using hJ
     | true=>
       rw [hwd] at g0 hap hJ
       simp at hap hJ
       simp [mW,hlt2,hlt3,hlt4,hlt5,hge,g0,l0,g1',h328,hVl,hlen,hgv,w1,i1,i2,i3,show IntKind.i64.wrap 1=1 by decide,aD,aR,chunk,hap]
       simpa [hlen] using hJ
theorem Qr (hy:p.pr.a0=0) (hp:p.small) (hw:w.ok 4 p.aC) (hu:u.ok 1 p.marks) (hl1:p.pr.least≠1) (hlb:p.label=[]) (hd:p.pr.drop=0) (hs:Sls st sl sv) (hi0:iw p sl rest=0→bb (bE p)=0) :
 ∃ v,(E tab).F 311 [.agg (af p w u),sv,rest.dv] st=some (.tuple [v,.int .i64 (iw p sl rest)],st)∧Lw 7 ((if iw p sl rest=0 then j7 p sl rest else []).map Ln.dv) v:=by
 rw [av Eh rfl]
 have h323:=D5 (rest:=rest) hp hw hu (hs.inn [.cells .plain (af p w u),.cells .plain rest.cs] [])
 by_cases hE:iw p sl rest=0
 rotate_left
 · rw [if_neg hE]
   refine ⟨.list 0 0 .no false [],?_,.list _ _ _ _ (fun h=>by cases h) (fun _=>rfl)⟩
   simp only [Sl.dv,Sl.cs] at h323 ⊢
   simp [yv,h323,hE]
 rw [if_pos hE]
 have hci:=hi0 hE
 rw [hE] at h323 ⊢
 have h0:ax p=0:=by
  apply Classical.byContradiction
  intro h;unfold iw at hE;rw [if_pos h] at hE;exact h hE
 have hc:cR sl rest=0:=by unfold iw at hE;rw [if_neg (by simp [h0])] at hE;exact hE
 obtain ⟨hok,hil⟩:=dS hci
 obtain ⟨iv,h238,hiv⟩:=DG (st:=pst st [.cells .plain (af p w u),.cells .plain rest.cs] []) hy hp hw hu
 rw [h0] at h238
 rw [if_pos h0] at hiv
 obtain ⟨nv,h324,hnv⟩:=Ct (st:=pst st [.cells .plain (af p w u),.cells .plain rest.cs] []) (w:=w) (u:=u) h0 hlb hd (hs.inn _ _) hc
 have hso:=(kW (Gx h0 hc)).1
 obtain ⟨bv,h327,hbv⟩:=FB (st:=pst st [.cells .plain (af p w u),.cells .plain rest.cs,.cells .plain (gv p sl rest).cs] []) (rest:=gv p sl rest) (Lw.vw hiv:Its _ (bE p) iv) (Lw.vw hnv) hci hso
 have hLA:l5 (bE p) (inL p sl rest) (gv p sl rest)=jU p sl rest:=by
  have hin:=Gx h0 hc
  have hEE:fg (bE p) (inL p sl rest) (gv p sl rest)=0:=by
   unfold fg
   by_cases h:bb (bE p)=0
   · rw [if_neg (by simp [h]),hin]
   · exact absurd hci h
  unfold jU iP l5
  rw [hEE]
  simp
 rw [hLA] at hbv
 obtain ⟨t,n,tk,nn,rfl,c0,_,_⟩:=zh hbv
 have hP:=zG h0 hc
 obtain ⟨q1,q2,q3⟩:=nA (bE p) (inF p sl rest)
 have q4:=Ci (bE p) (inF p sl rest)
 rw [← hP] at q1 q2 q3 q4
 obtain ⟨ov,K1,J1,fr1,hJ,hA⟩:=Wi (st:=st) (p:=p) (w:=w) (u:=u) (rest:=gv p sl rest) (c1:=rest.cs) (Lw.vw hiv:Its st (bE p) iv) (Lw.vw hnv) (E8 hci) hil (P:=jU p sl rest) (by omega) q4 q2 (t:=t) (tk:=tk) (nn:=nn) (fun h=>c0 (by
  intro e;rw [List.map_eq_nil_iff] at e;exact h e)) (jU p sl rest) [] [] [] (.list 0 0 .no false []) 0 [] rfl rfl (bX _ _ _ _ _ _)
 obtain ⟨t2,n2,tk2,nn2,rfl,c1,c2⟩:∃ t n tk nn,ov=.list t n tk nn ((j7 p sl rest).map Ln.dv)∧(nn=true→n=7)∧(nn=false→(j7 p sl rest).map Ln.dv=[]):=by
  have hA':Acc st K1 7 ((j7 p sl rest).map Ln.dv) ov:=by simpa [j7] using hA
  rcases hA' with ⟨hx,t,n',tk,rfl⟩ | ⟨k,s,rfl,hk⟩
  · exact ⟨_,_,_,_,by rw [hx],(fun h=>by cases h),fun _=>hx⟩
  · exact ⟨_,_,_,_,rfl,fun _=>rfl,(fun h=>by cases h)⟩
 refine ⟨.list t2 n2 (mX tk2) nn2 ((j7 p sl rest).map Ln.dv),?_,.list _ _ _ _ c1 c2⟩
 have e15:(af p w u)[15]? = some (.int .i64 p.pr.least):=rfl
 have hVl:((jU p sl rest).map Pc.dv).length=(jU p sl rest).length:=by simp
 generalize (j7 p sl rest).map Ln.dv=VL at *
 generalize gv p sl rest=R2 at *
 generalize (jU p sl rest).map Pc.dv=VP at *
 simp only [Sl.dv,Sl.cs] at h323 h238 h324 h327 hJ ⊢
 simp at h238 h324 h327 hJ
 simp [-dJ,exl,yv,h323,h238,h324,e15,hl1,h327,hVl,hJ]
end
theorem Fv:tab 637=some (.code zx):=by kernel_rfl
theorem aeG:tab 638=some (.code Ef):=by kernel_rfl
theorem ajA:tab 640=some (.code C3):=by kernel_rfl
theorem akw:tab 641=some (.code HD):=by kernel_rfl
theorem DA:tab 642=some (.code zE):=by kernel_rfl
section
variable {st:St} {l:List Fm} {v:DV}
theorem Xi (h:Fms st l v) {i:Nat} {f:Fm} (hf:l[i]? = some f) (H:List HO) (K:List Nat) (k:IntKind) (st':St) :
 gZ st' 5 v (.int k i)=some (elP 5 v i,st')∧kg st' 4 (elP 5 v i)=some (faP 4 (elP 5 v i),st')∧cF (pst st H K) 1 false (faP 4 (elP 5 v i))=some (.int .i64 f.h):=by
 have hi:=(List.getElem?_eq_some_iff.1 hf).1
 refine ⟨nm h hi k st',Vw.fy h kN (by simpa using hi) (by omega) st',?_⟩
 exact Vw.Al (Vw.inn h H K) kN (i:=i) (x:=f.dv) (by simp [hf]) rfl
theorem abf (hl:l.length≤16) (hv:Fms st l v) (K:List Nat):∀ (r d:List Fm) (H:List HO),l=d++r →
 ∃ J fr,(E tab).C qX [(0,v),(3,.int .i64 d.length)] (pst st H K) =
   some (if r.all gi then (.exit 0,fr,pst st (H++J) K) else (.ret,[(2,.int .i64 2)],pst st (H++J) K)):=by
 have hn:=fun st'=>fp hv st'
 intro r
 induction r with
 | nil=>
   intro d H hd
   rw [List.append_nil] at hd
   subst hd
   refine ⟨[],[(0,v),(3,.int .i64 l.length),(11,.bool false)],?_⟩
   rw [ab (L:=qX) rfl]
   simp [fJ,hn]
 | cons f r ih=>
   intro d H hd
   have h0:d.length<l.length:=by simp [hd]
   have hg:l[d.length]? = some f:=by simp [hd]
   have a1:=fun st'=>nm hv h0 .i64 st'
   have a2:=fun H=>mG hv hg H K
   have hw1:IntKind.i64.wrap ((d.length:Int)+1)=((d++[f]).length:Nat):=by rw [ar (by omega)];simp
   obtain ⟨J,fr,hJ⟩:=ih (d++[f]) (H++[.cells .plain f.cs]) (by simp [hd])
   simp only [List.length_append,List.length_singleton] at hJ hw1
   simp only [Fm.cs] at a2 hJ
   by_cases hok:gi f=true
   · have hb:¬ f.p<1∧¬ 4096<f.p∧¬ f.x<0∧¬ 4095<f.x∧¬ f.y<0∧¬ 4095<f.y∧¬ f.w<0∧¬ 4095<f.w∧¬ f.h<0∧¬ 4095<f.h:=by
      simp [gi,kB] at hok;omega
     obtain ⟨c1,c2,c3,c4,c5,c6,c7,c8,c9,c10⟩:=hb
     refine ⟨[.cells .plain f.cs]++J,fr,?_⟩
     simp only [List.all_cons,hok,Bool.true_and]
     rw [← List.append_assoc]
     simp only [Fm.cs]
     rw [← hJ]
     rw [ab (L:=qX) rfl]
     simp [fJ,hn,h0,a1,a2,c1,c2,c3,c4,c5,c6,c7,c8,c9,c10,hw1]
   · have hf:gi f=false:=by simpa using hok
     have hb:f.p<1∨4096<f.p∨f.x<0∨4095<f.x∨f.y<0∨4095<f.y∨f.w<0∨4095<f.w∨f.h<0∨4095<f.h:=by
      simp [gi,kB] at hf;omega
     refine ⟨[.cells .plain f.cs],[],?_⟩
     simp only [List.all_cons,hf,Bool.false_and]
     rw [ab (L:=qX) rfl]
     by_cases c1:f.p<1
     · simp [fJ,hn,h0,a1,a2,c1,Fm.cs]
     by_cases c2:4096<f.p
     · simp [fJ,hn,h0,a1,a2,c1,c2,Fm.cs]
     by_cases c3:f.x<0
     · simp [fJ,hn,h0,a1,a2,c1,c2,c3,Fm.cs]
     by_cases c4:4095<f.x
     · simp [fJ,hn,h0,a1,a2,c1,c2,c3,c4,Fm.cs]
     by_cases c5:f.y<0
     · simp [fJ,hn,h0,a1,a2,c1,c2,c3,c4,c5,Fm.cs]
     by_cases c6:4095<f.y
     · simp [fJ,hn,h0,a1,a2,c1,c2,c3,c4,c5,c6,Fm.cs]
     by_cases c7:f.w<0
     · simp [fJ,hn,h0,a1,a2,c1,c2,c3,c4,c5,c6,c7,Fm.cs]
     by_cases c8:4095<f.w
     · simp [fJ,hn,h0,a1,a2,c1,c2,c3,c4,c5,c6,c7,c8,Fm.cs]
     by_cases c9:f.h<0
     · simp [fJ,hn,h0,a1,a2,c1,c2,c3,c4,c5,c6,c7,c8,c9,Fm.cs]
     have c10:4095<f.h:=by omega
     simp [fJ,hn,h0,a1,a2,c1,c2,c3,c4,c5,c6,c7,c8,c9,c10,Fm.cs]
theorem mh (hv:Fms st l v):(E tab).F 640 [v] st=some (.int .i64 (chF l),st):=by
 rw [av ajA rfl]
 have hn:=fun st'=>fp hv st'
 unfold chF
 by_cases h1:16<l.length
 · have h1':(16:Int)<l.length:=by omega
   simp [C3,hn,h1,h1']
 have h1':¬ (16:Int)<l.length:=by omega
 obtain ⟨J,fr,hL⟩:=abf (by omega) hv [] l [] [] rfl
 simp only [List.length_nil,Int.natCast_zero] at hL
 rw [if_neg h1]
 cases ha:l.all gi with
 | false=>rw [ha] at hL;simp at hL;simp [C3,hn,h1',hL]
 | true=>rw [ha] at hL;simp at hL;simp [C3,hn,h1',hL]
theorem VD (hv:Fms st l v) {i:Nat} {f:Fm} (hf:l[i]? = some f) (hb:0≤f.h∧f.h≤4095) {base:List (Nat×Nat)} (hbl:base.length≤100000) (H:List HO):∀ (m n:Nat) (K:List Nat) (ov:DV),n+m=f.h.toNat/10→Acc st K 2 ((base++(qV i f.h).take n).map pD) ov →
 ∃ K' ov' fr,Acc st K' 2 ((base++qV i f.h).map pD) ov'∧(E tab).C uH [(0,v),(3,ov),(4,.int .i64 i),(5,.int .i64 n)] (pst st H K)=some (.exit 2,[(0,v),(3,ov'),(4,.int .i64 i)]++fr,pst st H K'):=by
 have a:=fun H K st'=>Xi hv hf H K .i64 st'
 have w2:IntKind.i64.wrap (f.h.tdiv 10)=((f.h.toNat/10:Nat):Int):=by
  rw [Int.tdiv_eq_ediv_of_nonneg hb.1,ar (by omega)];omega
 intro m
 induction m with
 | zero=>
   intro n K ov hn hA
   obtain rfl:n=f.h.toNat/10:=by omega
   rw [List.take_of_length_le (by rw [gI];omega)] at hA
   refine ⟨K,ov,[(5,.int .i64 (f.h.toNat/10:Nat)),(19,.bool false)],hA,?_⟩
   rw [ab (L:=uH) rfl]
   simp [zg,fun st'=>(a [] [] st').1,fun st'=>(a [] [] st').2.1,fun H K=>(a H K st).2.2,w2]
 | succ m ih=>
   intro n K ov hn hA
   have hlt:n<f.h.toNat/10:=by omega
   have hlt':(n:Int)<((f.h.toNat/10:Nat):Int):=by omega
   have ht:(qV i f.h).take (n+1)=(qV i f.h).take n++[(i,10*n)]:=by rw [List.take_add_one,By i f.h hlt];rfl
   have w3:IntKind.i64.wrap (10*(n:Int))=((10*n:Nat):Int):=by rw [ar (by omega)];omega
   have w4:IntKind.i64.wrap ((n:Int)+1)=((n+1:Nat):Int):=by rw [ar (by omega)];simp
   obtain ⟨ov2,K2,hap,hA2⟩:=dh (H:=H) (by_:=16) (ag:=true) (tk:=.tight) (t:=st.cur) (ys:=[pD (i,10*n)]) hA (by omega) (by simp) (fun y hy=>by rw [List.mem_singleton] at hy;subst hy;exact GU _) (by simp [aw,gI];omega) (by simp [aw,gI];omega)
   obtain ⟨K',ov',fr,hR,hJ⟩:=ih (n+1) K2 ov2 (by omega) (by rw [ht];simpa using hA2)
   refine ⟨K',ov',fr,hR,?_⟩
   rw [ab (L:=uH) rfl]
   simp only [pD] at hap
   generalize f.h.toNat/10=q at *
   simp [zg,fun st'=>(a [] [] st').1,fun st'=>(a [] [] st').2.1,fun H K=>(a H K st).2.2,w2,hlt,w3,w4,aD,aR,chunk]
   simp at hap hJ w4
   simp [hap,w4,hJ]
theorem TN (hv:Fms st l v) (hl:l.length≤16) (hok:l.all gi=true) (H:List HO):∀ (r d:List Fm) (K:List Nat) (ov:DV),l=d++r→Acc st K 2 ((PL d 0).map pD) ov →
 ∃ K' ov' fr,Acc st K' 2 ((PL l 0).map pD) ov'∧(E tab).C tP [(0,v),(3,ov),(4,.int .i64 d.length)] (pst st H K)=some (.exit 0,[(0,v),(3,ov')]++fr,pst st H K'):=by
 have hn:=fun st'=>fp hv st'
 intro r
 induction r with
 | nil=>
   intro d K ov hd hA
   rw [List.append_nil] at hd
   subst hd
   refine ⟨K,ov,[(4,.int .i64 l.length),(9,.bool false)],hA,?_⟩
   rw [ab (L:=tP) rfl]
   simp [yH,hn]
 | cons f r ih=>
   intro d K ov hd hA
   have h0:d.length<l.length:=by simp [hd]
   have hg:l[d.length]? = some f:=by simp [hd]
   have hf:=tm (List.all_eq_true.1 hok f (by rw [hd];simp))
   have hpl:=kz l 0 hok
   have hpd:PL (d++[f]) 0=PL d 0++qV d.length f.h:=by rw [lz];simp [PL]
   have hle:(PL d 0).length≤(PL l 0).length:=by rw [hd,lz d];simp
   have hw1:IntKind.i64.wrap ((d.length:Int)+1)=((d.length+1:Nat):Int):=by rw [ar (by omega)];simp
   obtain ⟨K1,ov1,fr1,hA1,hL⟩:=VD (base:=PL d 0) hv hg ⟨hf.2.2.1,hf.2.2.2⟩ (by omega) H (f.h.toNat/10) 0 K ov (by omega) (by simpa using hA)
   obtain ⟨K',ov',fr,hR,hJ⟩:=ih (d++[f]) K1 ov1 (by simp [hd]) (by rw [hpd];exact hA1)
   refine ⟨K',ov',fr,hR,?_⟩
   rw [ab (L:=tP) rfl]
   simp only [List.length_append,List.length_singleton] at hJ
   simp at hL hJ hw1
   simp [yH,hn,h0,hL,hw1,hJ]
theorem rY (hv:Fms st l v) (hl:l.length≤16) (hok:l.all gi=true):∃ vo,(E tab).F 641 [v] st=some (vo,st)∧Lw 2 ((PL l 0).map pD) vo:=by
 obtain ⟨K',ov,fr,hA,hL⟩:=TN hv hl hok [] l [] [] (.list 0 0 .no false []) rfl (bX _ _ _ _ _ _)
 obtain ⟨t9,n9,tk9,nn9,e9,q2,q3,_⟩:=gR (st':=pst st [] K') hA
 have hxT:=AD (st1:=st) (st2:=pst st [] K') hA
 rw [e9] at hxT
 refine ⟨.list t9 n9 tk9 nn9 ((PL l 0).map pD),?_,.list _ _ _ _ q3 q2⟩
 rw [av akw rfl]
 obtain ⟨t8,n8,tk8,nn8,rfl⟩:=bR hA
 generalize (PL l 0).map pD=VP at *
 simp at hL hxT
 simp [HD,hL]
 simpa using hxT
theorem Dc (hv:Fms st l v):(E tab).F 638 [v] st=some (.tuple [.int .i64 (if chF l=0 then ((PL l 0).length:Int) else 0),.int .i64 (chF l)],st):=by
 rw [av aeG rfl]
 have h640:=fun H K=>mh (st:=pst st H K) (hv.inn H K)
 by_cases h:chF l=0
 · obtain ⟨hl,hok⟩:=o0 h
   rw [h] at h640
   obtain ⟨vo,h641,hvo⟩:=rY (st:=pst st [] []) (hv.inn [] []) hl hok
   have hn:=fun st'=>(hvo.vw (st:=st) (ag:=true)).len st'
   simp only [List.length_map] at hn
   have h640':=h640 [] []
   simp [Ef,h640',h641,hn,h]
 · have h640':=h640 [] []
   simp [Ef,h640',h]
theorem tV (hv:Fms st l v) (hc:chF l≠0):(E tab).F 410 [v] st=some (.tuple [.int .i64 0,.int .i64 (chF l)],st):=by
 rw [av M3 rfl]
 have h412:=fun H K=>ib (st:=pst st H K) (hv.inn H K)
 have h412':=h412 [] []
 simp [Dn,h412',hc]
theorem Jz (s:List UInt8):(E tab).F 642 [.str s] st=some (.agg (af (gP dK s) (gW st s) ⟨0,0,.no,false⟩),st):=by
 rw [av DA rfl]
 by_cases h:s=[]
 · subst h
   simp [zE,af,gP,gW,dK,bA.cs,LW.dv]
 · have h2:s.isEmpty=false:=by simpa using h
   have h3:0<s.length:=List.length_pos_iff.2 h
   simp [zE,h,h2,h3,af,gP,gW,dK,bA.cs,LW.dv,Span.dv,Span.cs,aD,aR,chunk]
theorem yB {text:List UInt8} (hs:text.length≤4096) (c1:DV) (S:St):∀ (r d:List UInt8),text=d++r →
 ∃ fr,(E tab).C qJ [(0,.str text),(1,c1),(7,.int .i64 d.length)] S =
   some (if r.all dP then (.exit 0,(0,.str text)::(1,c1)::fr,S) else (.ret,[(4,.list 0 0 .no false []),(5,.int .i64 0),(6,.int .i64 4)],S)):=by
 intro r
 induction r with
 | nil=>
   intro d hd
   refine ⟨[(7,.int .i64 d.length),(28,.bool false)],?_⟩
   rw [ab (L:=qJ) rfl]
   simp [nh,hd]
 | cons c r ih=>
   intro d hd
   have h0:d.length<text.length:=by simp [hd]
   have hg:text[d.length]=c:=by simp [hd]
   have hw:IntKind.i64.wrap ((d.length:Int)+1)=((d++[c]).length:Nat):=by rw [ar (by omega)];simp
   obtain ⟨fr,hJ⟩:=ih (d++[c]) (by simp [hd])
   refine ⟨fr,?_⟩
   rw [ab (L:=qJ) rfl]
   simp only [List.length_append,List.length_singleton] at hJ hw
   by_cases h10:c=10
   · subst h10
     have hb:dP 10=true:=by decide
     simp [nh,h0,hg,hb,hw]
     simpa using hJ
   have h10':¬ (c.toNat:Int)=10:=by
    intro e
    apply h10
    have:c.toNat=10:=by omega
    exact UInt8.toNat_inj.1 (by simpa using this)
   have h10'':¬ c.toNat=10:=by omega
   by_cases h1:c.toNat<32
   · have hb:dP c=false:=by simp [dP,qa,h10];omega
     have h1':(c.toNat:Int)<32:=by omega
     simp [nh,h0,hg,h1,h1',hb,h10',h10'']
   · have h1':¬ (c.toNat:Int)<32:=by omega
     by_cases h2:126<c.toNat
     · have hb:dP c=false:=by simp [dP,qa,h10];omega
       have h2':126<(c.toNat:Int):=by omega
       simp [nh,h0,hg,h1,h1',h2,h2',hb,h10',h10'']
     · have hb:dP c=true:=by simp [dP,qa];left;omega
       have h2':¬ 126<(c.toNat:Int):=by omega
       simp [nh,h0,hg,h1,h1',h2,h2',hb,h10',h10'',hw]
       simpa using hJ
theorem ZX {AL:List (Nat×Nat)} {o i:Nat} (hi:i<256) {p:Nat×Nat} (hp:AL[o+i]? = some p) {f:Fm} (hf:l[p.1]? = some f):(slF l (AL.drop o))[i]? = some ⟨0,f.w⟩:=by
 unfold slF
 rw [List.getElem?_map,List.getElem?_take,if_pos hi,List.getElem?_drop,hp]
 simp [hf]
theorem I2 (AL:List (Nat×Nat)) (o:Nat):(slF l (AL.drop o)).length=min 256 (AL.length-o):=by simp [slF]
theorem abA (hv:Fms st l v) {AL:List (Nat×Nat)} {va:DV} (hva:Lw 2 (AL.map pD) va) (hal:∀ p∈AL,p.1<l.length) (hAL:AL.length≤10000) (c0 c10 c11 c12 c13 c14:DV) {o:Nat} (ho:o≤AL.length) (K0:List Nat) (H:List HO):∀ (m i:Nat) (K:List Nat) (sv:DV) (oo:Option Nat),i+m=(slF l (AL.drop o)).length →
 Ac st K 2 (((slF l (AL.drop o)).take i).map Sl.dv) sv oo→(∀ k,oo=some k→K0.length≤k)→K0.length≤K.length→(∀ j,j<K0.length→K[j]? = K0[j]?) →
 ∃ K' sv' fr,Lw 2 ((slF l (AL.drop o)).map Sl.dv) sv'∧K0.length≤K'.length∧(∀ j,j<K0.length→K'[j]? = K0[j]?) ∧
   (E tab).C pZ [(0,c0),(1,v),(9,va),(10,c10),(11,c11),(12,c12),(13,c13),(14,c14),(15,sv),(16,.int .i64 ((o+i:Nat):Int))] (pst st H K) =
   some (.exit 4,[(0,c0),(1,v),(9,va),(10,c10),(11,c11),(12,c12),(13,c13),(14,c14),(15,sv')]++fr,pst st H K'):=by
 have hvw:Vw st 2 true (AL.map pD) va:=hva.vw
 have e0:=fun st'=>hvw.len st'
 simp only [List.length_map] at e0
 have hsl:=I2 (l:=l) AL o
 intro m
 induction m with
 | zero=>
   intro i K sv oo hi hA _ hK hKK
   have hil:i=(slF l (AL.drop o)).length:=by omega
   rw [hil,List.take_length] at hA
   obtain ⟨t,n,tk,nn,rfl⟩:=bR hA.acc
   refine ⟨K,_,[(16,.int .i64 ((o+i:Nat):Int)),(92,.bool false)],tj hA.acc,hK,hKK,?_⟩
   rw [ab (L:=pZ) rfl]
   have hl2:((slF l (AL.drop o)).map Sl.dv).length=i:=by rw [List.length_map];omega
   generalize (slF l (AL.drop o)).map Sl.dv=V at *
   by_cases h1:o+i<AL.length
   · have h1':((o+i:Nat):Int)<AL.length:=by omega
     have h2:i=256:=by omega
     have h3:¬ (i:Int)<256:=by omega
     have h1'':(o:Int)+i<AL.length:=by omega
     simp [tU,e0,h1'',hl2,h3]
   · have h1':¬ ((o+i:Nat):Int)<AL.length:=by omega
     have h1'':¬ (o:Int)+i<AL.length:=by omega
     simp [tU,e0,h1'']
 | succ m ih=>
   intro i K sv oo hi hA hoK hK hKK
   have hi1:i<(slF l (AL.drop o)).length:=by omega
   have h1:o+i<AL.length:=by omega
   have h1':((o+i:Nat):Int)<AL.length:=by omega
   have h2:i<256:=by omega
   have h2':(i:Int)<256:=by omega
   obtain ⟨p,hp⟩:∃ p,AL[o+i]? = some p:=⟨_,List.getElem?_eq_getElem h1⟩
   obtain ⟨f,hf⟩:∃ f,l[p.1]? = some f:=⟨_,List.getElem?_eq_getElem (hal p (List.mem_of_getElem? hp))⟩
   have a1:=fun st'=>hvw.aK (i:=o+i) (by simpa using h1) .i64 st'
   have a2:=fun st'=>Vw.fy hvw qu (i:=o+i) (off:=0) (by simpa using h1) (by omega) st'
   have a3:=fun H K=>Vw.Al (Vw.inn hvw H K) qu (i:=o+i) (off:=0) (x:=pD p) (y:=.int .i64 p.1) (by simp [hp]) rfl
   have b:=fun H K st'=>AY hv hf H K .i64 st'
   have hat:=ZX (l:=l) h2 hp hf
   have ht:(slF l (AL.drop o)).take (i+1)=(slF l (AL.drop o)).take i++[⟨0,f.w⟩]:=by rw [List.take_add_one,hat];rfl
   have w1:IntKind.i64.wrap (((o+i:Nat):Int)+1)=((o+(i+1):Nat):Int):=by rw [ar (by omega)];omega
   obtain ⟨t8,n8,tk8,nn8,e8⟩:=bR hA.acc
   have hl2:(((slF l (AL.drop o)).take i).map Sl.dv).length=i:=by rw [List.length_map,List.length_take];omega
   obtain ⟨ov2,K2,k2,hap,ho2,hk2,hst⟩:=yl (st:=st) (H:=H) (by_:=16) (ag:=true) (ys:=[(⟨0,f.w⟩:Sl).dv]) (w:=.list st.cur 2 .tight true [(⟨0,f.w⟩:Sl).dv]) hA (.list _ _ _ _ (fun _=>rfl) (fun h=>by cases h)) (by omega) (by simp) (fun y hy=>by rw [List.mem_singleton] at hy;subst hy;exact pK _) (by rw [hl2];simp [aw];omega) (by rw [hl2];simp [aw];omega)
   have hk3:K0.length≤k2:=by
    rcases hk2 with h | ⟨_,h⟩
    · exact hoK k2 h
    · omega
   have hK2:∀ j,j<K0.length→K2[j]? = K0[j]?:=fun j hj=>by rw [hst j (by omega) (by omega)];exact hKK j hj
   have hK2l:K0.length≤K2.length:=by
    by_cases hz:K0.length=0
    · omega
    · have h1:=hK2 (K0.length-1) (by omega)
      rw [List.getElem?_eq_getElem (by omega:K0.length-1<K0.length)] at h1
      have:=(List.getElem?_eq_some_iff.1 h1).1
      omega
   obtain ⟨K',sv',fr,hL,g1,g2,hJ⟩:=ih (i+1) K2 ov2 (some k2) (by omega) (by rw [ht,List.map_append];exact ho2) (fun k hk=>by cases hk;exact hk3) hK2l hK2
   refine ⟨K',sv',fr,hL,g1,g2,?_⟩
   rw [ab (L:=pZ) rfl]
   subst e8
   generalize ((slF l (AL.drop o)).take i).map Sl.dv=V at *
   generalize ((slF l (AL.drop o)).take (i+1)).map Sl.dv=V1 at *
   generalize o+i=oi at *
   generalize o+(i+1)=oi1 at *
   simp only [Sl.dv,Sl.cs] at hap
   simp at hap hJ
   simp [tU,e0,h1,hl2,h2,h2',a1,a2,a3,fun st'=>(b [] [] st').1,fun st'=>(b [] [] st').2.1,fun H K=>(b H K st).2.2,aD,aR,chunk,hap,w1,hJ]
end
theorem yV {s:List UInt8} (h:∀ c∈s,c≠10):bd s=[s]:=lx s (List.count_eq_zero.2 fun h2=>h 10 h2 rfl)
theorem n5:∀ {s:List UInt8} (r:List UInt8),(∀ c∈s,c≠10)→bd (s++10::r)=s::bd r
 | [],r,_=>by simp [bd]
 | c::s,r,h=>by
   have hc:c≠10:=h c (List.mem_cons_self ..)
   simp only [List.cons_append,bd,if_neg hc]
   rw [n5 r fun x hx=>h x (List.mem_cons_of_mem _ hx)]
theorem qz (n fo:Nat) (AL:List (Nat×Nat)):∀ (L:List Ln) (out:List Fd),(b5 n fo L (AL.drop out.length) out).2.1=AL.drop (b5 n fo L (AL.drop out.length) out).1.length
 | [],out=>rfl
 | x::r,out=>by
   cases h:AL.drop out.length with
   | nil=>simp [b5,h]
   | cons p q=>
     have hq:q=AL.drop (out++[(⟨p.1,p.2,n,shL fo x⟩:Fd)]).length:=by
      rw [List.length_append,List.length_singleton,← List.drop_drop,h];rfl
     rw [b5,hq]
     exact qz n fo AL r _
theorem GJ (n fo:Nat) (AL:List (Nat×Nat)) (L:List Ln) (out:List Fd) (h:out.length≤AL.length):(b5 n fo L (AL.drop out.length) out).1.length≤AL.length:=by
 have:=kP n fo L (AL.drop out.length) out
 rw [List.length_drop] at this
 omega
section
variable {st:St} {l:List Fm} {v:DV} {text:List UInt8}
theorem SV {AL:List (Nat×Nat)} {va:DV} (hva:Lw 2 (AL.map pD) va) (hAL:AL.length≤10000) (n fo:Nat) (c1 c10 c14:DV) (r0:HO) {L:List Ln} {vl:DV} (hLl:L.length≤10000) (hvl:Lw 7 (L.map Ln.dv) vl):∀ (r d:List Ln) (J:List HO) (K:List Nat) (ov:DV) (out:List Fd),L=d++r→Acc st K 10 (out.map Fd.dv) ov→out.length≤AL.length →
 ∃ J' K' ov',Acc st K' 10 ((b5 n fo r (AL.drop out.length) out).1.map Fd.dv) ov' ∧
   match (b5 n fo r (AL.drop out.length) out).2.2 with
   | none=>∃ fr,(E tab).C kC [(0,.str text),(1,c1),(9,va),(10,c10),(11,ov),(12,.int .i64 n),(13,.int .i64 fo),(14,c14),(17,vl),(19,.int .i64 d.length)] (pst st (r0::J) K) =
    some (.exit 6,(0,.str text)::(1,c1)::(9,va)::(10,c10)::(11,ov')::(12,.int .i64 n)::(13,.int .i64 fo)::(14,c14)::fr,pst st (r0::(J++J')) K')
   | some k=>(E tab).C kC [(0,.str text),(1,c1),(9,va),(10,c10),(11,ov),(12,.int .i64 n),(13,.int .i64 fo),(14,c14),(17,vl),(19,.int .i64 d.length)] (pst st (r0::J) K) =
    some (.ret,jY text ov' k,pst st (r0::(J++J')) K'):=by
 have hvw:Vw st 7 true (L.map Ln.dv) vl:=hvl.vw
 have hvw2:Vw st 2 true (AL.map pD) va:=hva.vw
 have e0:=fun st'=>hvw.len st'
 have e1:=fun st'=>hvw2.len st'
 simp only [List.length_map] at e0 e1
 intro r
 induction r with
 | nil=>
   intro d J K ov out hd hA _
   rw [List.append_nil] at hd
   subst hd
   refine ⟨[],K,ov,hA,[(17,vl),(19,.int .i64 L.length),(122,.bool false)],?_⟩
   rw [ab (L:=kC) rfl]
   simp [n0,e0]
 | cons x r ih=>
   intro d J K ov out hd hA hol
   have hlt:d.length<L.length:=by simp [hd]
   have hg:L[d.length]? = some x:=by simp [hd]
   have a1:=fun st'=>hvw.aK (i:=d.length) (by simpa using hlt) .i64 st'
   have a2:=fun H K=>Vw.load (Vw.inn hvw H K) (fun y hy=>by obtain ⟨z,_,rfl⟩:=List.mem_map.1 hy;exact (⟨rfl,rfl,rfl⟩:dq 7 true z.dv)) rfl (i:=d.length) (x:=x.dv) (by simp [hg])
   simp only [Ln.dv,Ln.cs] at a2
   obtain ⟨t8,n8,tk8,nn8,e8⟩:=bR hA
   have hol':(out.map Fd.dv).length=out.length:=by simp
   have hw1:IntKind.i64.wrap ((d.length:Int)+1)=((d++[x]).length:Nat):=by rw [ar (by omega)];simp
   cases hah:AL.drop out.length with
   | nil=>
     have heq:out.length=AL.length:=by
      have:=List.drop_eq_nil_iff.1 hah
      omega
     refine ⟨[.cells .plain [.int .i64 (IntKind.i64.wrap (x.f+fo)),.int .i64 (IntKind.i64.wrap (x.t+fo)),.int .i64 x.x,.int .i64 x.w,.int .i64 x.n,.bool x.h,.int .i64 x.g]],K,ov,by simpa [b5] using hA,?_⟩
     simp only [b5]
     rw [ab (L:=kC) rfl]
     unfold jY
     subst e8
     generalize out.map Fd.dv=V at *
     by_cases ht:text=[]
     · subst ht
       simp [n0,e0,e1,hlt,a1,a2,hol',heq]
     · have ht2:text.isEmpty=false:=by simpa using ht
       simp [n0,e0,e1,hlt,a1,a2,hol',heq,ht,ht2,aF,bL,bQ,bP,aH]
   | cons p q=>
     have hlt2:out.length<AL.length:=by
      apply Classical.byContradiction
      intro h
      rw [List.drop_eq_nil_of_le (by omega)] at hah
      cases hah
     have hp:AL[out.length]? = some p:=by
      have:=congrArg (fun z=>z[0]?) hah
      simpa [List.getElem?_drop] using this
     have hne:¬ out.length=AL.length:=by omega
     have hne':¬ (out.length:Int)=AL.length:=by omega
     have b1:=fun st'=>hvw2.aK (i:=out.length) (by simpa using hlt2) .i64 st'
     have b2:=fun H K=>Vw.load (Vw.inn hvw2 H K) qu rfl (i:=out.length) (x:=pD p) (by simp [hp])
     simp only [pD] at b2
     have hq:q=AL.drop (out++[(⟨p.1,p.2,n,shL fo x⟩:Fd)]).length:=by
      rw [List.length_append,List.length_singleton,← List.drop_drop,hah];rfl
     obtain ⟨ov2,K2,hap,hA2⟩:=dh (H:=r0::(J++[.cells .plain [.int .i64 (IntKind.i64.wrap (x.f+fo)),.int .i64 (IntKind.i64.wrap (x.t+fo)),.int .i64 x.x,.int .i64 x.w,.int .i64 x.n,.bool x.h,.int .i64 x.g],.cells .plain [.int .i64 p.1,.int .i64 p.2]])) (by_:=80) (ag:=true) (tk:=.tight) (t:=st.cur) (ys:=[(⟨p.1,p.2,n,shL fo x⟩:Fd).dv]) hA (by omega) (by simp) (fun y hy=>by rw [List.mem_singleton] at hy;subst hy;exact GG _) (by simp [aw];omega) (by simp [aw];omega)
     have eo:out.map Fd.dv++[(⟨p.1,p.2,n,shL fo x⟩:Fd).dv]=(out++[(⟨p.1,p.2,n,shL fo x⟩:Fd)]).map Fd.dv:=by simp
     rw [eo] at hA2
     obtain ⟨J',K',ov',g3,hJ⟩:=ih (d++[x]) (J++[.cells .plain [.int .i64 (IntKind.i64.wrap (x.f+fo)),.int .i64 (IntKind.i64.wrap (x.t+fo)),.int .i64 x.x,.int .i64 x.w,.int .i64 x.n,.bool x.h,.int .i64 x.g],.cells .plain [.int .i64 p.1,.int .i64 p.2]]) K2 ov2 (out++[⟨p.1,p.2,n,shL fo x⟩]) (by simp [hd]) hA2 (by simp;omega)
     rw [← hq] at g3 hJ
     simp only [b5]
     refine ⟨[.cells .plain [.int .i64 (IntKind.i64.wrap (x.f+fo)),.int .i64 (IntKind.i64.wrap (x.t+fo)),.int .i64 x.x,.int .i64 x.w,.int .i64 x.n,.bool x.h,.int .i64 x.g],.cells .plain [.int .i64 p.1,.int .i64 p.2]]++J',K',ov',g3,?_⟩
     simp only [List.length_append,List.length_singleton] at hJ hw1
     simp only [Fd.dv,Fd.cs,shL] at hap
     subst e8
     generalize hR:(b5 n fo r q (out++[⟨p.1,p.2,n,shL fo x⟩])).2.2=R at *
     generalize out.map Fd.dv=V at *
     cases R with
     | none=>
       obtain ⟨fr,hJ⟩:=hJ
       refine ⟨fr,?_⟩
       simp at hap hJ hw1
       rw [ab (L:=kC) rfl]
       simp [n0,e0,e1,hlt,a1,a2,hol',hne,hne',b1,b2,aD,aR,chunk,hap,hw1,hJ]
     | some k=>
       simp at hap hJ hw1
       rw [ab (L:=kC) rfl]
       simp [n0,e0,e1,hlt,a1,a2,hol',hne,hne',b1,b2,aD,aR,chunk,hap,hw1,hJ]
def F8:RC:=(.seq (.region Bw [0,1,9,10,11,12,13,14,15]) (.seq (.seq (.region AG [0,1,9,10,11,12,13,14,15,16]) (.block 4 pZ)) (.seq (.au A0 [] [] [0,1,9,10,11,12,13,14,17]) (.seq (.seq (.region Ax [0,1,9,10,11,12,13,14,17,19]) (.block 6 kC)) (.seq (.region Ay [0,1,9,10,11,12,14]) (.region Aa [0,1,9,10,11,12,13,14]))))))
theorem iJ:D1=(.seq (.seq (.region BI [0,1,9,10,11,12,13,14,69]) (.cond (.t 69) .skip (.exit 2))) (.seq (.block 3 (.seq (.seq (.region AH [0,1,9,10,11,12,13,14,81]) (.cond (.t 81) (.exit 3) .skip)) F8)) (.region BG [0,1,9,10,11,12,13,14]))):=rfl
theorem FD (h0:ax (gP dK text)=0) {sl:List Sl} {rest:Sl} (hc:cR sl rest=0):(j7 (gP dK text) sl rest).length≤8193:=by
 have:(j7 (gP dK text) sl rest).length=(jU (gP dK text) sl rest).length:=rW _ _ _ _ _ _ _
 rw [this,zG h0 hc]
 exact (nA _ _).2.2
theorem HU (ah:List (Nat×Nat)) (s:List UInt8):(flL l ah s).length≤8193:=by
 unfold flL
 split
 · rename_i h
   unfold iw at h
   split at h
   · rename_i h2;exact absurd h h2
   · rename_i h2;exact FD (by simpa using h2) h
 · simp
theorem Cr (s:List UInt8) (hs:s.length≤500) (sl:List Sl) (rest:Sl) (h:iw (gP dK s) sl rest=0):bb (bE (gP dK s))=0:=by
 have h0:ax (gP dK s)=0:=by
  apply Classical.byContradiction
  intro h2;unfold iw at h;rw [if_pos h2] at h;exact h2 h
 exact wH h0 rfl (an9 _ _) hs
theorem zV (hv:Fms st l v) {AL:List (Nat×Nat)} {va:DV} (hva:Lw 2 (AL.map pD) va) (hal:∀ p∈AL,p.1<l.length) (hAL:AL.length≤10000) (htl:text.length≤500) {base seg:List UInt8} {rr:List UInt8} (ht:text=base++seg++rr) (n:Nat) (hn:n≤1000) (J:List HO) (K:List Nat) (ov:DV) (out:List Fd) (hA:Acc st K 10 (out.map Fd.dv) ov) (hol:out.length≤AL.length) (c81:Nat×DV) :
 ∃ J' K' ov',Acc st K' 10 ((b5 n base.length (flL l (AL.drop out.length) seg) (AL.drop out.length) out).1.map Fd.dv) ov' ∧
   match (b5 n base.length (flL l (AL.drop out.length) seg) (AL.drop out.length) out).2.2 with
   | none=>(E tab).C F8 [(0,.str text),(1,v),(9,va),(10,.ptr st.heap.length 0),(11,ov),(12,.int .i64 n),(13,.int .i64 base.length),(14,.int .i64 (base++seg).length),c81] (pst st (.cells .plain (b6 l).cs::J) K) =
    some (.normal,[(0,.str text),(1,v),(9,va),(10,.ptr st.heap.length 0),(11,ov'),(12,.int .i64 (n+1:Nat)),(13,.int .i64 ((base++seg).length+1:Nat)),(14,.int .i64 (base++seg).length)],pst st (.cells .plain (b6 l).cs::(J++J')) K')
   | some k=>(E tab).C F8 [(0,.str text),(1,v),(9,va),(10,.ptr st.heap.length 0),(11,ov),(12,.int .i64 n),(13,.int .i64 base.length),(14,.int .i64 (base++seg).length),c81] (pst st (.cells .plain (b6 l).cs::J) K) =
    some (.ret,jY text ov' k,pst st (.cells .plain (b6 l).cs::(J++J')) K'):=by
 have htl2:(base++seg).length≤500:=by have:=congrArg List.length ht;simp at this ⊢;omega
 have hsg:seg.length≤500:=by simp at htl2;omega
 obtain ⟨oo,ho⟩:∃ oo,Ac st K 10 (out.map Fd.dv) ov oo:=by
  rcases hA with h | ⟨k,s,h1,h2⟩
  · exact ⟨none,h⟩
  · exact ⟨some k,s,h1,h2⟩
 obtain ⟨K1,sv,fr1,hsv,hK1,hKK1,hL1⟩:=abA (st:=st) (l:=l) hv hva hal hAL (.str text) (.ptr st.heap.length 0) ov (.int .i64 n) (.int .i64 base.length) (.int .i64 (base++seg).length) hol K (.cells .plain (b6 l).cs::J) (slF l (AL.drop out.length)).length 0 K (.list 0 0 .no false []) none (by omega) ⟨rfl,_,_,_,rfl⟩ (fun k h=>by cases h) (Nat.le_refl _) (fun _ _=>rfl)
 have ho1:=Ac.bq ho hKK1
 have hSLs:Sls (pst st (.cells .plain (b6 l).cs::J) K1) (slF l (AL.drop out.length)) sv:=Lw.vw hsv
 obtain ⟨vl,h311,hvl⟩:=Qr (st:=pst st (.cells .plain (b6 l).cs::J) K1) (p:=gP dK seg) (w:=gW st seg) (u:=⟨0,0,.no,false⟩) (sl:=slF l (AL.drop out.length)) (sv:=sv) (rest:=b6 l) rfl (pC _ _) (FE _ _ _) (Dg _ _) (by simp [gP,dK]) rfl rfl hSLs (Cr seg hsg _ _)
 rw [show (if iw (gP dK seg) (slF l (AL.drop out.length)) (b6 l)=0 then j7 (gP dK seg) (slF l (AL.drop out.length)) (b6 l) else [])=flL l (AL.drop out.length) seg from rfl] at hvl
 have h642:=Jz (st:=pst st (.cells .plain (b6 l).cs::J) K1) seg
 rw [show gW (pst st (.cells .plain (b6 l).cs::J) K1) seg=gW st seg from rfl] at h642
 have hfl:=HU (l:=l) (AL.drop out.length) seg
 obtain ⟨J2,K2,ov2,hA2,hL2⟩:=SV (st:=st) (text:=text) hva hAL n base.length v (.ptr st.heap.length 0) (.int .i64 (base++seg).length) (.cells .plain (b6 l).cs) (by omega) hvl (flL l (AL.drop out.length) seg) [] J K1 ov out rfl ho1.acc hol
 refine ⟨J2,K2,ov2,hA2,?_⟩
 have hsl:bF true 1 (.str text) (some (.int .i64 (base.length:Int))) (some (.int .i64 ((base++seg).length:Int))) none=some (.str seg):=by
  rw [D3 (by omega) (by simp;omega) (by have:=congrArg List.length ht;simp at this ⊢;omega)]
  rw [ht]
  have e:(((base++seg).length:Nat):Int).toNat-((base.length:Nat):Int).toNat=seg.length:=by simp;omega
  rw [e]
  simp
 obtain ⟨t8,n8,tk8,nn8,e8⟩:=bR hA
 have hln:(out.map Fd.dv).length=out.length:=by simp
 have w1:IntKind.i64.wrap ((n:Int)+1)=((n+1:Nat):Int):=by rw [ar (by omega)];simp
 have w2:IntKind.i64.wrap (((base++seg).length:Int)+1)=(((base++seg).length+1:Nat):Int):=by rw [ar (by omega)];simp
 subst e8
 generalize iw (gP dK seg) (slF l (AL.drop out.length)) (b6 l)=EE at *
 generalize (b5 n base.length (flL l (AL.drop out.length) seg) (AL.drop out.length) out).2.2=R at *
 generalize (base++seg).length=at_ at *
 generalize out.map Fd.dv=V at *
 generalize af (gP dK seg) (gW st seg) ⟨0,0,.no,false⟩=PC at *
 cases R with
 | none=>
   obtain ⟨fr,hL2⟩:=hL2
   simp only [Sl.dv,Sl.cs] at hL1 h311 hL2 h642 ⊢
   simp at hL1 hL2 w1 w2
   simp [F8,hln,hL1,aF,bL,bQ,bP,aH,hsl,h642,h311,hL2,w1,w2,cX DA,show zE.dn=true from rfl,cX Eh,show yv.dn=true from rfl]
 | some k=>
   simp only [Sl.dv,Sl.cs] at hL1 h311 hL2 h642 ⊢
   simp at hL1 hL2 w1 w2
   simp [F8,hln,hL1,aF,bL,bQ,bP,aH,hsl,h642,h311,hL2,w1,w2,cX DA,show zE.dn=true from rfl,cX Eh,show yv.dn=true from rfl]
end
section
variable {st:St} {l:List Fm} {v:DV} {text:List UInt8}
theorem Za (hv:Fms st l v) {AL:List (Nat×Nat)} {va:DV} (hva:Lw 2 (AL.map pD) va) (hal:∀ p∈AL,p.1<l.length) (hAL:AL.length≤10000) (htl:text.length≤500):∀ (r base seg:List UInt8) (n:Nat) (J:List HO) (K:List Nat) (ov:DV) (out:List Fd),text=base++seg++r→(∀ c∈seg,c≠10)→n≤base.length→Acc st K 10 (out.map Fd.dv) ov→out.length≤AL.length →
 ∃ J' K' ov',Acc st K' 10 ((eP l (bd (seg++r)) n base.length (AL.drop out.length) out).1.map Fd.dv) ov' ∧
   match (eP l (bd (seg++r)) n base.length (AL.drop out.length) out).2 with
   | none=>∃ fr,(E tab).C gk [(0,.str text),(1,v),(9,va),(10,.ptr st.heap.length 0),(11,ov),(12,.int .i64 n),(13,.int .i64 base.length),(14,.int .i64 (base++seg).length)] (pst st (.cells .plain (b6 l).cs::J) K) =
    some (.exit 2,(0,.str text)::(1,v)::(9,va)::(10,.ptr st.heap.length 0)::(11,ov')::fr,pst st (.cells .plain (b6 l).cs::(J++J')) K')
   | some k=>(E tab).C gk [(0,.str text),(1,v),(9,va),(10,.ptr st.heap.length 0),(11,ov),(12,.int .i64 n),(13,.int .i64 base.length),(14,.int .i64 (base++seg).length)] (pst st (.cells .plain (b6 l).cs::J) K) =
    some (.ret,jY text ov' k,pst st (.cells .plain (b6 l).cs::(J++J')) K'):=by
 intro r
 induction r with
 | nil=>
   intro base seg n J K ov out ht hs hn hA hol
   have hlen:text.length=(base++seg).length:=by rw [ht,List.append_nil]
   have hlb:base.length≤(base++seg).length:=by simp
   obtain ⟨J1,K1,ov1,hA1,hT⟩:=zV hv hva hal hAL htl ht n (by omega) J K ov out hA hol (81,.bool false)
   rw [List.append_nil,yV hs,eP]
   rcases hS:b5 n base.length (flL l (AL.drop out.length) seg) (AL.drop out.length) out with ⟨out2,ah2,R⟩
   rw [hS] at hA1 hT
   simp only at hA1 hT
   refine ⟨J1,K1,ov1,?_⟩
   have w2:IntKind.i64.wrap (((base++seg).length:Int)+1)=(((base++seg).length+1:Nat):Int):=by rw [ar (by omega)];simp
   generalize (base++seg).length=at_ at *
   generalize (b6 l).cs=RC0 at *
   cases R with
   | none=>
     simp only [eP] at hT ⊢
     refine ⟨hA1,[(12,.int .i64 (n+1:Nat)),(13,.int .i64 (at_+1:Nat)),(14,.int .i64 (at_+1:Nat)),(69,.bool false)],?_⟩
     rw [ab (L:=gk) rfl,iJ]
     simp at hT w2
     simp [hlen,hT,w2]
     rw [ab (L:=gk) rfl,iJ]
     simp [hlen,show ¬ (at_:Int)+1≤at_ by omega]
   | some k=>
     simp only at hT ⊢
     refine ⟨hA1,?_⟩
     rw [ab (L:=gk) rfl,iJ]
     unfold jY at hT ⊢
     by_cases hte:text=[]
     · rw [if_pos hte] at hT ⊢
       simp [hlen,hT]
     · rw [if_neg hte] at hT ⊢
       simp [hlen,hT]
 | cons c r ih=>
   intro base seg n J K ov out ht hs hn hA hol
   have hlen:text.length=(base++seg).length+(r.length+1):=by rw [ht];simp;omega
   have hlb:base.length≤(base++seg).length:=by simp
   have hlt:(base++seg).length<text.length:=by omega
   have hg:text[(base++seg).length]=c:=by simp [ht]
   have hle':((base++seg).length:Int)≤text.length:=by omega
   have hlt':((base++seg).length:Int)<text.length:=by omega
   have w2:IntKind.i64.wrap (((base++seg).length:Int)+1)=(((base++seg).length+1:Nat):Int):=by rw [ar (by omega)];simp
   by_cases hc:c=10
   · subst hc
     obtain ⟨J1,K1,ov1,hA1,hT⟩:=zV hv hva hal hAL htl ht n (by omega) J K ov out hA hol (81,.bool false)
     rw [n5 r hs,eP]
     have hdr:=qz n base.length AL (flL l (AL.drop out.length) seg) out
     have hle:=GJ n base.length AL (flL l (AL.drop out.length) seg) out hol
     rcases hS:b5 n base.length (flL l (AL.drop out.length) seg) (AL.drop out.length) out with ⟨out2,ah2,R⟩
     rw [hS] at hA1 hT hdr hle
     simp only at hA1 hT hdr hle
     subst hdr
     cases R with
     | none=>
       obtain ⟨J2,K2,ov2,hA2,hJ⟩:=ih (base++seg++[10]) [] (n+1) (J++J1) K1 ov1 out2 (by rw [ht];simp) (fun c h=>by cases h) (by simp;omega) hA1 hle
       have e1:(base++seg++[10]).length=(base++seg).length+1:=List.length_append
       have e2:base.length+(seg.length+1)=(base++seg).length+1:=by rw [List.length_append];omega
       rw [List.nil_append,List.append_nil,e1] at hJ
       rw [List.nil_append,e1] at hA2
       simp only
       rw [e2]
       refine ⟨J1++J2,K2,ov2,hA2,?_⟩
       generalize (eP l (bd r) (n+1) ((base++seg).length+1) (AL.drop out2.length) out2).2=Q at *
       generalize (base++seg).length=at_ at *
       generalize (b6 l).cs=RC0 at *
       cases Q with
       | none=>
         obtain ⟨fr,hJ⟩:=hJ
         refine ⟨fr,?_⟩
         rw [ab (L:=gk) rfl,iJ]
         simp at hT w2 hJ
         simp [hle',hlt',hlt,hg,hT,w2,hJ]
       | some k=>
         simp only at hJ ⊢
         rw [ab (L:=gk) rfl,iJ]
         simp at hT w2 hJ
         simp [hle',hlt',hlt,hg,hT,w2,hJ]
     | some k=>
       simp only at hT ⊢
       refine ⟨J1,K1,ov1,hA1,?_⟩
       generalize (base++seg).length=at_ at *
       generalize (b6 l).cs=RC0 at *
       rw [ab (L:=gk) rfl,iJ]
       unfold jY at hT ⊢
       by_cases hte:text=[]
       · rw [hte] at hlt;simp at hlt
       · rw [if_neg hte] at hT ⊢
         simp [hle',hlt',hlt,hg,hT]
   · have hc':¬ (c.toNat:Int)=10:=by
      intro e
      apply hc
      have:c.toNat=10:=by omega
      exact UInt8.toNat_inj.1 (by simpa using this)
     have hc'':¬ c.toNat=10:=by omega
     obtain ⟨J2,K2,ov2,hA2,hJ⟩:=ih base (seg++[c]) n J K ov out (by rw [ht];simp) (fun x hx=>by
      rcases List.mem_append.1 hx with h | h
      · exact hs x h
      · rw [List.mem_singleton] at h;subst h;exact hc) hn hA hol
     rw [show seg++[c]++r=seg++c::r by simp] at hA2 hJ
     have e1:(base++(seg++[c])).length=(base++seg).length+1:=by simp only [List.length_append,List.length_singleton];omega
     rw [e1] at hJ
     refine ⟨J2,K2,ov2,hA2,?_⟩
     generalize (eP l (bd (seg++c::r)) n base.length (AL.drop out.length) out).2=Q at *
     generalize (base++seg).length=at_ at *
     generalize (b6 l).cs=RC0 at *
     cases Q with
     | none=>
       obtain ⟨fr,hJ⟩:=hJ
       refine ⟨fr,?_⟩
       rw [ab (L:=gk) rfl,iJ]
       simp at w2 hJ
       simp [hle',hlt',hlt,hg,hc,hc',hc'',w2,hJ]
     | some k=>
       simp only at hJ ⊢
       rw [ab (L:=gk) rfl,iJ]
       simp at w2 hJ
       simp [hle',hlt',hlt,hg,hc,hc',hc'',w2,hJ]
def flE (text:List UInt8) (l:List Fm):Int:=if wrF text≠0 then wrF text else chF l
theorem agW (hv:Fms st l v) (h:wrF text≠0):(E tab).F 637 [.str text,v] st=some (.tuple [.list 0 0 .no false [],.int .i64 0,.int .i64 (wrF text)],st):=by
 rw [av Fv rfl]
 unfold wrF at h ⊢
 by_cases h1:4096<text.length
 · have h1':(4096:Int)<text.length:=by omega
   simp [zx,h1,h1']
 have h1':¬ (4096:Int)<text.length:=by omega
 rw [if_neg h1] at h ⊢
 obtain ⟨fr,hL⟩:=yB (text:=text) (by omega) v (pst st [] []) text [] rfl
 simp only [List.length_nil,Int.natCast_zero] at hL
 cases ha:text.all dP with
 | true=>rw [ha] at h;simp at h
 | false=>rw [ha] at hL;simp at hL;simp [zx,h1',hL]
theorem ae3 (hv:Fms st l v) (h:wrF text=0) (hc:chF l≠0):(E tab).F 637 [.str text,v] st=some (.tuple [.list 0 0 .no false [],.int .i64 0,.int .i64 (chF l)],st):=by
 rw [av Fv rfl]
 unfold wrF at h
 by_cases h1:4096<text.length
 · rw [if_pos h1] at h;omega
 have h1':¬ (4096:Int)<text.length:=by omega
 rw [if_neg h1] at h
 obtain ⟨fr,hL⟩:=yB (text:=text) (by omega) v (pst st [] []) text [] rfl
 simp only [List.length_nil,Int.natCast_zero] at hL
 have h640:=mh (st:=pst st [] []) (hv.inn [] [])
 cases ha:text.all dP with
 | false=>rw [ha] at h;simp at h
 | true=>rw [ha] at hL;simp at hL;simp [zx,h1',hL,h640,hc]
theorem wS (hv:Fms st l v) (h:wrF text≠0∨chF l≠0):(E tab).F 637 [.str text,v] st=some (.tuple [.list 0 0 .no false [],.int .i64 0,.int .i64 (flE text l)],st):=by
 unfold flE
 by_cases h1:wrF text=0
 · rw [if_neg (by simp [h1])]
   exact ae3 hv h1 (by rcases h with h | h;exact absurd h1 h;exact h)
 · rw [if_pos h1]
   exact agW hv h1
theorem s9 (hv:Fms st l v) (h:wrF text≠0∨chF l≠0):(E tab).F 409 [.str text,v] st=some (.tuple [.list 0 0 .no false [],.int .i64 0,.int .i64 (flE text l)],st):=by
 have h433:=fun st=>mH text st
 have h412:=fun H K=>ib (st:=pst st H K) (hv.inn H K)
 unfold flE
 by_cases h1:wrF text=0
 · have h2:chF l≠0:=by rcases h with h | h;exact absurd h1 h;exact h
   rw [if_neg (by simp [h1])]
   rw [h1] at h433
   rw [av wk rfl,ji]
   simp [h433,h412,h2,oK]
 · rw [if_pos h1]
   rw [av wk rfl,ji]
   simp [h433,h1,oK]
def DF:RC:=(.seq (.region Bi [0,1,9,10,11]) (.seq (.region Bd [0,1,9,10,11,12,13]) (.seq (.seq (.region AI [0,1,9,10,11,12,13,14]) (.block 2 gk)) (.seq (.region z2 [4,5,6]) .ret))))
theorem aiE:zx=⟨[.t 4,.t 5,.t 6],(.seq (.region F5 [0,1]) (.seq (.seq (.region EX [0,1,24]) (.cond (.t 24) (.seq (.region Gd [4,5,6]) .ret) .skip)) (.seq (.seq (.region Dd [0,1,7]) (.block 0 qJ)) (.seq (.region Fp [0,1,8]) (.seq (.seq (.region DW [0,1,8,50]) (.cond (.t 50) (.seq (.region A1 [4,5,6]) .ret) .skip)) (.seq (.region AB [0,1,9]) (.seq (.region Ad [0,1,9,10]) (.seq (.seq (.region AO [0,1,9,10,57]) (.cond (.t 57) (.region zP [0,1,9,10]) .skip)) DF)))))))),true⟩:=rfl
theorem KX (hv:Fms st l v) (h1:wrF text=0) (h2:chF l=0) (htl:text.length≤500):∃ vo,(E tab).F 637 [.str text,v] st=some (.tuple [vo,.int .i64 (bM text l).2,.int .i64 0],st)∧Lw 10 ((bM text l).1.map Fd.dv) vo:=by
 obtain ⟨hl,hok⟩:=o0 h2
 have hpl:=kz l 0 hok
 have hn:=fun st'=>fp hv st'
 have h640:=mh (st:=pst st [] []) (hv.inn [] [])
 rw [h2] at h640
 obtain ⟨fr0,hL0⟩:=yB (text:=text) (by omega) v (pst st [] []) text [] rfl
 simp only [List.length_nil,Int.natCast_zero] at hL0
 have ha:text.all dP=true:=by
  unfold wrF at h1
  rw [if_neg (by omega)] at h1
  cases ha:text.all dP with
  | true=>rfl
  | false=>rw [ha] at h1;simp at h1
 rw [ha] at hL0
 obtain ⟨va,h641,hva⟩:=rY (st:=pst st [] []) (hv.inn [] []) hl hok
 obtain ⟨J3,K3,ov,hA,hL3⟩:=Za (st:=st) (text:=text) hv hva (fun p hp=>by have:=uP l 0 p hp;omega) (by omega) htl text [] [] 0 [] [] (.list 0 0 .no false []) [] rfl (fun c h=>by cases h) (Nat.zero_le _) (bX _ _ _ _ _ _) (Nat.zero_le _)
 simp only [List.nil_append,List.length_nil,List.drop_zero] at hA hL3
 have hT:∃ vo fr J4,(∀ ex:Fr,(E tab).C DF ([(0,.str text),(1,v),(9,va),(10,.ptr st.heap.length 0)]++ex) (pst st [.cells .plain (b6 l).cs] [])=some (.ret,[(4,vo),(5,.int .i64 (bM text l).2),(6,.int .i64 0)]++fr,pst st J4 K3))∧Acc st K3 10 ((bM text l).1.map Fd.dv) vo:=by
  unfold bM
  rcases hS:eP l (bd text) 0 0 (PL l 0) [] with ⟨out,R⟩
  rw [hS] at hA hL3
  generalize (b6 l).cs=RC0 at *
  cases R with
  | none=>
    obtain ⟨fr,hL3⟩:=hL3
    refine ⟨ov,[],.cells .plain RC0::J3,fun ex => ?_,hA⟩
    simp at hL3
    simp [DF,hL3]
  | some k=>
    simp only at hL3 hA ⊢
    unfold jY at hL3
    by_cases ht:text=[]
    · subst ht
      refine ⟨.list 0 0 .no false [],[],.cells .plain RC0::J3,fun ex => ?_,bX _ _ _ _ _ _⟩
      simp at hL3
      simp [DF,hL3]
    · rw [if_neg ht] at hL3 ⊢
      refine ⟨ov,[],.cells .plain RC0::J3,fun ex => ?_,hA⟩
      simp at hL3
      simp [DF,hL3]
 obtain ⟨vo,fr,J4,hT,hA⟩:=hT
 obtain ⟨t9,n9,tk9,nn9,e9,q2,q3,_⟩:=gR (st':=pst st J4 K3) hA
 obtain ⟨t8,n8,tk8,nn8,rfl⟩:=bR hA
 refine ⟨.list t9 n9 tk9 nn9 ((bM text l).1.map Fd.dv),?_,.list _ _ _ _ q3 q2⟩
 have h1':¬ (4096:Int)<text.length:=by omega
 generalize (bM text l).1.map Fd.dv=OV at *
 rw [av Fv rfl,aiE]
 by_cases he:l=[]
 · subst he
   simp [b6,Sl.cs] at hT
   simp at hn hL0 h641 e9
   simp [h1',hL0,h640,h641,hn,hT,e9]
 · have hp:0<l.length:=List.length_pos_iff.2 he
   have hp':(0:Int)<l.length:=by omega
   obtain ⟨f,hf⟩:∃ f,l[l.length-1]? = some f:=⟨l[l.length-1],List.getElem?_eq_getElem (by omega)⟩
   have hg:l.getLast? = some f:=by rw [List.getLast?_eq_getElem?];exact hf
   have w1:IntKind.i64.wrap ((l.length:Int)-1)=((l.length-1:Nat):Int):=by rw [ar (by omega)];omega
   have a:=fun H K st'=>AY hv hf H K .i64 st'
   simp only [b6,hg,Sl.cs] at hT
   simp at hL0 h641 e9 hT
   simp [h1',hL0,h640,h641,hn,hp,hp',w1,fun st'=>(a [] [] st').1,fun st'=>(a [] [] st').2.1,fun H K=>(a H K st).2.2,hT,e9]
end
theorem ve {T:Tab} {g:Nat} {f:ai} (h:T g=some (.code f)) (hp:f.dn=true) {ag:Bool} {args:List DV} {st:St} {v:DV} {st2:St} (hf:vF f.results ((E T).C f.body (bl args 0) (pst st [] []))=some (v,st2)):km T g ag args st=kF ag st st2 v:=by
 unfold km
 rw [h]
 simp only [hp,if_true,rK]
 rcases hC:(E T).C f.body (bl args 0) (pst st [] []) with _ | ⟨e,fr,st'⟩
 · rw [hC] at hf;cases hf
 · rw [hC] at hf
   cases e with
   | exit n=>cases hf
   | ret=>simp only [vF,Option.map_eq_some_iff,Prod.mk.injEq] at hf;obtain ⟨a,h1,rfl,rfl⟩:=hf;simp only [h1]
   | normal=>simp only [vF,Option.map_eq_some_iff,Prod.mk.injEq] at hf;obtain ⟨a,h1,rfl,rfl⟩:=hf;simp only [h1]
theorem Aj {T:Tab} {g:Nat} {p:List DV→St→Option (DV×St)} {args:List DV} {st:St} (h:T g=some (.jA p)):(E T).F g args st=p args st:=by
 rw [EF]
 simp only [dy,h]
theorem ait:tab 635=some (.code Fb):=by kernel_rfl
theorem aeU:tab 639=some (.code Hc):=by kernel_rfl
def pd:List (Nat×Nat×Bool):=[(100409,409,true)]
theorem vU:∀ x∈pd,tab x.1=none:=by
 intro x hx
 simp only [pd,List.mem_cons,List.not_mem_nil,or_false] at hx
 subst hx;kernel_rfl
noncomputable def lg:Tab:=gY tab pd
theorem fa:pS tab lg:=jE pd vU
theorem F3:lg 100409=some (.jA (km tab 409 true)):=rfl
theorem GQ:lg 635=some (.code Fb):=by
 refine (fV fun x hx => ?_).trans ait
 simp only [pd,List.mem_cons,List.not_mem_nil,or_false] at hx
 subst hx;decide
def kh (l:List Fd):List DV:=flat (l.map Fd.dv)
theorem pX (l:List Fd):(kh l).length=l.length*10:=by
 induction l with
 | nil=>rfl
 | cons f r ih=>
   have:kh (f::r)=f.cs++kh r:=rfl
   rw [this,List.length_append,ih,show f.cs.length=10 from rfl,List.length_cons];omega
theorem Cc (l:List Fd):(kh l).all DV.dW=true:=by
 induction l with
 | nil=>rfl
 | cons f r ih=>
   have:kh (f::r)=f.cs++kh r:=rfl
   rw [this,List.all_append,ih];rfl
section
variable {st:St} {l:List Fm} {v:DV} {text:List UInt8}
theorem Gv {l:List Fm} (hv:Fms st l v) (h1:wrF text=0) (h2:chF l=0):∃ vo fr H3 K3,(E tab).C oK.body [(0,.str text),(1,v)] (pst st [] [])=some (.ret,[(4,vo),(5,.int .i64 (bM text l).2),(6,.int .i64 0)]++fr,pst st H3 K3)∧Acc st K3 10 ((bM text l).1.map Fd.dv) vo:=by
 have h433:=fun st=>mH text st
 have h412:=fun H K=>ib (st:=pst st H K) (hv.inn H K)
 rw [h1] at h433
 rw [h2] at h412
 obtain ⟨hl,hok⟩:=o0 h2
 have htl:text.length≤4096:=by unfold wrF at h1;split at h1<;>omega
 have hsc:=vG hv
 have hlv:v.leaves=[v]:=by cases hv<;>rfl
 have hn:=fun st'=>fp hv st'
 have hpl:=kz l 0 hok
 obtain ⟨H',K',hP,hF⟩:=rM (st:=st) (k:=2) (y:=.yield (st.heap.length+3)) (P:=fun j H K=>FlS st l v (.str text) (mw v (.str text) st.heap.length 0 none) j H K) hl hok hv (fun j H K o h=>h.app [o]) (fun j H K h=>h.r2) (fun j p hp H K h=>AZ hl hok hp h)
  [.cells .plain [v,.list 0 0 .no false []],.cells .plain [.ptr st.heap.length 0],.cells .plain [v],mw v (.str text) st.heap.length 0 none] [] ⟨⟨.list 0 0 .no false [],rfl,bX _ _ _ _ _ _⟩,rfl,rfl,rfl⟩
 have hR:=kj (T:=tab) (st:=st) (H:=[.cells .plain [v,.list 0 0 .no false []],.cells .plain [.ptr st.heap.length 0],.cells .plain [v]]) (K:=[])
  (f:=.t 33) (params:=[34,35]) (live:=[0,9,33]) (assign:=fx) (body:=fu) (fr:=ft v (.str text) st.heap.length) (g:=460) (first:=[]) (captured:=[.ptr (st.heap.length+2) 0]) (s:=0) (q:=none) (v:=.tuple []) rfl D8 hF hP.r3 (by omega)
 have hS:=hP.put (.loop (fh ((ft v (.str text) st.heap.length).bq [0,9,33]) [34,35] fx fu 3 none))
 obtain ⟨⟨u,r0,hu⟩,r1,_,_⟩:=hS
 rw [List.take_length] at hu
 obtain ⟨H3,K3,ov,oo,ho,hL⟩:=Eb (st:=st) (text:=text) hv hl (ps:=bd text) (by rw [lL];have:=List.count_le_length (a:=(10:UInt8)) (l:=text);omega) st.cur (bd text) [] _ K' u (.list 0 0 .no false []) none (PL l 0) [] 0 rfl ⟨r0,r1⟩ (tj hu) (fun p hp=>by have:=uP l 0 p hp;omega) (⟨rfl,_,_,_,rfl⟩:Ac st K' 10 (([]:List Fd).map Fd.dv) (.list 0 0 .no false []) none) (by simp;omega) (by rw [nc];omega)
 have h435:=fun st=>xc text (by omega) st
 have hT:∃ vo fr,(E tab).C mN (ft v (.str text) st.heap.length) (pst st (H'.set 3 (.loop (fh ((ft v (.str text) st.heap.length).bq [0,9,33]) [34,35] fx fu 3 none))) K')=some (.ret,[(4,vo),(5,.int .i64 (bM text l).2),(6,.int .i64 0)]++fr,pst st H3 K3)∧Acc st K3 10 ((bM text l).1.map Fd.dv) vo:=by
  generalize H'.set 3 (.loop (fh ((ft v (.str text) st.heap.length).bq [0,9,33]) [34,35] fx fu 3 none))=G at *
  unfold bM
  simp only [List.length_nil] at hL ho
  rcases hS:eP l (bd text) 0 0 (PL l 0) [] with ⟨out,R⟩
  rw [hS] at ho hL
  cases R with
  | none=>
    obtain ⟨fr,hL⟩:=hL
    refine ⟨ov,[],?_,ho.acc⟩
    simp at hL
    simp [mN,ft,h435,hL]
  | some k=>
    simp only at hL ho ⊢
    unfold jY at hL
    by_cases ht:text=[]
    · subst ht
      refine ⟨.list 0 0 .no false [],[],?_,bX _ _ _ _ _ _⟩
      simp at hL h435
      simp [mN,ft,h435,hL]
    · rw [if_neg ht] at hL ⊢
      refine ⟨ov,[],?_,ho.acc⟩
      simp at hL
      simp [mN,ft,h435,hL]
 obtain ⟨vo,fr,hT,hA⟩:=hT
 obtain ⟨t8,n8,tk8,nn8,rfl⟩:=bR hA
 refine ⟨_,fr,H3,K3,?_,hA⟩
 rw [ji]
 have h434:(E tab).C (.region nE [0,9,33]) [(0,.str text),(1,v),(9,.ptr (st.heap.length+1) 0)] (pst st [.cells .plain [v,.list 0 0 .no false []],.cells .plain [.ptr st.heap.length 0]] [])=some (.normal,ft v (.str text) st.heap.length,pst st [.cells .plain [v,.list 0 0 .no false []],.cells .plain [.ptr st.heap.length 0],.cells .plain [v]] []):=by
  simp [gm MM rfl,GP,ft,hsc,hlv]
 have hb:(E tab).C (.seq (.region nE [0,9,33]) (.block 0 (.eY (.t 33) [34,35] fx fu [0,9,33]))) [(0,.str text),(1,v),(9,.ptr (st.heap.length+1) 0)] (pst st [.cells .plain [v,.list 0 0 .no false []],.cells .plain [.ptr st.heap.length 0]] [])=some (.normal,ft v (.str text) st.heap.length,pst st (H'.set 3 (.loop (fh ((ft v (.str text) st.heap.length).bq [0,9,33]) [34,35] fx fu 3 none))) K'):=by
  rw [cg,h434]
  simp only [la,hR,Option.getD_none]
  rfl
 generalize (bM text l).1.map Fd.dv=OV at *
 generalize H'.set 3 (.loop (fh ((ft v (.str text) st.heap.length).bq [0,9,33]) [34,35] fx fu 3 none))=G at *
 simp at hb hT
 simp [h433,h412,hsc,hlv,hb,hT]
theorem JE {l:List Fm} {H:List HO} {K:List Nat} (hv:Fms (pst st H K) l v) (h1:wrF text=0) (h2:chF l=0) :
 (∃ t n tk,(bM text l).1=[]∧(E lg).F 100409 [.str text,v] (pst st H K)=some (.tuple [.list t n tk false [],.int .i64 (bM text l).2,.int .i64 0],pst st H K)) ∨
 (E lg).F 100409 [.str text,v] (pst st H K)=some (.tuple [.hsl 10 true (st.heap.length+H.length) 0 (bM text l).1.length none,.int .i64 (bM text l).2,.int .i64 0],pst st (H++[.cells .grown (kh (bM text l).1)]) K):=by
 obtain ⟨vo,fr,H3,K3,hC,hA⟩:=Gv (text:=text) hv h1 h2
 have e1:(E lg).F 100409 [.str text,v] (pst st H K)=km tab 409 true [.str text,v] (pst st H K):=Aj F3
 have e2:km tab 409 true [.str text,v] (pst st H K)=kF true (pst st H K) (pst (pst st H K) H3 K3) (.tuple [vo,.int .i64 (bM text l).2,.int .i64 0]):=by
  refine ve wk rfl ?_
  have hC':(E tab).C oK.body (bl [.str text,v] 0) (pst (pst st H K) [] [])=_:=hC
  rw [hC']
  simp [vF,oK,dQ,eX,gu]
 have e4:kF true (pst st H K) (pst (pst st H K) H3 K3) (.tuple [vo,.int .i64 (bM text l).2,.int .i64 0])=(oe true (pst st H K) (pst (pst st H K) H3 K3) vo).map fun q=>(.tuple (q.1::[.int .i64 (bM text l).2,.int .i64 0]),q.2):=by
  simp [kF,DV.dW]
 rw [e1,e2,e4]
 rcases hA with ⟨hx,t,n',tk,rfl⟩ | ⟨k,s,rfl,hk⟩
 · refine .inl ⟨t,n',tk,by simpa using hx,?_⟩
   simp [oe]
 · refine .inr ?_
   have hk':(pst (pst st H K) H3 K3).aQ[(pst st H K).aQ.length+k]? = some s:=by rw [JV];exact hk
   have hb':(pst (pst st H K) H3 K3).aQ[(pst st H K).aQ.length+k]? = some s∧(pst st H K).aQ.length≤(pst st H K).aQ.length+k∧(flat ((bM text l).1.map Fd.dv)).all DV.dW=true:=⟨hk',by omega,Cc _⟩
   have e3:oe true (pst st H K) (pst (pst st H K) H3 K3) (.list (pst st H K).cur 10 (.own ((pst st H K).aQ.length+k) s) true ((bM text l).1.map Fd.dv))=some (.hsl 10 true (pst st H K).heap.length 0 (bM text l).1.length none,(pst st H K).push (.cells .grown (kh (bM text l).1))):=by
    show (if _ then _ else _)=_
    rw [if_pos hb',List.length_map];rfl
   rw [e3]
   have e5:(pst st H K).heap.length=st.heap.length+H.length:=by simp [pst]
   have e6:(pst st H K).push (.cells .grown (kh (bM text l).1))=pst st (H++[.cells .grown (kh (bM text l).1)]) K:=by simp [pst,St.push]
   rw [e5,e6];rfl
abbrev Fds (st:St) (l:List Fd) (v:DV):Prop:=Vw st 10 true (l.map Fd.dv) v
structure Rd (st:St) (A:List Fd) (va:DV):Prop where
 len:∀ st',o7 st' .slice va=some (.int .i64 A.length,st')
 at_:∀ i,i<A.length→∀ st',gZ st' 10 va (.int .i64 (i:Nat))=some (elP 10 va i,st')
 ld:∀ i x,A[i]? = some x→∀ H K,cF (pst st H K) 10 true (elP 10 va i)=some (.agg x.cs)
theorem Rd.v9 {A:List Fd} {va:DV} (h:Fds st A va):Rd st A va where
 len:=fun st'=>by simpa using h.len st'
 at_:=fun i hi st'=>h.aK (by simpa using hi) .i64 st'
 ld:=fun i x hx H K=>Vw.load (Vw.inn h H K) FT rfl (x:=x.dv) (by simp [hx])
theorem Rd.grown (H:List HO) (K:List Nat) (A:List Fd):Rd (pst st (H++[.cells .grown (kh A)]) K) A (.hsl 10 true (st.heap.length+H.length) 0 A.length none) where
 len:=fun st'=>by simp
 at_:=fun i hi st'=>by simp [hi,elP]
 ld:=fun i x hx H' K'=>by
  have hc:(pst st (H++[.cells .grown (kh A)]) K).cells (st.heap.length+H.length)=some (.grown,kh A):=by
   unfold St.cells
   show (match (st.heap++(H++[HO.cells .grown (kh A)]))[st.heap.length+H.length]? with | some (.cells g vs)=>some (g,vs) | _=>none)=_
   rw [← List.append_assoc,List.getElem?_append_right (by simp)]
   simp
  have hc':=rT (H:=H') (K:=K') hc
  have h1:=jI (n:=10) (ag:=true) (xs:=A.map Fd.dv) (off:=0) (vs:=kh A) FT (by rw [pX];simp) (by rw [List.drop_zero,List.take_of_length_le (by rw [pX];simp)];rfl) (i:=i) (x:=x.dv) (by simp [hx])
  show (match (pst (pst st (H++[.cells .grown (kh A)]) K) H' K').cells (st.heap.length+H.length) with | some (_,vs)=>takeN vs (0+i*10) 10 true | none=>none)=_
  rw [hc']
  simp only [takeN,if_true]
  rw [if_pos h1.2,h1.1];rfl
theorem Ux {A:List Fd} {va vb:DV} (ha:Rd st A va) (hb:Rd st A vb) (hl:A.length≤100000):∀ (r d:List Fd),A=d++r →
 (E tab).C s5 [(0,va),(1,vb),(5,.int .i64 d.length)] (pst st [] [])=some (.exit 0,[(0,va),(1,vb),(5,.int .i64 A.length),(14,.bool false)],pst st [] []):=by
 have e0:=ha.len
 intro r
 induction r with
 | nil=>
   intro d hd
   rw [List.append_nil] at hd
   subst hd
   rw [ab (L:=s5) rfl]
   simp [zK,e0]
 | cons x r ih=>
   intro d hd
   have h0:d.length<A.length:=by simp [hd]
   have hg:A[d.length]? = some x:=by simp [hd]
   have hw1:IntKind.i64.wrap ((d.length:Int)+1)=((d++[x]).length:Nat):=by rw [ar (by omega)];simp
   have a1:=ha.at_ d.length h0
   have a2:=ha.ld d.length x hg [] []
   have b1:=hb.at_ d.length h0
   have b2:=hb.ld d.length x hg [] []
   have hJ:=ih (d++[x]) (by simp [hd])
   simp only [List.length_append,List.length_singleton] at hJ hw1
   simp only [Fd.cs] at a2 b2
   rw [ab (L:=s5) rfl]
   simp at hJ
   simp [zK,e0,h0,a1,a2,b1,b2,hw1,hJ,aF,bL,bQ,bP,aH,eqD,aL,dU]
theorem AV {A:List Fd} {va vb:DV} (ha:Rd st A va) (hb:Rd st A vb) (hl:A.length≤100000):(E tab).F 639 [va,vb] st=some (.bool true,st):=by
 rw [av aeU rfl]
 have e0:=ha.len
 have e1:=hb.len
 have hL:=Ux ha hb hl A [] rfl
 simp at hL
 simp [Hc,e0,e1,hL]
theorem Rr (hl:l.length≤100) {v u:DV} {H:List HO} {K:List Nat} (hv:Fms (pst st H K) l v) (hu:Fms (pst st H K) l u) (c0 c6 c9:DV):∀ (r d:List Fm),l=d++r →
 (E lg).C pT [(0,c0),(1,u),(5,v),(6,c6),(9,c9),(16,.int .i64 d.length)] (pst st H K) =
  some (.exit 0,[(0,c0),(1,u),(5,v),(6,c6),(9,c9),(16,.int .i64 l.length),(100,.bool false)],pst st H K):=by
 have e0:=fun st'=>hu.len st'
 simp only [List.length_map] at e0
 intro r
 induction r with
 | nil=>
   intro d hd
   rw [List.append_nil] at hd
   subst hd
   rw [ab (L:=pT) rfl]
   simp [x7,e0]
 | cons x r ih=>
   intro d hd
   have h0:d.length<l.length:=by simp [hd]
   have hg:l[d.length]? = some x:=by simp [hd]
   have hw1:IntKind.i64.wrap ((d.length:Int)+1)=((d++[x]).length:Nat):=by rw [ar (by omega)];simp
   have a1:=fun st'=>hv.aK (i:=d.length) (by simpa using h0) .i64 st'
   have a2:=Vw.load hv kN rfl (i:=d.length) (x:=x.dv) (by simp [hg])
   have b1:=fun st'=>hu.aK (i:=d.length) (by simpa using h0) .i64 st'
   have b2:=Vw.load hu kN rfl (i:=d.length) (x:=x.dv) (by simp [hg])
   have hJ:=ih (d++[x]) (by simp [hd])
   simp only [List.length_append,List.length_singleton] at hJ hw1
   simp only [Fm.dv,Fm.cs] at a2 b2
   rw [ab (L:=pT) rfl]
   simp at hJ
   simp [x7,e0,h0,a1,a2,b1,b2,hw1,hJ,aF,bL,bQ,bP,aH,eqD,aL,dU]
theorem QQ (n:Nat) (hn:n≤20000) (A:List HO) (K:List Nat) (y0 y5 y9:DV) (st:St):∀ (k i:Nat) (vs:List DV),vs.length=n*10→i+k=n →
 ∃ vs',(E lg).C kx [(0,y0),(5,y5),(6,.hsl 10 true (st.heap.length+A.length) 0 n none),(9,y9),(17,.int .i64 i)] (pst st (A++[.cells .grown vs]) K) =
   some (.exit 2,[(0,y0),(5,y5),(6,.hsl 10 true (st.heap.length+A.length) 0 n none),(9,y9),(17,.int .i64 n),(115,.bool false)],pst st (A++[.cells .grown vs']) K):=by
 intro k
 induction k with
 | zero=>
   intro i vs _ hi
   obtain rfl:i=n:=by omega
   refine ⟨vs,?_⟩
   rw [ab (L:=kx) rfl]
   simp [uw]
 | succ k ih=>
   intro i vs hl hi
   have h0:i<n:=by omega
   have hw:IntKind.i64.wrap ((i:Int)+1)=((i+1:Nat):Int):=by rw [ar (by omega)];simp
   have h1:i*10+1+1≤vs.length:=by omega
   obtain ⟨vs',h2⟩:=ih (i+1) (vs.take (i*10+1)++[.int .i64 9999]++vs.drop (i*10+1+1)) (by simp;omega) (by omega)
   refine ⟨vs',?_⟩
   rw [ab (L:=kx) rfl]
   simp at h2 ⊢
   simp [uw,h0,h1,hw,h2]
theorem u5 {H:List HO} {K:List Nat} (hv:Fms (pst st H K) l v) (h:flE text l≠0):(E lg).F 100409 [.str text,v] (pst st H K)=some (.tuple [.list 0 0 .no false [],.int .i64 0,.int .i64 (flE text l)],pst st H K):=by
 have e1:(E lg).F 100409 [.str text,v] (pst st H K)=km tab 409 true [.str text,v] (pst st H K):=Aj F3
 have h433:=fun st=>mH text st
 have h412:=fun H' K'=>ib (st:=pst (pst st H K) H' K') (hv.inn H' K')
 have hC:∃ fr S,(E tab).C oK.body (bl [.str text,v] 0) (pst (pst st H K) [] [])=some (.ret,[(4,.list 0 0 .no false []),(5,.int .i64 0),(6,.int .i64 (flE text l))]++fr,S):=by
  unfold flE at h ⊢
  rw [ji]
  by_cases h1:wrF text=0
  · rw [if_neg (by simp [h1])] at h ⊢
    rw [h1] at h433
    refine ⟨[],pst (pst st H K) [] [],?_⟩
    simp [h433,h412,h,bl]
  · rw [if_pos h1]
    refine ⟨[],pst (pst st H K) [] [],?_⟩
    simp [h433,h1,bl]
 obtain ⟨fr,S,hC⟩:=hC
 have e2:km tab 409 true [.str text,v] (pst st H K)=kF true (pst st H K) S (.tuple [.list 0 0 .no false [],.int .i64 0,.int .i64 (flE text l)]):=by
  refine ve wk rfl ?_
  rw [hC]
  simp [vF,oK,dQ,eX,gu]
 rw [e1,e2]
 simp [kF,oe,DV.dW]
def iu (text:List UInt8) (l:List Fm):List Fd:=if flE text l=0 then (bM text l).1 else []
def oJ (text:List UInt8) (l:List Fm):Int:=if flE text l=0 then (bM text l).2 else 0
theorem mJ (h:flE text l=0):wrF text=0∧chF l=0:=by
 unfold flE at h
 split at h
 · rename_i h1;exact absurd h h1
 · rename_i h1;exact ⟨by simpa using h1,h⟩
theorem Gi (h:flE text l≠0):wrF text≠0∨chF l≠0:=by
 unfold flE at h
 split at h
 · rename_i h1;exact .inl h1
 · exact .inr h
theorem M8:Lw 10 (([]:List Fd).map Fd.dv) (.list 0 0 .no false []):=.list _ _ _ _ (fun h=>by cases h) (fun _=>rfl)
theorem Ku (hv:Fms st l v):∃ vo,(E tab).F 409 [.str text,v] st=some (.tuple [vo,.int .i64 (oJ text l),.int .i64 (flE text l)],st)∧Lw 10 ((iu text l).map Fd.dv) vo:=by
 unfold oJ iu
 by_cases h:flE text l=0
 · obtain ⟨h1,h2⟩:=mJ h
   rw [if_pos h,if_pos h,h]
   exact Ls hv h1 h2
 · rw [if_neg h,if_neg h]
   exact ⟨_,s9 hv (Gi h),M8⟩
theorem Mc (hv:Fms st l v) (ht:text.length≤500∨4096<text.length):∃ vo,(E tab).F 637 [.str text,v] st=some (.tuple [vo,.int .i64 (oJ text l),.int .i64 (flE text l)],st)∧Lw 10 ((iu text l).map Fd.dv) vo:=by
 unfold oJ iu
 by_cases h:flE text l=0
 · obtain ⟨h1,h2⟩:=mJ h
   rw [if_pos h,if_pos h,h]
   refine KX hv h1 h2 ?_
   rcases ht with ht | ht
   · exact ht
   · unfold wrF at h1;rw [if_pos ht] at h1;omega
 · rw [if_neg h,if_neg h]
   exact ⟨_,wS hv (Gi h),M8⟩
theorem IS (hv:Fms st l v):(E tab).F 410 [v] st=some (.tuple [.int .i64 (if chF l=0 then ((PL l 0).length:Int) else 0),.int .i64 (chF l)],st):=by
 by_cases h:chF l=0
 · rw [if_pos h,h];exact FA hv h
 · rw [if_neg h];exact tV hv h
theorem zT (t n:Nat) (tk:Tk) (y0 y5 y9:DV) (S:St):(E lg).C kx [(0,y0),(5,y5),(6,.list t n tk false []),(9,y9),(17,.int .i64 0)] S=some (.exit 2,[(0,y0),(5,y5),(6,.list t n tk false []),(9,y9),(17,.int .i64 0),(115,.bool false)],S):=by
 rw [ab (L:=kx) rfl]
 simp [uw]
theorem sD (l:List Fm):∀ (ps:List (List UInt8)) (n fo:Nat) (ah:List (Nat×Nat)) (out:List Fd),(eP l ps n fo ah out).1.length≤out.length+ah.length
 | [],n,fo,ah,out=>by simp [eP]
 | s::r,n,fo,ah,out=>by
   rw [eP]
   have h:=kP n fo (flL l ah s) ah out
   rcases hS:b5 n fo (flL l ah s) ah out with ⟨out2,ah2,R⟩
   rw [hS] at h
   simp only at h
   cases R with
   | none=>
     have:=sD l r (n+1) (fo+(s.length+1)) ah2 out2
     simp only;omega
   | some k=>simp only;omega
theorem wx (text:List UInt8) (l:List Fm):(iu text l).length≤10000:=by
 unfold iu
 split
 · rename_i h
   obtain ⟨_,h2⟩:=mJ h
   obtain ⟨hl,hok⟩:=o0 h2
   have h3:=kz l 0 hok
   have h4:=sD l (bd text) 0 0 (PL l 0) []
   unfold bM
   rcases hS:eP l (bd text) 0 0 (PL l 0) [] with ⟨out,R⟩
   rw [hS] at h4
   simp only [List.length_nil] at h4
   cases R with
   | none=>simp only;omega
   | some k=>
     simp only
     split
     · simp
     · simp only;omega
 · simp
theorem akr {H:List HO} {K:List Nat} (hv:Fms (pst st H K) l v):∃ va X,(E lg).F 100409 [.str text,v] (pst st H K)=some (.tuple [va,.int .i64 (oJ text l),.int .i64 (flE text l)],pst st (H++X) K)∧Rd (pst st (H++X) K) (iu text l) va ∧
 ∀ y0 y5 y9,∃ fr X',(E lg).C kx [(0,y0),(5,y5),(6,va),(9,y9),(17,.int .i64 0)] (pst st (H++X) K)=some (.exit 2,[(0,y0),(5,y5),(6,va),(9,y9)]++fr,pst st (H++X') K):=by
 have hlen:=wx text l
 unfold oJ iu at *
 by_cases h:flE text l=0
 · obtain ⟨h1,h2⟩:=mJ h
   rw [if_pos h] at *
   rw [if_pos h,h]
   rcases JE (text:=text) hv h1 h2 with ⟨t,n,tk,he,hM⟩ | hM
   · refine ⟨_,[],by rw [List.append_nil];exact hM,?_,fun y0 y5 y9=>⟨_,[],by rw [List.append_nil];exact zT t n tk y0 y5 y9 _⟩⟩
     rw [he]
     exact Rd.v9 (.list _ _ _ _ (fun h=>by cases h) (fun _=>rfl))
   · refine ⟨_,_,hM,Rd.grown _ _ _,fun y0 y5 y9 => ?_⟩
     · obtain ⟨vs',hL⟩:=QQ (bM text l).1.length (by omega) H K y0 y5 y9 st (bM text l).1.length 0 (kh (bM text l).1) (pX _) (by omega)
       exact ⟨_,_,hL⟩
 · rw [if_neg h] at *
   rw [if_neg h]
   refine ⟨_,[],by rw [List.append_nil];exact u5 hv h,Rd.v9 (.list _ _ _ _ (fun h=>by cases h) (fun _=>rfl)),fun y0 y5 y9=>⟨_,[],by rw [List.append_nil];exact zT 0 0 .no y0 y5 y9 _⟩⟩
end
theorem F6 {st:St} {K:List Nat} {n by_:Nat} {ag:Bool} {xs:List DV} (w:LW) (hok:w.ok n xs) (hn:0<n) (he:∀ y∈xs,dq n ag y) (hr:xs.length*by_≤aw) (hr2:xs.length≤aw) :
 ∃ tk K',∀ H,bt (pst st H K) n ag by_ (.list st.cur n .tight true []) (.list w.t w.n w.tk w.nn xs)=some (.list st.cur n tk true xs,pst st H K'):=by
 by_cases hx:xs=[]
 · subst hx
   refine ⟨.tight,K,fun H=>wZ ?_⟩
   unfold cw
   cases e:w.nn with
   | false=>rfl
   | true=>simp [hok.1 e,flat]
 · have e:w.nn=true:=by
    cases e:w.nn with
    | true=>rfl
    | false=>exact absurd (hok.2 e) hx
   refine ⟨.own (st.aQ.length+K.length) 0,K++[0],fun H => ?_⟩
   rw [e,hok.1 e]
   exact oU (.inr ⟨rfl,rfl,rfl⟩) hn hx he (by simpa using hr) (by simpa using hr2)
def W5:List Sh:=[.int .i64,.int .i64,.int .i64,.int .i64,.int .i64]
theorem aaN {vs:List DV} (h:jX W5 vs):∃ x:Fm,vs=x.cs:=by
 obtain ⟨_,_,rfl,⟨a,rfl,_⟩,_,_,rfl,⟨b,rfl,_⟩,_,_,rfl,⟨c,rfl,_⟩,_,_,rfl,⟨d,rfl,_⟩,_,_,rfl,⟨e,rfl,_⟩,rfl⟩:=h
 exact ⟨⟨a,b,c,d,e⟩,rfl⟩
theorem HA {v:DV} (h:Fit (.list true 40 W5) v):∃ (l:List Fm) (w:LW),v=.list w.t w.n w.tk w.nn (l.map Fm.dv)∧w.ok 5 (l.map Fm.dv):=by
 obtain ⟨nn,xs,rfl,hnn,hmax,hlen,hxs⟩:=h
 obtain ⟨l,rfl⟩:∃ l:List Fm,xs=l.map Fm.dv:=A6 fun x hx=>by
  obtain ⟨vs,h1,rfl⟩:=hxs x hx
  obtain ⟨m,rfl⟩:=aaN h1
  exact ⟨m,rfl⟩
 exact ⟨l,⟨_,_,_,nn⟩,rfl,⟨fun _=>rfl,hnn⟩⟩
def M7:List (Bool×List Sh):=[(false,[.str]),(false,[.list true 40 W5])]
def DC:RC:=(.seq (.region Ee [0,1,5]) (.seq (.region GV [0,1,5,6,7,8]) (.seq (.region Ge [0,1,5,6,7,8,9,10,11]) (.seq (.region Gs [0,1,5,6,7,8,9,10,11,12,13]) (.seq (.region Du [0,1,5,6,7,8,9,10,11,12,13,14,15]) (.seq (.seq (.region Ek [0,1,5,6,9,96]) (.cond (.t 96) (.seq (.region Gn [4]) .ret) .skip)) (.seq (.seq (.region AW [0,1,5,6,9,16]) (.block 0 pT)) (.seq (.seq (.region zM [0,5,6,9,17]) (.block 2 kx)) (.seq (.region z6 [9,18]) (.seq (.region Ai [4]) .ret))))))))))
theorem af4:Fb=⟨[.t 4],(.seq (.region Fk [0,1]) (.seq (.seq (.region Fz [0,1,38]) (.cond (.t 38) (.seq (.region F7 [4]) .ret) .skip)) DC)),true⟩:=rfl
section
variable {l:List Fm} {text:List UInt8}
theorem MH {w:LW} (hw:w.ok 5 (l.map Fm.dv)) (hl:l.length≤100) (ht:text.length≤500∨4096<text.length) (ex:Fr):∃ fr H K,(E lg).C DC ([(0,.str text),(1,.list w.t w.n w.tk w.nn (l.map Fm.dv))]++ex) (pst st0 [] [])=some (.ret,(4,.bool true)::fr,pst st0 H K):=by
 obtain ⟨tk,K1,happ⟩:=F6 (st:=st0) (K:=[]) (by_:=40) (ag:=true) w (xs:=l.map Fm.dv) hw (by omega) kN (by simp [aw];omega) (by simp [aw];omega)
 have happ:=happ []
 have hv:Fms st0 l (.list w.t w.n w.tk w.nn (l.map Fm.dv)):=.list _ _ _ _ hw.1 hw.2
 have hv2:Fms st0 l (.list st0.cur 5 tk true (l.map Fm.dv)):=.list _ _ _ _ (fun _=>rfl) (fun h=>by cases h)
 have hn:(l.map Fm.dv).length=l.length:=by simp
 generalize hu:DV.list w.t w.n w.tk w.nn (l.map Fm.dv)=u at *
 generalize hx:DV.list st0.cur 5 tk true (l.map Fm.dv)=x at *
 have hn1:=fun st'=>fp hv st'
 obtain ⟨va,X,hM,ra,hover⟩:=akr (st:=st0) (H:=[]) (K:=K1) (text:=text) (hv2.inn _ _)
 simp only [List.nil_append] at hM ra hover
 obtain ⟨vb,h637,lb⟩:=Mc (st:=pst st0 X K1) (text:=text) (hv.inn _ _) ht
 have h410:=IS (st:=pst st0 X K1) (hv2.inn _ _)
 have h638:=Dc (st:=pst st0 X K1) (hv.inn _ _)
 have h412:=ib (st:=pst st0 X K1) (hv2.inn _ _)
 have h640:=mh (st:=pst st0 X K1) (hv.inn _ _)
 have hol:=wx text l
 have s1:=AV (st:=pst st0 X K1) ra (Rd.v9 lb.vw) (by omega)
 have hL0:=Rr hl (H:=X) (K:=K1) (hv2.inn _ _) (hv.inn _ _) (.str text) va vb l [] rfl
 simp only [List.length_nil] at hL0
 obtain ⟨fr1,X',hL1⟩:=hover (.str text) x vb
 obtain ⟨vk,h409,lk⟩:=Ku (st:=pst st0 X' K1) (text:=text) (hv2.inn _ _)
 have s2:=AV (st:=pst st0 X' K1) (Rd.v9 lk.vw) (Rd.v9 lb.vw) (by omega)
 have h411:=zz (pst st0 X' K1)
 have h637:=mO fa h637
 have h410:=mO fa h410
 have h638:=mO fa h638
 have h412:=mO fa h412
 have h640:=mO fa h640
 have s1:=mO fa s1
 have s2:=mO fa s2
 have h409:=mO fa h409
 have h411:=mO fa h411
 refine ⟨[],X',K1,?_⟩
 clear ra lb lk hover hv hv2
 simp at hM h637 h410 h638 h412 h640 s1 s2 h409 h411 hL0 hL1 happ
 unfold DC
 simp [aD,aR,chunk,happ,hM,h637,h410,h638,h412,h640,s1,hL0,hL1,h409,s2,h411]
theorem GZ (us:List DV) (hf:tt M7 us):∃ st',(E lg).F 635 us st0=some (.bool true,st'):=by
 obtain ⟨_,_,rfl,⟨_,_,rfl,⟨text,rfl,_⟩,rfl⟩,_,_,rfl,⟨lv,_,rfl,hlv,rfl⟩,rfl⟩:=hf
 obtain ⟨l,w,rfl,hw⟩:=HA hlv
 refine ⟨st0,?_⟩
 rw [av GQ rfl]
 simp only [elemOf,List.headD_cons,Bool.false_eq_true,if_false,if_true]
 rw [af4]
 have hn:(l.map Fm.dv).length=l.length:=by simp
 by_cases a:500<text.length
 · have a':(500:Int)<text.length:=by omega
   by_cases b:text.length≤4096
   · have b':(text.length:Int)≤4096:=by omega
     simp [a,a',b,b']
   · have b':¬ (text.length:Int)≤4096:=by omega
     by_cases c:5000<text.length
     · have c':(5000:Int)<text.length:=by omega
       simp [a,a',b,b',c,c']
     · have c':¬ (5000:Int)<text.length:=by omega
       by_cases d:100<l.length
       · have d':(100:Int)<l.length:=by omega
         simp [a,a',b,b',c,c',d,d']
       · have d':¬ (100:Int)<l.length:=by omega
         obtain ⟨fr,H,K,hT⟩:=MH (text:=text) hw (by omega) (.inr (by omega)) [(38,.bool false)]
         generalize l.map Fm.dv=V at *
         simp at hT
         simp [a,a',b,b',c,c',hn,d,d',hT]
 · have a':¬ (500:Int)<text.length:=by omega
   have c:¬ 5000<text.length:=by omega
   have c':¬ (5000:Int)<text.length:=by omega
   by_cases d:100<l.length
   · have d':(100:Int)<l.length:=by omega
     simp [a,a',c,c',d,d']
   · have d':¬ (100:Int)<l.length:=by omega
     obtain ⟨fr,H,K,hT⟩:=MH (text:=text) hw (by omega) (.inl (by omega)) [(38,.bool false)]
     generalize l.map Fm.dv=V at *
     simp at hT
     simp [a,a',c,c',hn,d,d',hT]
end
end Go.D.Tab
end
section
namespace Go.D
open Go.RowKit
variable {P:Program}
theorem wc {w:World}:∀ (l:List (String×DataW Unit)) (ps:List MemPlace),DataW.LaidVars P w l ps→∀ x∈l,∃ g t cs fuel p,P.globalNamed x.1=some g∧(P.globals[g]?).map (·.type)=some t∧w.var? P x.1=some cs ∧
 DataW.trod (fun _=>()) P w 0 (fun _=>true) false fuel t cs.toList=some (x.2,p)
 | [],_,_,x,hx=>by simp at hx
 | y::l,ps,h,x,hx=>by
   obtain ⟨g,t,cs,fuel,p,q,h1,h2,h3,h4,h5,h6⟩:=h
   rcases List.mem_cons.1 hx with rfl | hx
   · exact ⟨g,t,cs,fuel,p,h1,h2,h3,h4⟩
   · exact wc l _ h5 x hx
theorem C9 {laid:List (String×DataW Unit)} {w:World} {name:String} {k:IntKind} {tab:List Nat} {g n:Nat} {t e:TypeId} (hg:P.globalNamed name=some g) (hty:(P.globals[g]?).map (·.type)=some t) (ht:P.underlying t=some (.array n e))
 (he:P.underlying e=some (.int k)) (hce:P.cellsOf e=1) (hct:P.cellsOf t=n) (hx:(name,Lib.tabData k (tab.map Int.ofNat))∈laid) (h:laidMet P laid w):∀ i (h:i<tab.length),w.cell? ⟨g,i,none⟩=some (.int k (Int.ofNat tab[i])):=by
 obtain ⟨ps,h1,_⟩:=h
 obtain ⟨g',t',cs,fuel,p,hg',ht',hvar,hd⟩:=wc laid ps h1 _ hx
 obtain rfl:=Option.some.inj (hg.symm.trans hg')
 obtain rfl:=Option.some.inj (hty.symm.trans ht')
 have hcs:=Lib.cells_of_tab ht he hce hct hd
 intro i hi
 rw [World.var?_cell hg hvar i,← Array.getElem?_toList,hcs]
 simp [hi]
end Go.D
end
