import Derived.Lib.LaidTab
import Derived.LaidMore
import Derived.Test.YtlohmlkafemifaaGreatDoorM4
/-! Texts 5 of this claim, joined. -/
set_option linter.unnecessarySimpa false
set_option linter.unusedSimpArgs false
set_option linter.unusedVariables false
open _root_.Array renaming getElem?_toList → abG
open _root_.Bool renaming and_eq_false_iff → aby, and_eq_true → aac, eq_iff_iff → aaQ, false_eq_true → aao, false_or → abJ, not_eq_true → abw, not_eq_true' → abn, or_eq_true → aa6, true_and → aaB
open _root_.Int renaming mul_le_mul_of_nonneg_right → abz, tdiv_eq_ediv_of_nonneg → aaI
open _root_.List renaming all_eq_true → aae, any_cons → abx, any_eq_true → abf, append_assoc → aau, append_nil → aaE, cons_append → aaS, drop_drop → abM, drop_eq_nil_of_le → aa8, filter_cons_of_neg → abm, flatMap_cons → abA, getD_eq_getElem?_getD → aaf, getElem?_append_left → aak, getElem?_cons_succ → abd, getElem?_eq_getElem → aaa, getElem?_eq_some_iff → aad, getElem?_map → aaG, getElem_mem → aaN, getElem_of_mem → aa1, length_append → aag, length_cons → aaJ, length_drop → aa2, length_eq_zero_iff → aa3, length_filter_le → aaO, length_map → aaP, length_pos_iff → aaR, map_cons → aaH, map_eq_nil_iff → abq, mem_append → aaA, mem_cons → aas, mem_cons_self → aax, mem_flatMap → aaM, mem_map → aay, mem_of_getElem? → aat, mem_of_mem_drop → aaD, mem_of_mem_take → aa5, mem_range → abF, mem_singleton → aaw, nil_append → aaF, not_mem_nil → abu, range → aan
open _root_.Nat renaming le_refl → aai, le_trans → abl, succ_mul → abP, zero_add → aar
open _root_.Option renaming some → aab
section
namespace Go.D.Tab
theorem PY:tab 251=some (.code yO):=by kernel_rfl
theorem RF:tab 212=some (.code f212):=by kernel_rfl
theorem Th:tab 235=some (.code f235):=by kernel_rfl
theorem RP:tab 257=some (.code Ax):=by kernel_rfl
theorem PS:tab 273=some (.code JW):=by kernel_rfl
theorem Pa (s:List UInt8) (hs:s.length≤4096) (y:DV) (st:St) (A:List HO) (q:Nat) (hA:∀ o,rowAt (A++[o]) q=some (.plain,[.str s])) (K:List Nat) (a:Nat) (ha:a<s.length) (k:Int):∀ (n t:Nat),t+n=a+3→1≤t →
 (E tab).C qY [(0,y),(1,.ptr (st.heap.length+q) 0),(3,.int .i64 a),(4,.ptr (st.heap.length+A.length) 0)] (pst st (A++[.cells .plain [.int .i64 a,.int .i64 t,.int .i64 k]]) K) =
  some (.exit 2,[(0,y),(1,.ptr (st.heap.length+q) 0),(3,.int .i64 a),(4,.ptr (st.heap.length+A.length) 0),(40,.bool false)],pst st (A++[.cells .plain [.int .i64 a,.int .i64 (adv s k n t),.int .i64 k]]) K):=by
 intro n
 induction n with
 | zero=>
   intro t ht _;have hw:IntKind.i64.wrap ((a:Int)+3)=(a:Int)+3:=ay (by omega);have h1:¬ (t:Int)<a+3:=by omega
   rw[ae (L:=qY) rfl];by_cases hk:k=1
   · by_cases hl:t<s.length
     · simp[jb,hk,hl,hw,h1,adv,hA]
     · simp[jb,hk,hl,adv,hA]
   · simp[jb,hk,adv]
 | succ n ih=>
   intro t ht h0;have hw:IntKind.i64.wrap ((a:Int)+3)=(a:Int)+3:=ay (by omega);have h1:(t:Int)<a+3:=by omega
   rw[ae (L:=qY) rfl];by_cases hk:k=1
   · by_cases hl:t<s.length
     · have hw2:IntKind.i64.wrap ((t:Int)+1)=((t+1:Nat):Int):=by rw[ay (by omega)];simp
       cases hac:sR (s[t]).toNat with
       | true=>
         have hJ:=ih (t+1) (by omega) (by omega);simp[jb,hk,hl,hw,h1,B8,hac,hw2,adv,hA] at hJ ⊢;exact hJ
       | false=>simp[jb,hk,hl,hw,h1,B8,hac,adv,hA]
     · simp[jb,hk,hl,adv,hA]
   · simp[jb,hk,adv]
def dc (s:List UInt8) (i:Nat):Clu:=⟨i,cTo s i,eJ s i⟩
theorem FL {st:St} (s:List UInt8) (hs:s.length≤4096) (y:DV) (q:Nat) (P:Nat→Nat→List HO→List Nat→Prop) (Q:List HO→List Nat→Prop)
 (hr:∀ n i H K,P n i H K→rowAt H q=some (.plain,[.str s])∧q<H.length)
 (hq:∀ n H K,P n s.length H K→Q H K)
 (step:∀ n i (hi:i<s.length) H K,P (n+1) i H K →
  (∃ H' K',(E tab).V y [(dc s i).dv] (pst st (H++[.cells .plain (dc s i).cs]) K)=some (.bool true,pst st H' K')∧rowAt H' H.length=some (.plain,(dc s i).cs)∧P n (cTo s i) H' K') ∨
  (∃ H' K',(E tab).V y [(dc s i).dv] (pst st (H++[.cells .plain (dc s i).cs]) K)=some (.bool false,pst st H' K')∧Q H' K')) :
 ∀ n i H K,s.length≤i+n→i≤s.length→P n i H K→∃ H' K',Q H' K'∧∃ e,(e=.ret∨e=.exit 0)∧∃ fr,
   (E tab).C mF [(0,y),(1,.ptr (st.heap.length+q) 0),(3,.int .i64 i)] (pst st H K)=some (e,fr,pst st H' K'):=by
 intro n
 induction n with
 | zero=>
   intro i H K h1 h2 hP;obtain rfl:i=s.length:=by omega
   have hr:=hr _ _ _ _ hP;refine⟨H,K,hq _ _ _ hP,.exit 0,.inr rfl,?_⟩;rw[ae (L:=mF) rfl];simp[p4,hr.1]
 | succ n ih=>
   intro i H K h1 h2 hP;have hr:=hr _ _ _ _ hP;by_cases hi:i<s.length
   · have hw:IntKind.i64.wrap ((i:Int)+1)=((i+1:Nat):Int):=by rw[ay (by omega)];simp
     have ht:=kS s (eJ s i) 2 (i+1);have hA:∀ o,rowAt (H++[o]) q=some (.plain,[.str s]):=fun o=>by rw[eX hr.2];exact hr.1
     have hL:=Pa s hs y st H q hA K i hi (eJ s i) 2 (i+1) (by omega) (by omega);have hg:eJ s i=kd (s[i]).toNat:=by simp[eJ,hi]
     rcases step n i hi H K hP with ⟨H',K',hV,hr',hP'⟩ | ⟨H',K',hV,hQ⟩
     · obtain⟨H2,K2,hQ,e,he,fr,hJ⟩:=ih (cTo s i) H' K' (by unfold cTo;omega) (by unfold cTo;omega) hP';refine⟨H2,K2,hQ,e,he,fr,?_⟩;rw[ae (L:=mF) rfl];simp[dc,Clu.cs,Clu.dv,cTo] at hV hL hJ hr' ⊢;simp[p4,hi,hw,Hh,hL,← hg,hV,hr',hr.1,hA];exact hJ
     · refine⟨H',K',hQ,.ret,.inl rfl,?_⟩;rw[ae (L:=mF) rfl];simp[dc,Clu.cs,Clu.dv,cTo] at hV hL ⊢;simp[p4,hi,hw,Hh,hL,← hg,hV,hr.1,hA]
   · obtain rfl:i=s.length:=by omega
     refine⟨H,K,hq _ _ _ hP,.exit 0,.inr rfl,?_⟩;rw[ae (L:=mF) rfl];simp[p4,hr.1]
theorem uG {st:St} (s:List UInt8) (hs:s.length≤4096) (y:DV) (q:Nat) (P:Nat→Nat→List HO→List Nat→Prop) (Q:List HO→List Nat→Prop)
 (hr:∀ n i H K,P n i H K→rowAt H q=some (.plain,[.str s])∧q<H.length)
 (hq:∀ n H K,P n s.length H K→Q H K)
 (step:∀ n i (hi:i<s.length) H K,P (n+1) i H K →
  (∃ H' K',(E tab).V y [(dc s i).dv] (pst st (H++[.cells .plain (dc s i).cs]) K)=some (.bool true,pst st H' K')∧rowAt H' H.length=some (.plain,(dc s i).cs)∧P n (cTo s i) H' K') ∨
  (∃ H' K',(E tab).V y [(dc s i).dv] (pst st (H++[.cells .plain (dc s i).cs]) K)=some (.bool false,pst st H' K')∧Q H' K'))
 {H:List HO} {K:List Nat} (hP:P s.length 0 H K):∃ H' K',Q H' K'∧(E tab).F 69 [y,.ptr (st.heap.length+q) 0] (pst st H K)=some (.tuple [],pst st H' K'):=by
 obtain⟨H',K',hQ,e,he,fr,hJ⟩:=FL s hs y q P Q hr hq step s.length 0 H K (by omega) (by omega) hP;refine⟨H',K',hQ,?_⟩;rw[iz GY rfl];simp at hJ;rcases he with rfl|rfl<;>simp[f69,hJ]
theorem FX (s:List UInt8) (st:St) (H:List HO) (K:List Nat):(E tab).F 55 [.str s] (pst st H K)=some (.fn 69 [] [.ptr (st.heap.length+H.length) 0],pst st (H++[.cells .plain [.str s]]) K):=by
 rw[iz Rs rfl];simp[f55]
def cY (s:List UInt8) (t:Int):Bool:=decide (bY s=0)&&(decide (t=0)||(cw s).any fun c=>decide ((c.b:Int)=t))
theorem nR (s:List UInt8) (t:Int):∀ n i,s.length≤i+n→i≤s.length→(((b8 s n i).any fun c=>decide ((c.a:Int)=t))||decide (t=s.length))=(decide (t=i)||(b8 s n i).any fun c=>decide ((c.b:Int)=t))
 | 0,i,h1,h2=>by
   obtain rfl:i=s.length:=by omega
   simp[b8]
 | n+1,i,h1,h2=>by
   have ht:=kS s (eJ s i) 2 (i+1);by_cases hi:i<s.length
   · have ih:=nR s t n (cTo s i) (by unfold cTo;omega) (by unfold cTo;omega);simp only[b8,hi,if_true,abx];rw[Bool.or_assoc,ih];have e1:decide ((i:Int)=t)=decide (t=i):=by simp[eq_comm]
     have e2:decide (((cTo s i:Nat):Int)=t)=decide (t=(cTo s i:Nat)):=by simp[eq_comm]
     simp only[e1,e2]
   · obtain rfl:i=s.length:=by omega
     simp[b8]
theorem yl (s:List UInt8):∀ n i,i≤s.length→∀ c∈b8 s n i,i≤c.a∧c.a<c.b∧c.b≤s.length∧c.a<s.length
 | 0,i,_,c,h=>by simp[b8] at h
 | n+1,i,h2,c,h=>by
   have ht:=kS s (eJ s i) 2 (i+1);by_cases hi:i<s.length
   · simp only[b8,hi,if_true] at h;rcases aas.1 h with rfl | h
     · simp only[cTo];omega
     · have:=yl s n (cTo s i) (by unfold cTo;omega) c h;unfold cTo at this;omega
   · simp[b8,hi] at h
section
variable {st:St}
def nZ (st:St) (s:List UInt8) (b:Bool):HO:=.loop (im [(0,.str s),(3,.ptr st.heap.length 0),(4,.ptr (st.heap.length+1) 0),(20,.fn 69 [] [.ptr (st.heap.length+2) 0])] [21] (.region nb [3,4,5]) (.block 1 (.seq (.region nh [4,25]) (.cond (.t 25) (.seq (.region mN [4]) .ret) .skip))) (if b then 2 else 0) (if b then some .ret else none))
def iB (st:St) (s:List UInt8) (t:Int) (b:Bool) (J:List HO):List HO:=.cells .plain [.int .i64 t]::.cells .plain [.bool b]::.cells .plain [.str s]::nZ st s b::J
theorem IT (s:List UInt8) (t:Int) (c:Clu) (J:List HO) :
 (E tab).V (.yield (st.heap.length+3)) [c.dv] (pst st (iB st s t false J) [])=some (.bool (!decide ((c.a:Int)=t)),pst st (iB st s t (decide ((c.a:Int)=t)) (J++[.cells .plain c.cs])) []):=by
 by_cases h:(c.a:Int)=t
 · have:=ln (T:=tab) (st:=st) (H:=iB st s t false J) (K:=[]) (k:=3) (args:=[c.dv]) (params:=[21]) (assign:=.region nb [3,4,5]) (body:=.block 1 (.seq (.region nh [4,25]) (.cond (.t 25) (.seq (.region mN [4]) .ret) .skip))) (fr:=[(0,.str s),(3,.ptr st.heap.length 0),(4,.ptr (st.heap.length+1) 0),(20,.fn 69 [] [.ptr (st.heap.length+2) 0])]) (e:=.ret)
    (H1:=iB st s t false (J++[.cells .plain c.cs])) (K1:=[]) (H2:=(iB st s t true (J++[.cells .plain c.cs])).set 3 (.loop (im [(0,.str s),(3,.ptr st.heap.length 0),(4,.ptr (st.heap.length+1) 0),(20,.fn 69 [] [.ptr (st.heap.length+2) 0])] [21] (.region nb [3,4,5]) (.block 1 (.seq (.region nh [4,25]) (.cond (.t 25) (.seq (.region mN [4]) .ret) .skip))) 1 none))) (K2:=[])
    (fr1:=[(3,.ptr st.heap.length 0),(4,.ptr (st.heap.length+1) 0),(5,.ptr (st.heap.length+(J.length+4)) 0)]) rfl rfl (by simp[iB,Clu.dv,Clu.cs,nZ]) rfl (by simp[iB,Clu.cs,nZ,h]) rfl
   rw[this];simp[iB,nZ,h,yT]
 · have:=ln (T:=tab) (st:=st) (H:=iB st s t false J) (K:=[]) (k:=3) (args:=[c.dv]) (params:=[21]) (assign:=.region nb [3,4,5]) (body:=.block 1 (.seq (.region nh [4,25]) (.cond (.t 25) (.seq (.region mN [4]) .ret) .skip))) (fr:=[(0,.str s),(3,.ptr st.heap.length 0),(4,.ptr (st.heap.length+1) 0),(20,.fn 69 [] [.ptr (st.heap.length+2) 0])]) (e:=.normal)
    (H1:=iB st s t false (J++[.cells .plain c.cs])) (K1:=[]) (H2:=(iB st s t false (J++[.cells .plain c.cs])).set 3 (.loop (im [(0,.str s),(3,.ptr st.heap.length 0),(4,.ptr (st.heap.length+1) 0),(20,.fn 69 [] [.ptr (st.heap.length+2) 0])] [21] (.region nb [3,4,5]) (.block 1 (.seq (.region nh [4,25]) (.cond (.t 25) (.seq (.region mN [4]) .ret) .skip))) 1 none))) (K2:=[])
    (fr1:=[(3,.ptr st.heap.length 0),(4,.ptr (st.heap.length+1) 0),(5,.ptr (st.heap.length+(J.length+4)) 0)]) rfl rfl (by simp[iB,Clu.dv,Clu.cs,nZ]) rfl (by simp[iB,Clu.cs,nZ,h]) rfl
   rw[this];simp[iB,nZ,h,yT]
theorem Ff (s:List UInt8) (t:Int):(E tab).F 251 [.str s,.int .i64 t] st=some (.bool (cY s t),st):=by
 rw[aK PY rfl];by_cases hw:bY s=0
 · obtain⟨hs,_⟩:=b6 hw;have hst:=nR s t s.length 0 (by omega) (by omega);by_cases h0:t<0
   · have:cY s t=false:=by
      simp only[cY,hw,decide_true,aaB,cw];rw[show decide (t=0)=false from decide_eq_false (by omega),abJ,List.any_eq_false];intro c _;simp;omega
     simp[yO,fy,hw,h0,this]
   by_cases h1:(s.length:Int)<t
   · have:cY s t=false:=by
      simp only[cY,hw,decide_true,aaB,cw];rw[show decide (t=0)=false from decide_eq_false (by omega),abJ,List.any_eq_false];intro c hc;have:=yl s _ 0 (by omega) c hc;simp;omega
     simp[yO,fy,hw,h0,h1,this]
   have hgoal:cY s t=(((cw s).any fun c=>decide ((c.a:Int)=t))||decide (t=s.length)):=by
    simp only[cY,hw,decide_true,aaB,cw];rw[hst];simp
   obtain⟨H',K',⟨rfl,J,rfl⟩,hF⟩:=uG (st:=st) s hs (.yield (st.heap.length+3)) 2
    (fun n i H K=>K=[]∧(∃ J,H=iB st s t false J)∧((cw s).any fun c=>decide ((c.a:Int)=t))=((b8 s n i).any fun c=>decide ((c.a:Int)=t)))
    (fun H K=>K=[]∧∃ J,H=iB st s t ((cw s).any fun c=>decide ((c.a:Int)=t)) J)
    (by rintro n i H K ⟨_,⟨J,rfl⟩,_⟩;exact⟨rfl,by simp[iB]⟩)
    (by
     rintro n H K ⟨rfl,⟨J,rfl⟩,h⟩;have:b8 s n s.length=[]:=by cases n<;>simp[b8]
     rw[h,this];exact⟨rfl,J,rfl⟩)
    (by
     rintro n i hi H K ⟨rfl,⟨J,rfl⟩,h⟩;have hy:=IT (st:=st) s t (dc s i) (J++[.cells .plain (dc s i).cs]);have hH:iB st s t false J++[.cells .plain (dc s i).cs]=iB st s t false (J++[.cells .plain (dc s i).cs]):=by simp[iB]
     rw[hH];simp only[b8,hi,if_true,abx] at h;by_cases he:((dc s i).a:Int)=t
     · right;have he':decide ((i:Int)=t)=true:=decide_eq_true he;rw[he',Bool.true_or] at h;refine⟨_,_,by simpa[he] using hy,rfl,J++[.cells .plain (dc s i).cs]++[.cells .plain (dc s i).cs],by simp[h]⟩
     · left;have he':decide ((i:Int)=t)=false:=decide_eq_false he;rw[he',abJ] at h;refine⟨_,_,by simpa[he] using hy,?_,rfl,⟨J++[.cells .plain (dc s i).cs]++[.cells .plain (dc s i).cs],by simp⟩,h⟩
       simp[iB])
    (H:=iB st s t false []) (K:=[]) ⟨rfl,⟨[],rfl⟩,rfl⟩
   have hrf:=lL (T:=tab) (st:=st) (H:=[.cells .plain [.int .i64 t],.cells .plain [.bool false],.cells .plain [.str s]]) (K:=[]) (f:=.t 20) (params:=[21]) (live:=[0,3,4,20]) (assign:=.region nb [3,4,5]) (body:=.block 1 (.seq (.region nh [4,25]) (.cond (.t 25) (.seq (.region mN [4]) .ret) .skip)))
    (fr:=[(0,.str s),(3,.ptr st.heap.length 0),(4,.ptr (st.heap.length+1) 0),(20,.fn 69 [] [.ptr (st.heap.length+2) 0])]) (g:=69) (first:=[]) (captured:=[.ptr (st.heap.length+2) 0]) rfl GY hF rfl (by cases (cw s).any fun c=>decide ((c.a:Int)=t)<;>decide)
   rw[hgoal];have h55:=FX s st [.cells .plain [.int .i64 t],.cells .plain [.bool false]] [];generalize ((cw s).any fun c=>decide ((c.a:Int)=t))=b at *
   cases b with
   | true=>
     simp[iB,nZ] at hrf h55;simp[yO,fy,hw,h0,h1,h55,hrf]
   | false=>
     simp[iB,nZ] at hrf h55;simp[yO,fy,hw,h0,h1,h55,hrf];rfl
 · simp[yO,fy,hw,cY]
def qm (s:List UInt8) (t:Int):Int:=match (cw s).find? (fun c=>decide (t<c.b)) with | some c=>c.b | none=>s.length
def jj (s:List UInt8) (t:Int):Int:=if bY s≠0 then bY s else if t<0∨(s.length:Int)<t then 5 else 0
theorem yz (s:List UInt8) (t:Int):(E tab).F 235 [.str s,.int .i64 t] st=some (.int .i64 (jj s t),st):=by
 rw[aK Th rfl];by_cases hw:bY s=0
 · by_cases h0:t<0
   · simp[f235,fy,hw,h0,jj]
   · by_cases h1:(s.length:Int)<t
     · simp[f235,fy,hw,h0,h1,jj]
     · simp[f235,fy,hw,h0,h1,jj]
 · simp[f235,fy,hw,jj]
def ot (st:St) (s:List UInt8) (b:Bool):HO:=.loop (im [(0,.str s),(3,.ptr st.heap.length 0),(4,.ptr (st.heap.length+1) 0),(5,.ptr (st.heap.length+2) 0),(15,.fn 69 [] [.ptr (st.heap.length+3) 0])] [16] (.region nf [3,4,5,7]) (.block 1 (.seq (.region nq [4,5,7,20]) (.cond (.t 20) (.seq (.region nu [4,5]) .ret) .skip))) (if b then 2 else 0) (if b then some .ret else none))
def ix (st:St) (s:List UInt8) (t:Int) (o:Option Clu) (J:List HO):List HO:=.cells .plain [.int .i64 t]::.cells .plain [.int .i64 (match o with | some c=>c.b | none=>0)]::.cells .plain [.int .i64 0]::.cells .plain [.str s]::ot st s o.isSome::J
theorem Hp (s:List UInt8) (t:Int) (c:Clu) (J:List HO) :
 (E tab).V (.yield (st.heap.length+4)) [c.dv] (pst st (ix st s t none J) [])=some (.bool (!decide (t<c.b)),pst st (ix st s t (if t<c.b then some c else none) (J++[.cells .plain c.cs])) []):=by
 by_cases h:t<c.b
 · have:=ln (T:=tab) (st:=st) (H:=ix st s t none J) (K:=[]) (k:=4) (args:=[c.dv]) (params:=[16]) (assign:=.region nf [3,4,5,7]) (body:=.block 1 (.seq (.region nq [4,5,7,20]) (.cond (.t 20) (.seq (.region nu [4,5]) .ret) .skip))) (fr:=[(0,.str s),(3,.ptr st.heap.length 0),(4,.ptr (st.heap.length+1) 0),(5,.ptr (st.heap.length+2) 0),(15,.fn 69 [] [.ptr (st.heap.length+3) 0])]) (e:=.ret)
    (H1:=ix st s t none (J++[.cells .plain c.cs])) (K1:=[]) (H2:=(ix st s t (some c) (J++[.cells .plain c.cs])).set 4 (.loop (im [(0,.str s),(3,.ptr st.heap.length 0),(4,.ptr (st.heap.length+1) 0),(5,.ptr (st.heap.length+2) 0),(15,.fn 69 [] [.ptr (st.heap.length+3) 0])] [16] (.region nf [3,4,5,7]) (.block 1 (.seq (.region nq [4,5,7,20]) (.cond (.t 20) (.seq (.region nu [4,5]) .ret) .skip))) 1 none))) (K2:=[])
    (fr1:=[(3,.ptr st.heap.length 0),(4,.ptr (st.heap.length+1) 0),(5,.ptr (st.heap.length+2) 0),(7,.ptr (st.heap.length+(J.length+5)) 0)]) rfl rfl (by simp[ix,Clu.dv,Clu.cs,ot]) rfl (by simp[ix,Clu.cs,ot,h]) rfl
   rw[this];simp[ix,ot,h,yT]
 · have:=ln (T:=tab) (st:=st) (H:=ix st s t none J) (K:=[]) (k:=4) (args:=[c.dv]) (params:=[16]) (assign:=.region nf [3,4,5,7]) (body:=.block 1 (.seq (.region nq [4,5,7,20]) (.cond (.t 20) (.seq (.region nu [4,5]) .ret) .skip))) (fr:=[(0,.str s),(3,.ptr st.heap.length 0),(4,.ptr (st.heap.length+1) 0),(5,.ptr (st.heap.length+2) 0),(15,.fn 69 [] [.ptr (st.heap.length+3) 0])]) (e:=.normal)
    (H1:=ix st s t none (J++[.cells .plain c.cs])) (K1:=[]) (H2:=(ix st s t none (J++[.cells .plain c.cs])).set 4 (.loop (im [(0,.str s),(3,.ptr st.heap.length 0),(4,.ptr (st.heap.length+1) 0),(5,.ptr (st.heap.length+2) 0),(15,.fn 69 [] [.ptr (st.heap.length+3) 0])] [16] (.region nf [3,4,5,7]) (.block 1 (.seq (.region nq [4,5,7,20]) (.cond (.t 20) (.seq (.region nu [4,5]) .ret) .skip))) 1 none))) (K2:=[])
    (fr1:=[(3,.ptr st.heap.length 0),(4,.ptr (st.heap.length+1) 0),(5,.ptr (st.heap.length+2) 0),(7,.ptr (st.heap.length+(J.length+5)) 0)]) rfl rfl (by simp[ix,Clu.dv,Clu.cs,ot]) rfl (by simp[ix,Clu.cs,ot,h]) rfl
   rw[this];simp[ix,ot,h,yT]
theorem Je (s:List UInt8) (t:Int):(E tab).F 212 [.str s,.int .i64 t] st=some (.tuple [.int .i64 (if jj s t=0 then qm s t else 0),.int .i64 (jj s t)],st):=by
 rw[aK RF rfl];by_cases hn:jj s t=0
 · have hw:bY s=0:=by
    unfold jj at hn;split at hn
    · exact hn
    · rename_i h;simpa using h
   obtain⟨hs,_⟩:=b6 hw
   obtain⟨H',K',⟨rfl,J,rfl⟩,hF⟩:=uG (st:=st) s hs (.yield (st.heap.length+4)) 3
    (fun n i H K=>K=[]∧(∃ J,H=ix st s t none J)∧(cw s).find? (fun c=>decide (t<c.b))=(b8 s n i).find? (fun c=>decide (t<c.b)))
    (fun H K=>K=[]∧∃ J,H=ix st s t ((cw s).find? (fun c=>decide (t<c.b))) J)
    (by rintro n i H K ⟨_,⟨J,rfl⟩,_⟩;exact⟨rfl,by simp[ix]⟩)
    (by
     rintro n H K ⟨rfl,⟨J,rfl⟩,h⟩;have:b8 s n s.length=[]:=by cases n<;>simp[b8]
     rw[h,this];exact⟨rfl,J,rfl⟩)
    (by
     rintro n i hi H K ⟨rfl,⟨J,rfl⟩,h⟩;have hy:=Hp (st:=st) s t (dc s i) (J++[.cells .plain (dc s i).cs]);have hH:ix st s t none J++[.cells .plain (dc s i).cs]=ix st s t none (J++[.cells .plain (dc s i).cs]):=by simp[ix]
     rw[hH];simp only[b8,hi,if_true,List.find?_cons] at h;by_cases he:t<(dc s i).b
     · right;have he':decide (t<(cTo s i:Nat))=true:=decide_eq_true he;rw[he'] at h;rw[if_pos he] at hy;refine⟨_,_,by simpa[he] using hy,rfl,J++[.cells .plain (dc s i).cs]++[.cells .plain (dc s i).cs],by rw[h,aau];rfl⟩
     · left;have he':decide (t<(cTo s i:Nat))=false:=decide_eq_false he;rw[he'] at h;rw[if_neg he] at hy;refine⟨_,_,by simpa[he] using hy,?_,rfl,⟨J++[.cells .plain (dc s i).cs]++[.cells .plain (dc s i).cs],by simp⟩,h⟩
       simp[ix])
    (H:=ix st s t none []) (K:=[]) ⟨rfl,⟨[],rfl⟩,rfl⟩
   have hrf:=lL (T:=tab) (st:=st) (H:=[.cells .plain [.int .i64 t],.cells .plain [.int .i64 0],.cells .plain [.int .i64 0],.cells .plain [.str s]]) (K:=[]) (f:=.t 15) (params:=[16]) (live:=[0,3,4,5,15]) (assign:=.region nf [3,4,5,7]) (body:=.block 1 (.seq (.region nq [4,5,7,20]) (.cond (.t 20) (.seq (.region nu [4,5]) .ret) .skip)))
    (fr:=[(0,.str s),(3,.ptr st.heap.length 0),(4,.ptr (st.heap.length+1) 0),(5,.ptr (st.heap.length+2) 0),(15,.fn 69 [] [.ptr (st.heap.length+3) 0])]) (g:=69) (first:=[]) (captured:=[.ptr (st.heap.length+3) 0]) rfl GY hF rfl (by cases (cw s).find? (fun c=>decide (t<c.b))<;>simp)
   unfold qm;have h55:=FX s st [.cells .plain [.int .i64 t],.cells .plain [.int .i64 0],.cells .plain [.int .i64 0]] [];have h235:=fun H=>yz (st:=pst st H []) s t;generalize (cw s).find? (fun c=>decide (t<c.b))=o at *
   cases o with
   | some c=>
     simp[ix,ot] at hrf h55;simp[f212,h235,hn,h55,hrf]
   | none=>
     simp[ix,ot] at hrf h55;simp[f212,h235,hn,h55,hrf]
 · simp[f212,yz,hn]
end
theorem Lj (i:Int):dX 1 false (.int .i64 i):=⟨rfl,rfl,rfl⟩
def fW (l:List Clu):List DV:=.int .i64 0::l.map fun c=>.int .i64 c.b
section
variable {st:St}
theorem OG {l:List Clu} (hl:l.length≤4096) {t n:Nat} {tk:Tk} {nn:Bool} (h3:l≠[]→n=3) (H:List HO):∀ (r d:List Clu) (K:List Nat) (v:DV),l=d++r →
 ((v=.list st.cur 1 .tight true (fW d))∨(Acc st K 1 (fW d) v)) →
 ∃ v' K' fr,(E tab).C xp [(3,.list t n tk nn (l.map Clu.dv)),(5,v),(6,.int .i64 d.length)] (pst st H K)=some (.exit 0,(3,.list t n tk nn (l.map Clu.dv))::(5,v')::fr,pst st H K') ∧
   ((v'=.list st.cur 1 .tight true (fW l))∨(Acc st K' 1 (fW l) v')):=by
 intro r
 induction r with
 | nil=>
   intro d K v hd hA;rw[aaE] at hd;subst hd;refine⟨v,K,[(6,.int .i64 l.length),(16,.bool false)],?_,hA⟩;rw[ae (L:=xp) rfl];simp[AR]
 | cons c r ih=>
   intro d K v hd hA;have h0:d.length<l.length:=by simp[hd]
   obtain rfl:=h3 (by rw[hd];simp);have hw:IntKind.i64.wrap ((d.length:Int)+1)=((d++[c]).length:Nat):=by rw[ay (by omega)];simp
   have hg:l[d.length]=c:=by simp[hd]
   have hap:∃ v2 K2,aZ (pst st H K) 1 false 8 v (.list st.cur 1 .tight true [.int .i64 c.b])=some (v2,pst st H K2)∧Acc st K2 1 (fW (d++[c])) v2:=by
    have e:fW (d++[c])=fW d++[.int .i64 c.b]:=by simp[fW]
    have hlen:(fW d).length≤4097:=by simp[fW];omega
    rw[e];rcases hA with rfl | hA
    · refine⟨_,_,l8 (.inr ⟨rfl,rfl,rfl⟩) (by omega) (by simp) (by intro y hy;simp only[aaw] at hy;subst hy;exact Lj _) (by simp[aB];omega) (by simp[aB];omega),.inr ⟨K.length,0,rfl,by simp⟩⟩
    · exact cR hA (by omega) (by simp) (by intro y hy;simp only[aaw] at hy;subst hy;exact Lj _) (by simp[aB];omega) (by simp[aB];omega)
   obtain⟨v2,K2,hap,hA2⟩:=hap;obtain⟨v',K',fr,hJ,hR⟩:=ih (d++[c]) K2 v2 (by simp[hd]) (.inr hA2);refine⟨v',K',fr,?_,hR⟩;rw[ae (L:=xp) rfl];simp[Clu.dv,Clu.cs] at hJ ⊢;simp[AR,h0,hw,hg,Clu.cs,Clu.dv,aC,aO,chunk,dw,hap];exact hJ
theorem DO (s:List UInt8) (hw:bY s=0):∃ v,(E tab).F 273 [.str s] st=some (v,st)∧Lw 1 (fW (cw s)) v:=by
 rw[aK PS rfl];have hs:=(b6 hw).1;have hcs:=(iI s s.length 0).2;obtain⟨_,h33,t,n,tk,nn,rfl,h4,h5⟩:=Ds s (pst st [] []);rw[if_pos hw] at h33 h5;have h3:cw s≠[]→n=3:=fun h=>h4 (by cases nn with | true=>rfl | false=>exact absurd (h5 rfl) (by simpa using h));obtain⟨v',K',fr,hJ,hR⟩:=OG (st:=st) (l:=cw s) (by unfold cw;omega) (t:=t) (tk:=tk) (nn:=nn) h3 [] (cw s) [] [] (.list st.cur 1 .tight true (fW [])) rfl (.inl rfl);simp[fW] at hJ
 have hx:∃ v2,bq st (pst st [] K') v'=some v2∧Lw 1 (fW (cw s)) v2:=by
  rcases hR with rfl|hA
  · exact⟨_,rfl,.list _ _ _ _ (fun _=>rfl) (fun h=>by cases h)⟩
  · obtain⟨a,b,c,d,e1,e2,e3,_⟩:=mZ (st':=pst st [] K') hA;exact⟨_,e1,.list _ _ _ _ e3 e2⟩
 obtain⟨v2,hx,hL⟩:=hx;refine⟨v2,?_,hL⟩
 have hv:∃ a b c d,v'=.list a b c d (fW (cw s)):=by
  rcases hR with rfl|hA
  · exact⟨_,_,_,_,rfl⟩
  · exact bK hA
 obtain⟨a,b,c,d,rfl⟩:=hv;simp[JW,h33,hw,aC,aO,chunk,dw,hJ,-cP];exact hx
theorem eY {n:Nat} {xs:List DV} {v:DV} (h:Lw n xs v):∃ t n' tk nn,v=.list t n' tk nn xs∧(xs≠[]→n'=n)∧(nn=true→n'=n)∧(nn=false→xs=[]):=by
 cases h with
 | list t n' tk nn h1 h2=>exact⟨t,n',tk,nn,rfl,fun hx=>h1 (by cases nn with | true=>rfl | false=>exact absurd (h2 rfl) hx),h1,h2⟩
theorem Oj (a:Int) {l:List Int} (hl:l.length≤5000) {t:Nat} {tk:Tk} {nn:Bool} (H:List HO) (K:List Nat):∀ (r d:List Int),l=d++r →
 ∃ fr,(E tab).C lq [(1,.int .i64 a),(5,.list t 1 tk nn (l.map (DV.int .i64 ·))),(6,.int .i64 d.length)] (pst st H K)=some (if r.any (fun x=>decide (x=a)) then .ret else .exit 0,(4,.bool true)::fr,pst st H K) ∨
   (r.any (fun x=>decide (x=a))=false∧(E tab).C lq [(1,.int .i64 a),(5,.list t 1 tk nn (l.map (DV.int .i64 ·))),(6,.int .i64 d.length)] (pst st H K)=some (.exit 0,fr,pst st H K)):=by
 intro r
 induction r with
 | nil=>
   intro d hd;rw[aaE] at hd;subst hd;refine⟨[(1,.int .i64 a),(5,.list t 1 tk nn (l.map (DV.int .i64 ·))),(6,.int .i64 l.length),(15,.bool false)],.inr ⟨rfl,?_⟩⟩;rw[ae (L:=lq) rfl];simp[v9]
 | cons x r ih=>
   intro d hd;have h0:d.length<l.length:=by simp[hd]
   have hw:IntKind.i64.wrap ((d.length:Int)+1)=((d++[x]).length:Nat):=by rw[ay (by omega)];simp
   have hg:l[d.length]=x:=by simp[hd]
   by_cases hx:x=a
   · refine⟨[],.inl ?_⟩;rw[ae (L:=lq) rfl];simp[v9,h0,hg,hx]
   · obtain⟨fr,hJ⟩:=ih (d++[x]) (by simp[hd]);refine⟨fr,?_⟩;have hr:(x::r).any (fun x=>decide (x=a))=r.any (fun x=>decide (x=a)):=by simp[hx]
     rw[hr]
     have hstep:(E tab).C lq [(1,.int .i64 a),(5,.list t 1 tk nn (l.map (DV.int .i64 ·))),(6,.int .i64 d.length)] (pst st H K)=(E tab).C lq [(1,.int .i64 a),(5,.list t 1 tk nn (l.map (DV.int .i64 ·))),(6,.int .i64 (d++[x]).length)] (pst st H K):=by
      rw[ae (L:=lq) rfl];simp[v9,h0,hg,hx,hw]
     rw[hstep];exact hJ
theorem Iz (s:List UInt8) (a:Int):(E tab).F 257 [.str s,.int .i64 a] st=some (.bool (cY s a),st):=by
 rw[aK RP rfl];by_cases hw:bY s=0
 · have hs:=(b6 hw).1;have hcs:=(iI s s.length 0).2;obtain⟨v,h273,hv⟩:=DO (st:=pst st [] []) s hw;obtain⟨t,n,tk,nn,rfl,h1,_,_⟩:=eY hv;obtain rfl:=h1 (by simp[fW]);have he:fW (cw s)=(0::(cw s).map fun c=>((c.b:Nat):Int)).map (DV.int .i64 ·):=by simp[fW]
   rw[he] at h273
   have hb:cY s a=(0::(cw s).map fun c=>((c.b:Nat):Int)).any (fun x=>decide (x=a)):=by
    simp only[cY,hw,decide_true,aaB,abx,List.any_map]
    congr 1
    simp[eq_comm]
   have hlen:(0::(cw s).map fun c=>((c.b:Nat):Int)).length≤5000:=by simp;unfold cw;omega
   obtain⟨fr,hJ|⟨e,hJ⟩⟩:=Oj (st:=st) a hlen (t:=t) (tk:=tk) (nn:=nn) [] [] _ [] rfl
   · rw[← hb] at hJ;generalize (0::(cw s).map fun c=>((c.b:Nat):Int)).map (DV.int .i64 ·)=X at *
     cases hbb:cY s a with
     | true=>rw[hbb] at hJ;simp at hJ;simp[Ax,kV,hw,h273,hJ]
     | false=>rw[hbb] at hJ;simp at hJ;simp[Ax,kV,hw,h273,hJ]
   · rw[← hb] at e;generalize (0::(cw s).map fun c=>((c.b:Nat):Int)).map (DV.int .i64 ·)=X at *;simp at hJ;simp[Ax,kV,hw,h273,hJ,e]
 · simp[Ax,kV,hw,cY]
end
theorem RL:tab 234=some (.code f234):=by kernel_rfl
theorem Qj:tab 239=some (.code f239):=by kernel_rfl
theorem Pb:tab 211=some (.code f211):=by kernel_rfl
theorem SM:tab 216=some (.code f216):=by kernel_rfl
theorem T5:tab 222=some (.code f222):=by kernel_rfl
theorem Qg:tab 236=some (.code f236):=by kernel_rfl
theorem QQ (x y:Int):ig xI [.int .i64 x,.int .i64 y]=some (.int .i64 (min x y)):=by
 have:(if y<x then y else x)=min x y:=by split<;>omega
 simp[ig,xI,this]
theorem Wa (x y:Int):ig lQ [.int .i64 x,.int .i64 y]=some (.int .i64 (max x y)):=by
 have:(if x<y then y else x)=max x y:=by split<;>omega
 simp[ig,lQ,this]
def cB (p:aI):Int:=if aH p=true then wd (bAt p.text 0) (min (p.pr.size*p.pr.drop) 64)+4 else 0
theorem fp {p:aI} (h:aE p=0):1≤p.pr.size∧p.pr.size≤64∧0≤p.pr.drop∧p.pr.drop≤4∧0≤p.pr.align∧p.pr.align≤3∧p.text.length≤4096:=by
 obtain⟨h1,_,_,hpr,_⟩:=dk h;have:=(b6 h1).1;simp only[cF,fb,aac,decide_eq_true_eq] at hpr;omega
theorem iR {p:aI} (h:aH p=true):aE p=0∧0<p.text.length∧0<(ak p).length:=by
 simp only[aH,aac,decide_eq_true_eq] at h
 have h0:aE p=0:=by
  refine Classical.byContradiction fun hc=>?_;have:ak p=[]:=by unfold ak;rw[if_neg hc]
  rw[this] at h;simp at h
 have hm:=(cD p).at_ ((ak p)[0]'h.2.1) (aaN _);exact⟨h0,by omega,h.2.1⟩
theorem qN (p:aI):0≤cB p∧cB p≤68∧(aH p=true→4≤cB p):=by
 unfold cB;by_cases h:aH p=true
 · have hc:=fp (iR h).1;have h2:2≤p.pr.drop:=by simp only[aH,aac,decide_eq_true_eq] at h;exact h.1
   have hm:(2:Int)≤p.pr.size*p.pr.drop:=by
    have:=Int.mul_le_mul hc.1 h2 (by omega) (by omega);omega
   have h1:1≤min (p.pr.size*p.pr.drop) 64:=by omega
   have h3:min (p.pr.size*p.pr.drop) 64≤64:=by omega
   have:=jV (bAt p.text 0) h1 h3;rw[if_pos h];omega
 · rw[if_neg h];exact⟨by omega,by omega,fun e=>absurd e h⟩
section
variable {st:St} {p:aI} {w u:LW}
theorem rS {t n:Nat} {tk:Tk} {nn:Bool} (h6:ak p≠[]→n=6):(E tab).F 234 [.agg (af p w u),.list t n tk nn ((ak p).map ab.dv)] st=some (.int .i64 (cB p),st):=by
 rw[aK RL rfl];have hV0:((ak p).map ab.dv).length=(ak p).length:=by simp
 have hpd:=vj (p:=p) (w:=w) (u:=u);unfold cB;by_cases h1:2≤p.pr.drop
 · have h1':¬ p.pr.drop<2:=by omega
   by_cases h2:0<(ak p).length
   · have h2':¬ ((ak p).length:Int)=0:=by omega
     have h2b:¬ ak p=[]:=by intro e;rw[e] at h2;simp at h2
     obtain rfl:=h6 h2b;have g0:=dN (L:=ak p) h2;have l0:0<((ak p).map ab.dv).length:=by simpa using h2
     by_cases h3:((ak p).getD 0 mz).k=1
     · have hb:aH p=true:=by simp only[aH,h1,h2,h3,decide_true,aaB,beq_self_eq_true]
       rw[if_pos hb];obtain⟨h0,ht,_⟩:=iR hb;have hc:=fp h0
       have hm:(2:Int)≤p.pr.size*p.pr.drop∧p.pr.size*p.pr.drop≤256:=by
        have a:=Int.mul_le_mul hc.1 h1 (by omega) (by omega);have b:=Int.mul_le_mul hc.2.1 hc.2.2.2.1 hc.2.2.1 (by omega);omega
       have hm1:1≤min (p.pr.size*p.pr.drop) 64:=by omega
       have hm3:min (p.pr.size*p.pr.drop) 64≤64:=by omega
       have hww:=jV (bAt p.text 0) hm1 hm3;have hmin:=QQ (p.pr.size*p.pr.drop) 64;have hsl:cb true 1 (.str p.text) none (some (.int .i64 1)) none=some (.str (p.text.take 1)):=by rw[HW (by omega) (by omega)];simp
       have hW:∀ st,(E tab).F 17 [.str (p.text.take 1),.int .i64 (min (p.pr.size*p.pr.drop) 64)] st=some (.tuple [.int .i64 (wd (bAt p.text 0) (min (p.pr.size*p.pr.drop) 64)),.int .i64 0],st):=by
        intro st
        have e:p.text.take 1=[bAt p.text 0]:=by
         cases hs:p.text with
         | nil=>rw[hs] at ht;simp at ht
         | cons a r=>simp[bAt]
        rw[wv,e];have hw:IntKind.i64.wrap (wd (bAt p.text 0) (min (p.pr.size*p.pr.drop) 64))=wd (bAt p.text 0) (min (p.pr.size*p.pr.drop) 64):=ay (by omega);simp only[gj];rw[if_pos ⟨hm1,hm3⟩];simp[tw,hw]
       have hw2:IntKind.i64.wrap (p.pr.size*p.pr.drop)=p.pr.size*p.pr.drop:=ay (by omega);have hw3:IntKind.i64.wrap (wd (bAt p.text 0) (min (p.pr.size*p.pr.drop) 64)+4)=wd (bAt p.text 0) (min (p.pr.size*p.pr.drop) 64)+4:=ay (by omega);generalize (ak p).getD 0 mz=m at *;generalize (ak p).map ab.dv=V at *;have g0':V[0]'l0=m.dv:=by rw[aaa l0] at g0;exact aab.inj g0
       generalize wd (bAt p.text 0) (min (p.pr.size*p.pr.drop) 64)=W at *;have ht1:(1:Int)≤p.text.length:=by omega
       simp[f234,hpd,h1',hV0,h2b,h2',g0,g0',l0,ab.dv,ab.cs,h3,hw2,hw3,hW,hsl,hmin]
     · have hb:¬ aH p=true:=by
        simp only[aH,aac];rintro⟨_,_,h⟩;exact h3 (by simpa using h)
       rw[if_neg hb];generalize (ak p).getD 0 mz=m at *;generalize (ak p).map ab.dv=V at *;have g0':V[0]'l0=m.dv:=by rw[aaa l0] at g0;exact aab.inj g0
       simp[f234,hpd,h1',hV0,h2b,h2',g0,g0',l0,ab.dv,ab.cs,h3]
   · have h2':ak p=[]:=aa3.1 (by omega);have hb:¬ aH p=true:=by simp[aH,h2']
     rw[if_neg hb,h2'];simp[f234,hpd,h1']
 · have h1':p.pr.drop<2:=by omega
   have hb:¬ aH p=true:=by simp only[aH,aac,decide_eq_true_eq];rintro⟨h,_⟩;exact h1 h
   rw[if_neg hb];generalize (ak p).map ab.dv=V at *;simp[f234,hpd,h1']
theorem sW (hp:p.small) (hw:w.ok 4 p.aF) (hu:u.ok 1 p.marks):(E tab).F 239 [.agg (af p w u)] st=some (.int .i64 (cB p),st):=by
 rw[aK Qj rfl];obtain⟨_,hm,v,rfl,hv⟩:=s7 p hp w u hw hu (pst st [.cells .plain (af p w u)] []);have hd:=fun st=>rz (st:=st) (p:=p) (w:=w) (u:=u) (L:=ak p) (t:=v.t) (n:=v.n) (tk:=v.tk) (nn:=v.nn) hv.n;have hdB:(decide (2≤p.pr.drop)&&(decide (0<(ak p).length)&&((ak p).getD 0 mz).k==1))=aH p:=rfl;rw[hdB] at hd;have hpd:=vj (p:=p) (w:=w) (u:=u);unfold cB
 cases hb:aH p with
 | true=>
   obtain⟨h0,ht,_⟩:=iR hb;have hc:=fp h0;have h1:2≤p.pr.drop:=by simp only[aH,aac,decide_eq_true_eq] at hb;exact hb.1
   have hm':(2:Int)≤p.pr.size*p.pr.drop∧p.pr.size*p.pr.drop≤256:=by
    have a:=Int.mul_le_mul hc.1 h1 (by omega) (by omega);have b:=Int.mul_le_mul hc.2.1 hc.2.2.2.1 hc.2.2.1 (by omega);omega
   have hm1:1≤min (p.pr.size*p.pr.drop) 64:=by omega
   have hm3:min (p.pr.size*p.pr.drop) 64≤64:=by omega
   have hww:=jV (bAt p.text 0) hm1 hm3;have hmin:=QQ 64 (p.pr.size*p.pr.drop);rw[show min 64 (p.pr.size*p.pr.drop)=min (p.pr.size*p.pr.drop) 64 by omega] at hmin;have hw2:IntKind.i64.wrap (p.pr.size*p.pr.drop)=p.pr.size*p.pr.drop:=ay (by omega);have hw3:IntKind.i64.wrap (wd (bAt p.text 0) (min (p.pr.size*p.pr.drop) 64)+4)=wd (bAt p.text 0) (min (p.pr.size*p.pr.drop) 64)+4:=ay (by omega);have hbw:=fun st=>gE (bAt p.text 0) (min (p.pr.size*p.pr.drop) 64) st;have hby:=lz ht;rw[show p.text.getD 0 0=bAt p.text 0 from rfl] at hby;have hby':p.text[0]=bAt p.text 0:=by rw[aaa ht] at hby;exact aab.inj hby
   generalize wd (bAt p.text 0) (min (p.pr.size*p.pr.drop) 64)=W at *;generalize (ak p).map ab.dv=V at *;simp only[if_true];simp[f239,hm,hd,hb,hpd,hw2,hw3,hmin,hbw,hby,hby',aM,bM,bR,bQ,aR]
 | false=>
   generalize (ak p).map ab.dv=V at *;simp[f239,hm,hd,hb]
theorem J5 (hp:p.small) (hw:w.ok 4 p.aF) (hu:u.ok 1 p.marks):(E tab).F 211 [.agg (af p w u)] st=some (.tuple [.int .i64 (cB p),.int .i64 (aE p)],st):=by
 rw[aK Pb rfl];obtain⟨_,hm,v,rfl,hv⟩:=ra p hp w u hw hu (pst st [.cells .plain (af p w u)] []);have hc:=fun st=>rS (st:=st) (p:=p) (w:=w) (u:=u) (t:=v.t) (tk:=v.tk) (nn:=v.nn) hv.n;by_cases h0:aE p=0
 · generalize (ak p).map ab.dv=V at *;simp[f211,hm,h0,hc]
 · have hb:¬ aH p=true:=fun h=>h0 (iR h).1;have hcp:cB p=0:=by unfold cB;rw[if_neg hb]
   generalize (ak p).map ab.dv=V at *;simp[f211,hm,h0,hcp]
theorem JP (hp:p.small) (hw:w.ok 4 p.aF) (hu:u.ok 1 p.marks):(E tab).F 216 [.agg (af p w u)] st=some (.tuple [.int .i64 (cB p),.int .i64 (aE p)],st):=by
 rw[aK SM rfl];have hm:=fun st=>qK p hp w u hw hu st;have hc:=fun st=>sW (st:=st) hp hw hu;by_cases h0:aE p=0
 · simp[f216,hm,h0,hc]
 · have hb:¬ aH p=true:=fun h=>h0 (iR h).1;have hcp:cB p=0:=by unfold cB;rw[if_neg hb]
   simp[f216,hm,h0,hcp]
structure Ln where
 f:Int
 t:Int
 x:Int
 w:Int
 n:Int
 h:Bool
 g:Int
def Ln.cs (l:Ln):List DV:=[.int .i64 l.f,.int .i64 l.t,.int .i64 l.x,.int .i64 l.w,.int .i64 l.n,.bool l.h,.int .i64 l.g]
def Ln.dv (l:Ln):DV:=.agg l.cs
def c8 (s:List UInt8) (l:Ln):Bool:=decide (l.f≤l.t)&&cY s l.f&&cY s l.t&&decide (0≤l.x)&&decide (l.x≤4095)&&decide (0≤l.w)&&decide (l.w≤4095)
theorem eI:(af p w u)[0]? = some (.str p.text):=rfl
theorem Fw (l:Ln):(E tab).F 222 [.agg (af p w u),.agg l.cs] st=some (.bool (c8 p.text l),st):=by
 rw[aK T5 rfl];have hb:=fun t st=>Ff (st:=st) p.text t;unfold c8;by_cases h1:l.f≤l.t;rotate_left
 · simp[f222,Ln.cs,eI,hb,h1]
 by_cases h2:cY p.text l.f=true;rotate_left
 · simp[f222,Ln.cs,eI,hb,h1,h2]
 by_cases h3:cY p.text l.t=true;rotate_left
 · simp[f222,Ln.cs,eI,hb,h1,h2,h3]
 by_cases h4:0≤l.x;rotate_left
 · simp[f222,Ln.cs,eI,hb,h1,h2,h3,h4]
 by_cases h5:l.x≤4095;rotate_left
 · simp[f222,Ln.cs,eI,hb,h1,h2,h3,h4,h5]
 by_cases h6:0≤l.w;rotate_left
 · simp[f222,Ln.cs,eI,hb,h1,h2,h3,h4,h5,h6]
 by_cases h7:l.w≤4095;rotate_left
 · simp[f222,Ln.cs,eI,hb,h1,h2,h3,h4,h5,h6,h7]
 simp[f222,Ln.cs,eI,hb,h1,h2,h3,h4,h5,h6,h7]
theorem Ms (l:Ln):(E tab).F 236 [.agg (af p w u),.agg l.cs] st=some (.bool (c8 p.text l),st):=by
 rw[aK Qg rfl];have hb:=fun t st=>Iz (st:=st) p.text t;unfold c8;by_cases h4:0≤l.x;rotate_left
 · simp[f236,Ln.cs,eI,hb,h4]
 by_cases h5:l.x≤4095;rotate_left
 · simp[f236,Ln.cs,eI,hb,h4,h5]
 by_cases h6:0≤l.w;rotate_left
 · simp[f236,Ln.cs,eI,hb,h4,h5,h6]
 by_cases h7:l.w≤4095;rotate_left
 · simp[f236,Ln.cs,eI,hb,h4,h5,h6,h7]
 by_cases h1:l.f≤l.t;rotate_left
 · simp[f236,Ln.cs,eI,hb,h4,h5,h6,h7,h1]
 by_cases h2:cY p.text l.f=true;rotate_left
 · simp[f236,Ln.cs,eI,hb,h4,h5,h6,h7,h1,h2]
 by_cases h3:cY p.text l.t=true;rotate_left
 · simp[f236,Ln.cs,eI,hb,h4,h5,h6,h7,h1,h2,h3]
 simp[f236,Ln.cs,eI,hb,h4,h5,h6,h7,h1,h2,h3]
end
theorem l4 {st:St} {H:List HO} {K:List Nat} {n1 n by_:Nat} {ag:Bool} {xs ys zs:List DV} {v1 v w:DV} {o1 o:Option Nat} (h1:Ac st K n1 xs v1 o1) (h:Ac st K n ys v o) (hd:∀ k,o1=some k→o≠some k) (hw:Vw (pst st H K) n ag zs w) (hn:0<n) (hy:zs≠[]) (he:∀ y∈zs,dX n ag y)
 (hr:(ys.length+zs.length)*by_≤aB) (hr2:ys.length+zs.length≤aB) :
 ∃ v' K' k,aZ (pst st H K) n ag by_ v w=some (v',pst st H K')∧Ac st K' n (ys++zs) v' (some k)∧Ac st K' n1 xs v1 o1∧∀ j,o1=some j→some k≠some j:=by
 obtain⟨v',K',k,e1,e2,e3,e4⟩:=wE h hw hn hy he hr hr2
 have hne:o1≠some k:=by
  intro e;rcases e3 with e3 | ⟨_,e3⟩
  · exact hd k e e3
  · subst e;obtain⟨s,_,hs⟩:=h1;have:=(aad.1 hs).1;omega
 exact⟨v',K',k,e1,e2,h1.stay hne e4,fun j e e'=>hne (by rw[e,← e'])⟩
theorem gw {st:St} {K:List Nat} {n:Nat} {xs:List DV} {v:DV} {o:Option Nat} (h:Ac st K n xs v o):∃ t n' tk nn,v=.list t n' tk nn xs∧(xs≠[]→n'=n∧nn=true)∧(nn=true→n'=n)∧(nn=false→xs=[]):=by
 cases o with
 | none=>
   obtain⟨rfl,t,n',tk,rfl⟩:=h;exact⟨_,_,_,_,rfl,fun h=>absurd rfl h,(fun h=>by cases h),fun _=>rfl⟩
 | some k=>
   obtain⟨s,rfl,_⟩:=h;exact⟨_,_,_,_,rfl,fun _=>⟨rfl,rfl⟩,fun _=>rfl,(fun h=>by cases h)⟩
theorem SL:tab 223=some (.code f223):=by kernel_rfl
theorem Sv:tab 252=some (.code Er):=by kernel_rfl
def ep (m:ab):Bool:=m.k==3||m.k==5
def inR (f t:Int) (m:ab):Bool:=decide (f≤m.a)&&decide (m.a<t)
def eB (a:Int):DV×DV:=(.int .i64 a,.bool true)
def dT (D:Bool) (f t:Int) (m:ab):Bool:=inR f t m && !(decide (m.a=0)&&D)
def rowOf (D:Bool) (f t:Int) (L:List ab):List ab:=L.filter (dT D f t)
def dn (D:Bool) (c f t:Int) (L:List ab):Int:=if D&&L.any (fun m=>inR f t m&&decide (m.a=0)) then c else 0
def krs (S:List Int):Nat→List ab→List Bool
 | _,[]=>[]
 | k,m::r=>(decide (0<k) && !decide (m.a∈S))::krs S (k+1) r
theorem BX (S:List Int):∀ (l r:List ab) (k:Nat),krs S k (l++r)=krs S k l++krs S (k+l.length) r
 | [],r,k=>by simp[krs]
 | m::l,r,k=>by simp[krs,BX S l r (k+1),Nat.add_comm,Nat.add_left_comm]
theorem C8 (S:List Int):∀ (l:List ab) (k:Nat),(krs S k l).length=l.length
 | [],k=>rfl
 | m::l,k=>by simp[krs,C8 S l (k+1)]
def fZ (l:List ab):Nat→Nat
 | 0=>0
 | b+1=>if ep (l.getD b mz) then fZ l b else b+1
theorem cr (l:List ab):∀ b,fZ l b≤b
 | 0=>aai _
 | b+1=>by unfold fZ;have:=cr l b;split<;>omega
def eU (l:List ab) (s:Nat):Nat→Nat→Nat
 | 0,i=>i
 | n+1,i=>if i<s∧(l.getD i mz).k=3 then eU l s n (i+1) else i
theorem HX (a:Int):∀ (S:List Int) (i:Nat),(a∉S∧findD [.int] (.int .i64 a) (S.map eB) i=some none)∨(a∈S∧∃ j,S[j]? = some a∧findD [.int] (.int .i64 a) (S.map eB) i=some (some (i+j,.bool true)))
 | [],i=>.inl ⟨by simp,rfl⟩
 | b::r,i=>by
   by_cases h:a=b
   · subst h;exact .inr ⟨by simp,0,rfl,by simp[findD,eB,jh,cA]⟩
   · have hb:(a==b)=false:=by rw[beq_eq_false_iff_ne];exact h
     have e:∀ r,findD [.int] (.int .i64 a) (eB b::r) i=findD [.int] (.int .i64 a) r (i+1):=by
      intro r;simp[findD,eB,jh,cA,hb]
     rcases HX a r (i+1) with ⟨h1,h2⟩ | ⟨h1,j,h2,h3⟩
     · exact .inl ⟨by simp[h,h1],by rw[aaH,e];exact h2⟩
     · exact .inr ⟨by simp[h1],j+1,h2,by rw[aaH,e,h3];congr 3;omega⟩
theorem Ge (a:Int):∀ (S:List Int) (j:Nat),S[j]? = some a→(S.map eB).modify j (fun _=>(.int .i64 a,.bool true))=S.map eB
 | [],j,h=>by simp at h
 | b::r,0,h=>by simp at h;subst h;rfl
 | b::r,j+1,h=>by simp[List.modify_succ_cons,Ge a r j (by simpa using h)]
section
variable {st:St}
theorem G8 (m:ab):(E tab).F 252 [m.dv] st=some (.bool (ep m),st):=by
 rw[aK Sv rfl];by_cases h1:m.k=3
 · simp[Er,ep,ab.dv,ab.cs,h1]
 by_cases h2:m.k=5
 · simp[Er,ep,ab.dv,ab.cs,h2]
 · simp[Er,ep,ab.dv,ab.cs,h1,h2]
theorem Ou {l:List It} (hl:l.length≤200000) {t n:Nat} {tk:Tk} {nn:Bool} (h8:l≠[]→n=8) (mv:DV) (x0 x1 x2:HO) (K:List Nat):∀ (r d:List It) (S:List Int) (J:List HO),l=d++r →
 ∃ (S':List Int) (J':List HO) (fr:Fr),(E tab).C rA [(2,.ptr st.heap.length 0),(3,.ptr (st.heap.length+1) 0),(4,.ptr (st.heap.length+2) 0),(5,mv),(9,.map (st.heap.length+3)),(29,.list t n tk nn (l.map It.dv)),(30,.int .i64 l.length),(31,.int .i64 d.length)] (pst st (x0::x1::x2::.map (S.map eB)::J) K) =
   some (.exit 0,(2,.ptr st.heap.length 0)::(3,.ptr (st.heap.length+1) 0)::(4,.ptr (st.heap.length+2) 0)::(5,mv)::(9,.map (st.heap.length+3))::fr,pst st (x0::x1::x2::.map (S'.map eB)::J') K) ∧
   ∀ a,a∈S'↔a∈S∨∃ x∈r,x.k=3∧x.f=a:=by
 intro r
 induction r with
 | nil=>
   intro d S J hd;rw[aaE] at hd;subst hd;refine⟨S,J,[(29,.list t n tk nn (l.map It.dv)),(30,.int .i64 l.length),(31,.int .i64 l.length),(32,.bool false)],?_,by simp⟩;rw[ae (L:=rA) rfl];simp[vO]
 | cons x r ih=>
   intro d S J hd;have h0:d.length<l.length:=by simp[hd]
   obtain rfl:=h8 (by rw[hd];simp);have hw:IntKind.i64.wrap ((d.length:Int)+1)=((d++[x]).length:Nat):=by rw[ay (by omega)];simp
   have hg:l[d.length]=x:=by simp[hd]
   by_cases h3:x.k=3
   · have hms:∃ S2:List Int,gF (pst st (x0::x1::x2::.map (S.map eB)::(J++[.cells .plain x.cs])) K) [.int] (.map (st.heap.length+3)) (.int .i64 x.f) (.bool true)=some (pst st (x0::x1::x2::.map (S2.map eB)::(J++[.cells .plain x.cs])) K)∧∀ a,a∈S2↔a∈S∨a=x.f:=by
      rcases HX x.f S 0 with ⟨h1,h2⟩ | ⟨h1,j,h2,h3⟩
      · refine⟨S++[x.f],?_,by simp⟩;rw[kI (m:=3) (es:=S.map eB) rfl h2];simp[eB]
      · refine⟨S,?_,fun a=>⟨.inl,?_⟩⟩
        · rw[qb (m:=3) (es:=S.map eB) rfl h3,aar,Ge _ _ _ h2];simp
        · rintro (h|rfl)
          · exact h
          · exact h1
     obtain⟨S2,hms,hS2⟩:=hms;obtain⟨S',J',fr,hJ,hR⟩:=ih (d++[x]) S2 (J++[.cells .plain x.cs]) (by simp[hd]);refine⟨S',J',fr,?_,fun a=>?_⟩
     · rw[ae (L:=rA) rfl];simp[It.cs,It.dv,h3] at hms hJ ⊢;have hkf:∀ s:Int,gX [.int] (.int .i64 s)=true:=fun _=>rfl;simp[vO,h0,hw,hg,It.cs,It.dv,h3,hms,hkf];exact hJ
     · rw[hR,hS2];constructor
       · rintro ((h|h) | ⟨y,hy,h⟩)
         · exact .inl h
         · exact .inr ⟨x,by simp,h3,h.symm⟩
         · exact .inr ⟨y,by simp[hy],h⟩
       · rintro (h|⟨y,hy,h,h'⟩)
         · exact .inl (.inl h)
         · rcases aas.1 hy with rfl|hy
           · exact .inl (.inr h'.symm)
           · exact .inr ⟨y,hy,h,h'⟩
   · obtain⟨S',J',fr,hJ,hR⟩:=ih (d++[x]) S (J++[.cells .plain x.cs]) (by simp[hd]);refine⟨S',J',fr,?_,fun a=>?_⟩
     · rw[ae (L:=rA) rfl];simp[It.cs,It.dv] at hJ ⊢;simp[vO,h0,hw,hg,It.cs,It.dv,h3];exact hJ
     · rw[hR];constructor
       · rintro (h|⟨y,hy,h⟩)
         · exact .inl h
         · exact .inr ⟨y,by simp[hy],h⟩
       · rintro (h|⟨y,hy,h,h'⟩)
         · exact .inl h
         · rcases aas.1 hy with rfl|hy
           · exact absurd h h3
           · exact .inr ⟨y,hy,h,h'⟩
end
section
variable {st:St}
theorem uD (D:Bool) (f t:Int) (l r:List ab):rowOf D f t (l++r)=rowOf D f t l++rowOf D f t r:=List.filter_append ..
theorem Fb (D:Bool) (c f t:Int) (l:List ab) (m:ab):dn D c f t (l++[m])=if D&&(inR f t m&&decide (m.a=0)) then c else dn D c f t l:=by
 unfold dn
 cases D with
 | false=>simp
 | true=>
   simp only[aaB,List.any_append,abx,List.any_nil,Bool.or_false];cases inR f t m&&decide (m.a=0)<;>simp
theorem Gn {st:St} {H:List HO} {K:List Nat} {S:List Int} (h:H[3]? = some (.map (S.map eB))) (a:Int):db (pst st H K) [.int] (.bool false) (.map (st.heap.length+3)) (.int .i64 a) false=some (.bool (decide (a∈S))):=by
 rcases HX a S 0 with ⟨h1,h2⟩ | ⟨h1,j,_,h3⟩
 · simp only[db,cL,h,h2,h1,decide_false];rfl
 · simp only[db,cL,h,h3,h1,decide_true];rfl
theorem US (b:Bool):dX 1 false (.bool b):=⟨rfl,rfl,rfl⟩
theorem Of {p:aI} {w u:LW} {l:Ln} {S:List Int} {t n:Nat} {tk:Tk} {nn:Bool} (h6:ak p≠[]→n=6) {A:List HO}
 (hA0:∀ X,rowAt (A++X) 0=some (.plain,af p w u)) (hA1:∀ X,rowAt (A++X) 1=some (.plain,l.cs)) (hA3:∀ X:List HO,(A++X)[3]? = some (.map (S.map eB))) :
 ∀ (r d:List ab) (J:List HO) (K:List Nat) (lv kv:DV) (o1 o2:Option Nat),ak p=d++r→Ac st K 6 ((rowOf (aH p) l.f l.t d).map ab.dv) lv o1→Ac st K 1 ((krs S 0 (rowOf (aH p) l.f l.t d)).map DV.bool) kv o2→(∀ k,o1=some k→o2≠some k) →
 ∃ (lv' kv':DV) (K':List Nat) (J':List HO) (o1' o2':Option Nat) (fr:Fr),(E tab).C pH [(2,.ptr st.heap.length 0),(3,.ptr (st.heap.length+1) 0),(4,.ptr (st.heap.length+2) 0),(5,.list t n tk nn ((ak p).map ab.dv)),(9,.map (st.heap.length+3)),(12,.ptr (st.heap.length+A.length) 0),(42,.list t n tk nn ((ak p).map ab.dv)),(43,.int .i64 (ak p).length),(44,.int .i64 d.length)]
  (pst st (A++.cells .plain [lv,kv,.int .i64 0,.int .i64 0,.int .i64 (dn (aH p) (cB p) l.f l.t d),.int .i64 0]::J) K) =
  some (.exit 2,(2,.ptr st.heap.length 0)::(3,.ptr (st.heap.length+1) 0)::(4,.ptr (st.heap.length+2) 0)::(5,.list t n tk nn ((ak p).map ab.dv))::(9,.map (st.heap.length+3))::(12,.ptr (st.heap.length+A.length) 0)::fr,
   pst st (A++.cells .plain [lv',kv',.int .i64 0,.int .i64 0,.int .i64 (dn (aH p) (cB p) l.f l.t (ak p)),.int .i64 0]::J') K') ∧
  Ac st K' 6 ((rowOf (aH p) l.f l.t (ak p)).map ab.dv) lv' o1'∧Ac st K' 1 ((krs S 0 (rowOf (aH p) l.f l.t (ak p))).map DV.bool) kv' o2':=by
 intro r
 induction r with
 | nil=>
   intro d J K lv kv o1 o2 hd a1 a2 _;rw[aaE] at hd;rw[← hd] at a1 a2 ⊢;refine⟨lv,kv,K,J,o1,o2,[(42,.list t n tk nn ((ak p).map ab.dv)),(43,.int .i64 (ak p).length),(44,.int .i64 (ak p).length),(45,.bool false)],?_,a1,a2⟩;rw[ae (L:=pH) rfl];simp[kp]
 | cons m r ih=>
   intro d J K lv kv o1 o2 hd a1 a2 hdj;have hlen:=l6 p;have h0:d.length<(ak p).length:=by rw[hd];simp
   obtain rfl:=h6 (by rw[hd];simp);have hw:IntKind.i64.wrap ((d.length:Int)+1)=((d++[m]).length:Nat):=by rw[ay (by omega)];simp
   have hg0:(ak p)[d.length]? = some m:=by rw[hd];simp
   have hV:((ak p).map ab.dv)[d.length]? = some m.dv:=by rw[aaG,hg0];rfl
   have hVl:((ak p).map ab.dv).length=(ak p).length:=by simp
   have hcap:=fun st=>rS (st:=st) (p:=p) (w:=w) (u:=u) (t:=t) (n:=6) (tk:=tk) (nn:=nn) (fun _=>rfl);have hro:=uD (aH p) l.f l.t d [m];have hdr:=Fb (aH p) (cB p) l.f l.t d m;have hcp:=qN p;have hla:l.cs[0]? = some (.int .i64 l.f):=rfl;have hlb:l.cs[1]? = some (.int .i64 l.t):=rfl;have hV':((ak p).map ab.dv)[d.length]'(by rw[hVl];exact h0)=m.dv:=by rw[aaa (by rw[hVl];exact h0)] at hV;exact aab.inj hV
   have hl0:d.length<((ak p).map ab.dv).length:=by rw[hVl];exact h0
   by_cases hin:inR l.f l.t m=true
   · have hin':=hin;simp only[inR,aac,decide_eq_true_eq] at hin';have c1:¬ m.a<l.f:=by omega
     have c2:¬ l.t≤m.a:=by omega
     by_cases hz:m.a=0∧aH p=true
     · have hk:rowOf (aH p) l.f l.t (d++[m])=rowOf (aH p) l.f l.t d:=by rw[hro];simp[rowOf,dT,hz.1,hz.2]
       have hd2:dn (aH p) (cB p) l.f l.t (d++[m])=cB p:=by rw[hdr,if_pos (by simp[hin,hz.1,hz.2])]
       obtain⟨lv',kv',K',J',o1',o2',fr,hJ,hR⟩:=ih (d++[m]) (J++[.cells .plain m.cs]) K lv kv o1 o2 (by rw[hd];simp) (by rw[hk];exact a1) (by rw[hk];exact a2) hdj;refine⟨lv',kv',K',J',o1',o2',fr,?_,hR⟩;have hcg:0<cB p:=by have:=hcp.2.2 hz.2;omega
       rw[hd2] at hJ;rw[ae (L:=pH) rfl];generalize (ak p).map ab.dv=V at *;rw[hz.1] at c1 c2;simp[ab.cs,hz.1] at hJ ⊢;simp[kp,h0,hw,hVl,hV,hV',hl0,hA0,hA1,hla,hlb,c1,c2,hz.1,hcap,hcg,ab.cs,ab.dv];simpa using hJ
     · have hk:rowOf (aH p) l.f l.t (d++[m])=rowOf (aH p) l.f l.t d++[m]:=by
        rw[hro]
        have:(decide (m.a=0)&&aH p)=false:=by
         rw[aby];by_cases e:m.a=0
         · right;cases hb:aH p<;>simp_all
         · left;simp[e]
        simp[rowOf,dT,hin,this]
       have hd2:dn (aH p) (cB p) l.f l.t (d++[m])=dn (aH p) (cB p) l.f l.t d:=by
        rw[hdr,if_neg];simp only[hin,aaB,aac,decide_eq_true_eq];rintro⟨e1,e2⟩;exact hz ⟨e2,e1⟩
       have hxl:(rowOf (aH p) l.f l.t d).length≤d.length:=aaO ..;have hkl:=C8 S (rowOf (aH p) l.f l.t d) 0;generalize hxs:rowOf (aH p) l.f l.t d=xs at *;have hkx:krs S 0 (xs++[m])=krs S 0 xs++[decide (0<xs.length) && !decide (m.a∈S)]:=by rw[BX];simp[krs]
       obtain⟨kv2,K1,k2,e2,b2,b1,hd1⟩:=l4 (H:=A++.cells .plain [lv,kv,.int .i64 0,.int .i64 0,.int .i64 (dn (aH p) (cB p) l.f l.t d),.int .i64 0]::(J++[.cells .plain m.cs])) (by_:=1) (ag:=false) (zs:=[.bool (decide (0<xs.length) && !decide (m.a∈S))]) (w:=.list st.cur 1 .tight true [.bool (decide (0<xs.length) && !decide (m.a∈S))]) a1 a2 hdj (Lw.vw (.list _ _ _ _ (fun _=>rfl) (fun h=>by cases h))) (by omega) (by simp) (by intro y hy;simp only[aaw] at hy;subst hy;exact US _) (by simp[aB];omega) (by simp[aB];omega);obtain⟨lv2,K2,k1,e1,fu1,fu2,hd2'⟩:=l4 (H:=A++.cells .plain [lv,kv2,.int .i64 0,.int .i64 0,.int .i64 (dn (aH p) (cB p) l.f l.t d),.int .i64 0]::(J++[.cells .plain m.cs])) (by_:=48) (ag:=true) (zs:=[m.dv]) (w:=.list st.cur 6 .tight true [m.dv]) b2 b1 (fun k e e'=>hd1 k e' e) (Lw.vw (.list _ _ _ _ (fun _=>rfl) (fun h=>by cases h))) (by omega) (by simp) (by intro y hy;simp only[aaw] at hy;subst hy;exact oA _) (by simp[aB];omega) (by simp[aB];omega);obtain⟨lv',kv',K',J',o1',o2',fr,hJ,hR⟩:=ih (d++[m]) (J++[.cells .plain m.cs]) K2 lv2 kv2 (some k1) (some k2) (by rw[hd];simp) (by rw[hk];simpa using fu1) (by rw[hk,hkx];simpa using fu2) (fun k e e'=>hd2' k e' e);refine⟨lv',kv',K',J',o1',o2',fr,?_,hR⟩;rw[hd2] at hJ;rw[ae (L:=pH) rfl];have hlk:=fun (X:List HO) (K:List Nat)=>Gn (st:=st) (K:=K) (hA3 X) m.a;have hkf:∀ s:Int,gX [.int] (.int .i64 s)=true:=fun _=>rfl;obtain⟨t1,n1,tk1,nn1,rfl,_⟩:=gw a1;obtain⟨t2,n2,tk2,nn2,rfl,_⟩:=gw b2;obtain⟨t3,n3,tk3,nn3,rfl,_⟩:=gw fu1;generalize dn (aH p) (cB p) l.f l.t d=dd at *;generalize dn (aH p) (cB p) l.f l.t (ak p)=de at *;generalize (krs S 0 xs).map DV.bool++[DV.bool (decide (0<xs.length) && !decide (m.a∈S))]=KV at *;generalize (ak p).map ab.dv=V at *;have hxm:(xs.map ab.dv).length=xs.length:=by simp
       generalize xs.map ab.dv=XV at *;by_cases hz0:m.a=0
       · have hD:aH p=false:=by cases hb:aH p with | false=>rfl | true=>exact absurd ⟨hz0,hb⟩ hz
         have hc0:cB p=0:=by unfold cB;rw[hD];rfl
         rw[hz0] at c1 c2 hlk;by_cases hx0:0<xs.length
         · have hx1:(0:Int)<xs.length:=by omega
           simp[ab.cs,ab.dv,hz0,hx0,aaR.1 hx0] at e1 e2 hJ ⊢;simp[kp,h0,hw,hVl,hV,hV',hl0,hA0,hA1,hla,hlb,c1,c2,hz0,hcap,hc0,ab.cs,ab.dv,hxm,hx1,hx0,hlk,hkf,aC,aO,chunk,e1,e2,aaR.1 hx0];simpa using hJ
         · have hx1:xs=[]:=aa3.1 (by omega);subst hx1;simp[ab.cs,ab.dv,hz0] at e1 e2 hJ hxm ⊢;subst hxm;simp[kp,h0,hw,hVl,hV,hV',hl0,hA0,hA1,hla,hlb,c1,c2,hz0,hcap,hc0,ab.cs,ab.dv,hlk,hkf,aC,aO,chunk,e1,e2];simpa using hJ
       · by_cases hx0:0<xs.length
         · have hx1:(0:Int)<xs.length:=by omega
           simp[ab.cs,ab.dv,hx0,aaR.1 hx0] at e1 e2 hJ ⊢;simp[kp,h0,hw,hVl,hV,hV',hl0,hA0,hA1,hla,hlb,c1,c2,hz0,ab.cs,ab.dv,hxm,hx1,hx0,hlk,hkf,aC,aO,chunk,e1,e2,aaR.1 hx0];simpa using hJ
         · have hx1:xs=[]:=aa3.1 (by omega);subst hx1;simp[ab.cs,ab.dv] at e1 e2 hJ hxm ⊢;subst hxm;simp[kp,h0,hw,hVl,hV,hV',hl0,hA0,hA1,hla,hlb,c1,c2,hz0,ab.cs,ab.dv,hlk,hkf,aC,aO,chunk,e1,e2];simpa using hJ
   · have hk:rowOf (aH p) l.f l.t (d++[m])=rowOf (aH p) l.f l.t d:=by rw[hro];simp[rowOf,dT,hin]
     have hd2:dn (aH p) (cB p) l.f l.t (d++[m])=dn (aH p) (cB p) l.f l.t d:=by rw[hdr,if_neg (by simp[hin])]
     obtain⟨lv',kv',K',J',o1',o2',fr,hJ,hR⟩:=ih (d++[m]) (J++[.cells .plain m.cs]) K lv kv o1 o2 (by rw[hd];simp) (by rw[hk];exact a1) (by rw[hk];exact a2) hdj;refine⟨lv',kv',K',J',o1',o2',fr,?_,hR⟩;rw[hd2] at hJ;rw[ae (L:=pH) rfl];generalize (ak p).map ab.dv=V at *;simp[ab.cs] at hJ ⊢;by_cases c1:m.a<l.f
     · simp[kp,h0,hw,hVl,hV,hV',hl0,hA0,hA1,hla,hlb,c1,ab.cs,ab.dv];simpa using hJ
     · have c2:l.t≤m.a:=by
        refine Classical.byContradiction fun h=>hin ?_;simp only[inR,aac,decide_eq_true_eq];omega
       simp[kp,h0,hw,hVl,hV,hV',hl0,hA0,hA1,hla,hlb,c1,c2,ab.cs,ab.dv];simpa using hJ
end
def hsz (z:Int) (zs:List ab):Int:=zs.foldl (fun z m=>if m.k=5 then m.s else z) z
def lD (lv kv:DV) (a s:Nat) (d h:Int):HO:=.cells .plain [lv,kv,.int .i64 a,.int .i64 s,.int .i64 d,.int .i64 h]
section
variable {st:St} {xs:List ab} {t n:Nat} {tk:Tk} {nn:Bool} {kv:DV}
theorem LP (hl:xs.length≤4096) (h6:xs≠[]→n=6) (A J:List HO) (K:List Nat) (dd:Int):∀ b,b≤xs.length→∃ fr,
 (E tab).C th [(2,.ptr st.heap.length 0),(3,.ptr (st.heap.length+1) 0),(4,.ptr (st.heap.length+2) 0),(12,.ptr (st.heap.length+A.length) 0)] (pst st (A++lD (.list t n tk nn (xs.map ab.dv)) kv 0 b dd 0::J) K) =
  some (.exit 4,(2,.ptr st.heap.length 0)::(3,.ptr (st.heap.length+1) 0)::(4,.ptr (st.heap.length+2) 0)::(12,.ptr (st.heap.length+A.length) 0)::fr,pst st (A++lD (.list t n tk nn (xs.map ab.dv)) kv 0 (fZ xs b) dd 0::J) K):=by
 intro b
 induction b with
 | zero=>
   intro _;rw[ae (L:=th) rfl];simp[lD,vU,fZ]
 | succ b ih=>
   intro hb;have hb':b<xs.length:=by omega
   obtain rfl:=h6 (by intro e;rw[e] at hb';simp at hb');have hw:IntKind.i64.wrap (((b+1:Nat):Int)-1)=(b:Nat):=by rw[ay (by omega)];omega
   have hw':IntKind.i64.wrap (b:Int)=(b:Int):=ay (by omega);have g0:=dN (L:=xs) hb';have l0:b<(xs.map ab.dv).length:=by simpa using hb'
   have hbl:=fun st=>G8 (st:=st) (xs.getD b mz);obtain⟨fr,ih⟩:=ih (by omega);rw[fZ];generalize fZ xs b=T at *;generalize xs.getD b mz=m at *;generalize xs.map ab.dv=V at *;have g0':V[b]'l0=m.dv:=by rw[aaa l0] at g0;exact aab.inj g0
   cases hm:ep m with
   | true=>
     refine⟨fr,?_⟩;rw[ae (L:=th) rfl];simp[lD] at ih ⊢;have hp:(0:Int)<(b:Int)+1:=by omega
     simp[vU,hp,hw',l0,g0',g0,hbl,hm,ab.dv,ab.cs] at ih hbl ⊢;simp[hbl,hm,hw',ih]
   | false=>
     rw[ae (L:=th) rfl];have hp:(0:Int)<(b:Int)+1:=by omega
     simp[lD,vU,hp,hw',l0,g0',g0,ab.dv,ab.cs] at hbl ⊢;simp[hbl,hm,hw']
theorem NN (hl:xs.length≤4096) (h6:xs≠[]→n=6) {A:List HO} {l:Ln} (hA1:∀ X,rowAt (A++X) 1=some (.plain,l.cs)) (J:List HO) (K:List Nat) (dd:Int) {s:Nat} (hs:s≤xs.length):∀ k i,s≤i+k→i≤s→(l.f≠0→i=0)→∃ fr,
 (E tab).C jP [(2,.ptr st.heap.length 0),(3,.ptr (st.heap.length+1) 0),(4,.ptr (st.heap.length+2) 0),(12,.ptr (st.heap.length+A.length) 0)] (pst st (A++lD (.list t n tk nn (xs.map ab.dv)) kv i s dd 0::J) K) =
  some (.exit 6,(2,.ptr st.heap.length 0)::(3,.ptr (st.heap.length+1) 0)::(4,.ptr (st.heap.length+2) 0)::(12,.ptr (st.heap.length+A.length) 0)::fr,pst st (A++lD (.list t n tk nn (xs.map ab.dv)) kv (if l.f=0 then eU xs s k i else 0) s dd 0::J) K):=by
 have hla:l.cs[0]? = some (.int .i64 l.f):=rfl;by_cases hf:l.f=0
 · intro k
   induction k with
   | zero=>
     intro i h1 h2 _;obtain rfl:i=s:=by omega
     rw[ae (L:=jP) rfl];simp[lD,o0,eU,hA1,hla,hf]
   | succ k ih=>
     intro i h1 h2 _;by_cases hi:i<s
     · have hb':i<xs.length:=by omega
       obtain rfl:=h6 (by intro e;rw[e] at hb';simp at hb');have hw:IntKind.i64.wrap ((i:Int)+1)=((i+1:Nat):Int):=by rw[ay (by omega)];omega
       have g0:=dN (L:=xs) hb';have l0:i<(xs.map ab.dv).length:=by simpa using hb'
       obtain⟨fr,ih⟩:=ih (i+1) (by omega) (by omega) (fun h=>absurd hf h);rw[eU];generalize eU xs s k (i+1)=T at *;generalize xs.getD i mz=m at *;generalize xs.map ab.dv=V at *;have g0':V[i]'l0=m.dv:=by rw[aaa l0] at g0;exact aab.inj g0
       by_cases hm:m.k=3
       · refine⟨fr,?_⟩;rw[ae (L:=jP) rfl];simp[lD,hf,hi,hm] at ih ⊢;simp[o0,hA1,hla,hf,hi,hm,hw,l0,g0',g0,ab.dv,ab.cs];simpa using ih
       · rw[ae (L:=jP) rfl];simp[lD,o0,hA1,hla,hf,hi,hm,l0,g0',g0,ab.dv,ab.cs]
     · obtain rfl:i=s:=by omega
       rw[ae (L:=jP) rfl];simp[lD,o0,eU,hA1,hla,hf]
 · intro k i _ _ h;obtain rfl:=h hf;rw[ae (L:=jP) rfl];simp[lD,o0,hA1,hla,hf]
theorem N7 {zs:List ab} (hl:zs.length≤4096) (h6:zs≠[]→n=6) (a4 a12:DV):∀ (r d:List ab) (H:List HO) (K:List Nat) (z:Int),zs=d++r→∃ fr J,
 (E tab).C wJ [(4,a4),(12,a12),(15,.int .i64 z),(161,.list t n tk nn (zs.map ab.dv)),(162,.int .i64 zs.length),(163,.int .i64 d.length)] (pst st H K) =
  some (.exit 8,(4,a4)::(12,a12)::(15,.int .i64 (hsz z r))::fr,pst st (H++J) K):=by
 intro r
 induction r with
 | nil=>
   intro d H K z hd;rw[aaE] at hd;subst hd;refine⟨[(161,.list t n tk nn (zs.map ab.dv)),(162,.int .i64 zs.length),(163,.int .i64 zs.length),(164,.bool false)],[],?_⟩;rw[ae (L:=wJ) rfl];simp[wN,hsz]
 | cons m r ih=>
   intro d H K z hd;have h0:d.length<zs.length:=by simp[hd]
   obtain rfl:=h6 (by rw[hd];simp);have hw:IntKind.i64.wrap ((d.length:Int)+1)=((d++[m]).length:Nat):=by rw[ay (by omega)];simp
   have hg:zs[d.length]=m:=by simp[hd]
   obtain⟨fr,J,hJ⟩:=ih (d++[m]) (H++[.cells .plain m.cs]) K (if m.k=5 then m.s else z) (by simp[hd]);refine⟨fr,.cells .plain m.cs::J,?_⟩;rw[ae (L:=wJ) rfl];have e:hsz z (m::r)=hsz (if m.k=5 then m.s else z) r:=rfl;rw[e];by_cases h5:m.k=5
   · simp[h5,ab.cs] at hJ ⊢;simp[wN,h0,hw,hg,ab.cs,ab.dv,h5];exact hJ
   · simp[h5,ab.cs] at hJ ⊢;simp[wN,h0,hw,hg,ab.cs,ab.dv,h5];exact hJ
end
theorem gy (s:List UInt8) (L:List ab) (pl:List Bool):∀ (l:List ab) (k run fr:Nat),(bk s L pl k run fr l).length≤3*l.length+1
 | [],k,run,fr=>by simp only[bk];split<;>simp
 | m::r,k,run,fr=>by
   simp only[bk,aaJ];split
   · have:=gy s L pl r (k+1) (k+1) (k+1);split<;>simp<;>omega
   · split
     · have:=gy s L pl r (k+1) run fr;omega
     · split
       · have:=gy s L pl r (k+1) run k;simp;omega
       · split
         · have:=gy s L pl r (k+1) run k;simp;omega
         · have:=gy s L pl r (k+1) run fr;omega
theorem rZ (p:aI):(b4 p).length≤200000:=by
 have h1:=(l5 p).len;have:=gy p.text (ca p) (fK p.text (ca p) p.pr.br) (ca p) 0 0 0;unfold b4;omega
structure Sg where
 l:List ab
 kr:List Bool
 ahead:Nat
 aq:Nat
 drop:Int
 dL:Int
def Sg.cs (s:Sg) (lv kv:DV):List DV:=[lv,kv,.int .i64 s.ahead,.int .i64 s.aq,.int .i64 s.drop,.int .i64 s.dL]
def js (p:aI) (a:Int):Bool:=(b4 p).any fun x=>decide (x.k=3)&&decide (x.f=a)
def krP (p:aI):Nat→List ab→List Bool
 | _,[]=>[]
 | k,m::r=>(decide (0<k) && !js p m.a)::krP p (k+1) r
def bx (p:aI) (l:Ln):List ab:=rowOf (aH p) l.f l.t (ak p)
def aV (p:aI) (l:Ln):Nat:=fZ (bx p l) (bx p l).length
def fw (p:aI) (l:Ln):Nat:=if l.f=0 then eU (bx p l) (aV p l) (aV p l) 0 else 0
def kc (p:aI) (l:Ln):Int:=hsz (if 0<aV p l then ((bx p l).getD (aV p l-1) mz).s else p.pr.size) ((bx p l).drop (aV p l))
def aa (p:aI) (l:Ln):Sg:=⟨bx p l,krP p 0 (bx p l),fw p l,aV p l,dn (aH p) (cB p) l.f l.t (ak p),if l.h then hyW (kc p l) else 0⟩
theorem GS {p:aI} {S:List Int} (h:∀ a,a∈S↔∃ x∈b4 p,x.k=3∧x.f=a):∀ (l:List ab) (k:Nat),krs S k l=krP p k l
 | [],k=>rfl
 | m::l,k=>by
   have:decide (m.a∈S)=js p m.a:=by
    unfold js;rw[aaQ];simp only[decide_eq_true_eq,abf,aac,h]
   simp only[krs,krP,GS h l (k+1),this]
theorem Hb {s:List UInt8} {L:List ab} (hL:MOk s L):∀ (zs:List ab) (z:Int),(∀ m∈zs,m∈L)→1≤z∧z≤64→1≤hsz z zs∧hsz z zs≤64
 | [],z,_,h=>h
 | m::zs,z,hm,h=>by
   refine Hb hL zs _ (fun x hx=>hm x (by simp[hx])) ?_;show 1≤(if m.k=5 then m.s else z)∧(if m.k=5 then m.s else z)≤64;by_cases e:m.k=5
   · rw[if_pos e];exact hL.sz m (hm m (by simp))
   · rw[if_neg e];exact h
theorem eP {p:aI} {l:Ln} {m:ab} (h:m∈bx p l):m∈ak p:=(List.mem_filter.1 h).1
theorem oq (p:aI) (l:Ln):(bx p l).length≤4096:=abl (aaO ..) (l6 p)
theorem iA {p:aI} (h0:aE p=0) (l:Ln):1≤kc p l∧kc p l≤64:=by
 have hc:=fp h0;refine Hb (cD p) _ _ (fun m hm=>eP (aaD hm)) ?_;by_cases h:0<aV p l
 · rw[if_pos h];have hle:aV p l≤(bx p l).length:=cr _ _;have hlt:aV p l-1<(bx p l).length:=by omega
   have:=getM hlt;exact(cD p).sz _ (eP (aat this))
 · rw[if_neg h];omega
section
variable {st:St} {p:aI} {w u:LW}
theorem vI (a b c d:DV) (fr:Fr) (st:St):(E tab).C jP ((2,a)::(3,b)::(4,c)::(12,d)::fr) st=(E tab).C jP [(2,a),(3,b),(4,c),(12,d)] st:=by
 unfold jP;rw[pZ];rfl
theorem Jo {n:Int} (hn:1≤n∧n≤64):(E tab).F 17 [.str [45],.int .i64 n] st=some (.tuple [.int .i64 (hyW n),.int .i64 0],st):=by
 have hb:=jV 45 hn.1 hn.2;rw[wv];have hw:IntKind.i64.wrap (wd 45 n)=wd 45 n:=ay (by omega);simp only[gj,if_pos hn];simp[tw,hw,hyW]
theorem sy (h0:aE p=0) (hp:p.small) (hw:w.ok 4 p.aF) (hu:u.ok 1 p.marks) (l:Ln):∃ lv kv,(E tab).F 223 [.agg (af p w u),.agg l.cs] st=some (.agg ((aa p l).cs lv kv),st) ∧
 Lw 6 ((aa p l).l.map ab.dv) lv∧Lw 1 ((aa p l).kr.map DV.bool) kv:=by
 rw[aK SL rfl]
 let R0:List HO:=[.cells .plain (af p w u),.cells .plain l.cs,.cells .plain [.list 0 0 .no false [],.list 0 0 .no false [],.int .i64 0,.int .i64 0,.int .i64 0,.int .i64 0]]
 obtain⟨_,hm,v,rfl,hv⟩:=ra p hp w u hw hu (pst st R0 []);obtain⟨iv,hi,hiv⟩:=IA (st:=pst st R0 []) hp hw hu;rw[if_pos h0] at hiv;obtain⟨ti,ni,tki,nni,rfl,hi8,_,_⟩:=eY hiv;have h8:b4 p≠[]→ni=8:=fun h=>hi8 (by simpa using h);obtain⟨S,J0,fr0,hJ0,hS⟩:=Ou (st:=st) (rZ p) (t:=ti) (tk:=tki) (nn:=nni) h8 (.list v.t v.n v.tk v.nn ((ak p).map ab.dv)) (.cells .plain (af p w u)) (.cells .plain l.cs) (.cells .plain [.list 0 0 .no false [],.list 0 0 .no false [],.int .i64 0,.int .i64 0,.int .i64 0,.int .i64 0]) [] (b4 p) [] [] [] rfl;have hkr:=GS (p:=p) (S:=S) (fun a=>by rw[hS];simp) (bx p l) 0
 obtain⟨lv,kv,K1,J1,o1,o2,fr1,hJ1,a1,a2⟩:=Of (st:=st) (p:=p) (w:=w) (u:=u) (l:=l) (S:=S) (t:=v.t) (n:=v.n) (tk:=v.tk) (nn:=v.nn) hv.n
  (A:=.cells .plain (af p w u)::.cells .plain l.cs::.cells .plain [.list 0 0 .no false [],.list 0 0 .no false [],.int .i64 0,.int .i64 0,.int .i64 0,.int .i64 0]::.map (S.map eB)::J0)
  (fun X=>rfl) (fun X=>rfl) (fun X=>rfl) (ak p) [] [] [] (.list 0 0 .no false []) (.list 0 0 .no false []) none none rfl ⟨rfl,_,_,_,rfl⟩ ⟨rfl,_,_,_,rfl⟩ (by simp)
 change Ac st K1 6 ((bx p l).map ab.dv) lv o1 at a1;change Ac st K1 1 ((krs S 0 (bx p l)).map DV.bool) kv o2 at a2;rw[hkr] at a2;have hrl:=oq p l;obtain⟨t1,n1,tk1,nn1,rfl,b1,b2,b3⟩:=gw a1;obtain⟨t2,n2,tk2,nn2,rfl,c1,c2,c3⟩:=gw a2;have hn1:bx p l≠[]→n1=6:=fun h=>(b1 (by simpa using h)).1;have hsol:aV p l≤(bx p l).length:=cr _ _;obtain⟨fr2,hJ2⟩:=LP (st:=st) (xs:=bx p l) (t:=t1) (tk:=tk1) (nn:=nn1) (kv:=.list t2 n2 tk2 nn2 ((krP p 0 (bx p l)).map DV.bool)) hrl hn1 (.cells .plain (af p w u)::.cells .plain l.cs::.cells .plain [.list 0 0 .no false [],.list 0 0 .no false [],.int .i64 0,.int .i64 0,.int .i64 0,.int .i64 0]::.map (S.map eB)::J0) J1 K1 (dn (aH p) (cB p) l.f l.t (ak p)) (bx p l).length (aai _);obtain⟨fr3,hJ3⟩:=NN (st:=st) (xs:=bx p l) (t:=t1) (tk:=tk1) (nn:=nn1) (kv:=.list t2 n2 tk2 nn2 ((krP p 0 (bx p l)).map DV.bool)) hrl hn1 (A:=.cells .plain (af p w u)::.cells .plain l.cs::.cells .plain [.list 0 0 .no false [],.list 0 0 .no false [],.int .i64 0,.int .i64 0,.int .i64 0,.int .i64 0]::.map (S.map eB)::J0) (l:=l) (fun X=>rfl) J1 K1 (dn (aH p) (cB p) l.f l.t (ak p)) hsol (aV p l) 0 (by omega) (by omega) (fun _=>rfl);change _=some (_,_,pst st (_++lD _ _ 0 (aV p l) _ _::_) _) at hJ2;change _=some (_,_,pst st (_++lD _ _ (fw p l) (aV p l) _ _::_) _) at hJ3;have hx1:∀ st',bq st st' (.list t1 n1 tk1 nn1 ((bx p l).map ab.dv))=some (.list t1 n1 (jc tk1) nn1 ((bx p l).map ab.dv)):=fun st'=>exl _ _ _ _ _ _ _;have hx2:∀ st',bq st st' (.list t2 n2 tk2 nn2 ((krP p 0 (bx p l)).map DV.bool))=some (.list t2 n2 (jc tk2) nn2 ((krP p 0 (bx p l)).map DV.bool)):=fun st'=>exl _ _ _ _ _ _ _;have hVl:((bx p l).map ab.dv).length=(bx p l).length:=by simp
 have hVm:((ak p).map ab.dv).length=(ak p).length:=by simp
 have hVi:((b4 p).map It.dv).length=(b4 p).length:=by simp
 have hl7:l.cs.length=7:=rfl;have hl8:∀ x,x∈l.cs→x.bH=true:=by intro x hx;simp only[Ln.cs,aas,abu,or_false] at hx;rcases hx with rfl | rfl | rfl | rfl | rfl | rfl | rfl<;>rfl
 have hlh:l.cs[5]? = some (.bool l.h):=rfl;refine⟨.list t1 n1 (jc tk1) nn1 ((bx p l).map ab.dv),.list t2 n2 (jc tk2) nn2 ((krP p 0 (bx p l)).map DV.bool),?_,.list _ _ _ _ b2 b3,.list _ _ _ _ c2 c3⟩;simp only[R0] at hm hi;have hdv:dn (aH p) (cB p) l.f l.t []=0:=by simp[dn]
 rw[hdv] at hJ1;simp only[lD] at hJ2 hJ3;have hrs:∀ Z:Int,aa p l=⟨bx p l,krP p 0 (bx p l),fw p l,aV p l,dn (aH p) (cB p) l.f l.t (ak p),if l.h then hyW (kc p l) else 0⟩:=fun _=>rfl;rw[hrs 0];simp only[Sg.cs];by_cases hh:l.h=true
 · have hzok:=iA h0 l;have hwid:=fun st=>Jo (st:=st) hzok;have hdl:((bx p l).drop (aV p l)).length≤4096:=by rw[aa2];omega
   have hsl:=lX (n:=6) (en:=n1) (t:=t1) (tk:=tk1) (nn:=nn1) (xs:=(bx p l).map ab.dv) (k:=.i64) (lo:=aV p l) b2 (by omega) (by rw[hVl];omega);have hdr:((bx p l).map ab.dv).drop ((aV p l:Int)).toNat=((bx p l).drop (aV p l)).map ab.dv:=by rw[List.map_drop];rfl
   rw[hdr,hVl,Int.toNat_natCast] at hsl
   obtain⟨fr4,J4,hJ4⟩:=N7 (st:=st) (zs:=(bx p l).drop (aV p l)) (t:=t1) (n:=n1) (tk:=lI tk1 (bx p l).length (aV p l) (bx p l).length) (nn:=nn1) hdl (fun h=>hn1 (fun e=>h (by rw[e];simp))) (.ptr (st.heap.length+2) 0)
    (.ptr (st.heap.length+(HO.cells .plain (af p w u)::.cells .plain l.cs::.cells .plain [.list 0 0 .no false [],.list 0 0 .no false [],.int .i64 0,.int .i64 0,.int .i64 0,.int .i64 0]::.map (S.map eB)::J0).length) 0) _ [] ((.cells .plain (af p w u)::.cells .plain l.cs::.cells .plain [.list 0 0 .no false [],.list 0 0 .no false [],.int .i64 0,.int .i64 0,.int .i64 0,.int .i64 0]::.map (S.map eB)::J0)++lD (.list t1 n1 tk1 nn1 ((bx p l).map ab.dv)) (.list t2 n2 tk2 nn2 ((krP p 0 (bx p l)).map DV.bool)) (fw p l) (aV p l) (dn (aH p) (cB p) l.f l.t (ak p)) 0::J1) K1 (if 0<aV p l then ((bx p l).getD (aV p l-1) mz).s else p.pr.size) rfl
   simp only[lD] at hJ4;change _=some (_,_::_::(15,DV.int IntKind.i64 (kc p l))::_,_) at hJ4;have hh':l.h=true:=hh;have hVd:(((bx p l).drop (aV p l)).map ab.dv).length=((bx p l).drop (aV p l)).length:=by simp
   have hdl2:(((bx p l).drop (aV p l)).length:Int)=((bx p l).length-aV p l:Nat):=by rw[aa2]
   rw[hdl2] at hJ4;simp only[hh,if_true];by_cases hs0:0<aV p l
   · have hlt:aV p l-1<(bx p l).length:=by omega
     have g0:=dN (L:=bx p l) hlt;have l0:aV p l-1<((bx p l).map ab.dv).length:=by rw[hVl];exact hlt
     have hw1:IntKind.i64.wrap ((aV p l:Int)-1)=((aV p l-1:Nat):Int):=by rw[ay (by omega)];omega
     obtain rfl:=hn1 (fun e=>by rw[e] at hlt;simp at hlt);rw[if_pos hs0] at hJ4;generalize (bx p l).getD (aV p l-1) mz=m at *;generalize ((bx p l).drop (aV p l)).map ab.dv=VD at *;generalize (bx p l).map ab.dv=V at *;have g0':V[aV p l-1]'l0=m.dv:=by rw[aaa l0] at g0;exact aab.inj g0
     generalize (ak p).map ab.dv=VM at *;generalize (b4 p).map It.dv=VI at *;generalize (krP p 0 (bx p l)).map DV.bool=VK at *;generalize dn (aH p) (cB p) l.f l.t (ak p)=dd at *;simp[-cP,Ln.cs,hh'] at hm hi hJ0 hJ1 hJ2 hJ3 hJ4 hsl;simp[-cP,f223,hm,hi,hVi,hVm,hVl,hJ0,hJ1,hJ2,vI,hJ3,hh',hx1,hx2,Ln.cs,hs0,hw1,l0,g0',g0,ab.dv,ab.cs,hsl,hVd,hJ4,hwid]
   · have hs0':aV p l=0:=by omega
     rw[if_neg hs0] at hJ4;generalize ((bx p l).drop (aV p l)).map ab.dv=VD at *;generalize (bx p l).map ab.dv=V at *;generalize (ak p).map ab.dv=VM at *;generalize (b4 p).map It.dv=VI at *;generalize (krP p 0 (bx p l)).map DV.bool=VK at *;generalize dn (aH p) (cB p) l.f l.t (ak p)=dd at *;simp[-cP,Ln.cs,hh',hs0'] at hm hi hJ0 hJ1 hJ2 hJ3 hJ4 hsl;simp[-cP,f223,hm,hi,hVi,hVm,hVl,hJ0,hJ1,hJ2,vI,hJ3,hh',hx1,hx2,Ln.cs,hs0',hsl,hVd,hJ4,hwid]
 · simp only[hh,if_false,aao];have hlh':l.cs[5]? = some (.bool false):=by rw[hlh];simp[hh]
   generalize (bx p l).map ab.dv=V at *;generalize (ak p).map ab.dv=VM at *;generalize (b4 p).map It.dv=VI at *;generalize (krP p 0 (bx p l)).map DV.bool=VK at *;generalize dn (aH p) (cB p) l.f l.t (ak p)=dd at *;have hh':l.h=false:=by simpa using hh
   simp[-cP,Ln.cs,hh'] at hm hi hJ0 hJ1 hJ2 hJ3;simp[-cP,f223,hm,hi,hVi,hVm,hVl,hJ0,hJ1,hJ2,vI,hJ3,hh',hx1,hx2,Ln.cs]
end
structure mA (R:List ab):Prop where
 len:R.length≤4096
 ok:∀ i,i<R.length→0≤(R.getD i mz).w∧(R.getD i mz).w≤4095 ∧ -64≤(R.getD i mz).e∧(R.getD i mz).e≤0
 adj:∀ i,i+1<R.length→(R.getD (i+1) mz).e=0∨(aY (R.getD i mz).k=true∧aY (R.getD (i+1) mz).k=true∧0≤(R.getD i mz).w+(R.getD (i+1) mz).e)
def atW (p:aI) (R:List ab) (i:Nat) (a:Int):Int:=if (decide (0<i) && !js p (R.getD i mz).a)=true then a+(R.getD i mz).e else a
def wdW (R:List ab) (ah i:Nat) (a:Int):Int:=if i<ah then 0 else if (R.getD i mz).k=4 then gd a-a else (R.getD i mz).w
def aT (p:aI) (R:List ab) (ah:Nat) (x:Int):Nat→Int
 | 0=>x
 | i+1=>atW p R i (aT p R ah x i)+wdW R ah i (atW p R i (aT p R ah x i))
theorem j3 {a:Int} (h:0≤a):a<gd a∧gd a≤a+48:=by unfold gd;omega
theorem hM {p:aI} {R:List ab} (hR:mA R) {ah:Nat} (hah:∀ i,i<ah→(R.getD i mz).k=3) {x:Int} (hx:0≤x):∀ i,i≤R.length →
 (x≤aT p R ah x i∧aT p R ah x i≤x+4200*i∧(∀ j,i=j+1→aY (R.getD j mz).k=true→x≤aT p R ah x i-(R.getD j mz).w)) ∧
 (i<R.length→x≤atW p R i (aT p R ah x i)∧atW p R i (aT p R ah x i)≤aT p R ah x i)
 | 0,_=>by
   refine⟨⟨by simp[aT],by simp[aT],by intro j h;omega⟩,fun h=>?_⟩;simp[aT,atW]
 | i+1,h=>by
   have ih:=hM (p:=p) hR hah hx i (by omega);have hi:=ih.2 (by omega);have hk:=hR.ok i (by omega);have hl:=j3 (a:=atW p R i (aT p R ah x i)) (by omega)
   have h1:x≤aT p R ah x (i+1)∧aT p R ah x (i+1)≤x+4200*((i+1:Nat):Int)∧(∀ j,i+1=j+1→aY (R.getD j mz).k=true→x≤aT p R ah x (i+1)-(R.getD j mz).w):=by
    simp only[aT];unfold wdW;by_cases c1:i<ah
    · have h3:=hah i c1;rw[if_pos c1];refine⟨by omega,by omega,fun j hj hs=>?_⟩;obtain rfl:i=j:=by omega
      rw[h3] at hs;simp[aY] at hs
    · rw[if_neg c1];by_cases c2:(R.getD i mz).k=4
      · rw[if_pos c2];refine⟨by omega,by omega,fun j hj hs=>?_⟩;obtain rfl:i=j:=by omega
        rw[c2] at hs;simp[aY] at hs
      · rw[if_neg c2];refine⟨by omega,by omega,fun j hj hs=>?_⟩;obtain rfl:i=j:=by omega
        omega
   refine⟨h1,fun h2=>?_⟩;have hk2:=hR.ok (i+1) h2;generalize aT p R ah x (i+1)=P at *;unfold atW;split
   · rcases hR.adj i h2 with e|⟨e1,_,e2⟩
     · rw[e];omega
     · have:=h1.2.2 i rfl e1;omega
   · omega
section
variable {st:St}
theorem QE:tab 253=some (.code Iu):=by kernel_rfl
theorem PI:tab 224=some (.code f224):=by kernel_rfl
theorem SZ:tab 225=some (.code f225):=by kernel_rfl
theorem TA:tab 226=some (.code f226):=by kernel_rfl
theorem RH:tab 227=some (.code f227):=by kernel_rfl
theorem Qc:tab 228=some (.code f228):=by kernel_rfl
theorem SQ:tab 229=some (.code f229):=by kernel_rfl
theorem Ti:tab 254=some (.code KU):=by kernel_rfl
theorem Rj:tab 255=some (.code JL):=by kernel_rfl
theorem TC:tab 256=some (.code Ko):=by kernel_rfl
theorem I4 (x:Int) (hx:0≤x∧x≤1000000000):(E tab).F 253 [.int .i64 x] st=some (.int .i64 (gd x),st):=by
 rw[aK QE rfl];have h:=fun st=>JR x ⟨hx.1,by omega⟩ st;by_cases c:x≤8190
 · simp only[c,if_true] at h;simp[Iu,h]
 · have w1:IntKind.i64.wrap (x.tdiv 48)=x/48:=by rw[aaI hx.1,ay (by omega)]
   have w2:IntKind.i64.wrap (x/48+1)=x/48+1:=ay (by omega);have w3:IntKind.i64.wrap ((x/48+1)*48)=gd x:=by unfold gd;exact ay (by omega)
   simp only[c,if_false] at h;simp[Iu,h,w1,w2,w3]
theorem IQ (a b c:DV):(E tab).F 225 [a,b,c] st=some (.tuple [],st):=by
 rw[aK SZ rfl];simp[f225]
theorem Dr (p:aI):∀ (l:List ab) (k:Nat),(krP p k l).length=l.length
 | [],k=>rfl
 | m::l,k=>by simp[krP,Dr p l (k+1)]
theorem Da (p:aI):∀ (l:List ab) (k i:Nat),i<l.length→(krP p k l)[i]? = some (decide (0<k+i) && !js p (l.getD i mz).a)
 | [],k,i,h=>by simp at h
 | m::l,k,0,h=>by simp[krP]
 | m::l,k,i+1,h=>by
   have:=Da p l (k+1) i (by simpa using h);rw[show k+1+i=k+(i+1) by omega] at this;simp only[krP,abd,this,List.getD_cons_succ]
theorem Ia {p:aI} {s:Sg} {lv kv:DV} {t n:Nat} {tk:Tk} {nn:Bool} (hkv:kv=.list t n tk nn (s.kr.map DV.bool)) (hn1:s.kr≠[]→n=1)
 {ts ns:Nat} {tks:Tk} {nns:Bool} (hn6:s.l≠[]→ns=6) (hkr:s.kr=krP p 0 s.l) (hR:mA s.l) (hah:∀ i,i<s.ahead→(s.l.getD i mz).k=3) (hsol:s.aq≤s.l.length) {x:Int} (hx:0≤x∧x≤5000)
 (y:DV) (q:Nat) (P:Nat→List HO→List Nat→Prop) (hr:∀ i H K,P i H K→rowAt H q=some (.plain,s.cs lv kv))
 (step:∀ i (hi:i<s.aq) H K,P i H K→∃ H' K',(E tab).V y [.int .i64 i,.int .i64 (atW p s.l i (aT p s.l s.ahead x i)),.int .i64 (wdW s.l s.ahead i (atW p s.l i (aT p s.l s.ahead x i)))] (pst st (H++[.cells .plain (s.l.getD i mz).cs]) K)=some (.tuple [],pst st H' K')∧P (i+1) H' K') :
 ∀ k i H K,i+k=s.aq→P i H K→∃ H' K',P s.aq H' K'∧∃ fr,
   (E tab).C w8 [(2,y),(3,.ptr (st.heap.length+q) 0),(7,.int .i64 (aT p s.l s.ahead x i)),(16,.list ts ns tks nns ((s.l.take s.aq).map ab.dv)),(17,.int .i64 s.aq),(18,.int .i64 i)] (pst st H K) =
    some (.exit 0,(2,y)::(3,.ptr (st.heap.length+q) 0)::(7,.int .i64 (aT p s.l s.ahead x s.aq))::fr,pst st H' K'):=by
 intro k
 induction k with
 | zero=>
   intro i H K hi hP;obtain rfl:i=s.aq:=by omega
   refine⟨H,K,hP,[(16,.list ts ns tks nns ((s.l.take s.aq).map ab.dv)),(17,.int .i64 s.aq),(18,.int .i64 s.aq),(19,.bool false)],?_⟩;rw[ae (L:=w8) rfl];simp[lJ]
 | succ k ih=>
   intro i H K hik hP;have hi:i<s.aq:=by omega
   have hil:i<s.l.length:=by omega
   have hRl:=hR.len;obtain rfl:=hn6 (by intro e;rw[e] at hil;simp at hil);have hkl:s.kr.length=s.l.length:=by rw[hkr];exact Dr p s.l 0
   obtain rfl:=hn1 (by intro e;rw[e] at hkl;simp at hkl;omega);have hpos:=hM (p:=p) hR hah hx.1 i (by omega);have hat:=hpos.2 hil;have hstop:=fun st=>I4 (st:=st) (atW p s.l i (aT p s.l s.ahead x i)) (by omega);have hgR:=hR.ok i hil;have g0:=getM hil
   have gT:((s.l.take s.aq).map ab.dv)[i]? = some (s.l.getD i mz).dv:=by
    rw[aaG,List.getElem?_take,if_pos hi,g0];rfl
   have lT:i<((s.l.take s.aq).map ab.dv).length:=by simp;omega
   have gT':((s.l.take s.aq).map ab.dv)[i]'lT=(s.l.getD i mz).dv:=by rw[aaa lT] at gT;exact aab.inj gT
   have lTl:((s.l.take s.aq).map ab.dv).length=s.aq:=by simp;omega
   have lK:i<(s.kr.map DV.bool).length:=by simp;omega
   have gK:(s.kr.map DV.bool)[i]? = some (.bool (decide (0<i) && !js p (s.l.getD i mz).a)):=by
    rw[hkr,aaG,Da p s.l 0 i hil];simp
   have gK':(s.kr.map DV.bool)[i]'lK=.bool (decide (0<i) && !js p (s.l.getD i mz).a):=by rw[aaa lK] at gK;exact aab.inj gK
   obtain⟨H',K',hV,hP'⟩:=step i hi H K hP;obtain⟨H2,K2,hP2,fr,hJ⟩:=ih (i+1) H' K' (by omega) hP';refine⟨H2,K2,hP2,fr,?_⟩;have hrow:=fq (hr _ _ _ hP) [.cells .plain (s.l.getD i mz).cs];have hw1:IntKind.i64.wrap ((i:Int)+1)=((i+1:Nat):Int):=by rw[ay (by omega)];omega
   have hposS:aT p s.l s.ahead x (i+1)=atW p s.l i (aT p s.l s.ahead x i)+wdW s.l s.ahead i (atW p s.l i (aT p s.l s.ahead x i)):=rfl;rw[hposS] at hJ;have hle:=j3 (a:=atW p s.l i (aT p s.l s.ahead x i)) (by omega);have hw2:IntKind.i64.wrap (aT p s.l s.ahead x i+(s.l.getD i mz).e)=aT p s.l s.ahead x i+(s.l.getD i mz).e:=ay (by omega)
   have hwd:0≤wdW s.l s.ahead i (atW p s.l i (aT p s.l s.ahead x i))∧wdW s.l s.ahead i (atW p s.l i (aT p s.l s.ahead x i))≤4095:=by
    unfold wdW;split
    · omega
    · split<;>omega
   have hw3:IntKind.i64.wrap (atW p s.l i (aT p s.l s.ahead x i)+wdW s.l s.ahead i (atW p s.l i (aT p s.l s.ahead x i)))=atW p s.l i (aT p s.l s.ahead x i)+wdW s.l s.ahead i (atW p s.l i (aT p s.l s.ahead x i)):=ay (by omega);have hw4:IntKind.i64.wrap (gd (atW p s.l i (aT p s.l s.ahead x i))-atW p s.l i (aT p s.l s.ahead x i))=gd (atW p s.l i (aT p s.l s.ahead x i))-atW p s.l i (aT p s.l s.ahead x i):=ay (by omega);have hatw:atW p s.l i (aT p s.l s.ahead x i)=if (decide (0<i) && !js p (s.l.getD i mz).a)=true then aT p s.l s.ahead x i+(s.l.getD i mz).e else aT p s.l s.ahead x i:=rfl
   have hwdw:wdW s.l s.ahead i (atW p s.l i (aT p s.l s.ahead x i))=if i<s.ahead then 0 else if (s.l.getD i mz).k=4 then gd (atW p s.l i (aT p s.l s.ahead x i))-atW p s.l i (aT p s.l s.ahead x i) else (s.l.getD i mz).w:=rfl
   generalize atW p s.l i (aT p s.l s.ahead x i)=AT at *;generalize wdW s.l s.ahead i AT=WD at *;generalize aT p s.l s.ahead x i=PO at *;generalize aT p s.l s.ahead x s.aq=PE at *;generalize (decide (0<i) && !js p (s.l.getD i mz).a)=KB at *;generalize (s.l.take s.aq).map ab.dv=VT at *;generalize s.l.getD i mz=m at *;generalize hKV:s.kr.map DV.bool=KV at *;subst hkv;rw[ae (L:=w8) rfl];simp only[Sg.cs] at hrow;have hi':(i:Int)<s.aq:=by omega
   cases KB with
   | true=>
     simp only[if_true] at hatw;by_cases c1:i<s.ahead
     · rw[if_pos c1] at hwdw;simp[ab.cs,ab.dv,hwdw,hatw] at hV hJ hrow hw3 gT gT' ⊢;simp[lJ,hi,hi',gT,gT',lT,lTl,gK,gK',lK,hrow,hw2,c1,hw1,hw3,hV];exact hJ
     · rw[if_neg c1] at hwdw;by_cases c2:m.k=4
       · rw[if_pos c2] at hwdw;simp[ab.cs,ab.dv,hwdw,hatw,c2] at hV hJ hrow hw3 hw4 gT gT' hstop ⊢;simp[lJ,hi,hi',gT,gT',lT,lTl,gK,gK',lK,hrow,hw2,c1,c2,hw1,hw3,hw4,hstop,hV];exact hJ
       · rw[if_neg c2] at hwdw;simp[ab.cs,ab.dv,hwdw,hatw] at hV hJ hrow hw3 gT gT' ⊢;simp[lJ,hi,hi',gT,gT',lT,lTl,gK,gK',lK,hrow,hw2,c1,c2,hw1,hw3,hV];exact hJ
   | false=>
     simp only[aao,if_false] at hatw;by_cases c1:i<s.ahead
     · rw[if_pos c1] at hwdw;simp[ab.cs,ab.dv,hwdw,hatw] at hV hJ hrow hw3 gT gT' ⊢;simp[lJ,hi,hi',gT,gT',lT,lTl,gK,gK',lK,hrow,c1,hw1,hw3,hV];exact hJ
     · rw[if_neg c1] at hwdw;by_cases c2:m.k=4
       · rw[if_pos c2] at hwdw;simp[ab.cs,ab.dv,hwdw,hatw,c2] at hV hJ hrow hw3 hw4 gT gT' hstop ⊢;simp[lJ,hi,hi',gT,gT',lT,lTl,gK,gK',lK,hrow,c1,c2,hw1,hw3,hw4,hstop,hV];exact hJ
       · rw[if_neg c2] at hwdw;simp[ab.cs,ab.dv,hwdw,hatw] at hV hJ hrow hw3 gT gT' ⊢;simp[lJ,hi,hi',gT,gT',lT,lTl,gK,gK',lK,hrow,c1,c2,hw1,hw3,hV];exact hJ
theorem Ad {n en t:Nat} {tk:Tk} {nn:Bool} {L:List ab} {b:Nat} (hn:nn=true→en=n) (hb:b≤L.length) :
 cb false n (.list t en tk nn (L.map ab.dv)) none (some (.int .i64 b)) none=some (.list t en (lI tk L.length 0 b) nn ((L.take b).map ab.dv)):=by
 rw[Jb hn (by omega) (by simp;omega)];simp[List.map_take]
theorem ry {p:aI} {s:Sg} {lv kv:DV} {t n:Nat} {tk:Tk} {nn:Bool} (hkv:kv=.list t n tk nn (s.kr.map DV.bool)) (hn1:s.kr≠[]→n=1)
 {ts ns:Nat} {tks:Tk} {nns:Bool} (hlv:lv=.list ts ns tks nns (s.l.map ab.dv)) (hn6:s.l≠[]→ns=6) (hnn:nns=true→ns=6) (hkr:s.kr=krP p 0 s.l) (hR:mA s.l) (hah:∀ i,i<s.ahead→(s.l.getD i mz).k=3) (hsol:s.aq≤s.l.length) {x:Int} (hx:0≤x∧x≤5000)
 (y:DV) (P:Nat→List HO→List Nat→Prop) {H:List HO} {K:List Nat} (hr:∀ i H' K',P i H' K'→rowAt H' H.length=some (.plain,s.cs lv kv)) (h0:P 0 (H++[.cells .plain (s.cs lv kv)]) K)
 (step:∀ i (hi:i<s.aq) H K,P i H K→∃ H' K',(E tab).V y [.int .i64 i,.int .i64 (atW p s.l i (aT p s.l s.ahead x i)),.int .i64 (wdW s.l s.ahead i (atW p s.l i (aT p s.l s.ahead x i)))] (pst st (H++[.cells .plain (s.l.getD i mz).cs]) K)=some (.tuple [],pst st H' K')∧P (i+1) H' K') :
 ∃ H' K',P s.aq H' K'∧(E tab).F 224 [.agg (s.cs lv kv),.int .i64 x,y] (pst st H K)=some (.int .i64 (aT p s.l s.ahead x s.aq),pst st H' K'):=by
 obtain⟨H',K',hP,fr,hJ⟩:=Ia (st:=st) (ts:=ts) (tks:=lI tks s.l.length 0 s.aq) (nns:=nns) hkv hn1 hn6 hkr hR hah hsol hx y H.length P hr step s.aq 0 _ K (by omega) h0;refine⟨H',K',hP,?_⟩;rw[iz PI rfl];have hsl:=Ad (n:=6) (t:=ts) (tk:=tks) (L:=s.l) (b:=s.aq) hnn hsol;have hVl:((s.l.take s.aq).map ab.dv).length=s.aq:=by simp;omega
 subst hlv hkv;generalize (s.l.take s.aq).map ab.dv=VT at *;generalize s.l.map ab.dv=VL at *;generalize s.kr.map DV.bool=VK at *;simp only[Sg.cs] at hJ ⊢;simp[aT] at hJ hsl;simp[f224,hsl,hVl,hJ]
end
def blN:List ab→Nat
 | []=>0
 | m::r=>(if m.k=3 then 1 else 0)+blN r
def blS:List ab→Int
 | []=>0
 | m::r=>(if m.k=3 then m.w/3 else 0)+blS r
theorem wV:∀ l:List ab,blN l≤l.length
 | []=>aai _
 | m::r=>by have:=wV r;simp only[blN,aaJ];split<;>omega
theorem Aa:∀ l:List ab,l.all okM=true→0≤blS l∧blS l≤1365*l.length
 | [],_=>by simp[blS]
 | m::r,h=>by
   simp only[List.all_cons,aac] at h;have:=Aa r h.2;have hm:=mX h.1;simp only[blS,aaJ];split<;>omega
theorem qP:∀ l r:List ab,blN (l++r)=blN l+blN r
 | [],r=>by simp[blN]
 | m::l,r=>by simp only[aaS,blN,qP l r];omega
theorem qO:∀ l r:List ab,blS (l++r)=blS l+blS r
 | [],r=>by simp[blS]
 | m::l,r=>by simp only[aaS,blS,qO l r];omega
def jI (al ex:Int):Int:=if al=2 then max ex 0 else if al=3 then max ex 0/2 else 0
section
variable {st:St}
theorem On {zs:List ab} (hl:zs.length≤4096) (hok:zs.all okM=true) {t n:Nat} {tk:Tk} {nn:Bool} (h6:zs≠[]→n=6) (K:List Nat):∀ (r d:List ab) (H:List HO),zs=d++r→∃ fr J,
 (E tab).C wu [(4,.int .i64 (blN d)),(5,.int .i64 (blS d)),(14,.list t n tk nn (zs.map ab.dv)),(15,.int .i64 zs.length),(16,.int .i64 d.length)] (pst st H K) =
  some (.exit 0,(4,.int .i64 (blN zs))::(5,.int .i64 (blS zs))::fr,pst st (H++J) K):=by
 intro r
 induction r with
 | nil=>
   intro d H hd;rw[aaE] at hd;subst hd;refine⟨[(14,.list t n tk nn (zs.map ab.dv)),(15,.int .i64 zs.length),(16,.int .i64 zs.length),(17,.bool false)],[],?_⟩;rw[ae (L:=wu) rfl];simp[wG]
 | cons m r ih=>
   intro d H hd;have h0:d.length<zs.length:=by simp[hd]
   obtain rfl:=h6 (by rw[hd];simp);have hw:IntKind.i64.wrap ((d.length:Int)+1)=((d++[m]).length:Nat):=by rw[ay (by omega)];simp
   have hg:zs[d.length]=m:=by simp[hd]
   obtain⟨fr,J,hJ⟩:=ih (d++[m]) (H++[.cells .plain m.cs]) (by simp[hd]);refine⟨fr,.cells .plain m.cs::J,?_⟩;have hmk:=aae.1 hok m (by rw[hd];simp);have hm:=mX hmk;have hb1:=wV d;have hb2:=Aa d (by rw[hd,List.all_append,aac] at hok;exact hok.1);have w1:IntKind.i64.wrap ((blN d:Int)+1)=(blN d:Int)+1:=ay (by omega);have w2:IntKind.i64.wrap (m.w.tdiv 3)=m.w/3:=by rw[aaI hm.1,ay (by omega)]
   have w3:IntKind.i64.wrap (blS d+m.w/3)=blS d+m.w/3:=ay (by omega);rw[ae (L:=wu) rfl];rw[qP,qO] at hJ;by_cases h3:m.k=3
   · simp[h3,ab.cs,blN,blS] at hJ ⊢;simp[wG,h0,hw,hg,ab.cs,ab.dv,h3,w1,w2,w3];exact hJ
   · simp[h3,ab.cs,blN,blS] at hJ ⊢;simp[wG,h0,hw,hg,ab.cs,ab.dv,h3];exact hJ
theorem NL {zs:List ab} (hl:zs.length≤4096) {t n:Nat} {tk:Tk} {nn:Bool} (h6:zs≠[]→n=6) (K:List Nat):∀ (r d:List ab) (H:List HO),zs=d++r→∃ fr J,
 (E tab).C rW [(6,.list t n tk nn (zs.map ab.dv)),(7,.int .i64 zs.length),(8,.int .i64 d.length)] (pst st H K) =
  some (if r.any (fun m=>decide (m.k=4)) then .ret else .exit 0,if r.any (fun m=>decide (m.k=4)) then [(2,.bool true)] else fr,pst st (H++J) K):=by
 intro r
 induction r with
 | nil=>
   intro d H hd;rw[aaE] at hd;subst hd;refine⟨[(6,.list t n tk nn (zs.map ab.dv)),(7,.int .i64 zs.length),(8,.int .i64 zs.length),(9,.bool false)],[],?_⟩;rw[ae (L:=rW) rfl];simp[vl]
 | cons m r ih=>
   intro d H hd;have h0:d.length<zs.length:=by simp[hd]
   obtain rfl:=h6 (by rw[hd];simp);have hw:IntKind.i64.wrap ((d.length:Int)+1)=((d++[m]).length:Nat):=by rw[ay (by omega)];simp
   have hg:zs[d.length]=m:=by simp[hd]
   obtain⟨fr,J,hJ⟩:=ih (d++[m]) (H++[.cells .plain m.cs]) (by simp[hd]);by_cases h4:m.k=4
   · refine⟨[],[.cells .plain m.cs],?_⟩;rw[ae (L:=rW) rfl];simp[vl,h0,hw,hg,ab.cs,ab.dv,h4]
   · refine⟨fr,.cells .plain m.cs::J,?_⟩;rw[ae (L:=rW) rfl];simp only[abx,h4,decide_false,abJ];generalize r.any (fun m=>decide (m.k=4))=B at *;simp[ab.cs] at hJ ⊢;simp[vl,h0,hw,hg,ab.cs,ab.dv,h4];exact hJ
theorem D6 {s:Sg} {ts ns:Nat} {tks:Tk} {nns:Bool} {kv:DV} (hn6:s.l≠[]→ns=6) (hnn:nns=true→ns=6) (hlen:s.l.length≤4096) (hok:s.l.all okM=true) (h1:s.ahead≤s.aq) (h2:s.aq≤s.l.length) (hkv:kv.leaves=[kv]) (hks:kv.bH=true) :
 (E tab).F 226 [.agg (s.cs (.list ts ns tks nns (s.l.map ab.dv)) kv)] st=some (.tuple [.int .i64 (blN ((s.l.take s.aq).drop s.ahead)),.int .i64 (blS ((s.l.take s.aq).drop s.ahead))],st):=by
 rw[aK TA rfl]
 have hsl:cb false 6 (.list ts ns tks nns (s.l.map ab.dv)) (some (.int .i64 s.ahead)) (some (.int .i64 s.aq)) none=some (.list ts ns (lI tks s.l.length s.ahead s.aq) nns (((s.l.take s.aq).drop s.ahead).map ab.dv)):=by
  rw[rq hnn (by omega) (by omega) (by simp;omega)];simp[List.map_drop,List.map_take,List.drop_take]
 obtain⟨fr,J,hJ⟩:=On (st:=st) (zs:=(s.l.take s.aq).drop s.ahead) (by simp;omega) (aae.2 fun m hm=>aae.1 hok m (aa5 (aaD hm))) (t:=ts) (n:=ns) (tk:=lI tks s.l.length s.ahead s.aq) (nn:=nns) (fun h=>hn6 (by intro e;rw[e] at h;simp at h)) [] _ [] [.cells .plain (s.cs (.list ts ns tks nns (s.l.map ab.dv)) kv)] rfl;have hVl:(((s.l.take s.aq).drop s.ahead).map ab.dv).length=((s.l.take s.aq).drop s.ahead).length:=by simp
 generalize hZ:(s.l.take s.aq).drop s.ahead=Z at *;generalize Z.map ab.dv=VZ at *;generalize s.l.map ab.dv=VL at *;simp only[Sg.cs] at hJ ⊢;simp[blN,blS] at hJ;simp[f226,hsl,hVl,hJ,hkv,hks]
theorem JH {s:Sg} {ts ns:Nat} {tks:Tk} {nns:Bool} {kv:DV} (hn6:s.l≠[]→ns=6) (hlen:s.l.length≤4096) (hkv:kv.leaves=[kv]) (hks:kv.bH=true) :
 (E tab).F 227 [.agg (s.cs (.list ts ns tks nns (s.l.map ab.dv)) kv)] st=some (.bool (s.l.any fun m=>decide (m.k=4)),st):=by
 rw[aK RH rfl];obtain⟨fr,J,hJ⟩:=NL (st:=st) (zs:=s.l) hlen (t:=ts) (n:=ns) (tk:=tks) (nn:=nns) hn6 [] s.l [] [.cells .plain (s.cs (.list ts ns tks nns (s.l.map ab.dv)) kv)] rfl;have hVl:(s.l.map ab.dv).length=s.l.length:=by simp
 generalize (s.l.any fun m=>decide (m.k=4))=B at *;generalize s.l.map ab.dv=VL at *;simp only[Sg.cs] at hJ ⊢
 cases B with
 | true=>simp at hJ;simp[f227,hVl,hJ,hkv,hks]
 | false=>simp at hJ;simp[f227,hVl,hJ,hkv,hks]
theorem IW {p:aI} {w u:LW} {s:Sg} {lv kv:DV} (hn:jj p.text 0=0) (h1:lv.leaves=[lv]) (h2:lv.bH=true) (hkv:kv.leaves=[kv]) (hks:kv.bH=true) :
 (E tab).F 228 [.agg (s.cs lv kv),.agg (af p w u)] st=some (.int .i64 (qm p.text 0),st):=by
 rw[aK Qc rfl];have h:=fun st=>Je (st:=st) p.text 0;rw[hn] at h;simp only[Sg.cs];simp[f228,h,hkv,hks,h1,h2]
theorem GK (al ex:Int) (h:0≤al∧al≤3) (he:-1000000000000≤ex∧ex≤1000000000000):(E tab).F 229 [.int .i64 al,.int .i64 ex] st=some (.int .i64 (jI al ex),st):=by
 rw[aK SQ rfl]
 have h254:∀ st,(E tab).F 254 [.agg [.int .i64 ex]] st=some (.int .i64 0,st):=by
  intro st;rw[aK Ti rfl];simp[KU]
 have hm:=Wa ex 0
 have h255:∀ st,(E tab).F 255 [.agg [.int .i64 ex]] st=some (.int .i64 (max ex 0),st):=by
  intro st;rw[aK Rj rfl];simp[JL,hm]
 have w2:IntKind.i64.wrap ((max ex 0).tdiv 2)=max ex 0/2:=by rw[aaI (by omega),ay (by omega)]
 have h256:∀ st,(E tab).F 256 [.agg [.int .i64 ex]] st=some (.int .i64 (max ex 0/2),st):=by
  intro st;rw[aK TC rfl];simp[Ko,hm,w2]
 have hc:al=0∨al=1∨al=2∨al=3:=by omega
 rcases hc with rfl|rfl|rfl|rfl
 · simp[f229,eE,h254,jI]
 · simp[f229,eE,h254,jI]
 · simp[f229,eE,h255,jI]
 · simp[f229,eE,h256,jI]
end
structure Gl where
 f:Int
 t:Int
 x:Int
 w:Int
def Gl.cs (g:Gl):List DV:=[.int .i64 g.f,.int .i64 g.t,.int .i64 g.x,.int .i64 g.w]
def Gl.dv (g:Gl):DV:=.agg g.cs
theorem mG (g:Gl):dX 4 true g.dv:=⟨rfl,rfl,rfl⟩
def tkn (sp:Bool) (ex all k:Int):Int:=if sp then (ex*k).tdiv all else 0
def prt (neg:Bool) (m:ab):Int:=if neg then m.w/3 else 1
theorem TL:tab 230=some (.code f230):=by kernel_rfl
theorem P4:tab 231=some (.code f231):=by kernel_rfl
theorem Ts:tab 232=some (.code f232):=by kernel_rfl
theorem QV:tab 233=some (.code f233):=by kernel_rfl
def HC (A:List HO) (sp:Bool) (ov:DV) (add k all:Int) (pf tf:DV) (en:Int) (J:List HO):List HO:=
 A++.cells .plain [.bool sp]::.cells .plain [ov]::.cells .plain [.int .i64 add]::.cells .plain [.int .i64 k]::.cells .plain [.int .i64 all]::.cells .plain [pf]::.cells .plain [tf]::.cells .plain [.int .i64 en]::J
def fnP (neg:Bool):DV:=.fn (if neg then 231 else 230) [] []
def fnT (st:St) (A:List HO):DV:=.fn 232 [] [.ptr (st.heap.length+A.length) 0,.ptr (st.heap.length+3) 0,.ptr (st.heap.length+(A.length+3)) 0,.ptr (st.heap.length+(A.length+4)) 0]
theorem Hi (a b:Int):-a.natAbs≤a.tdiv b∧a.tdiv b≤a.natAbs:=by
 have h:=Int.natAbs_tdiv_le_natAbs a b;omega
theorem kz {sp:Bool} {ex all k:Int} (h1:-100000000≤ex∧ex≤100000000) (h2:0≤k∧k≤10000000):-1000000000000000≤tkn sp ex all k∧tkn sp ex all k≤1000000000000000 ∧ -1000000000000000≤ex*k∧ex*k≤1000000000000000:=by
 have h3:ex*k≤100000000*10000000:=by
  have:=abz h1.2 h2.1;have:=Int.mul_le_mul_of_nonneg_left h2.2 (show (0:Int)≤100000000 by omega);omega
 have h4:-100000000*10000000≤ex*k:=by
  have:=abz h1.1 h2.1;have:=Int.mul_le_mul_of_nonneg_left h2.2 (show (0:Int)≤100000000 by omega);omega
 have h5:=Hi (ex*k) all;unfold tkn;split<;>omega
section
variable {st:St}
theorem Ie (neg:Bool) (m:ab) (hm:okM m=true):(E tab).V (fnP neg) [m.dv] st=some (.int .i64 (prt neg m),st):=by
 unfold fnP;rw[eE]
 cases neg with
 | true=>
   have hw:=mX hm;have h3:IntKind.i64.wrap (m.w.tdiv 3)=m.w/3:=by rw[aaI hw.1,ay (by omega)]
   simp only[if_true,aaF,aaE];rw[aK P4 rfl];simp[f231,ab.dv,ab.cs,h3,prt]
 | false=>
   simp only[aao,if_false,aaF,aaE];rw[aK TL rfl];simp[f230,ab.dv,ab.cs,prt]
theorem o8 {A J:List HO} {K:List Nat} {sp:Bool} {ov pf tf:DV} {add k all en ex:Int} (hE:∀ X,rowAt (A++X) 3=some (.plain,[.int .i64 ex])) (h1:-100000000≤ex∧ex≤100000000) (h2:0≤k∧k≤10000000) (h3:sp=true→all≠0) :
 (E tab).V (fnT st A) [] (pst st (HC A sp ov add k all pf tf en J) K)=some (.int .i64 (tkn sp ex all k),pst st (HC A sp ov add k all pf tf en J) K):=by
 unfold fnT;rw[eE];simp only[aaF];rw[iz Ts rfl];have hb:=kz (sp:=sp) (all:=all) h1 h2
 cases sp with
 | true=>
   have w1:IntKind.i64.wrap (ex*k)=ex*k:=ay (by omega);have hb':=hb;simp only[tkn,if_true] at hb;have w2:IntKind.i64.wrap ((ex*k).tdiv all)=(ex*k).tdiv all:=ay (by omega);simp[f232,HC,hE,w1,w2,h3 rfl,tkn]
 | false=>simp[f232,HC,tkn]
def GF (N:Nat):List au:=[
 ⟨some 21,.fU 0 (.t 13),none⟩,
 ⟨some 22,.load 1 false (.t 21),none⟩,
 ⟨some 23,.fU 1 (.t 13),none⟩,
 ⟨some 24,.load 1 false (.t 23),none⟩,
 ⟨some 25,.mv (.t 1),none⟩,
 ⟨some 26,.load 1 false (.t 4),none⟩,
 ⟨some 27,.bin .add (.t 25) (.t 26),none⟩,
 ⟨some 28,.load 1 false (.t 5),none⟩,
 ⟨some 29,.bO (.t 28) [],none⟩,
 ⟨some 30,.bin .add (.t 27) (.t 29),none⟩,
 ⟨some 31,.mv (.t 2),none⟩,
 ⟨some 32,.build [.int .i64 0,.int .i64 0,.int .i64 0,.int .i64 0] [(0,1,(.t 22)),(1,1,(.t 24)),(2,1,(.t 30)),(3,1,(.t 31))],none⟩,
 ⟨some 14,.got (.ptr N 0) [],none⟩,
 ⟨none,.store 4 (.t 14) (.t 32),none⟩]
theorem yD {A J:List HO} {K:List Nat} {sp:Bool} {ov:DV} {add k all en ex:Int} {pf:DV} {i:Int} {s:Sg} {lv kv:DV} (m:ab) (at_ w:Int)
 (hE:∀ X,rowAt (A++X) 3=some (.plain,[.int .i64 ex])) (h1:-100000000≤ex∧ex≤100000000) (h2:0≤k∧k≤10000000) (h3:sp=true→all≠0) (h4:0≤at_∧at_≤100000000) (h5:0≤add∧add≤100000000) :
 (E tab).C (.aG wQ [12] [(1,[1]),(3,[1]),(5,[1])] [0,3,5,6,7,8,9,13,14]) [(0,.int .i64 i),(1,.int .i64 at_),(2,.int .i64 w),(3,.ptr (st.heap.length+2) 0),(4,.ptr (st.heap.length+(A.length+2)) 0),(5,.ptr (st.heap.length+(A.length+6)) 0),(6,.ptr (st.heap.length+(A.length+3)) 0),(7,.ptr (st.heap.length+(A.length+5)) 0),(8,.ptr (st.heap.length+(A.length+1)) 0),(9,.ptr (st.heap.length+(A.length+7)) 0),(13,.ptr (st.heap.length+(A.length+(J.length+8))) 0)]
  (pst st (HC A sp ov add k all pf (fnT st A) en (J++[.cells .plain m.cs])) K) =
  some (.normal,[(0,.int .i64 i),(3,.ptr (st.heap.length+2) 0),(5,.ptr (st.heap.length+(A.length+6)) 0),(6,.ptr (st.heap.length+(A.length+3)) 0),(7,.ptr (st.heap.length+(A.length+5)) 0),(8,.ptr (st.heap.length+(A.length+1)) 0),(9,.ptr (st.heap.length+(A.length+7)) 0),(13,.ptr (st.heap.length+(A.length+(J.length+8))) 0),(14,.ptr (st.heap.length+(A.length+(J.length+9))) 0)],
   pst st (HC A sp ov add k all pf (fnT st A) en (J++[.cells .plain m.cs,.cells .plain (Gl.cs ⟨m.a,m.b,at_+add+tkn sp ex all k,w⟩)])) K):=by
 have hp:gP [(0,.int .i64 i),(1,.int .i64 at_),(2,.int .i64 w),(3,.ptr (st.heap.length+2) 0),(4,.ptr (st.heap.length+(A.length+2)) 0),(5,.ptr (st.heap.length+(A.length+6)) 0),(6,.ptr (st.heap.length+(A.length+3)) 0),(7,.ptr (st.heap.length+(A.length+5)) 0),(8,.ptr (st.heap.length+(A.length+1)) 0),(9,.ptr (st.heap.length+(A.length+7)) 0),(13,.ptr (st.heap.length+(A.length+(J.length+8))) 0)] [12]
  (pst st (HC A sp ov add k all pf (fnT st A) en (J++[.cells .plain m.cs])) K) wQ=some (pst st (HC A sp ov add k all pf (fnT st A) en (J++[.cells .plain m.cs,.cells .plain [.int .i64 0,.int .i64 0,.int .i64 0,.int .i64 0]])) K,GF (st.heap.length+(A.length+(J.length+9)))):=by
  simp[gP,wQ,Eh,Bn,aR,sJ,jv,nj,GF,HC,ab.cs]
 rw[q9 hp];have hb:=kz (sp:=sp) (all:=all) h1 h2;have htk:=o8 (st:=st) (A:=A) (J:=J++[.cells .plain m.cs,.cells .plain [.int .i64 0,.int .i64 0,.int .i64 0,.int .i64 0]]) (K:=K) (sp:=sp) (ov:=ov) (pf:=pf) (tf:=fnT st A) (add:=add) (k:=k) (all:=all) (en:=en) hE h1 h2 h3;have w1:IntKind.i64.wrap (at_+add)=at_+add:=ay (by omega);have w2:IntKind.i64.wrap (at_+add+tkn sp ex all k)=at_+add+tkn sp ex all k:=ay (by omega);generalize tkn sp ex all k=T at *;simp only[HC,ab.cs,Gl.cs] at htk ⊢;generalize hF:fnT st A=FT at *;have hFl:FT.leaves=[FT]∧FT.bH=true:=by subst hF;exact⟨rfl,rfl⟩
 simp[bM,bR,bQ,aR,GF,htk,w1,w2,hFl]
def iV (s:Sg) (neg:Bool) (i:Nat) (k:Int):Int:=if (s.l.getD i mz).k=3∧s.ahead≤i then k+prt neg (s.l.getD i mz) else k
def qC (s:Sg) (neg sp:Bool) (ex all add:Int) (i:Nat) (at_ w k:Int):Gl:=⟨(s.l.getD i mz).a,(s.l.getD i mz).b,at_+add+tkn sp ex all k,w+(tkn sp ex all (iV s neg i k)-tkn sp ex all k)⟩
theorem EH {A J:List HO} {K:List Nat} {sp neg:Bool} {ov:DV} {add k all en ex:Int} {s:Sg} {ts ns:Nat} {tks:Tk} {nns:Bool} {kv:DV} {gs:List Gl} (hn6:s.l≠[]→ns=6) (hok:s.l.all okM=true) {i:Nat} (hi:i<s.l.length) {at_ w:Int} (hlen:s.l.length≤4096)
 (hS:∀ X,rowAt (A++X) 2=some (.plain,s.cs (.list ts ns tks nns (s.l.map ab.dv)) kv)) (hE:∀ X,rowAt (A++X) 3=some (.plain,[.int .i64 ex])) (h1:-100000000≤ex∧ex≤100000000) (h2:0≤k∧k≤9000000) (h3:sp=true→all≠0) (h4:0≤at_∧at_≤100000000) (h5:0≤add∧add≤100000000) (h6:0≤w∧w≤4095)
 (hA:Acc st K 4 (gs.map Gl.dv) ov) (hgs:gs.length≤10000) :
 ∃ ov' K',(E tab).F 233 [.int .i64 i,.int .i64 at_,.int .i64 w,.ptr (st.heap.length+2) 0,.ptr (st.heap.length+(A.length+2)) 0,.ptr (st.heap.length+(A.length+6)) 0,.ptr (st.heap.length+(A.length+3)) 0,.ptr (st.heap.length+(A.length+5)) 0,.ptr (st.heap.length+(A.length+1)) 0,.ptr (st.heap.length+(A.length+7)) 0] (pst st (HC A sp ov add k all (fnP neg) (fnT st A) en J) K) =
   some (.tuple [],pst st (HC A sp ov' add (iV s neg i k) all (fnP neg) (fnT st A) ((qC s neg sp ex all add i at_ w k).x+(qC s neg sp ex all add i at_ w k).w) (J++[.cells .plain (s.l.getD i mz).cs,.cells .plain (qC s neg sp ex all add i at_ w k).cs])) K') ∧
   Acc st K' 4 ((gs++[qC s neg sp ex all add i at_ w k]).map Gl.dv) ov':=by
 obtain⟨ov',K',hap,hA'⟩:=cR (H:=HC A sp ov add (iV s neg i k) all (fnP neg) (fnT st A) en (J++[.cells .plain (s.l.getD i mz).cs,.cells .plain (qC s neg sp ex all add i at_ w k).cs])) (by_:=32) (ag:=true) (tk:=.tight) (t:=st.cur) (ys:=[(qC s neg sp ex all add i at_ w k).dv]) hA (by omega) (by simp) (by simp[mG]) (by simp[aB];omega) (by simp[aB];omega);refine⟨ov',K',?_,by simpa using hA'⟩;have g0:=dN hi;have l0:i<(s.l.map ab.dv).length:=by simpa using hi
 have hmo:=aae.1 hok (s.l.getD i mz) (aat (getM hi));have hmw:=mX hmo;obtain rfl:=hn6 (by intro e;rw[e] at hi;simp at hi);have g0':(s.l.map ab.dv)[i]'l0=(s.l.getD i mz).dv:=by rw[aaa l0] at g0;exact aab.inj g0
 have hk2:0≤iV s neg i k∧iV s neg i k≤10000000:=by
  unfold iV prt;split
  · split<;>omega
  · omega
 have hch:=fun at_ w h4=>yD (st:=st) (A:=A) (J:=J) (K:=K) (sp:=sp) (ov:=ov) (add:=add) (k:=k) (all:=all) (en:=en) (ex:=ex) (pf:=fnP neg) (i:=(i:Int)) (s:=s) (lv:=ov) (kv:=ov) (s.l.getD i mz) at_ w hE h1 ⟨h2.1,by omega⟩ h3 h4 h5;have hch:=hch at_ w h4;have hpt:=fun st=>Ie (st:=st) neg (s.l.getD i mz) hmo;have htk1:=o8 (st:=st) (A:=A) (J:=J++[.cells .plain (s.l.getD i mz).cs,.cells .plain (Gl.cs ⟨(s.l.getD i mz).a,(s.l.getD i mz).b,at_+add+tkn sp ex all k,w⟩)]) (K:=K) (sp:=sp) (ov:=ov) (pf:=fnP neg) (tf:=fnT st A) (add:=add) (k:=k) (all:=all) (en:=en) hE h1 ⟨h2.1,by omega⟩ h3;have htk2:=o8 (st:=st) (A:=A) (J:=J++[.cells .plain (s.l.getD i mz).cs,.cells .plain (Gl.cs ⟨(s.l.getD i mz).a,(s.l.getD i mz).b,at_+add+tkn sp ex all k,w⟩)]) (K:=K) (sp:=sp) (ov:=ov) (pf:=fnP neg) (tf:=fnT st A) (add:=add) (k:=iV s neg i k) (all:=all) (en:=en) hE h1 hk2 h3;have hb1:=kz (sp:=sp) (all:=all) h1 (k:=k) ⟨h2.1,by omega⟩;have hb2:=kz (sp:=sp) (all:=all) h1 hk2;have hS2:∀ X,rowAt (A++X) 2=some (.plain,[.list ts 6 tks nns (s.l.map ab.dv),kv,.int .i64 s.ahead,.int .i64 s.aq,.int .i64 s.drop,.int .i64 s.dL]):=hS;rw[iz QV rfl];unfold qC at hap ⊢;generalize hT1:tkn sp ex all k=T1 at *;by_cases hc:(s.l.getD i mz).k=3∧s.ahead≤i
 · have hkn:iV s neg i k=k+prt neg (s.l.getD i mz):=if_pos hc;have wk:IntKind.i64.wrap (k+prt neg (s.l.getD i mz))=k+prt neg (s.l.getD i mz):=ay (by omega);generalize hT2:tkn sp ex all (iV s neg i k)=T2 at *;have w5:IntKind.i64.wrap (T2-T1)=T2-T1:=ay (by omega);have w6:IntKind.i64.wrap (w+(T2-T1))=w+(T2-T1):=ay (by omega);have w7:IntKind.i64.wrap (at_+add+T1+(w+(T2-T1)))=at_+add+T1+(w+(T2-T1)):=ay (by omega);have c1:=hc.1;have c2:(s.ahead:Int)≤i:=by have:=hc.2;omega
   have hc2:=hc.2;rw[hkn] at hap htk2 ⊢;generalize hpm:prt neg (s.l.getD i mz)=pm at *;obtain⟨t0,n0,tk0,nn0,rfl⟩:=bK hA;obtain⟨t9,n9,tk9,nn9,rfl⟩:=bK hA';have hFP:(fnP neg).leaves=[fnP neg]∧(fnP neg).bH=true:=⟨rfl,rfl⟩;have hFT:(fnT st A).leaves=[fnT st A]∧(fnT st A).bH=true:=⟨rfl,rfl⟩;generalize fnP neg=FP at *;generalize fnT st A=FT at *;generalize s.l.getD i mz=m at *;generalize s.l.map ab.dv=VL at *;generalize gs.map Gl.dv=VG at *;simp only[HC,ab.cs,Gl.cs,Gl.dv,ab.dv,c1] at hap hch htk1 htk2 hpt ⊢;simp[ab.cs,ab.dv,c1] at g0 g0' hch hap ⊢;simp[f233,aM,bM,bR,bQ,aR,hS2,l0,g0,g0',ab.cs,ab.dv,c1,c2,hc2,hch,htk1,htk2,hpt,wk,w5,w6,w7,aC,aO,chunk,hap,hFP,hFT]
 · have hkn:iV s neg i k=k:=if_neg hc;rw[hkn] at hap ⊢;rw[hT1] at hap ⊢;have w0:w+(T1-T1)=w:=by omega
   rw[w0] at hap ⊢;have w7:IntKind.i64.wrap (at_+add+T1+w)=at_+add+T1+w:=ay (by omega);obtain⟨t0,n0,tk0,nn0,rfl⟩:=bK hA;obtain⟨t9,n9,tk9,nn9,rfl⟩:=bK hA';have hFP:(fnP neg).leaves=[fnP neg]∧(fnP neg).bH=true:=⟨rfl,rfl⟩;have hFT:(fnT st A).leaves=[fnT st A]∧(fnT st A).bH=true:=⟨rfl,rfl⟩;generalize fnP neg=FP at *;generalize fnT st A=FT at *;generalize s.l.getD i mz=m at *;generalize s.l.map ab.dv=VL at *;generalize gs.map Gl.dv=VG at *;simp only[HC,ab.cs,Gl.cs,Gl.dv,ab.dv] at hap hch ⊢;simp[ab.cs,ab.dv] at g0 g0' hch hap ⊢;by_cases c1:m.k=3
   · have c2:¬ (s.ahead:Int)≤i:=fun h=>hc ⟨c1,by omega⟩;have c3:¬ s.ahead≤i:=fun h=>hc ⟨c1,h⟩;simp[c1] at hch hap ⊢;simp[f233,hS2,l0,g0,g0',ab.cs,ab.dv,c1,c2,c3,hch,w7,aC,aO,chunk,hap,hFP,hFT]
   · simp[f233,hS2,l0,g0,g0',ab.cs,ab.dv,c1,hch,w7,aC,aO,chunk,hap,hFP,hFT]
end
theorem Lg:tab 210=some (.code f210):=by kernel_rfl
theorem J9:aw tab 224=false:=by kernel_rfl
def kAt (s:Sg) (neg:Bool):Nat→Int
 | 0=>0
 | i+1=>iV s neg i (kAt s neg i)
theorem ng {s:Sg} {neg:Bool} (hok:s.l.all okM=true):∀ i,i≤s.l.length→0≤kAt s neg i∧kAt s neg i≤1365*i
 | 0,_=>by simp[kAt]
 | i+1,h=>by
   have ih:=ng (neg:=neg) hok i (by omega);have hmw:=mX (aae.1 hok (s.l.getD i mz) (aat (getM (by omega))));simp only[kAt];unfold iV prt;split
   · split<;>omega
   · omega
def exP (p:aI) (l:Ln):Int:=l.w-(aT p (aa p l).l (aa p l).ahead l.x (aa p l).aq+(aa p l).dL-l.x)
def b7 (s:Sg):List ab:=(s.l.take s.aq).drop s.ahead
def spB (p:aI) (l:Ln) (last:Bool):Bool:=decide (p.pr.align=1) && !last && !((aa p l).l.any fun m=>decide (m.k=4))&&decide (0<blN (b7 (aa p l)))&&(decide (0<exP p l)||(decide (exP p l<0)&&decide (-exP p l≤blS (b7 (aa p l)))))
def bZ (p:aI) (l:Ln):Bool:=decide (exP p l<0)
def dK (p:aI) (l:Ln):Int:=if bZ p l then blS (b7 (aa p l)) else blN (b7 (aa p l))
def di (p:aI) (l:Ln):Int:=jI p.pr.align (exP p l)
def eC (p:aI) (l:Ln) (last:Bool) (i:Nat):Gl:=
 qC (aa p l) (bZ p l) (spB p l last) (exP p l) (dK p l) (di p l) i (atW p (aa p l).l i (aT p (aa p l).l (aa p l).ahead l.x i)) (wdW (aa p l).l (aa p l).ahead i (atW p (aa p l).l i (aT p (aa p l).l (aa p l).ahead l.x i))) (kAt (aa p l) (bZ p l) i)
def cq (p:aI) (l:Ln) (last:Bool) (i:Nat):Int:=aT p (aa p l).l (aa p l).ahead l.x i+di p l+tkn (spB p l last) (exP p l) (dK p l) (kAt (aa p l) (bZ p l) i)
def dH (p:aI) (l:Ln):List Gl:=if 0<(aa p l).drop then [⟨0,qm p.text 0,l.x-(aa p l).drop,(aa p l).drop-4⟩] else []
def uB (p:aI) (l:Ln) (last:Bool):List Gl:=((aa p l).l.drop (aa p l).aq).map fun m=>⟨m.a,m.b,cq p l last (aa p l).aq,0⟩
def ll (p:aI) (l:Ln) (last:Bool):List Gl:=if l.h then [⟨l.t,l.t,cq p l last (aa p l).aq,(aa p l).dL⟩] else []
def bV (p:aI) (l:Ln) (last:Bool):List Gl:=dH p l++(aan (aa p l).aq).map (eC p l last)++uB p l last++ll p l last
structure AX (p:aI) (l:Ln):Prop where
 row:mA (aa p l).l
 ah:∀ i,i<(aa p l).ahead→((aa p l).l.getD i mz).k=3
 ahs:(aa p l).ahead≤(aa p l).aq
section
variable {st:St} {p:aI} {w u:LW} {l:Ln} {last:Bool}
def HT (N:Nat):List au:=[
 ⟨some 35,.fU 3 (.t 4),none⟩,
 ⟨some 36,.load 1 false (.t 35),none⟩,
 ⟨some 37,.load 6 true (.t 9),none⟩,
 ⟨some 38,.fU 2 (.t 4),none⟩,
 ⟨some 39,.load 1 false (.t 38),none⟩,
 ⟨some 40,.call 224 [.t 37,.t 39,.f 225],none⟩,
 ⟨some 41,.fU 5 (.t 9),none⟩,
 ⟨some 42,.load 1 false (.t 41),none⟩,
 ⟨some 43,.bin .add (.t 40) (.t 42),none⟩,
 ⟨some 44,.fU 2 (.t 4),none⟩,
 ⟨some 45,.load 1 false (.t 44),none⟩,
 ⟨some 46,.bin .sub (.t 43) (.t 45),none⟩,
 ⟨some 47,.bin .sub (.t 36) (.t 46),none⟩,
 ⟨some 10,.got (.ptr N 0) [],none⟩,
 ⟨none,.store 1 (.t 10) (.t 47),none⟩]
theorem rE (h0:aE p=0) (hL:AX p l) (hm:c8 p.text l=true) {ts ns:Nat} {tks:Tk} {nns:Bool} {t n:Nat} {tk:Tk} {nn:Bool} (hn6:(aa p l).l≠[]→ns=6) (hnn:nns=true→ns=6) (hn1:(aa p l).kr≠[]→n=1) (P0:List DV) :
 ∃ J1,(E tab).C (.aG nk [13] [(1,[1]),(7,[0]),(10,[0])] [2,3,4,9,10]) [(2,.bool last),(3,.ptr st.heap.length 0),(4,.ptr (st.heap.length+1) 0),(9,.ptr (st.heap.length+2) 0)]
   (pst st [.cells .plain P0,.cells .plain l.cs,.cells .plain ((aa p l).cs (.list ts ns tks nns ((aa p l).l.map ab.dv)) (.list t n tk nn ((aa p l).kr.map DV.bool)))] []) =
   some (.normal,[(2,.bool last),(3,.ptr st.heap.length 0),(4,.ptr (st.heap.length+1) 0),(9,.ptr (st.heap.length+2) 0),(10,.ptr (st.heap.length+3) 0)],
    pst st (.cells .plain P0::.cells .plain l.cs::.cells .plain ((aa p l).cs (.list ts ns tks nns ((aa p l).l.map ab.dv)) (.list t n tk nn ((aa p l).kr.map DV.bool)))::.cells .plain [.int .i64 (exP p l)]::J1) []):=by
 have hm':=hm;simp only[c8,aac,decide_eq_true_eq] at hm';have hsol:(aa p l).aq≤(aa p l).l.length:=cr _ _
 obtain⟨H',K',⟨rfl,J1,rfl⟩,hF⟩:=ry (st:=st) (p:=p) (s:=aa p l) (lv:=.list ts ns tks nns ((aa p l).l.map ab.dv)) (kv:=.list t n tk nn ((aa p l).kr.map DV.bool)) rfl hn1 rfl hn6 hnn rfl hL.row hL.ah hsol (x:=l.x) (by omega) (.fn 225 [] [])
  (fun i H K=>K=[]∧∃ J,H=[.cells .plain P0,.cells .plain l.cs,.cells .plain ((aa p l).cs (.list ts ns tks nns ((aa p l).l.map ab.dv)) (.list t n tk nn ((aa p l).kr.map DV.bool))),.cells .plain [.int .i64 0]]++.cells .plain ((aa p l).cs (.list ts ns tks nns ((aa p l).l.map ab.dv)) (.list t n tk nn ((aa p l).kr.map DV.bool)))::J)
  (H:=[.cells .plain P0,.cells .plain l.cs,.cells .plain ((aa p l).cs (.list ts ns tks nns ((aa p l).l.map ab.dv)) (.list t n tk nn ((aa p l).kr.map DV.bool))),.cells .plain [.int .i64 0]]) (K:=[])
  (by rintro i H' K' ⟨_,J,rfl⟩;rfl) ⟨rfl,[],rfl⟩
  (by
   rintro i hi H K ⟨rfl,J,rfl⟩
   refine⟨_,_,by rw[eE];exact IQ _ _ _,rfl,J++[.cells .plain (((aa p l).l.getD i mz).cs)],by simp⟩)
 have hpos:=(hM (p:=p) hL.row hL.ah (x:=l.x) (by omega) (aa p l).aq hsol).1;have hlen:=hL.row.len
 have hhy:0≤(aa p l).dL∧(aa p l).dL≤64:=by
  show 0≤(if l.h then hyW (kc p l) else 0)∧(if l.h then hyW (kc p l) else 0)≤64;have:=jV 45 (iA h0 l).1 (iA h0 l).2;unfold hyW;split<;>omega
 have hp:gP [(2,.bool last),(3,.ptr st.heap.length 0),(4,.ptr (st.heap.length+1) 0),(9,.ptr (st.heap.length+2) 0)] [13]
  (pst st [.cells .plain P0,.cells .plain l.cs,.cells .plain ((aa p l).cs (.list ts ns tks nns ((aa p l).l.map ab.dv)) (.list t n tk nn ((aa p l).kr.map DV.bool)))] []) nk =
  some (pst st [.cells .plain P0,.cells .plain l.cs,.cells .plain ((aa p l).cs (.list ts ns tks nns ((aa p l).l.map ab.dv)) (.list t n tk nn ((aa p l).kr.map DV.bool))),.cells .plain [.int .i64 0]] [],HT (st.heap.length+3)):=by
  generalize (aa p l).l.map ab.dv=VL at *;generalize (aa p l).kr.map DV.bool=VK at *;simp[gP,nk,Eh,Bn,aR,sJ,jv,nj,HT,Sg.cs,Ln.cs]
 refine⟨.cells .plain ((aa p l).cs (.list ts ns tks nns ((aa p l).l.map ab.dv)) (.list t n tk nn ((aa p l).kr.map DV.bool)))::J1,?_⟩;rw[q9 hp];unfold exP;generalize aT p (aa p l).l (aa p l).ahead l.x (aa p l).aq=PO at *;have w1:IntKind.i64.wrap (PO+(aa p l).dL)=PO+(aa p l).dL:=ay (by omega);have w2:IntKind.i64.wrap (PO+(aa p l).dL-l.x)=PO+(aa p l).dL-l.x:=ay (by omega);have w3:IntKind.i64.wrap (l.w-(PO+(aa p l).dL-l.x))=l.w-(PO+(aa p l).dL-l.x):=ay (by omega);generalize (aa p l).l.map ab.dv=VL at *;generalize (aa p l).kr.map DV.bool=VK at *;simp only[Sg.cs,Ln.cs] at hF ⊢;simp at hF;simp[bM,bR,bQ,aR,HT,J9,hF,w1,w2,w3]
theorem As (h0:aE p=0) (hL:AX p l) (hm:c8 p.text l=true) {ts ns:Nat} {tks:Tk} {nns:Bool} {t n:Nat} {tk:Tk} {nn:Bool} (hn6:(aa p l).l≠[]→ns=6) (hnn:nns=true→ns=6) (hn1:(aa p l).kr≠[]→n=1) {A:List HO}
 (hS:∀ X,rowAt (A++X) 2=some (.plain,(aa p l).cs (.list ts ns tks nns ((aa p l).l.map ab.dv)) (.list t n tk nn ((aa p l).kr.map DV.bool)))) (hE:∀ X,rowAt (A++X) 3=some (.plain,[.int .i64 (exP p l)])) {ov:DV} {K:List Nat} {gs:List Gl} (hA:Acc st K 4 (gs.map Gl.dv) ov) (hgs:gs.length≤100) :
 ∃ ov' K' J',(E tab).F 224 [.agg ((aa p l).cs (.list ts ns tks nns ((aa p l).l.map ab.dv)) (.list t n tk nn ((aa p l).kr.map DV.bool))),.int .i64 l.x,.fn 233 [] [.ptr (st.heap.length+2) 0,.ptr (st.heap.length+(A.length+2)) 0,.ptr (st.heap.length+(A.length+6)) 0,.ptr (st.heap.length+(A.length+3)) 0,.ptr (st.heap.length+(A.length+5)) 0,.ptr (st.heap.length+(A.length+1)) 0,.ptr (st.heap.length+(A.length+7)) 0]]
   (pst st (HC A (spB p l last) ov (di p l) 0 (dK p l) (fnP (bZ p l)) (fnT st A) (cq p l last 0) []) K) =
   some (.int .i64 (aT p (aa p l).l (aa p l).ahead l.x (aa p l).aq),pst st (HC A (spB p l last) ov' (di p l) (kAt (aa p l) (bZ p l) (aa p l).aq) (dK p l) (fnP (bZ p l)) (fnT st A) (cq p l last (aa p l).aq) J') K') ∧
   Acc st K' 4 ((gs++(aan (aa p l).aq).map (eC p l last)).map Gl.dv) ov':=by
 have hm':=hm;simp only[c8,aac,decide_eq_true_eq] at hm';have hsol:(aa p l).aq≤(aa p l).l.length:=cr _ _;have hlen:=hL.row.len;have hok:(aa p l).l.all okM=true:=aae.2 fun m hm=>aae.1 (cD p).ok m (eP hm)
 have hex:-100000000≤exP p l∧exP p l≤100000000:=by
  have hpos:=(hM (p:=p) hL.row hL.ah (x:=l.x) (by omega) (aa p l).aq hsol).1
  have hhy:0≤(aa p l).dL∧(aa p l).dL≤64:=by
   show 0≤(if l.h then hyW (kc p l) else 0)∧(if l.h then hyW (kc p l) else 0)≤64;have:=jV 45 (iA h0 l).1 (iA h0 l).2;unfold hyW;split<;>omega
  unfold exP;omega
 have hadd:0≤di p l∧di p l≤100000000:=by
  unfold di jI;split
  · omega
  · split<;>omega
 have hall:spB p l last=true→dK p l≠0:=by
  intro h;simp only[spB,aac,aa6,decide_eq_true_eq] at h;unfold dK bZ;by_cases hn:exP p l<0
  · simp only[hn,decide_true,if_true];omega
  · simp only[hn,decide_false,aao,if_false];omega
 have hen:∀ i,(eC p l last i).x+(eC p l last i).w=cq p l last (i+1):=by
  intro i;simp only[eC,qC,cq,aT,kAt];omega
 obtain⟨H',K',⟨ov',J',rfl,hA'⟩,hF⟩:=ry (st:=st) (p:=p) (s:=aa p l) (lv:=.list ts ns tks nns ((aa p l).l.map ab.dv)) (kv:=.list t n tk nn ((aa p l).kr.map DV.bool)) rfl hn1 rfl hn6 hnn rfl hL.row hL.ah hsol (x:=l.x) (by omega) (.fn 233 [] [.ptr (st.heap.length+2) 0,.ptr (st.heap.length+(A.length+2)) 0,.ptr (st.heap.length+(A.length+6)) 0,.ptr (st.heap.length+(A.length+3)) 0,.ptr (st.heap.length+(A.length+5)) 0,.ptr (st.heap.length+(A.length+1)) 0,.ptr (st.heap.length+(A.length+7)) 0])
  (fun i H K=>∃ ov J,H=HC A (spB p l last) ov (di p l) (kAt (aa p l) (bZ p l) i) (dK p l) (fnP (bZ p l)) (fnT st A) (cq p l last i) (.cells .plain ((aa p l).cs (.list ts ns tks nns ((aa p l).l.map ab.dv)) (.list t n tk nn ((aa p l).kr.map DV.bool)))::J)∧Acc st K 4 ((gs++(aan i).map (eC p l last)).map Gl.dv) ov)
  (H:=HC A (spB p l last) ov (di p l) 0 (dK p l) (fnP (bZ p l)) (fnT st A) (cq p l last 0) []) (K:=K)
  (by
   rintro i H' K' ⟨ov,J,rfl,_⟩
   simp[HC])
  ⟨ov,[],by simp[HC,kAt],by simpa using hA⟩
  (by
   rintro i hi H K ⟨ov,J,rfl,hA⟩;have hpos:=(hM (p:=p) hL.row hL.ah (x:=l.x) (by omega) i (by omega));have hat:=hpos.2 (by omega);have hk:=ng (neg:=bZ p l) hok i (by omega)
   have hwd:0≤wdW (aa p l).l (aa p l).ahead i (atW p (aa p l).l i (aT p (aa p l).l (aa p l).ahead l.x i))∧wdW (aa p l).l (aa p l).ahead i (atW p (aa p l).l i (aT p (aa p l).l (aa p l).ahead l.x i))≤4095:=by
    have hle:=j3 (a:=atW p (aa p l).l i (aT p (aa p l).l (aa p l).ahead l.x i)) (by omega);have:=hL.row.ok i (by omega);unfold wdW;split
    · omega
    · split<;>omega
   obtain⟨ov',K',hc,hA'⟩:=EH (st:=st) (A:=A) (J:=.cells .plain ((aa p l).cs (.list ts ns tks nns ((aa p l).l.map ab.dv)) (.list t n tk nn ((aa p l).kr.map DV.bool)))::(J++[.cells .plain (((aa p l).l.getD i mz).cs)])) (K:=K) (sp:=spB p l last) (neg:=bZ p l) (ov:=ov) (add:=di p l) (k:=kAt (aa p l) (bZ p l) i) (all:=dK p l) (en:=cq p l last i) (ex:=exP p l) (s:=aa p l) (kv:=.list t n tk nn ((aa p l).kr.map DV.bool)) hn6 hok (i:=i) (by omega) (at_:=atW p (aa p l).l i (aT p (aa p l).l (aa p l).ahead l.x i)) (w:=wdW (aa p l).l (aa p l).ahead i (atW p (aa p l).l i (aT p (aa p l).l (aa p l).ahead l.x i))) hlen hS hE hex (by omega) hall (by omega) hadd hwd hA (by simp;omega);refine⟨_,K',?_,ov',J++[.cells .plain (((aa p l).l.getD i mz).cs)]++[.cells .plain (((aa p l).l.getD i mz).cs),.cells .plain (eC p l last i).cs],rfl,?_⟩
   · rw[eE]
     have e:HC A (spB p l last) ov (di p l) (kAt (aa p l) (bZ p l) i) (dK p l) (fnP (bZ p l)) (fnT st A) (cq p l last i) (.cells .plain ((aa p l).cs (.list ts ns tks nns ((aa p l).l.map ab.dv)) (.list t n tk nn ((aa p l).kr.map DV.bool)))::J)++[.cells .plain (((aa p l).l.getD i mz).cs)] =
      HC A (spB p l last) ov (di p l) (kAt (aa p l) (bZ p l) i) (dK p l) (fnP (bZ p l)) (fnT st A) (cq p l last i) (.cells .plain ((aa p l).cs (.list ts ns tks nns ((aa p l).l.map ab.dv)) (.list t n tk nn ((aa p l).kr.map DV.bool)))::(J++[.cells .plain (((aa p l).l.getD i mz).cs)])):=by simp[HC]
     rw[e];simp only[aaF,aaS];rw[hc];have e1:(qC (aa p l) (bZ p l) (spB p l last) (exP p l) (dK p l) (di p l) i (atW p (aa p l).l i (aT p (aa p l).l (aa p l).ahead l.x i)) (wdW (aa p l).l (aa p l).ahead i (atW p (aa p l).l i (aT p (aa p l).l (aa p l).ahead l.x i))) (kAt (aa p l) (bZ p l) i)).x+(qC (aa p l) (bZ p l) (spB p l last) (exP p l) (dK p l) (di p l) i (atW p (aa p l).l i (aT p (aa p l).l (aa p l).ahead l.x i)) (wdW (aa p l).l (aa p l).ahead i (atW p (aa p l).l i (aT p (aa p l).l (aa p l).ahead l.x i))) (kAt (aa p l) (bZ p l) i)).w=cq p l last (i+1):=hen i;rw[e1];simp[kAt,eC]
   · have e2:gs++(aan (i+1)).map (eC p l last)=gs++(aan i).map (eC p l last)++[eC p l last i]:=by rw[List.range_succ];simp
     rw[e2];exact hA')
 exact⟨ov',K',_,hF,hA'⟩
end
section
variable {st:St}
def tgl (en:Int) (m:ab):Gl:=⟨m.a,m.b,en,0⟩
theorem Mj {A:List HO} {sp:Bool} {add k all en:Int} {pf tf:DV} {zs:List ab} (hl:zs.length≤4096) {t n:Nat} {tk:Tk} {nn:Bool} (h6:zs≠[]→n=6) {gs:List Gl} (hgs:gs.length≤10000):∀ (r d:List ab) (ov:DV) (K:List Nat) (J:List HO),zs=d++r→Acc st K 4 ((gs++d.map (tgl en)).map Gl.dv) ov →
 ∃ ov' K' J' fr,(E tab).C tm [(4,.ptr (st.heap.length+1) 0),(9,.ptr (st.heap.length+2) 0),(14,.ptr (st.heap.length+(A.length+1)) 0),(20,.ptr (st.heap.length+(A.length+7)) 0),(125,.list t n tk nn (zs.map ab.dv)),(126,.int .i64 zs.length),(127,.int .i64 d.length)] (pst st (HC A sp ov add k all pf tf en J) K) =
   some (.exit 0,(4,.ptr (st.heap.length+1) 0)::(9,.ptr (st.heap.length+2) 0)::(14,.ptr (st.heap.length+(A.length+1)) 0)::(20,.ptr (st.heap.length+(A.length+7)) 0)::fr,pst st (HC A sp ov' add k all pf tf en J') K')∧Acc st K' 4 ((gs++zs.map (tgl en)).map Gl.dv) ov':=by
 intro r
 induction r with
 | nil=>
   intro d ov K J hd hA;rw[aaE] at hd;subst hd;refine⟨ov,K,J,[(125,.list t n tk nn (zs.map ab.dv)),(126,.int .i64 zs.length),(127,.int .i64 zs.length),(128,.bool false)],?_,hA⟩;rw[ae (L:=tm) rfl];simp[A6]
 | cons m r ih=>
   intro d ov K J hd hA;have h0:d.length<zs.length:=by simp[hd]
   obtain rfl:=h6 (by rw[hd];simp);have hw:IntKind.i64.wrap ((d.length:Int)+1)=((d++[m]).length:Nat):=by rw[ay (by omega)];simp
   have hg:zs[d.length]=m:=by simp[hd]
   obtain⟨ov2,K2,hap,hA2⟩:=cR (H:=HC A sp ov add k all pf tf en (J++[.cells .plain m.cs])) (by_:=32) (ag:=true) (tk:=.tight) (t:=st.cur) (ys:=[(tgl en m).dv]) hA (by omega) (by simp) (by simp[mG]) (by simp[aB];omega) (by simp[aB];omega);obtain⟨ov',K',J',fr,hJ,hR⟩:=ih (d++[m]) ov2 K2 (J++[.cells .plain m.cs]) (by simp[hd]) (by simpa using hA2);refine⟨ov',K',J',fr,?_,hR⟩;rw[ae (L:=tm) rfl];obtain⟨t0,n0,tk0,nn0,rfl⟩:=bK hA;obtain⟨t9,n9,tk9,nn9,rfl⟩:=bK hA2;generalize (gs++d.map (tgl en)).map Gl.dv=VG at *;simp only[HC] at hap hJ ⊢;simp[ab.cs,ab.dv,tgl,Gl.dv,Gl.cs] at hap hJ ⊢;simp[A6,h0,hw,hg,ab.cs,ab.dv,aC,aO,chunk,hap];simpa using hJ
theorem uK {s:List UInt8} {l:Ln} (h:c8 s l=true):bY s=0∧jj s 0=0:=by
 simp only[c8,aac,cY,decide_eq_true_eq] at h;refine⟨h.1.1.1.1.1.2.1,?_⟩;unfold jj;rw[if_neg (by simp[h.1.1.1.1.1.2.1]),if_neg (by omega)]
end
def bG (p:aI) (l:Ln):Int:=if aE p≠0 then aE p else if c8 p.text l=true then 0 else 5
section
variable {st:St} {p:aI} {w u:LW} {l:Ln} {last:Bool} {ts ns:Nat} {tks:Tk} {nns:Bool} {t n:Nat} {tk:Tk} {nn:Bool}
structure PlA (p:aI) (w u:LW) (l:Ln) (lv kv:DV) (A:List HO):Prop where
 r0:∀ X,rowAt (A++X) 0=some (.plain,af p w u)
 r1:∀ X,rowAt (A++X) 1=some (.plain,l.cs)
 r2:∀ X,rowAt (A++X) 2=some (.plain,(aa p l).cs lv kv)
 r3:∀ X,rowAt (A++X) 3=some (.plain,[.int .i64 (exP p l)])
theorem qJ {A:List HO} {k:Nat} {x:CK×List DV} (h:∀ X,rowAt (A++X) k=some x):rowAt A k=some x:=by have:=h [];rwa [aaE] at this
theorem qL:(af p w u)[4]? = some (.int .i64 p.pr.align):=rfl
theorem Fc {A:List HO} (hA:PlA p w u l (.list ts ns tks nns ((aa p l).l.map ab.dv)) (.list t n tk nn ((aa p l).kr.map DV.bool)) A) (hn6:(aa p l).l≠[]→ns=6) (hlen:(aa p l).l.length≤4096) (hex:-100000000≤exP p l∧exP p l≤100000000) :
 (E tab).C (.region AO [3,4,9,10,11,12,13]) [(2,.bool last),(3,.ptr st.heap.length 0),(4,.ptr (st.heap.length+1) 0),(9,.ptr (st.heap.length+2) 0),(10,.ptr (st.heap.length+3) 0),(11,.int .i64 (blN (b7 (aa p l)))),(12,.int .i64 (blS (b7 (aa p l))))] (pst st A []) =
  some (.normal,[(3,.ptr st.heap.length 0),(4,.ptr (st.heap.length+1) 0),(9,.ptr (st.heap.length+2) 0),(10,.ptr (st.heap.length+3) 0),(11,.int .i64 (blN (b7 (aa p l)))),(12,.int .i64 (blS (b7 (aa p l)))),(13,.ptr (st.heap.length+A.length) 0)],pst st (A++[.cells .plain [.bool (spB p l last)]]) []):=by
 have ht:=fun st=>JH (st:=st) (s:=aa p l) (ts:=ts) (tks:=tks) (nns:=nns) (kv:=.list t n tk nn ((aa p l).kr.map DV.bool)) hn6 hlen rfl rfl;have r0:=qJ hA.r0;have r2:=qJ hA.r2;have r3:=qJ hA.r3;have wn:IntKind.i64.wrap (-exP p l) = -exP p l:=ay (by omega);unfold spB;generalize b7 (aa p l)=ML at *;generalize ((aa p l).l.any fun m=>decide (m.k=4))=TB at *;generalize (aa p l).l.map ab.dv=VL at *;generalize (aa p l).kr.map DV.bool=VK at *;simp only[Sg.cs] at r2 ht;have pa:=qL (p:=p) (w:=w) (u:=u);generalize exP p l=EX at *;by_cases h1:p.pr.align=1;rotate_left
 · simp[r0,r2,r3,pa,h1]
 cases last with
 | true=>simp[r0,r2,r3,pa,h1]
 | false=>
 cases TB with
 | true=>simp[r0,r2,r3,pa,h1,ht]
 | false=>
 by_cases h4:0<blN ML;rotate_left
 · have h4':blN ML=0:=by omega
   simp[r0,r2,r3,pa,h1,ht,h4']
 have h4':(0:Int)<blN ML:=by omega
 by_cases h5:0<EX
 · simp[r0,r2,r3,pa,h1,ht,h4,h4',h5]
 by_cases h6:EX<0;rotate_left
 · simp[r0,r2,r3,pa,h1,ht,h4,h4',h5,h6]
 by_cases h7:-EX≤blS ML
 · simp[r0,r2,r3,pa,h1,ht,h4,h4',h5,h6,wn,h7]
 · simp[r0,r2,r3,pa,h1,ht,h4,h4',h5,h6,wn,h7]
end
section
variable {st:St} {p:aI} {w u:LW} {l:Ln} {last:Bool} {ts ns:Nat} {tks:Tk} {nns:Bool} {t n:Nat} {tk:Tk} {nn:Bool}
theorem DQ {A:List HO} (hA:PlA p w u l (.list ts ns tks nns ((aa p l).l.map ab.dv)) (.list t n tk nn ((aa p l).kr.map DV.bool)) A) (hn:jj p.text 0=0) (hx:0≤l.x∧l.x≤4095) (hd:0<(aa p l).drop∧(aa p l).drop≤1000) (a2 a10 a11 a12 a86:DV) (sp:Bool):∃ ov K,
 (E tab).C (.aG oR [] [] [3,4,9,10,11,12,13,14]) [(3,.ptr st.heap.length 0),(4,.ptr (st.heap.length+1) 0),(9,.ptr (st.heap.length+2) 0),(10,a10),(11,a11),(12,a12),(13,a2),(14,.ptr (st.heap.length+(A.length+1)) 0),(86,a86)] (pst st (A++[.cells .plain [.bool sp],.cells .plain [.list 0 0 .no false []]]) []) =
  some (.normal,[(3,.ptr st.heap.length 0),(4,.ptr (st.heap.length+1) 0),(9,.ptr (st.heap.length+2) 0),(10,a10),(11,a11),(12,a12),(13,a2),(14,.ptr (st.heap.length+(A.length+1)) 0)],pst st (A++[.cells .plain [.bool sp],.cells .plain [ov]]) K)∧Acc st K 4 ((dH p l).map Gl.dv) ov:=by
 have hpre:dH p l=[⟨0,qm p.text 0,l.x-(aa p l).drop,(aa p l).drop-4⟩]:=if_pos hd.1;rw[hpre];obtain⟨ov',K',hap,hA'⟩:=cR (st:=st) (H:=A++[.cells .plain [.bool sp],.cells .plain [.list 0 0 .no false []]]) (K:=[]) (xs:=[]) (v:=.list 0 0 .no false []) (n:=4) (by_:=32) (ag:=true) (tk:=.tight) (t:=st.cur) (ys:=[Gl.dv ⟨0,qm p.text 0,l.x-(aa p l).drop,(aa p l).drop-4⟩]) (dU _ _ _ _ _ _) (by omega) (by simp) (by simp[mG]) (by simp[aB]) (by simp[aB]);refine⟨ov',K',?_,by simpa using hA'⟩;obtain⟨t9,n9,tk9,nn9,rfl⟩:=bK hA';have h228:=fun st=>IW (st:=st) (p:=p) (w:=w) (u:=u) (s:=aa p l) (lv:=.list ts ns tks nns ((aa p l).l.map ab.dv)) (kv:=.list t n tk nn ((aa p l).kr.map DV.bool)) hn rfl rfl rfl rfl;have r0:=hA.r0;have r1:=hA.r1;have r2:=hA.r2;have w1:IntKind.i64.wrap (l.x-(aa p l).drop)=l.x-(aa p l).drop:=ay (by omega);have w2:IntKind.i64.wrap ((aa p l).drop-4)=(aa p l).drop-4:=ay (by omega);generalize (aa p l).l.map ab.dv=VL at *;generalize (aa p l).kr.map DV.bool=VK at *;simp only[Sg.cs,Ln.cs,Gl.dv,Gl.cs] at r1 r2 h228 hap ⊢;simp[aM,bM,bR,bQ,aR,r0,r1,r2,h228,w1,w2,aC,aO,chunk,hap]
theorem DT {A:List HO} (hA:PlA p w u l (.list ts ns tks nns ((aa p l).l.map ab.dv)) (.list t n tk nn ((aa p l).kr.map DV.bool)) A) (h0:aE p=0) (hex:-100000000≤exP p l∧exP p l≤100000000) (a12 a13 a14 ov:DV) (sp:Bool) (N:Int) (K:List Nat) (tl:Fr) :
 (E tab).C (.region xh [4,9,10,12,13,14,15,16,17]) ((3,.ptr st.heap.length 0)::(4,.ptr (st.heap.length+1) 0)::(9,.ptr (st.heap.length+2) 0)::(10,.ptr (st.heap.length+3) 0)::(11,.int .i64 N)::(12,a12)::(13,a13)::(14,a14)::tl) (pst st (A++[.cells .plain [.bool sp],.cells .plain [ov]]) K) =
  some (.normal,[(4,.ptr (st.heap.length+1) 0),(9,.ptr (st.heap.length+2) 0),(10,.ptr (st.heap.length+3) 0),(12,a12),(13,a13),(14,a14),(15,.ptr (st.heap.length+(A.length+2)) 0),(16,.ptr (st.heap.length+(A.length+3)) 0),(17,.ptr (st.heap.length+(A.length+4)) 0)],pst st (A++[.cells .plain [.bool sp],.cells .plain [ov],.cells .plain [.int .i64 (di p l)],.cells .plain [.int .i64 0],.cells .plain [.int .i64 N]]) K):=by
 have hc:=fp h0;have hmv:=fun st=>GK (st:=st) p.pr.align (exP p l) ⟨hc.2.2.2.2.1,hc.2.2.2.2.2.1⟩ ⟨by omega,by omega⟩;have r0:=hA.r0;have r3:=hA.r3;have pa:=qL (p:=p) (w:=w) (u:=u);unfold di;generalize exP p l=EX at *;simp[r0,r3,pa,hmv]
end
section
variable {st:St} {p:aI} {w u:LW} {l:Ln} {last:Bool}
theorem zZ:cq p l last 0=l.x+di p l:=by
 have:tkn (spB p l last) (exP p l) (dK p l) 0=0:=by unfold tkn;split<;>simp
 simp[cq,aT,kAt,this]
theorem qQ {K:List Nat} {n:Nat} {xs:List DV} {v:DV} (h:Acc st K n xs v):∃ t n' tk nn,v=.list t n' tk nn xs∧(nn=true→n'=n)∧(nn=false→xs=[]):=by
 rcases h with ⟨rfl,t,n',tk,rfl⟩ | ⟨k,s,rfl,_⟩
 · exact⟨_,_,_,_,rfl,(fun h=>by cases h),fun _=>rfl⟩
 · exact⟨_,_,_,_,rfl,fun _=>rfl,(fun h=>by cases h)⟩
theorem uH (p:aI) (l:Ln):0≤(aa p l).drop∧(aa p l).drop≤68:=by
 have:=qN p;show 0≤dn (aH p) (cB p) l.f l.t (ak p)∧dn (aH p) (cB p) l.f l.t (ak p)≤68;unfold dn;split<;>omega
theorem mE (h0:aE p=0) (hL:AX p l) (hm:c8 p.text l=true):-100000000≤exP p l∧exP p l≤100000000:=by
 have hm':=hm;simp only[c8,aac,decide_eq_true_eq] at hm';have hsol:(aa p l).aq≤(aa p l).l.length:=cr _ _;have hlen:=hL.row.len;have hpos:=(hM (p:=p) hL.row hL.ah (x:=l.x) (by omega) (aa p l).aq hsol).1
 have hhy:0≤(aa p l).dL∧(aa p l).dL≤64:=by
  show 0≤(if l.h then hyW (kc p l) else 0)∧(if l.h then hyW (kc p l) else 0)≤64;have:=jV 45 (iA h0 l).1 (iA h0 l).2;unfold hyW;split<;>omega
 unfold exP;omega
def El:RC:=(.seq (.region xh [4,9,10,12,13,14,15,16,17]) (.seq (.region Ca [4,9,10,12,13,14,15,16,17,18]) (.seq (.seq (.region Di [4,9,10,12,13,14,15,16,17,18,109]) (.cond (.t 109) (.region Cq [4,9,10,13,14,15,16,17,18]) .skip)) (.seq (.region BQ [4,9,14,15,16,18,19]) (.seq (.region Dt [4,9,14,15,16,18,19,20]) (.seq (.region Dh [4,9,14,20]) (.seq (.seq (.region Cx [4,9,14,20,125,126,127]) (.block 0 tm)) (.seq (.seq (.region CD [4,9,14,20,142]) (.cond (.t 142) (.region Bs [14]) .skip)) (.seq (.region Bw [6,7]) .ret)))))))))
def r8c:RC:=(.seq (.region zT [2,3,4,9,10,11,12]) (.seq (.region AO [3,4,9,10,11,12,13]) (.seq (.region xf [3,4,9,10,11,12,13,14]) (.seq (.seq (.region n4 [3,4,9,10,11,12,13,14,86]) (.cond (.t 86) (.aG oR [] [] [3,4,9,10,11,12,13,14]) .skip)) El))))
theorem Lf:f210=⟨[.t 6,.t 7],(.seq (.region F0 [2,3,4]) (.seq (.seq (.region FR [2,3,4,8]) (.seq (.region IN [2,3,4,8,26]) (.cond (.t 26) (.seq (.region IU [6,7]) .ret) .skip))) (.seq (.seq (.region IX [2,3,4,31]) (.cond (.t 31) (.seq (.region H6 [6,7]) .ret) .skip)) (.seq (.region H9 [2,3,4,9]) (.seq (.aG nk [13] [(1,[1]),(7,[0]),(10,[0])] [2,3,4,9,10]) r8c))))),true⟩:=rfl
theorem BM (h0:aE p=0) (hL:AX p l) (hm:c8 p.text l=true) {ts ns:Nat} {tks:Tk} {nns:Bool} {t n:Nat} {tk:Tk} {nn:Bool} (hn6:(aa p l).l≠[]→ns=6) (hnn:nns=true→ns=6) (hn1:(aa p l).kr≠[]→n=1) {A:List HO}
 (hA:PlA p w u l (.list ts ns tks nns ((aa p l).l.map ab.dv)) (.list t n tk nn ((aa p l).kr.map DV.bool)) A) {ov:DV} {K:List Nat} (hO:Acc st K 4 ((dH p l).map Gl.dv) ov) (tl:Fr) :
 ∃ v H' K',(E tab).C El ((3,.ptr st.heap.length 0)::(4,.ptr (st.heap.length+1) 0)::(9,.ptr (st.heap.length+2) 0)::(10,.ptr (st.heap.length+3) 0)::(11,.int .i64 (blN (b7 (aa p l))))::(12,.int .i64 (blS (b7 (aa p l))))::(13,.ptr (st.heap.length+A.length) 0)::(14,.ptr (st.heap.length+(A.length+1)) 0)::tl) (pst st (A++[.cells .plain [.bool (spB p l last)],.cells .plain [ov]]) K) =
   some (.ret,[(6,v),(7,.int .i64 0)],pst st H' K')∧Acc st K' 4 ((bV p l last).map Gl.dv) v:=by
 have hm':=hm;simp only[c8,aac,decide_eq_true_eq] at hm';have hlen:=hL.row.len;have hsol:(aa p l).aq≤(aa p l).l.length:=cr _ _;have hex:=mE h0 hL hm
 have hadd:0≤di p l∧di p l≤100000000:=by
  unfold di jI;split
  · omega
  · split<;>omega
 have h13:=DT (st:=st) hA h0 hex (.int .i64 (blS (b7 (aa p l)))) (.ptr (st.heap.length+A.length) 0) (.ptr (st.heap.length+(A.length+1)) 0) ov (spB p l last) (blN (b7 (aa p l))) K tl;have hprl:(dH p l).length≤1:=by unfold dH;split<;>simp
 obtain⟨ov1,K1,JJ1,hwk,hO1⟩:=As (st:=st) (last:=last) h0 hL hm hn6 hnn hn1 (A:=A) hA.r2 hA.r3 hO (by omega);have hsl:=lX (n:=6) (en:=ns) (t:=ts) (tk:=tks) (nn:=nns) (xs:=(aa p l).l.map ab.dv) (k:=.i64) (lo:=(aa p l).aq) hnn (by omega) (by simp;omega);have hdr:((aa p l).l.map ab.dv).drop ((aa p l).aq:Int).toNat=((aa p l).l.drop (aa p l).aq).map ab.dv:=by rw[List.map_drop];rfl
 have hVl:((aa p l).l.map ab.dv).length=(aa p l).l.length:=by simp
 rw[hdr,hVl,Int.toNat_natCast] at hsl;obtain⟨ov2,K2,JJ2,fr2,hLo,hO2⟩:=Mj (st:=st) (A:=A) (sp:=spB p l last) (add:=di p l) (k:=kAt (aa p l) (bZ p l) (aa p l).aq) (all:=dK p l) (en:=cq p l last (aa p l).aq) (pf:=fnP (bZ p l)) (tf:=fnT st A) (zs:=(aa p l).l.drop (aa p l).aq) (by rw[aa2];omega) (t:=ts) (n:=ns) (tk:=lI tks (aa p l).l.length (aa p l).aq (aa p l).l.length) (nn:=nns) (fun h=>hn6 (fun e=>h (by rw[e];simp))) (gs:=dH p l++(aan (aa p l).aq).map (eC p l last)) (by simp;omega) _ [] ov1 K1 JJ1 rfl (by simpa using hO1);have hVd:(((aa p l).l.drop (aa p l).aq).map ab.dv).length=((aa p l).l.drop (aa p l).aq).length:=by simp
 have hen0:=zZ (p:=p) (l:=l) (last:=last);rw[hen0] at hwk;have w1:IntKind.i64.wrap (l.x+di p l)=l.x+di p l:=ay (by omega);have r1:=hA.r1;have r2:=hA.r2;have r3:=hA.r3;have hall:dK p l=if bZ p l then blS (b7 (aa p l)) else blN (b7 (aa p l)):=rfl
 have hneg:bZ p l=decide (exP p l<0):=rfl;by_cases hh:l.h=true
 · have hg:bV p l last=dH p l++(aan (aa p l).aq).map (eC p l last)++uB p l last++[⟨l.t,l.t,cq p l last (aa p l).aq,(aa p l).dL⟩]:=by simp[bV,ll,hh]
   have htl:uB p l last=((aa p l).l.drop (aa p l).aq).map (tgl (cq p l last (aa p l).aq)):=rfl;rw[hg,htl];have htl2:((aa p l).l.drop (aa p l).aq).length≤4096:=by rw[aa2];omega
   obtain⟨ov3,K3,hap,hO3⟩:=cR (H:=HC A (spB p l last) ov2 (di p l) (kAt (aa p l) (bZ p l) (aa p l).aq) (dK p l) (fnP (bZ p l)) (fnT st A) (cq p l last (aa p l).aq) JJ2) (by_:=32) (ag:=true) (tk:=.tight) (t:=st.cur) (ys:=[Gl.dv ⟨l.t,l.t,cq p l last (aa p l).aq,(aa p l).dL⟩]) hO2 (by omega) (by simp) (by simp[mG]) (by simp[aB];omega) (by simp[aB];omega);refine⟨ov3,HC A (spB p l last) ov3 (di p l) (kAt (aa p l) (bZ p l) (aa p l).aq) (dK p l) (fnP (bZ p l)) (fnT st A) (cq p l last (aa p l).aq) JJ2,K3,?_,by simpa using hO3⟩;obtain⟨u0,u1,u2,u3,rfl⟩:=bK hO;obtain⟨v0,v1,v2,v3,rfl⟩:=bK hO1;obtain⟨x0,x1,x2,x3,rfl⟩:=bK hO2;obtain⟨y0,y1,y2,y3,rfl⟩:=bK hO3;have hh':l.h=true:=hh;generalize (dH p l++(aan (aa p l).aq).map (eC p l last)++((aa p l).l.drop (aa p l).aq).map (tgl (cq p l last (aa p l).aq))).map Gl.dv=VO2 at *;generalize (dH p l++(aan (aa p l).aq).map (eC p l last)).map Gl.dv=VO1 at *;generalize (dH p l).map Gl.dv=VO at *;generalize ((aa p l).l.drop (aa p l).aq).map ab.dv=VD at *;generalize (aa p l).l.map ab.dv=VL at *;generalize (aa p l).kr.map DV.bool=VK at *;generalize cq p l last (aa p l).aq=EN at *;generalize kAt (aa p l) (bZ p l) (aa p l).aq=KN at *;generalize spB p l last=SB at *;generalize b7 (aa p l)=ML at *;simp only[HC,Sg.cs,Ln.cs,Gl.dv,Gl.cs,fnT,fnP] at hwk hLo hap r1 r2 ⊢;by_cases hx:exP p l<0
   · have hng:bZ p l=true:=by rw[hneg];simp[hx]
     rw[hng,if_pos rfl] at hall;rw[hng] at hwk hLo hap ⊢;rw[hall] at hwk hLo hap ⊢;generalize exP p l=EX at *;simp at hwk hLo hsl hap;unfold El;rw[ie,h13];simp only;simp[hx,r1,r2,r3,w1,hwk,hsl,hVd,hLo,hh',aC,aO,chunk,hap]
   · have hng:bZ p l=false:=by rw[hneg];simp[hx]
     rw[hng,if_neg (by simp)] at hall;rw[hng] at hwk hLo hap ⊢;rw[hall] at hwk hLo hap ⊢;generalize exP p l=EX at *;simp at hwk hLo hsl hap;unfold El;rw[ie,h13];simp only;simp[hx,r1,r2,r3,w1,hwk,hsl,hVd,hLo,hh',aC,aO,chunk,hap]
 · have hg:bV p l last=dH p l++(aan (aa p l).aq).map (eC p l last)++uB p l last:=by simp[bV,ll,hh]
   have htl:uB p l last=((aa p l).l.drop (aa p l).aq).map (tgl (cq p l last (aa p l).aq)):=rfl;rw[hg,htl];refine⟨ov2,HC A (spB p l last) ov2 (di p l) (kAt (aa p l) (bZ p l) (aa p l).aq) (dK p l) (fnP (bZ p l)) (fnT st A) (cq p l last (aa p l).aq) JJ2,K2,?_,hO2⟩;obtain⟨u0,u1,u2,u3,rfl⟩:=bK hO;obtain⟨v0,v1,v2,v3,rfl⟩:=bK hO1;obtain⟨x0,x1,x2,x3,rfl⟩:=bK hO2;have hh':l.h=false:=by simpa using hh
   generalize (dH p l++(aan (aa p l).aq).map (eC p l last)++((aa p l).l.drop (aa p l).aq).map (tgl (cq p l last (aa p l).aq))).map Gl.dv=VO2 at *;generalize (dH p l++(aan (aa p l).aq).map (eC p l last)).map Gl.dv=VO1 at *;generalize (dH p l).map Gl.dv=VO at *;generalize ((aa p l).l.drop (aa p l).aq).map ab.dv=VD at *;generalize (aa p l).l.map ab.dv=VL at *;generalize (aa p l).kr.map DV.bool=VK at *;generalize cq p l last (aa p l).aq=EN at *;generalize kAt (aa p l) (bZ p l) (aa p l).aq=KN at *;generalize spB p l last=SB at *;generalize b7 (aa p l)=ML at *;simp only[HC,Sg.cs,Ln.cs,fnT,fnP] at hwk hLo r1 r2 ⊢;by_cases hx:exP p l<0
   · have hng:bZ p l=true:=by rw[hneg];simp[hx]
     rw[hng,if_pos rfl] at hall;rw[hng] at hwk hLo ⊢;rw[hall] at hwk hLo ⊢;generalize exP p l=EX at *;simp at hwk hLo hsl;unfold El;rw[ie,h13];simp only;simp[hx,r1,r2,r3,w1,hwk,hsl,hVd,hLo,hh']
   · have hng:bZ p l=false:=by rw[hneg];simp[hx]
     rw[hng,if_neg (by simp)] at hall;rw[hng] at hwk hLo ⊢;rw[hall] at hwk hLo ⊢;generalize exP p l=EX at *;simp at hwk hLo hsl;unfold El;rw[ie,h13];simp only;simp[hx,r1,r2,r3,w1,hwk,hsl,hVd,hLo,hh']
theorem Fu (h0:aE p=0) (hL:AX p l) (hm:c8 p.text l=true) {ts ns:Nat} {tks:Tk} {nns:Bool} {t n:Nat} {tk:Tk} {nn:Bool} (hn6:(aa p l).l≠[]→ns=6) (hnn:nns=true→ns=6) (hn1:(aa p l).kr≠[]→n=1) {A:List HO}
 (hA:PlA p w u l (.list ts ns tks nns ((aa p l).l.map ab.dv)) (.list t n tk nn ((aa p l).kr.map DV.bool)) A) :
 ∃ v H' K',(E tab).C r8c [(2,.bool last),(3,.ptr st.heap.length 0),(4,.ptr (st.heap.length+1) 0),(9,.ptr (st.heap.length+2) 0),(10,.ptr (st.heap.length+3) 0)] (pst st A []) =
   some (.ret,[(6,v),(7,.int .i64 0)],pst st H' K')∧Acc st K' 4 ((bV p l last).map Gl.dv) v:=by
 have hm':=hm;simp only[c8,aac,decide_eq_true_eq] at hm';have hnx:=(uK hm).2;have hlen:=hL.row.len;have hok:(aa p l).l.all okM=true:=aae.2 fun m hm=>aae.1 (cD p).ok m (eP hm);have hsol:(aa p l).aq≤(aa p l).l.length:=cr _ _;have hex:=mE h0 hL hm;have hdr:=uH p l;have h226:=fun st=>D6 (st:=st) (s:=aa p l) (ts:=ts) (tks:=tks) (kv:=.list t n tk nn ((aa p l).kr.map DV.bool)) hn6 hnn hlen hok hL.ahs hsol rfl rfl;have h9:=Fc (st:=st) (last:=last) hA hn6 hlen hex;have r2:=qJ hA.r2;have r2':=hA.r2;have hb:=wV (b7 (aa p l));rw[show ((aa p l).l.take (aa p l).aq).drop (aa p l).ahead=b7 (aa p l) from rfl] at h226
 have h8:(E tab).C (.region zT [2,3,4,9,10,11,12]) [(2,.bool last),(3,.ptr st.heap.length 0),(4,.ptr (st.heap.length+1) 0),(9,.ptr (st.heap.length+2) 0),(10,.ptr (st.heap.length+3) 0)] (pst st A []) =
  some (.normal,[(2,.bool last),(3,.ptr st.heap.length 0),(4,.ptr (st.heap.length+1) 0),(9,.ptr (st.heap.length+2) 0),(10,.ptr (st.heap.length+3) 0),(11,.int .i64 (blN (b7 (aa p l)))),(12,.int .i64 (blS (b7 (aa p l))))],pst st A []):=by
  generalize (aa p l).l.map ab.dv=VL at *;generalize (aa p l).kr.map DV.bool=VK at *;generalize b7 (aa p l)=ML at *;simp only[Sg.cs] at r2 h226;simp[r2,h226]
 have h10:(E tab).C (.region xf [3,4,9,10,11,12,13,14]) [(3,.ptr st.heap.length 0),(4,.ptr (st.heap.length+1) 0),(9,.ptr (st.heap.length+2) 0),(10,.ptr (st.heap.length+3) 0),(11,.int .i64 (blN (b7 (aa p l)))),(12,.int .i64 (blS (b7 (aa p l)))),(13,.ptr (st.heap.length+A.length) 0)] (pst st (A++[.cells .plain [.bool (spB p l last)]]) []) =
  some (.normal,[(3,.ptr st.heap.length 0),(4,.ptr (st.heap.length+1) 0),(9,.ptr (st.heap.length+2) 0),(10,.ptr (st.heap.length+3) 0),(11,.int .i64 (blN (b7 (aa p l)))),(12,.int .i64 (blS (b7 (aa p l)))),(13,.ptr (st.heap.length+A.length) 0),(14,.ptr (st.heap.length+(A.length+1)) 0)],pst st (A++[.cells .plain [.bool (spB p l last)],.cells .plain [.list 0 0 .no false []]]) []):=by
  simp
 unfold r8c;rw[ie,h8];simp only;rw[ie,h9];simp only;rw[ie,h10];simp only
 have h11:(E tab).C (.region n4 [3,4,9,10,11,12,13,14,86]) [(3,.ptr st.heap.length 0),(4,.ptr (st.heap.length+1) 0),(9,.ptr (st.heap.length+2) 0),(10,.ptr (st.heap.length+3) 0),(11,.int .i64 (blN (b7 (aa p l)))),(12,.int .i64 (blS (b7 (aa p l)))),(13,.ptr (st.heap.length+A.length) 0),(14,.ptr (st.heap.length+(A.length+1)) 0)] (pst st (A++[.cells .plain [.bool (spB p l last)],.cells .plain [.list 0 0 .no false []]]) []) =
  some (.normal,[(3,.ptr st.heap.length 0),(4,.ptr (st.heap.length+1) 0),(9,.ptr (st.heap.length+2) 0),(10,.ptr (st.heap.length+3) 0),(11,.int .i64 (blN (b7 (aa p l)))),(12,.int .i64 (blS (b7 (aa p l)))),(13,.ptr (st.heap.length+A.length) 0),(14,.ptr (st.heap.length+(A.length+1)) 0),(86,.bool (decide (0<(aa p l).drop)))],pst st (A++[.cells .plain [.bool (spB p l last)],.cells .plain [.list 0 0 .no false []]]) []):=by
  simp only[Sg.cs] at r2';simp[r2']
 by_cases hd:0<(aa p l).drop
 · obtain⟨ov,K,h12,hO⟩:=DQ (st:=st) hA hnx ⟨by omega,by omega⟩ ⟨hd,by omega⟩ (.ptr (st.heap.length+A.length) 0) (.ptr (st.heap.length+3) 0) (.int .i64 (blN (b7 (aa p l)))) (.int .i64 (blS (b7 (aa p l)))) (.bool true) (spB p l last);obtain⟨v,H',K',hr,hR⟩:=BM (st:=st) (last:=last) h0 hL hm hn6 hnn hn1 hA hO [];refine⟨v,H',K',?_,hR⟩
   have h12':(E tab).C (.seq (.region n4 [3,4,9,10,11,12,13,14,86]) (.cond (.t 86) (.aG oR [] [] [3,4,9,10,11,12,13,14]) .skip)) [(3,.ptr st.heap.length 0),(4,.ptr (st.heap.length+1) 0),(9,.ptr (st.heap.length+2) 0),(10,.ptr (st.heap.length+3) 0),(11,.int .i64 (blN (b7 (aa p l)))),(12,.int .i64 (blS (b7 (aa p l)))),(13,.ptr (st.heap.length+A.length) 0),(14,.ptr (st.heap.length+(A.length+1)) 0)] (pst st (A++[.cells .plain [.bool (spB p l last)],.cells .plain [.list 0 0 .no false []]]) [])=some (.normal,[(3,.ptr st.heap.length 0),(4,.ptr (st.heap.length+1) 0),(9,.ptr (st.heap.length+2) 0),(10,.ptr (st.heap.length+3) 0),(11,.int .i64 (blN (b7 (aa p l)))),(12,.int .i64 (blS (b7 (aa p l)))),(13,.ptr (st.heap.length+A.length) 0),(14,.ptr (st.heap.length+(A.length+1)) 0)],pst st (A++[.cells .plain [.bool (spB p l last)],.cells .plain [ov]]) K):=by
    rw[ie,h11];simp only[hd,decide_true];rw[F6 (v:=true) _ _ _ _ _ rfl,if_pos rfl];exact h12
   rw[ie,h12'];simp only;exact hr
 · have hO:Acc st [] 4 ((dH p l).map Gl.dv) (.list 0 0 .no false []):=by
    have:dH p l=[]:=if_neg hd;rw[this];exact dU _ _ _ _ _ _
   obtain⟨v,H',K',hr,hR⟩:=BM (st:=st) (last:=last) h0 hL hm hn6 hnn hn1 hA hO [(86,.bool false)];refine⟨v,H',K',?_,hR⟩
   have h12':(E tab).C (.seq (.region n4 [3,4,9,10,11,12,13,14,86]) (.cond (.t 86) (.aG oR [] [] [3,4,9,10,11,12,13,14]) .skip)) [(3,.ptr st.heap.length 0),(4,.ptr (st.heap.length+1) 0),(9,.ptr (st.heap.length+2) 0),(10,.ptr (st.heap.length+3) 0),(11,.int .i64 (blN (b7 (aa p l)))),(12,.int .i64 (blS (b7 (aa p l)))),(13,.ptr (st.heap.length+A.length) 0),(14,.ptr (st.heap.length+(A.length+1)) 0)] (pst st (A++[.cells .plain [.bool (spB p l last)],.cells .plain [.list 0 0 .no false []]]) [])=some (.normal,[(3,.ptr st.heap.length 0),(4,.ptr (st.heap.length+1) 0),(9,.ptr (st.heap.length+2) 0),(10,.ptr (st.heap.length+3) 0),(11,.int .i64 (blN (b7 (aa p l)))),(12,.int .i64 (blS (b7 (aa p l)))),(13,.ptr (st.heap.length+A.length) 0),(14,.ptr (st.heap.length+(A.length+1)) 0),(86,.bool false)],pst st (A++[.cells .plain [.bool (spB p l last)],.cells .plain [.list 0 0 .no false []]]) []):=by
    rw[ie,h11];simp only[hd,decide_false];rw[F6 (v:=false) _ _ _ _ _ rfl,if_neg (by simp)];simp
   rw[ie,h12'];simp only;exact hr
theorem Ij (hp:p.small) (hw:w.ok 4 p.aF) (hu:u.ok 1 p.marks) (hLn:aE p=0→c8 p.text l=true→AX p l) :
 ∃ v,(E tab).F 210 [.agg (af p w u),.agg l.cs,.bool last] st=some (.tuple [v,.int .i64 (bG p l)],st)∧Lw 4 ((if bG p l=0 then bV p l last else []).map Gl.dv) v:=by
 rw[aK Lg rfl];have h13:=fun st=>wz p hp w u hw hu st;have h222:=fun st=>Fw (st:=st) (p:=p) (w:=w) (u:=u) l;by_cases h0:aE p=0;rotate_left
 · have hE:bG p l=aE p:=if_pos h0;rw[hE,if_neg h0];refine⟨.list 0 0 .no false [],?_,.list _ _ _ _ (fun h=>by cases h) (fun _=>rfl)⟩;simp only[Ln.cs] at h222 ⊢;simp[f210,h13,h0]
 by_cases hm:c8 p.text l=true;rotate_left
 · have hE:bG p l=5:=by unfold bG;rw[if_neg (by simp[h0]),if_neg hm]
   rw[hE];refine⟨.list 0 0 .no false [],?_,.list _ _ _ _ (fun h=>by cases h) (fun _=>rfl)⟩;simp only[abw] at hm;rw[hm] at h222;simp only[Ln.cs] at h222 ⊢;simp[f210,h13,h0,h222]
 have hE:bG p l=0:=by unfold bG;rw[if_neg (by simp[h0]),if_pos hm]
 rw[hE,if_pos rfl];have hL:=hLn h0 hm;have hm':=hm;simp only[c8,aac,decide_eq_true_eq] at hm';have hnx:=(uK hm).2;have hlen:=hL.row.len;have hok:(aa p l).l.all okM=true:=aae.2 fun m hm=>aae.1 (cD p).ok m (eP hm);have hsol:(aa p l).aq≤(aa p l).l.length:=cr _ _;have hex:=mE h0 hL hm
 have hadd:0≤di p l∧di p l≤100000000:=by
  unfold di jI;split
  · omega
  · split<;>omega
 rw[hm] at h222;obtain⟨lv,kv,h223,hlv,hkv⟩:=sy (st:=pst st [.cells .plain (af p w u),.cells .plain l.cs] []) h0 hp hw hu l;obtain⟨ts,ns,tks,nns,rfl,hn6a,hnn,_⟩:=eY hlv;obtain⟨t,n,tk,nn,rfl,hn1a,_,_⟩:=eY hkv;have hn6:(aa p l).l≠[]→ns=6:=fun h=>hn6a (by simpa using h);have hn1:(aa p l).kr≠[]→n=1:=fun h=>hn1a (by simpa using h);obtain⟨J1,hhead⟩:=rE (st:=st) (last:=last) h0 hL hm (ts:=ts) (tks:=tks) (t:=t) (tk:=tk) (nn:=nn) hn6 hnn hn1 (af p w u);have hPA:PlA p w u l (.list ts ns tks nns ((aa p l).l.map ab.dv)) (.list t n tk nn ((aa p l).kr.map DV.bool)) (.cells .plain (af p w u)::.cells .plain l.cs::.cells .plain ((aa p l).cs (.list ts ns tks nns ((aa p l).l.map ab.dv)) (.list t n tk nn ((aa p l).kr.map DV.bool)))::.cells .plain [.int .i64 (exP p l)]::J1):=⟨fun _=>rfl,fun _=>rfl,fun _=>rfl,fun _=>rfl⟩;obtain⟨v,H',K',hr,hR⟩:=Fu (st:=st) (last:=last) h0 hL hm hn6 hnn hn1 hPA;obtain⟨b0,b1,b2,b3,rfl,c1,c2⟩:=qQ hR;refine⟨.list b0 b1 (jc b2) b3 ((bV p l last).map Gl.dv),?_,.list _ _ _ _ c1 c2⟩;rw[Lf];generalize (bV p l last).map Gl.dv=VG at *;generalize (aa p l).l.map ab.dv=VL at *;generalize (aa p l).kr.map DV.bool=VK at *;simp only[Sg.cs,Ln.cs] at h222 h223 hhead hr ⊢;simp[nk] at hhead;simp[-cP,exl,h13,h0,h222,h223,hhead,hr]
end
def xz:Nat→List Clu→Nat→Prop
 | i,[],e=>i=e
 | i,c::r,e=>c.a=i∧i<c.b∧xz c.b r e
def Chn:Int→List ab→Int→Prop
 | i,[],e=>i=e
 | i,m::r,e=>m.a=i∧i<m.b∧Chn m.b r e
theorem pI (s:List UInt8):∀ n i,s.length≤i+n→i≤s.length→xz i (b8 s n i) s.length
 | 0,i,h1,h2=>by
   obtain rfl:i=s.length:=by omega
   simp[b8,xz]
 | n+1,i,h1,h2=>by
   have ht:=kS s (eJ s i) 2 (i+1);by_cases hi:i<s.length
   · simp only[b8,hi,if_true,xz];exact⟨trivial,by unfold cTo;omega,pI s n (cTo s i) (by unfold cTo;omega) (by unfold cTo;omega)⟩
   · obtain rfl:i=s.length:=by omega
     simp[b8,xz]
theorem sd (p:aI):∀ (l:List Clu) (i e:Nat) (kr:Bool) (bf:UInt8) (ps:Int) (mk:List (List UInt8)),xz i l e→Chn i (cK p kr bf ps mk l) e
 | [],i,e,_,_,_,_,h=>by simp only[xz] at h;subst h;simp[cK,Chn]
 | c::r,i,e,kr,bf,ps,mk,h=>by
   obtain⟨h1,h2,h3⟩:=h;simp only[cK,Chn,aJ];exact⟨by omega,by omega,sd p r c.b e _ _ _ _ h3⟩
theorem j4 {p:aI} (h0:aE p=0):Chn 0 (ak p) p.text.length:=by
 have:=sd p (cw p.text) 0 p.text.length false 0 0 p.marks (pI p.text p.text.length 0 (by omega) (by omega));unfold ak mY;rw[if_pos h0];exact this
theorem Chn.ge:∀ {L:List ab} {i e:Int},Chn i L e→i≤e∧∀ m∈L,i≤m.a∧m.a<m.b∧m.b≤e
 | [],i,e,h=>by simp only[Chn] at h;subst h;simp
 | m::r,i,e,h=>by
   obtain⟨h1,h2,h3⟩:=h;have ih:=Chn.ge h3;refine⟨by omega,fun x hx=>?_⟩;rcases aas.1 hx with rfl | hx
   · omega
   · have:=ih.2 x hx;omega
def okN (m k:ab):Prop:=k.e=0∨(aY m.k=true∧aY k.k=true∧0≤m.w+k.e)
def AQ:List ab→Prop
 | []=>True
 | m::r=>(∀ k r',r=k::r'→okN m k)∧AQ r
theorem Ng:(P10.all fun x=>decide (1≤em x.1.toNat))=true:=by decide +kernel
theorem MY:(P19.all fun x=>decide (1≤em x.1.toNat))=true:=by decide +kernel
theorem IM {l:List (UInt8×UInt8)} (hl:(l.all fun x=>decide (1≤em x.1.toNat))=true) {a b:UInt8} (h:isP l a b=true):1≤em a.toNat:=by
 unfold isP at h;obtain⟨x,hx,h2⟩:=abf.1 h;have h3:=aae.1 hl x hx;simp only[decide_eq_true_eq] at h3;simp only[aac,beq_iff_eq] at h2;rw[← h2.1] at *;exact h3
theorem KJ (a b:UInt8) {n:Int} (h1:1≤n) (h2:n≤64):0≤wd a n+fA a b n:=by
 have hw:=jV a h1 h2;unfold fA;split
 · rename_i h;have he:=IM Ng h
   have:n≤em a.toNat*n:=by
    have:=abz he (show 0≤n by omega);omega
   omega
 · split
   · rename_i h;have he:=IM MY h
     have:n≤em a.toNat*n:=by
      have:=abz he (show 0≤n by omega);omega
     omega
   · omega
theorem rj (p:aI) (hpr:cF p.pr=true) (hSp:km p.aF):∀ (l:List Clu) (kr:Bool) (bf:UInt8) (ps:Int) (mk:List (List UInt8)),AQ (cK p kr bf ps mk l)
 | [],_,_,_,_=>trivial
 | [c],_,_,_,_=>by simp[cK,AQ]
 | c::c2::r,kr,bf,ps,mk=>by
   have ih:=rj p hpr hSp (c2::r) (dy p c) (bAt p.text c.a) (sizeOf p c.a) (mT mk c);rw[cK];refine⟨?_,ih⟩;intro k r' hk;simp only[cK,List.cons.injEq] at hk;obtain⟨rfl,_⟩:=hk;unfold okN;simp only[aJ];unfold bu;split
   · rename_i h;right;simp only[dy,aac,beq_iff_eq] at h;have hs:=ke p hpr hSp c.a;have hn:=KJ (bAt p.text c.a) (bAt p.text c2.a) hs.1 hs.2.1;have hwd:=jV (bAt p.text c.a) hs.1 hs.2.1;refine⟨h.1.2.1,h.1.1.1,?_⟩;unfold fT;rw[if_pos (by simp[h.1.2.1]),← h.2,ay (by omega)];omega
   · exact .inl rfl
theorem E7 (p:aI):AQ (ak p):=by
 unfold ak;split
 · rename_i h0;obtain⟨_,_,hsp,hpr,_⟩:=dk h0
   have hS:km p.aF:=by
    unfold cN at hsp
    cases e:cO p.text.length p.aF with
    | none=>rw[e] at hsp;simp at hsp
    | some k=>exact(iE _ _ _ e).1
   exact rj p hpr hS _ _ _ _ _
 · trivial
theorem Gf {D:Bool} {f t:Int} {m k:ab} (h0:0≤m.a) (h1:m.a<k.a) (hm:dT D f t m=true) (hk:dT D f t k=false):t≤k.a:=by
 simp only[dT,inR,aac,decide_eq_true_eq,aby,decide_eq_false_iff_not,Bool.not_eq_false'] at hm hk;rcases hk with (hk | hk) | hk
 · omega
 · omega
 · omega
theorem filter_none {D:Bool} {f t:Int}:∀ {L:List ab} {i e:Int},Chn i L e→t≤i→L.filter (dT D f t)=[]
 | [],_,_,_,_=>rfl
 | m::r,i,e,h,ht=>by
   have hge:=h.ge;rw[List.filter_eq_nil_iff];intro x hx;have:=hge.2 x hx;simp only[dT,inR,aac,decide_eq_true_eq];omega
theorem sA {D:Bool} {f t:Int}:∀ {L:List ab} {i e:Int},0≤i→Chn i L e→AQ L→AQ (L.filter (dT D f t))
 | [],_,_,_,_,_=>trivial
 | m::r,i,e,h0,hc,hA=>by
   obtain⟨h1,h2,h3⟩:=hc;have ih:=sA (D:=D) (f:=f) (t:=t) (show 0≤m.b by omega) h3 hA.2;by_cases hm:dT D f t m=true
   · rw[List.filter_cons_of_pos hm];refine⟨?_,ih⟩;intro k r' hk
     cases r with
     | nil=>simp at hk
     | cons m2 r2=>
       obtain⟨g1,g2,g3⟩:=h3;by_cases hm2:dT D f t m2=true
       · rw[List.filter_cons_of_pos hm2] at hk;injection hk with hk _;subst hk;exact hA.1 m2 r2 rfl
       · exfalso;simp only[abw] at hm2;have:=Gf (by omega) (by omega) hm hm2;rw[abm (by simp[hm2]),filter_none g3 (by omega)] at hk;cases hk
   · rw[abm hm];exact ih
theorem Cs:∀ {L:List ab} (i:Nat),AQ L→i+1<L.length→okN (L.getD i mz) (L.getD (i+1) mz)
 | [],i,_,h=>by simp at h
 | [m],i,_,h=>by simp at h
 | m::k::r,0,hA,h=>by simpa using hA.1 k r rfl
 | m::k::r,i+1,hA,h=>by
   have:=Cs (L:=k::r) i hA.2 (by simpa using h);simpa using this
theorem Sz {p:aI} (h0:aE p=0) (l:Ln):mA (bx p l):=by
 refine⟨oq p l,?_,?_⟩
 · intro i hi;have hm:=aae.1 (cD p).ok _ (eP (aat (getM hi)));simp only[okM,decide_eq_true_eq] at hm;exact hm
 · intro i hi;exact Cs i (sA (by omega) (j4 h0) (E7 p)) hi
theorem uU (L:List ab) (s:Nat):∀ n i,i≤s→(∀ j,j<i→(L.getD j mz).k=3)→(eU L s n i≤s∧∀ j,j<eU L s n i→(L.getD j mz).k=3)
 | 0,i,h,h2=>⟨h,h2⟩
 | n+1,i,h,h2=>by
   unfold eU;by_cases hc:i<s∧(L.getD i mz).k=3
   · rw[if_pos hc];refine uU L s n (i+1) (by omega) (fun j hj=>?_);by_cases e:j=i
     · rw[e];exact hc.2
     · exact h2 j (by omega)
   · rw[if_neg hc];exact⟨h,h2⟩
theorem qE {p:aI} (h0:aE p=0) (l:Ln):AX p l:=by
 have ha:=uU (bx p l) (aV p l) (aV p l) 0 (by omega) (by intro j hj;omega);refine⟨Sz h0 l,?_,?_⟩
 · show ∀ i,i<fw p l→_;unfold fw;split
   · exact ha.2
   · intro i hi;omega
 · show fw p l≤aV p l;unfold fw;split
   · exact ha.1
   · omega
theorem Qk:tab 214=some (.code f214):=by kernel_rfl
section
variable {st:St} {p:aI} {w u:LW} {l:Ln} {last:Bool}
theorem o5 (hp:p.small) (hw:w.ok 4 p.aF) (hu:u.ok 1 p.marks) (l:Ln) (last:Bool) :
 ∃ v,(E tab).F 210 [.agg (af p w u),.agg l.cs,.bool last] st=some (.tuple [v,.int .i64 (bG p l)],st)∧Lw 4 ((if bG p l=0 then bV p l last else []).map Gl.dv) v:=
 Ij hp hw hu (fun h _=>qE h l)
theorem ql (h:bG p l=0):aE p=0∧c8 p.text l=true:=by
 unfold bG at h;split at h
 · rename_i hc;exact absurd h hc
 · rename_i hc;split at h
   · rename_i hm;exact⟨by simpa using hc,hm⟩
   · simp at h
theorem CX (h0:aE p=0) (l:Ln):0≤(aa p l).dL∧(aa p l).dL≤64:=by
 show 0≤(if l.h then hyW (kc p l) else 0)∧(if l.h then hyW (kc p l) else 0)≤64;have:=jV 45 (iA h0 l).1 (iA h0 l).2;unfold hyW;split<;>omega
theorem wa (h0:aE p=0) (hm:c8 p.text l=true):0≤di p l∧di p l≤100000000:=by
 have hex:=mE h0 (qE h0 l) hm;unfold di jI;split
 · omega
 · split<;>omega
theorem LZ (h0:aE p=0) (hm:c8 p.text l=true) (i:Nat) (hi:i≤(aa p l).l.length):-2000000000000000≤cq p l last i∧cq p l last i≤2000000000000000:=by
 have hL:=qE h0 l;have hm':=hm;simp only[c8,aac,decide_eq_true_eq] at hm';have hpos:=(hM (p:=p) hL.row hL.ah (x:=l.x) (by omega) i hi).1;have hex:=mE h0 hL hm;have hok:(aa p l).l.all okM=true:=aae.2 fun m hm=>aae.1 (cD p).ok m (eP hm);have hk:=ng (neg:=bZ p l) hok i hi;have hlen:=hL.row.len;have ht:=kz (sp:=spB p l last) (all:=dK p l) hex (k:=kAt (aa p l) (bZ p l) i) (by omega);have ha:=wa h0 hm;unfold cq;omega
theorem LG (h0:aE p=0) (hm:c8 p.text l=true):∀ g∈bV p l last,-9000000000000000≤g.x∧g.x≤9000000000000000 ∧ -9000000000000000≤g.w∧g.w≤9000000000000000:=by
 have hL:=qE h0 l;have hm':=hm;simp only[c8,aac,decide_eq_true_eq] at hm';have hsol:(aa p l).aq≤(aa p l).l.length:=cr _ _;have hen:=LZ (last:=last) h0 hm (aa p l).aq hsol;have hex:=mE h0 hL hm;have hok:(aa p l).l.all okM=true:=aae.2 fun m hm=>aae.1 (cD p).ok m (eP hm);have hlen:=hL.row.len;have ha:=wa h0 hm;have hdr:=uH p l;have hhy:=CX h0 l;intro g hg;unfold bV at hg;rcases aaA.1 hg with hg | hg
 · rcases aaA.1 hg with hg|hg
   · rcases aaA.1 hg with hg|hg
     · unfold dH at hg;split at hg
       · rw[aaw] at hg;subst hg;simp only;omega
       · cases hg
     · obtain⟨i,hi,rfl⟩:=aay.1 hg;rw[abF] at hi;have hpos:=hM (p:=p) hL.row hL.ah (x:=l.x) (by omega) i (by omega);have hat:=hpos.2 (by omega);have hk:=ng (neg:=bZ p l) hok i (by omega);have hk2:=ng (neg:=bZ p l) hok (i+1) (by omega);have ht:=kz (sp:=spB p l last) (all:=dK p l) hex (k:=kAt (aa p l) (bZ p l) i) (by omega);have ht2:=kz (sp:=spB p l last) (all:=dK p l) hex (k:=kAt (aa p l) (bZ p l) (i+1)) (by omega);have hle:=j3 (a:=atW p (aa p l).l i (aT p (aa p l).l (aa p l).ahead l.x i)) (by omega);have hr:=hL.row.ok i (by omega)
       have hwd:0≤wdW (aa p l).l (aa p l).ahead i (atW p (aa p l).l i (aT p (aa p l).l (aa p l).ahead l.x i))∧wdW (aa p l).l (aa p l).ahead i (atW p (aa p l).l i (aT p (aa p l).l (aa p l).ahead l.x i))≤4095:=by
        unfold wdW;split
        · omega
        · split<;>omega
       simp only[kAt] at ht2;simp only[eC,qC];omega
   · obtain⟨m,_,rfl⟩:=aay.1 hg;simp only;omega
 · unfold ll at hg;split at hg
   · rw[aaw] at hg;subst hg;simp only;omega
   · cases hg
theorem vi (p:aI) (l:Ln) (last:Bool):(bV p l last).length≤4100:=by
 have h1:=oq p l;have hsol:(aa p l).aq≤(aa p l).l.length:=cr _ _;have e:(aa p l).l.length=(bx p l).length:=rfl;have h2:(dH p l).length≤1:=by unfold dH;split<;>simp
 have h3:(ll p l last).length≤1:=by unfold ll;split<;>simp
 unfold bV uB;simp only[aag,aaP,List.length_range,aa2];omega
def gz:Gl:=⟨0,0,0,0⟩
theorem NJ {L:List Gl} {i:Nat} (h:i<L.length):L[i]? = some (L.getD i gz):=by rw[aaf,aaa h];rfl
theorem Lt {L:List Gl} {i:Nat} (h:i<L.length):(L.map Gl.dv)[i]? = some (L.getD i gz).dv:=by rw[aaG,NJ h];rfl
def Fh (x:Int) (L:List Gl):Int:=if L.length=0 then x else (L.getD (L.length-1) gz).x+(L.getD (L.length-1) gz).w
def Jl (p:aI) (l:Ln) (last:Bool):Int:=if bG p l=0 then Fh l.x (bV p l last) else 0
theorem LJ (hp:p.small) (hw:w.ok 4 p.aF) (hu:u.ok 1 p.marks) (l:Ln) (last:Bool) :
 (E tab).F 214 [.agg (af p w u),.agg l.cs,.bool last] st=some (.tuple [.int .i64 (Jl p l last),.int .i64 (bG p l)],st):=by
 rw[aK Qk rfl];obtain⟨v,hpl,hv⟩:=o5 (st:=pst st [.cells .plain (af p w u),.cells .plain l.cs] []) hp hw hu l last;obtain⟨t,n,tk,nn,rfl,h4,_,_⟩:=eY hv;unfold Jl;by_cases h0:bG p l=0
 · simp only[h0,if_true] at hpl h4 ⊢;obtain⟨hc,hm⟩:=ql h0;have hlen:=vi p l last;have hbd:=LG (last:=last) hc hm;unfold Fh;have hVl:((bV p l last).map Gl.dv).length=(bV p l last).length:=by simp
   by_cases hz:(bV p l last).length=0
   · rw[if_pos hz];generalize (bV p l last).map Gl.dv=VG at *;simp only[Ln.cs] at hpl ⊢;simp[f214,hpl,hVl,hz]
   · rw[if_neg hz];have hlt:(bV p l last).length-1<(bV p l last).length:=by omega
     have g0:=Lt hlt;have hb:=hbd _ (aat (NJ hlt));obtain rfl:=h4 (by intro e;rw[abq] at e;exact hz (by rw[e];rfl));have l0:(bV p l last).length-1<((bV p l last).map Gl.dv).length:=by rw[hVl];exact hlt
     have w1:IntKind.i64.wrap (((bV p l last).length:Int)-1)=(((bV p l last).length-1:Nat):Int):=by rw[ay (by omega)];omega
     generalize (bV p l last).getD ((bV p l last).length-1) gz=g at *;have w2:IntKind.i64.wrap (g.x+g.w)=g.x+g.w:=ay (by omega);generalize (bV p l last).map Gl.dv=VG at *;have g0':VG[(bV p l last).length-1]'l0=g.dv:=by rw[aaa l0] at g0;exact aab.inj g0
     have hz':¬ ((bV p l last).length:Int)=0:=by omega
     simp only[Ln.cs] at hpl ⊢;have hnn:¬ bV p l last=[]:=fun e=>hz (by rw[e];rfl);simp[f214,hpl,hVl,hz,hz',hnn,w1,w2,l0,g0,g0',Gl.dv,Gl.cs]
 · simp only[h0,if_false] at hpl ⊢;simp only[Ln.cs] at hpl ⊢;simp[f214,hpl,h0]
end
def Nd (i:Int) (L:List ab) (x:Int):Prop:=x=i∨∃ m∈L,m.b=x
theorem Nd.ge {L:List ab} {i e x:Int} (h:Chn i L e) (hx:Nd i L x):i≤x:=by
 rcases hx with rfl|⟨m,hm,rfl⟩
 · exact Int.le_refl _
 · have:=h.ge.2 m hm;omega
theorem Nd.tail {m:ab} {r:List ab} {i x:Int} (h:Nd i (m::r) x) (hx:x≠i):Nd m.b r x:=by
 rcases h with h|⟨k,hk,h⟩
 · exact absurd h hx
 · rcases aas.1 hk with rfl|hk
   · exact .inl h.symm
   · exact .inr ⟨k,hk,h⟩
theorem Q3 (f t:Int) (m:ab):dT false f t m=inR f t m:=by simp[dT]
theorem yv {p:aI} (h0:aE p=0):(ak p).map (fun m=>(m.a,m.b))=(cw p.text).map fun c=>((c.a:Int),(c.b:Int)):=by
 have:=mV p (cw p.text) false 0 0 p.marks;have h2:ak p=cK p false 0 0 p.marks (cw p.text):=by unfold ak mY;rw[if_pos h0]
 rw[h2];have h3:=congrArg (List.map fun x:Int×Int×Int=>(x.1,x.2.1)) this;simpa[List.map_map,Function.comp_def] using h3
theorem yd {p:aI} (h0:aE p=0) {t:Int} (h:cY p.text t=true):Nd 0 (ak p) t:=by
 simp only[cY,aac,aa6,decide_eq_true_eq,abf] at h;rcases h.2 with h | ⟨c,hc,h⟩
 · exact .inl h
 · have hm:((c.a:Int),(c.b:Int))∈(ak p).map (fun m=>(m.a,m.b)):=by rw[yv h0];exact aay.2 ⟨c,hc,rfl⟩
   obtain⟨m,hm,e⟩:=aay.1 hm;exact .inr ⟨m,hm,by rw[← h];exact(Prod.mk.inj e).2⟩
theorem yh:∀ {l:List Clu} {i e:Nat} {c:Clu},xz i l e→c∈l→l.find? (fun x=>decide ((c.a:Int)<x.b))=some c
 | [],_,_,_,_,h=>by cases h
 | x::r,i,e,c,hc,h=>by
   obtain⟨h1,h2,h3⟩:=hc;rcases aas.1 h with rfl|h
   · rw[List.find?_cons_of_pos];simp only[decide_eq_true_eq];omega
   · have hge:∀ {l:List Clu} {i e:Nat},xz i l e→∀ y∈l,i≤y.a:=by
      intro l
      induction l with
      | nil=>intro i e _ y hy;cases hy
      | cons z l ih=>
        intro i e hh y hy;obtain⟨k1,k2,k3⟩:=hh;rcases aas.1 hy with rfl | hy
        · omega
        · have:=ih k3 y hy;omega
     have:=hge h3 c h;rw[List.find?_cons_of_neg]
     · exact yh h3 h
     · simp only[decide_eq_true_eq];omega
theorem DY {p:aI} (h0:aE p=0) {m:ab} (hm:m∈ak p):qm p.text m.a=m.b∧jj p.text m.a=0:=by
 have hm2:(m.a,m.b)∈(cw p.text).map fun c=>((c.a:Int),(c.b:Int)):=by rw[← yv h0];exact aay.2 ⟨m,hm,rfl⟩
 obtain⟨c,hc,e⟩:=aay.1 hm2;obtain⟨e1,e2⟩:=Prod.mk.inj e;have hat:=(cD p).at_ m hm;have hw:=(dk h0).1;constructor
 · unfold qm;have hfc:=yh (l:=cw p.text) (pI p.text p.text.length 0 (by omega) (by omega)) hc;rw[← e1,hfc];exact e2
 · unfold jj;rw[if_neg (by simp[hw]),if_neg (by omega)]
def uE (p:aI) (l:Ln):List ab:=(ak p).filter (inR l.f l.t)
theorem zf {p:aI} {l:Ln} (h0:aE p=0) (hm:c8 p.text l=true) :
 ((aa p l).drop=0∧bx p l=uE p l)∨(∃ m0,uE p l=m0::bx p l∧m0.a=0∧m0∈ak p∧l.f=0∧(aa p l).drop=cB p∧4≤cB p∧aH p=true):=by
 have hch:=j4 h0;have hf:0≤l.f:=(yd h0 (by simp only[c8,aac,decide_eq_true_eq] at hm;exact hm.1.1.1.1.1.2)).ge hch;have hd:(aa p l).drop=dn (aH p) (cB p) l.f l.t (ak p):=rfl;rw[hd];unfold bx uE rowOf dn;by_cases hD:aH p=true
 · cases hL:ak p with
   | nil=>left;simp
   | cons m0 r=>
     rw[hL] at hch;obtain⟨g1,g2,g3⟩:=hch;have hr:∀ m∈r,0<m.a:=fun m hm=>by have:=g3.ge.2 m hm;omega
     have hkr:r.filter (dT true l.f l.t)=r.filter (inR l.f l.t):=by
      apply List.filter_congr;intro m hm;have:=hr m hm;simp only[dT];rw[decide_eq_false (show ¬ m.a=0 by omega)];simp
     have hk0:dT true l.f l.t m0=false:=by simp[dT,g1]
     have hany:(r.any fun m=>inR l.f l.t m&&decide (m.a=0))=false:=by
      rw[List.any_eq_false];intro m hm;have:=hr m hm;simp;omega
     rw[hD];by_cases hin:inR l.f l.t m0=true
     · right;refine⟨m0,?_,g1,by simp,?_,?_,(qN p).2.2 hD,rfl⟩
       · rw[List.filter_cons_of_pos hin,abm (by simp[hk0]),hkr]
       · simp only[inR,aac,decide_eq_true_eq] at hin;omega
       · simp[hin,g1]
     · left;refine⟨?_,?_⟩
       · simp only[abx,hany];simp[hin]
       · rw[abm hin,abm (by simp[hk0]),hkr]
 · left;simp only[abw] at hD;rw[hD];refine⟨by simp,?_⟩;rw[show dT false l.f l.t=inR l.f l.t from funext (Q3 l.f l.t)]
section
variable {st:St} {p:aI} {w u:LW} {l:Ln} {last:Bool}
def Nn (a z:Int) (r:List ab):Int:=r.foldl (fun z m=>if m.a=a then m.e else z) z
end
section
variable {st:St} {p:aI} {w u:LW} {l:Ln} {last:Bool}
def Fj (d:Int) (l:Ln) (G:List Gl) (i:Nat):Bool:=decide (i=1)&&decide (0<d)&&decide (l.f=0)&&decide ((G.getD 0 gz).f=0)
def A8 (R:List ab) (nN:Nat) (G:List Gl) (i:Nat):Int:=if i<nN then Nn (G.getD i gz).f 0 R else 0
structure Xq (d:Int) (l:Ln) (R:List ab) (nN:Nat) (G:List Gl):Prop where
 far:∀ i,1≤i→i<G.length→Fj d l G i=false→0≤(G.getD i gz).w∧(G.getD (i-1) gz).x+(G.getD (i-1) gz).w+A8 R nN G i≤(G.getD i gz).x
 Xw:∀ i,1≤i→i<G.length→Fj d l G i=true→(G.getD 0 gz).x=l.x-d∧(G.getD 0 gz).w=d-4
 bd:∀ i,i<G.length → -9000000000000000≤(G.getD i gz).x∧(G.getD i gz).x≤9000000000000000 ∧ -9000000000000000≤(G.getD i gz).w∧(G.getD i gz).w≤9000000000000000
 sl:∀ i,-1000≤A8 R nN G i∧A8 R nN G i≤1000
end
theorem at9:tab 9=some (.code f9):=by kernel_rfl
theorem yW {st:St} {K:List Nat} {n by_:Nat} {ag:Bool} {xs:List DV} (w:LW) (hok:w.ok n xs) (hn:0<n) (he:∀ y∈xs,dX n ag y) (hr:xs.length*by_≤aB) (hr2:xs.length≤aB) :
 ∃ tk K',∀ H,aZ (pst st H K) n ag by_ (.list st.cur n .tight true []) (.list w.t w.n w.tk w.nn xs)=some (.list st.cur n tk true xs,pst st H K'):=by
 by_cases hx:xs=[]
 · subst hx;refine⟨.tight,K,fun H=>rG ?_⟩;unfold bU
   cases e:w.nn with
   | false=>rfl
   | true=>simp[hok.1 e,flat]
 · have e:w.nn=true:=by
    cases e:w.nn with
    | true=>rfl
    | false=>exact absurd (hok.2 e) hx
   refine⟨.own (st.bt.length+K.length) 0,K++[0],fun H=>?_⟩;rw[e,hok.1 e];exact l8 (.inr ⟨rfl,rfl,rfl⟩) hn hx he (by simpa using hr) (by simpa using hr2)
theorem Oy (s:List UInt8):dX 1 false (.str s):=⟨rfl,rfl,rfl⟩
def LW.tied (w:LW):Prop:=∀ a b,w.tk≠.own a b
theorem uN (k:Tk) (a b:Nat):jc k≠.own a b:=by cases k<;>simp[jc]
theorem Wb (st st':St) (p:aI) (w u:LW):cX st st' (af p w u)=some (af p ⟨w.t,w.n,jc w.tk,w.nn⟩ ⟨u.t,u.n,jc u.tk,u.nn⟩):=rfl
theorem WW (p:aI) (w u:LW) (t n:Nat) (tk:Tk) (nn:Bool):bj (af p w u) 1 [.list t n tk nn (p.aF.map Span.dv)]=af p ⟨t,n,tk,nn⟩ u:=rfl
theorem Tj (p:aI) (w u:LW) (t n:Nat) (tk:Tk) (nn:Bool):bj (af p w u) 20 [.list t n tk nn (p.marks.map .str)]=af p w ⟨t,n,tk,nn⟩:=rfl
theorem No (Z:List DV) (h:Z.length=21) (p:aI) (w u:LW):bj Z 0 (af p w u)=af p w u:=by
 unfold bj;rw[List.take_zero,aaF,aa8 (by rw[h];exact aai 21),aaE]
theorem Qy (p:aI) (w u:LW) (hw:w.ok 4 p.aF) (hu:u.ok 1 p.marks) (h1:p.aF.length≤5000) (h2:p.marks.length≤5000) (st:St) :
 ∃ w' u':LW,(E tab).F 9 [.agg (af p w u)] st=some (.agg (af p w' u'),st)∧w'.ok 4 p.aF∧u'.ok 1 p.marks∧w'.tied∧u'.tied:=by
 obtain⟨tk1,K1,e1⟩:=yW (st:=st) (K:=[]) (by_:=32) (ag:=true) w (xs:=p.aF.map Span.dv) ⟨hw.1,fun h=>by rw[hw.2 h];rfl⟩ (by omega) (fun y hy=>by
  obtain⟨s,_,rfl⟩:=aay.1 hy;exact Js s) (by simp[aB];omega) (by simp[aB];omega)
 obtain⟨tk2,K2,e2⟩:=yW (st:=st) (K:=K1) (by_:=16) (ag:=false) u (xs:=p.marks.map .str) ⟨hu.1,fun h=>by rw[hu.2 h];rfl⟩ (by omega) (fun y hy=>by
  obtain⟨s,_,rfl⟩:=aay.1 hy;exact Oy s) (by simp[aB];omega) (by simp[aB];omega)
 refine⟨⟨st.cur,4,jc tk1,true⟩,⟨st.cur,1,jc tk2,true⟩,?_,⟨fun _=>rfl,fun h=>by cases h⟩,⟨fun _=>rfl,fun h=>by cases h⟩,?_,?_⟩
 · rw[aK at9 rfl];simp[f9,aC,aO,chunk,e1,e2,Wb,No,WW,Tj,-bj]
 · exact uN tk1
 · exact uN tk2
theorem WC:tab 15=some (.code f15):=by kernel_rfl
theorem Vd:tab 49=some (.code f49):=by kernel_rfl
theorem SI (l:List Span) (hl:(l.length:Int)≤9223372036854775806) (w u:LW) (hw:l≠[]→w.n=4) (hu:l≠[]→u.n=4) (st:St):∀ (r d:List Span),l=d++r →
 (E tab).C B7 [(0,.list w.t w.n w.tk w.nn (l.map Span.dv)),(1,.list u.t u.n u.tk u.nn (l.map Span.dv)),(5,.int .i64 d.length)] st =
  some (.exit 0,[(0,.list w.t w.n w.tk w.nn (l.map Span.dv)),(1,.list u.t u.n u.tk u.nn (l.map Span.dv)),(5,.int .i64 l.length),(14,.bool false)],st):=by
 intro r
 induction r with
 | nil=>
   intro d hd;rw[ae (L:=B7) rfl];simp[G9,hd]
 | cons m r ih=>
   intro d hd;have w4:=hw (by simp[hd]);have u4:=hu (by simp[hd]);have h0:d.length<l.length:=by simp[hd]
   have hw:IntKind.i64.wrap ((d.length:Int)+1)=((d++[m]).length:Nat):=by rw[ay (by omega)];simp
   have hg:l[d.length]=m:=by simp[hd]
   rw[ae (L:=B7) rfl];have hJ:=ih (d++[m]) (by simp[hd]);simp[w4,u4] at hJ ⊢;simp[G9,h0,hg,hw,Span.cs,eqD,aU,cA,hJ]
theorem Nu (l:List Span) (hl:(l.length:Int)≤9223372036854775806) (w u:LW) (hw:l≠[]→w.n=4) (hu:l≠[]→u.n=4) (st:St) :
 (E tab).F 49 [.list w.t w.n w.tk w.nn (l.map Span.dv),.list u.t u.n u.tk u.nn (l.map Span.dv)] st=some (.bool true,st):=by
 rw[aK Vd rfl];have h:=SI l hl w u hw hu (pst st [] []) l [] rfl;simp at h;simp[f49,h]
theorem L5 (l:List (List UInt8)) (hl:(l.length:Int)≤9223372036854775806) (w u:LW) (hw:l≠[]→w.n=1) (hu:l≠[]→u.n=1) (st:St):∀ (r d:List (List UInt8)),l=d++r →
 (E tab).C De [(0,.list w.t w.n w.tk w.nn (l.map .str)),(1,.list u.t u.n u.tk u.nn (l.map .str)),(5,.int .i64 d.length)] st =
  some (.exit 0,[(0,.list w.t w.n w.tk w.nn (l.map .str)),(1,.list u.t u.n u.tk u.nn (l.map .str)),(5,.int .i64 l.length),(14,.bool false)],st):=by
 intro r
 induction r with
 | nil=>
   intro d hd;rw[ae (L:=De) rfl];simp[Gt,hd]
 | cons m r ih=>
   intro d hd;have w4:=hw (by simp[hd]);have u4:=hu (by simp[hd]);have h0:d.length<l.length:=by simp[hd]
   have hw:IntKind.i64.wrap ((d.length:Int)+1)=((d++[m]).length:Nat):=by rw[ay (by omega)];simp
   have hg:l[d.length]=m:=by simp[hd]
   rw[ae (L:=De) rfl];have hJ:=ih (d++[m]) (by simp[hd]);simp[w4,u4] at hJ ⊢;simp[Gt,h0,hg,hw,eqD,aU,cA,hJ]
theorem Jx (l:List (List UInt8)) (hl:(l.length:Int)≤9223372036854775806) (w u:LW) (hw:l≠[]→w.n=1) (hu:l≠[]→u.n=1) (st:St) :
 (E tab).F 50 [.list w.t w.n w.tk w.nn (l.map .str),.list u.t u.n u.tk u.nn (l.map .str)] st=some (.bool true,st):=by
 rw[aK Vh rfl];have h:=L5 l hl w u hw hu (pst st [] []) l [] rfl;simp at h;simp[f50,h]
theorem Jj (c:cp):aU [.int,.int,.int,.int,.int,.int,.int,.int,.int,.int,.int,.int,.int,.int,.int,.int,.int] c.cs c.cs=some true:=by
 simp[cp.cs,aU,cA]
theorem L4 (p:aI) (w u w' u':LW) (hw:w.ok 4 p.aF) (hu:u.ok 1 p.marks) (hw':w'.ok 4 p.aF) (hu':u'.ok 1 p.marks) (h1:p.aF.length≤5000) (h2:p.marks.length≤5000) (st:St) :
 (E tab).F 15 [.agg (af p w u),.agg (af p w' u')] st=some (.bool true,st):=by
 rw[aK WC rfl];have h49:=fun st=>Nu p.aF (by omega) w w' hw.n hw'.n st;have h50:=fun st=>Jx p.marks (by omega) u u' hu.n hu'.n st;simp[f15,h49,h50,eqD,Jj]
theorem Cy (s:Sg) (neg:Bool):∀ i,i≤s.l.length→kAt s neg i=if neg then blS ((s.l.take i).drop s.ahead) else (blN ((s.l.take i).drop s.ahead):Int)
 | 0,_=>by cases neg<;>simp[kAt,blS,blN]
 | i+1,h=>by
   have ih:=Cy s neg i (by omega)
   have ht:s.l.take (i+1)=s.l.take i++[s.l.getD i mz]:=by
    rw[List.take_add_one,getM (by omega)];rfl
   simp only[kAt,iV];rw[ih,ht];by_cases hai:s.ahead≤i
   · rw[List.drop_append_of_le_length (by simp;omega),qO,qP];cases neg<;>by_cases hk:(s.l.getD i mz).k=3<;>simp[prt,blS,blN,hk,hai,-aaf]<;>omega
   · have e1:(s.l.take i).drop s.ahead=[]:=aa8 (by simp;omega);rw[if_neg (fun h=>hai h.2),e1,aa8 (by simp;omega)]
section
variable {p:aI} {l:Ln} {last:Bool}
theorem JU:cq p l last (aa p l).aq=aT p (aa p l).l (aa p l).ahead l.x (aa p l).aq+di p l+if spB p l last then exP p l else 0:=by
 have hsol:(aa p l).aq≤(aa p l).l.length:=cr _ _;have hk:=Cy (aa p l) (bZ p l) _ hsol;have ha:kAt (aa p l) (bZ p l) (aa p l).aq=dK p l:=by rw[hk];rfl
 unfold cq;rw[ha];unfold tkn
 cases hs:spB p l last with
 | false=>simp
 | true=>
   have hs':=hs;simp only[spB,aac,aa6,decide_eq_true_eq] at hs'
   have hne:dK p l≠0:=by
    unfold dK bZ;by_cases hx:exP p l<0
    · simp only[hx,decide_true,if_true];omega
    · simp only[hx,decide_false,aao,if_false];omega
   simp only[if_true];rw[Int.mul_tdiv_cancel _ hne]
end
section
variable {p:aI} {l:Ln} {last:Bool}
theorem Chn.cover:∀ {L:List ab} {i e:Int},Chn i L e→∀ {x:Int},i≤x→x<e→∃ j,j<L.length∧(L.getD j mz).a≤x∧x<(L.getD j mz).b
 | [],i,e,h,x,h1,h2=>by simp only[Chn] at h;omega
 | m::r,i,e,h,x,h1,h2=>by
   obtain⟨g1,g2,g3⟩:=h;by_cases hx:x<m.b
   · exact⟨0,by simp,by simp only[List.getD_cons_zero];omega,by simpa using hx⟩
   · obtain⟨j,h3,h4,h5⟩:=g3.cover (x:=x) (by omega) h2;exact⟨j+1,by simp;omega,by simpa using h4,by simpa using h5⟩
theorem zC {L:List ab} {j:Nat} (h:j<L.length):L.getD j mz∈L:=aat (getM h)
theorem Chn.lt:∀ {L:List ab} {i e:Int},Chn i L e→∀ {j k:Nat},j<k→k<L.length→(L.getD j mz).b≤(L.getD k mz).a
 | [],_,_,_,j,k,_,h=>by simp at h
 | m::r,i,e,h,j,0,h1,h2=>by omega
 | m::r,i,e,h,0,k+1,h1,h2=>by
   obtain⟨g1,g2,g3⟩:=h;have hk:k<r.length:=by simpa using h2
   have:=g3.ge.2 _ (zC hk);simp only[List.getD_cons_zero,List.getD_cons_succ];omega
 | m::r,i,e,h,j+1,k+1,h1,h2=>by
   obtain⟨g1,g2,g3⟩:=h;simp only[List.getD_cons_succ];exact g3.lt (by omega) (by simpa using h2)
theorem CC (L:List ab):∀ n,0<fZ L n→ep (L.getD (fZ L n-1) mz)=false
 | 0,h=>by simp[fZ] at h
 | n+1,h=>by
   unfold fZ at h ⊢;split
   · rename_i hb;rw[if_pos hb] at h;exact CC L n h
   · rename_i hb;simpa using hb
theorem zp (L:List ab):∀ n j,fZ L n≤j→j<n→ep (L.getD j mz)=true
 | 0,j,_,h=>by omega
 | n+1,j,h1,h2=>by
   unfold fZ at h1;split at h1
   · rename_i hb;by_cases e:j=n
     · rw[e];exact hb
     · exact zp L n j h1 (by omega)
   · omega
theorem Jf {L:List ab} {a s:Nat} (hs:s≤L.length) {P:ab→Prop}:(∃ m∈(L.take s).drop a,P m)↔∃ j,a≤j∧j<s∧P (L.getD j mz):=by
 constructor
 · rintro⟨m,hm,hP⟩;obtain⟨i,hi,rfl⟩:=aa1 hm;simp only[aa2,List.length_take] at hi;refine⟨a+i,by omega,by omega,?_⟩
   have:L.getD (a+i) mz=((L.take s).drop a)[i]:=by
    rw[aaf,aaa (by omega)];simp
   rw[this];exact hP
 · rintro⟨j,h1,h2,hP⟩;refine⟨L.getD j mz,?_,hP⟩;apply aat (i:=j-a);rw[List.getElem?_drop,show a+(j-a)=j by omega,List.getElem?_take,if_pos h2,getM (by omega)]
structure Ut (p:aI) (l:Ln) (fi:Nat):Prop where
 ge:l.f≤fi
 le:(fi:Int)≤l.t
 far:l.f≠0→l.f=fi
 lead:l.f=0→∀ x,x<fi→p.text.getD x 0=32
 stop:l.f=0→(fi:Int)<l.t→p.text.getD fi 0≠32
end
theorem Rg:tab 240=some (.code f240):=by kernel_rfl
theorem RU:tab 237=some (.code f237):=by kernel_rfl
section
variable {st:St}
theorem OE {l:List It} (hl:l.length≤200000) {t n:Nat} {tk:Tk} {nn:Bool} (h8:l≠[]→n=8) (a:Int) (H:List HO) (K:List Nat):∀ (r d:List It),l=d++r→∃ fr,
 (E tab).C sE [(0,.list t n tk nn (l.map It.dv)),(1,.int .i64 a),(5,.int .i64 d.length)] (pst st H K) =
  some (if r.any (fun x=>decide (x.k=3)&&decide (x.f=a)) then .ret else .exit 0,if r.any (fun x=>decide (x.k=3)&&decide (x.f=a)) then [(4,.bool true)] else fr,pst st H K):=by
 intro r
 induction r with
 | nil=>
   intro d hd;rw[aaE] at hd;subst hd;refine⟨[(0,.list t n tk nn (l.map It.dv)),(1,.int .i64 a),(5,.int .i64 l.length),(9,.bool false)],?_⟩;rw[ae (L:=sE) rfl];simp[sY]
 | cons x r ih=>
   intro d hd;have h0:d.length<l.length:=by simp[hd]
   obtain rfl:=h8 (by rw[hd];simp);have hw:IntKind.i64.wrap ((d.length:Int)+1)=((d++[x]).length:Nat):=by rw[ay (by omega)];simp
   have hg:l[d.length]=x:=by simp[hd]
   obtain⟨fr,hJ⟩:=ih (d++[x]) (by simp[hd]);by_cases hx:x.k=3∧x.f=a
   · refine⟨[],?_⟩;rw[ae (L:=sE) rfl];simp[sY,h0,hg,It.dv,It.cs,hx.1,hx.2]
   · refine⟨fr,?_⟩
     have e:(x::r).any (fun x=>decide (x.k=3)&&decide (x.f=a))=r.any (fun x=>decide (x.k=3)&&decide (x.f=a)):=by
      simp only[abx];rw[show (decide (x.k=3)&&decide (x.f=a))=false by simp only[aby,decide_eq_false_iff_not];by_cases h:x.k=3<;>simp_all,abJ]
     rw[e,ae (L:=sE) rfl];generalize r.any (fun x=>decide (x.k=3)&&decide (x.f=a))=B at *;simp at hJ;by_cases h3:x.k=3
     · have hfa:¬ x.f=a:=fun h=>hx ⟨h3,h⟩;simp[sY,h0,hw,hg,It.dv,It.cs,h3,hfa];exact hJ
     · simp[sY,h0,hw,hg,It.dv,It.cs,h3];exact hJ
theorem EZ {p:aI} {t n:Nat} {tk:Tk} {nn:Bool} (h8:b4 p≠[]→n=8) (a:Int):(E tab).F 240 [.list t n tk nn ((b4 p).map It.dv),.int .i64 a] st=some (.bool (js p a),st):=by
 rw[aK Rg rfl];obtain⟨fr,hJ⟩:=OE (st:=st) (rZ p) (t:=t) (tk:=tk) (nn:=nn) h8 a [] [] (b4 p) [] rfl;unfold js;generalize ((b4 p).any fun x=>decide (x.k=3)&&decide (x.f=a))=B at *;generalize (b4 p).map It.dv=V at *
 cases B with
 | true=>simp at hJ;simp[f240,hJ]
 | false=>simp at hJ;simp[f240,hJ]
end
theorem Sj {L:List ab} {i e t:Int} (hc:Chn i L e) (ht:Nd i L t):∀ m∈L,(m.b≤t↔m.a<t):=by
 induction L generalizing i with
 | nil=>intro m hm;cases hm
 | cons x r ih=>
   obtain⟨g1,g2,g3⟩:=hc;intro m hm;by_cases h:t=i
   · subst h;rcases aas.1 hm with rfl | hm
     · omega
     · have:=g3.ge.2 m hm;omega
   · have ht':=ht.tail h;rcases aas.1 hm with rfl | hm
     · have:=ht'.ge g3;omega
     · exact ih g3 ht' m hm
def apL (D:Bool) (f t:Int) (L:List ab):List ab:=if D then (L.take 1).filter (inR f t) else []
section
variable {st:St} {p:aI} {w u:LW} {l:Ln}
theorem NP (h0:aE p=0) (hm:c8 p.text l=true) {t n:Nat} {tk:Tk} {nn:Bool} (h6:ak p≠[]→n=6) (R0:List DV):∀ (r d:List ab) (K:List Nat) (lv av:DV) (o1 o2:Option Nat),ak p=d++r →
 Ac st K 6 ((rowOf (aH p) l.f l.t d).map ab.dv) lv o1→Ac st K 6 ((apL (aH p) l.f l.t d).map ab.dv) av o2→(∀ k,o1=some k→o2≠some k) →
 ∃ (lv' av':DV) (K':List Nat) (o1' o2':Option Nat) (fr:Fr),(E tab).C pV [(2,.ptr st.heap.length 0),(3,.ptr (st.heap.length+1) 0),(4,.ptr (st.heap.length+2) 0),(5,.list t n tk nn ((ak p).map ab.dv)),(7,.ptr (st.heap.length+3) 0),(8,.int .i64 d.length)]
  (pst st [.cells .plain (af p w u),.cells .plain l.cs,.cells .plain R0,.cells .plain [lv,.int .i64 0,.int .i64 0,av]] K) =
  some (.exit 0,(2,.ptr st.heap.length 0)::(3,.ptr (st.heap.length+1) 0)::(4,.ptr (st.heap.length+2) 0)::(5,.list t n tk nn ((ak p).map ab.dv))::(7,.ptr (st.heap.length+3) 0)::fr,
   pst st [.cells .plain (af p w u),.cells .plain l.cs,.cells .plain R0,.cells .plain [lv',.int .i64 0,.int .i64 0,av']] K') ∧
  Ac st K' 6 ((rowOf (aH p) l.f l.t (ak p)).map ab.dv) lv' o1'∧Ac st K' 6 ((apL (aH p) l.f l.t (ak p)).map ab.dv) av' o2':=by
 intro r
 induction r with
 | nil=>
   intro d K lv av o1 o2 hd a1 a2 _;rw[aaE] at hd;rw[← hd] at a1 a2 ⊢;refine⟨lv,av,K,o1,o2,[(8,.int .i64 (ak p).length),(17,.bool false)],?_,a1,a2⟩;rw[ae (L:=pV) rfl];simp[mL]
 | cons m r ih=>
   intro d K lv av o1 o2 hd a1 a2 hdj;have hlen:=l6 p;have h1:d.length<(ak p).length:=by rw[hd];simp
   obtain rfl:=h6 (by rw[hd];simp);have hw:IntKind.i64.wrap ((d.length:Int)+1)=((d++[m]).length:Nat):=by rw[ay (by omega)];simp
   have hw1:IntKind.i64.wrap 1=1:=ay (by omega);have hg0:(ak p)[d.length]? = some m:=by rw[hd];simp
   have hV:((ak p).map ab.dv)[d.length]? = some m.dv:=by rw[aaG,hg0];rfl
   have hVl:((ak p).map ab.dv).length=(ak p).length:=by simp
   have hl0:d.length<((ak p).map ab.dv).length:=by rw[hVl];exact h1
   have hV':((ak p).map ab.dv)[d.length]'hl0=m.dv:=by rw[aaa hl0] at hV;exact aab.inj hV
   have hdr:=fun st=>rz (st:=st) (p:=p) (w:=w) (u:=u) (L:=ak p) (t:=t) (n:=6) (tk:=tk) (nn:=nn) (fun _=>rfl);have hdB:(decide (2≤p.pr.drop)&&(decide (0<(ak p).length)&&((ak p).getD 0 mz).k==1))=aH p:=rfl;rw[hdB] at hdr;have hmm:m∈ak p:=by rw[hd];simp
   have hbt:cY p.text l.t=true:=by simp only[c8,aac] at hm;exact hm.1.1.1.1.2
   have hnd:=Sj (j4 h0) (yd h0 hbt) m hmm;have hro:=uD (aH p) l.f l.t d [m];have hch:=j4 h0
   have hma:(d=[]→m.a=0)∧(d≠[]→m.a≠0):=by
    rw[hd] at hch;constructor
    · rintro rfl;exact hch.1
    · intro hne
      cases d with
      | nil=>exact absurd rfl hne
      | cons y d=>
        obtain⟨k1,k2,k3⟩:=hch;have:=k3.ge.2 m (by simp);omega
   have hap:d≠[]→apL (aH p) l.f l.t (d++[m])=apL (aH p) l.f l.t d:=by
    intro hne
    cases d with
    | nil=>exact absurd rfl hne
    | cons y d=>simp[apL]
   have hxl:(rowOf (aH p) l.f l.t d).length≤d.length:=aaO ..;by_cases hin:inR l.f l.t m=true
   · have hin':=hin;simp only[inR,aac,decide_eq_true_eq] at hin';have c1:¬ m.a<l.f:=by omega
     have c2:¬ l.t<m.b:=by have:=hnd.2 hin'.2;omega
     by_cases hB:d=[]∧aH p=true
     · obtain⟨rfl,hD⟩:=hB;have hk:rowOf (aH p) l.f l.t ([]++[m])=rowOf (aH p) l.f l.t []:=by rw[hro];simp[rowOf,dT,hD,hma.1 rfl]
       have ha:apL (aH p) l.f l.t ([]++[m])=apL (aH p) l.f l.t []++[m]:=by simp[apL,hD,hin]
       obtain⟨av2,K2,k2,e2,fu2',fu1',hd2⟩:=l4 (H:=[.cells .plain (af p w u),.cells .plain l.cs,.cells .plain R0,.cells .plain [lv,.int .i64 0,.int .i64 0,av]]) (by_:=48) (ag:=true) (zs:=[m.dv]) (w:=.list st.cur 6 .tight true [m.dv]) a1 a2 hdj (Lw.vw (.list _ _ _ _ (fun _=>rfl) (fun h=>by cases h))) (by omega) (by simp) (by intro y hy;simp only[aaw] at hy;subst hy;exact oA _) (by simp[apL,aB]) (by simp[apL,aB]);obtain⟨lv',av',K',o1',o2',fr,hJ,hR⟩:=ih ([]++[m]) K2 lv av2 o1 (some k2) (by rw[hd];simp) (by rw[hk];exact fu1') (by rw[ha];simpa using fu2') (fun k e e'=>hd2 k e e');refine⟨lv',av',K',o1',o2',fr,?_,hR⟩;rw[ae (L:=pV) rfl];obtain⟨t1,n1,tk1,nn1,rfl,_⟩:=gw a1;obtain⟨t2,n2,tk2,nn2,rfl,_⟩:=gw a2;obtain⟨t3,n3,tk3,nn3,rfl,_⟩:=gw fu2';rw[hD] at hdr;generalize (ak p).map ab.dv=V at *;simp[Ln.cs,ab.cs,ab.dv] at hJ e2 hdr hV hV' h1 hl0 ⊢;simp[mL,aM,bM,bR,bQ,aR,h1,hw,hw1,hVl,hV,hV',hl0,c1,c2,hdr,ab.cs,ab.dv,aC,aO,chunk,e2];simpa using hJ
     · have hkb:dT (aH p) l.f l.t m=true:=by
        simp only[dT,hin,aaB,abn,aby,decide_eq_false_iff_not];by_cases hdn:d=[]
        · right;cases hb:aH p with | false=>rfl | true=>exact absurd ⟨hdn,hb⟩ hB
        · left;exact hma.2 hdn
       have hk:rowOf (aH p) l.f l.t (d++[m])=rowOf (aH p) l.f l.t d++[m]:=by rw[hro];simp[rowOf,hkb]
       have ha:apL (aH p) l.f l.t (d++[m])=apL (aH p) l.f l.t d:=by
        by_cases hdn:d=[]
        · have hb:aH p=false:=by cases hb:aH p with | false=>rfl | true=>exact absurd ⟨hdn,hb⟩ hB
          simp[apL,hb]
        · exact hap hdn
       obtain⟨lv2,K2,k2,e2,fu2',fu1',hd2⟩:=l4 (H:=[.cells .plain (af p w u),.cells .plain l.cs,.cells .plain R0,.cells .plain [lv,.int .i64 0,.int .i64 0,av]]) (by_:=48) (ag:=true) (zs:=[m.dv]) (w:=.list st.cur 6 .tight true [m.dv]) a2 a1 (fun k e e'=>hdj k e' e) (Lw.vw (.list _ _ _ _ (fun _=>rfl) (fun h=>by cases h))) (by omega) (by simp) (by intro y hy;simp only[aaw] at hy;subst hy;exact oA _) (by simp[aB];omega) (by simp[aB];omega);obtain⟨lv',av',K',o1',o2',fr,hJ,hR⟩:=ih (d++[m]) K2 lv2 av (some k2) o2 (by rw[hd];simp) (by rw[hk];simpa using fu2') (by rw[ha];exact fu1') (fun k e e'=>hd2 k e' e);refine⟨lv',av',K',o1',o2',fr,?_,hR⟩;rw[ae (L:=pV) rfl];obtain⟨t1,n1,tk1,nn1,rfl,_⟩:=gw a1;obtain⟨t2,n2,tk2,nn2,rfl,_⟩:=gw a2;obtain⟨t3,n3,tk3,nn3,rfl,_⟩:=gw fu2';generalize (ak p).map ab.dv=V at *;by_cases hdn:d=[]
       · have hb:aH p=false:=by cases hb:aH p with | false=>rfl | true=>exact absurd ⟨hdn,hb⟩ hB
         rw[hb] at hdr;subst hdn;simp[Ln.cs,ab.cs,ab.dv] at hJ e2 hdr hV hV' h1 hl0 ⊢;simp[mL,aM,bM,bR,bQ,aR,h1,hw,hw1,hVl,hV,hV',hl0,c1,c2,hdr,ab.cs,ab.dv,aC,aO,chunk,e2];simpa using hJ
       · have hd0:¬ (d.length:Int)=0:=by have:=aaR.2 hdn;omega
         simp[Ln.cs,ab.cs,ab.dv] at hJ e2 ⊢;simp[mL,aM,bM,bR,bQ,aR,h1,hw,hVl,hV,hV',hl0,c1,c2,hd0,hdn,ab.cs,ab.dv,aC,aO,chunk,e2];simpa using hJ
   · have hk:rowOf (aH p) l.f l.t (d++[m])=rowOf (aH p) l.f l.t d:=by rw[hro];simp[rowOf,dT,hin]
     have ha:apL (aH p) l.f l.t (d++[m])=apL (aH p) l.f l.t d:=by
      by_cases hdn:d=[]
      · subst hdn;simp[apL,hin]
      · exact hap hdn
     obtain⟨lv',av',K',o1',o2',fr,hJ,hR⟩:=ih (d++[m]) K lv av o1 o2 (by rw[hd];simp) (by rw[hk];exact a1) (by rw[ha];exact a2) hdj;refine⟨lv',av',K',o1',o2',fr,?_,hR⟩;rw[ae (L:=pV) rfl];generalize (ak p).map ab.dv=V at *;simp[Ln.cs] at hJ ⊢;by_cases c1:m.a<l.f
     · simp[mL,aM,bM,bR,bQ,aR,h1,hw,hVl,hV,hV',hl0,c1,ab.cs,ab.dv];simpa using hJ
     · have c2:l.t<m.b:=by
        refine Classical.byContradiction fun h=>hin ?_;simp only[inR,aac,decide_eq_true_eq];have:=hnd.1 (by omega);omega
       simp[mL,aM,bM,bR,bQ,aR,h1,hw,hVl,hV,hV',hl0,c1,c2,ab.cs,ab.dv];simpa using hJ
end
section
variable {st:St} {xs:List ab} {t n:Nat} {tk:Tk} {nn:Bool} {av:DV}
theorem MJ (hl:xs.length≤4096) (h6:xs≠[]→n=6) (X0 X1 X2:HO) (K:List Nat):∀ b,b≤xs.length→∃ fr,
 (E tab).C pP [(3,.ptr (st.heap.length+1) 0),(4,.ptr (st.heap.length+2) 0),(7,.ptr (st.heap.length+3) 0)] (pst st [X0,X1,X2,.cells .plain [.list t n tk nn (xs.map ab.dv),.int .i64 0,.int .i64 b,av]] K) =
  some (.exit 2,(3,.ptr (st.heap.length+1) 0)::(4,.ptr (st.heap.length+2) 0)::(7,.ptr (st.heap.length+3) 0)::fr,pst st [X0,X1,X2,.cells .plain [.list t n tk nn (xs.map ab.dv),.int .i64 0,.int .i64 (fZ xs b),av]] K):=by
 intro b
 induction b with
 | zero=>
   intro _;rw[ae (L:=pP) rfl];simp[sb,fZ]
 | succ b ih=>
   intro hb;have hb':b<xs.length:=by omega
   obtain rfl:=h6 (by intro e;rw[e] at hb';simp at hb');have hw':IntKind.i64.wrap (b:Int)=(b:Int):=ay (by omega);have g0:=dN (L:=xs) hb';have l0:b<(xs.map ab.dv).length:=by simpa using hb'
   obtain⟨fr,ih⟩:=ih (by omega);rw[fZ];generalize fZ xs b=T at *;generalize xs.getD b mz=m at *;generalize xs.map ab.dv=V at *;have g0':V[b]'l0=m.dv:=by rw[aaa l0] at g0;exact aab.inj g0
   have hp:(0:Int)<(b:Int)+1:=by omega
   by_cases h3:m.k=3
   · have hm:ep m=true:=by simp[ep,h3]
     refine⟨fr,?_⟩;rw[ae (L:=pP) rfl];simp[hm] at ih ⊢;simp[sb,hp,hw',l0,g0',g0,ab.dv,ab.cs,h3,ih]
   by_cases h5:m.k=5
   · have hm:ep m=true:=by simp[ep,h5]
     refine⟨fr,?_⟩;rw[ae (L:=pP) rfl];simp[hm] at ih ⊢;simp[sb,hp,hw',l0,g0',g0,ab.dv,ab.cs,h3,h5,ih]
   · have hm:ep m=false:=by simp[ep,h3,h5]
     rw[ae (L:=pP) rfl];simp[sb,hp,hw',l0,g0',g0,ab.dv,ab.cs,h3,h5,hm]
theorem Nt (hl:xs.length≤4096) (h6:xs≠[]→n=6) {l:Ln} (X0 X2:HO) (K:List Nat) {s:Nat} (hs:s≤xs.length):∀ k i,s≤i+k→i≤s→(l.f≠0→i=0)→∃ fr,
 (E tab).C jQ [(3,.ptr (st.heap.length+1) 0),(4,.ptr (st.heap.length+2) 0),(7,.ptr (st.heap.length+3) 0)] (pst st [X0,.cells .plain l.cs,X2,.cells .plain [.list t n tk nn (xs.map ab.dv),.int .i64 i,.int .i64 s,av]] K) =
  some (.exit 4,(3,.ptr (st.heap.length+1) 0)::(4,.ptr (st.heap.length+2) 0)::(7,.ptr (st.heap.length+3) 0)::fr,pst st [X0,.cells .plain l.cs,X2,.cells .plain [.list t n tk nn (xs.map ab.dv),.int .i64 (if l.f=0 then eU xs s k i else 0:Nat),.int .i64 s,av]] K):=by
 by_cases hf:l.f=0
 · intro k
   induction k with
   | zero=>
     intro i h1 h2 _;obtain rfl:i=s:=by omega
     rw[ae (L:=jQ) rfl];simp[pR,eU,Ln.cs,hf]
   | succ k ih=>
     intro i h1 h2 _;by_cases hi:i<s
     · have hb':i<xs.length:=by omega
       obtain rfl:=h6 (by intro e;rw[e] at hb';simp at hb');have hw:IntKind.i64.wrap ((i:Int)+1)=((i+1:Nat):Int):=by rw[ay (by omega)];omega
       have g0:=dN (L:=xs) hb';have l0:i<(xs.map ab.dv).length:=by simpa using hb'
       obtain⟨fr,ih⟩:=ih (i+1) (by omega) (by omega) (fun h=>absurd hf h);rw[eU];generalize eU xs s k (i+1)=T at *;generalize xs.getD i mz=m at *;generalize xs.map ab.dv=V at *;have g0':V[i]'l0=m.dv:=by rw[aaa l0] at g0;exact aab.inj g0
       by_cases hm:m.k=3
       · refine⟨fr,?_⟩;rw[ae (L:=jQ) rfl];simp[Ln.cs,hf,hi,hm] at ih ⊢;simp[pR,hf,hi,hm,hw,l0,g0',g0,ab.dv,ab.cs];simpa using ih
       · rw[ae (L:=jQ) rfl];simp[pR,Ln.cs,hf,hi,hm,l0,g0',g0,ab.dv,ab.cs]
     · obtain rfl:i=s:=by omega
       rw[ae (L:=jQ) rfl];simp[pR,eU,Ln.cs,hf]
 · intro k i _ _ h;obtain rfl:=h hf;rw[ae (L:=jQ) rfl];simp[pR,Ln.cs,hf]
end
section
variable {st:St} {p:aI} {w u:LW}
theorem KZ (a b c:DV) (fr:Fr) (st:St):(E tab).C jQ ((3,a)::(4,b)::(7,c)::fr) st=(E tab).C jQ [(3,a),(4,b),(7,c)] st:=by
 unfold jQ;rw[pZ];rfl
theorem TZ (h0:aE p=0) (hp:p.small) (hw:w.ok 4 p.aF) (hu:u.ok 1 p.marks) {l:Ln} (hm:c8 p.text l=true):∃ lv av,(E tab).F 237 [.agg (af p w u),.agg l.cs] st=some (.agg [lv,.int .i64 (fw p l),.int .i64 (aV p l),av],st) ∧
 Lw 6 ((bx p l).map ab.dv) lv∧Lw 6 ((apL (aH p) l.f l.t (ak p)).map ab.dv) av:=by
 rw[aK RU rfl];obtain⟨_,hms,v,rfl,hv⟩:=s7 p hp w u hw hu (pst st [.cells .plain (af p w u),.cells .plain l.cs,.cells .plain [.list 0 0 .no false [],.int .i64 0,.int .i64 0,.list 0 0 .no false []]] [])
 obtain⟨lv,av,K1,o1,o2,fr1,hJ1,a1,a2⟩:=NP (st:=st) (w:=w) (u:=u) h0 hm (t:=v.t) (tk:=v.tk) (nn:=v.nn) hv.n [.list 0 0 .no false [],.int .i64 0,.int .i64 0,.list 0 0 .no false []] (ak p) [] [] (.list 0 0 .no false []) (.list 0 0 .no false []) none none rfl ⟨rfl,_,_,_,rfl⟩ (by
  have:apL (aH p) l.f l.t []=[]:=by unfold apL;split<;>rfl
  rw[this];exact⟨rfl,_,_,_,rfl⟩) (by simp)
 change Ac st K1 6 ((bx p l).map ab.dv) lv o1 at a1;have hrl:=oq p l;obtain⟨t1,n1,tk1,nn1,rfl,b1,b2,b3⟩:=gw a1;obtain⟨t2,n2,tk2,nn2,rfl,_,c2,c3⟩:=gw a2;have hn1:bx p l≠[]→n1=6:=fun h=>(b1 (by simpa using h)).1;have hsol:aV p l≤(bx p l).length:=cr _ _;obtain⟨fr2,hJ2⟩:=MJ (st:=st) (xs:=bx p l) (t:=t1) (tk:=tk1) (nn:=nn1) (av:=.list t2 n2 tk2 nn2 ((apL (aH p) l.f l.t (ak p)).map ab.dv)) hrl hn1 (.cells .plain (af p w u)) (.cells .plain l.cs) (.cells .plain [.list 0 0 .no false [],.int .i64 0,.int .i64 0,.list 0 0 .no false []]) K1 (bx p l).length (aai _);obtain⟨fr3,hJ3⟩:=Nt (st:=st) (xs:=bx p l) (t:=t1) (tk:=tk1) (nn:=nn1) (av:=.list t2 n2 tk2 nn2 ((apL (aH p) l.f l.t (ak p)).map ab.dv)) hrl hn1 (l:=l) (.cells .plain (af p w u)) (.cells .plain [.list 0 0 .no false [],.int .i64 0,.int .i64 0,.list 0 0 .no false []]) K1 hsol (aV p l) 0 (by omega) (by omega) (fun _=>rfl);change _=some (_,_,pst st [_,_,_,.cells .plain [_,_,.int .i64 (aV p l:Nat),_]] _) at hJ2;change _=some (_,_,pst st [_,_,_,.cells .plain [_,.int .i64 (fw p l:Nat),_,_]] _) at hJ3;refine⟨.list t1 n1 (jc tk1) nn1 ((bx p l).map ab.dv),.list t2 n2 (jc tk2) nn2 ((apL (aH p) l.f l.t (ak p)).map ab.dv),?_,.list _ _ _ _ b2 b3,.list _ _ _ _ c2 c3⟩;have hVl:((bx p l).map ab.dv).length=(bx p l).length:=by simp
 have hVm:((ak p).map ab.dv).length=(ak p).length:=by simp
 generalize (apL (aH p) l.f l.t (ak p)).map ab.dv=VA at *;generalize (bx p l).map ab.dv=V at *;generalize (ak p).map ab.dv=VM at *;simp only[Ln.cs] at hms hJ1 hJ2 hJ3 ⊢;simp[-cP] at hms hJ1 hJ2 hJ3;simp[-cP,exl,f237,hms,hVl,hVm,hJ1,hJ2,KZ,hJ3]
end
section
variable {st:St}
theorem MT {xs:List ab} (hl:xs.length≤4096) {t n:Nat} {tk:Tk} {nn:Bool} (h6:xs≠[]→n=6) (c2 c3 c4 c12 c14 c15 c16 c17 c18:DV) {H:List HO} {K:List Nat} {cs:List DV} (hr:rowAt H 2=some (.plain,.list t n tk nn (xs.map ab.dv)::cs)):∀ (r d:List ab) (z:Int),xs=d++r→∃ fr,
 (E tab).C r8 [(2,c2),(3,c3),(4,c4),(9,.ptr (st.heap.length+2) 0),(12,c12),(14,c14),(15,c15),(16,c16),(17,c17),(18,c18),(19,.int .i64 z),(24,.int .i64 d.length)] (pst st H K) =
  some (.exit 4,(2,c2)::(3,c3)::(4,c4)::(9,.ptr (st.heap.length+2) 0)::(12,c12)::(14,c14)::(15,c15)::(16,c16)::(17,c17)::(18,c18)::(19,.int .i64 (hsz z r))::fr,pst st H K):=by
 intro r
 induction r with
 | nil=>
   intro d z hd;rw[aaE] at hd;subst hd;refine⟨[(24,.int .i64 xs.length),(178,.bool false)],?_⟩;rw[ae (L:=r8) rfl];simp[xy,hr,hsz]
 | cons m r ih=>
   intro d z hd;have h0:d.length<xs.length:=by simp[hd]
   obtain rfl:=h6 (by rw[hd];simp);have hw:IntKind.i64.wrap ((d.length:Int)+1)=((d++[m]).length:Nat):=by rw[ay (by omega)];simp
   have hg:xs[d.length]=m:=by simp[hd]
   obtain⟨fr,hJ⟩:=ih (d++[m]) (if m.k=5 then m.s else z) (by simp[hd]);refine⟨fr,?_⟩;have e:hsz z (m::r)=hsz (if m.k=5 then m.s else z) r:=rfl;rw[ae (L:=r8) rfl,e];by_cases h5:m.k=5
   · simp[h5] at hJ ⊢;simp[xy,hr,h0,hw,hg,ab.cs,ab.dv,h5];exact hJ
   · simp[h5] at hJ ⊢;simp[xy,hr,h0,hw,hg,ab.cs,ab.dv,h5];exact hJ
end
section
variable {st:St}
theorem NK {xs:List ab} (hl:xs.length≤4096) {t n:Nat} {tk:Tk} {nn:Bool} (h6:xs≠[]→n=6) (c2 c3 c4 c10 c12 c16 c17 c18 c19:DV) {gs:List DV} {oc:Option Nat} (x:Int) {H:List HO} {s:Nat} {ah:Nat} (hah:ah≤xs.length) {av:DV} (hr:rowAt H 2=some (.plain,[.list t n tk nn (xs.map ab.dv),.int .i64 ah,.int .i64 s,av])):∀ (k i:Nat) (K:List Nat) (ov:DV) (o:Option Nat),i+k=ah →
 Ac st K 4 gs c12 oc→Ac st K 4 (((xs.take i).map fun m=>(⟨m.a,m.b,x,0⟩:Gl)).map Gl.dv) ov o→(∀ k,oc=some k→o≠some k)→∃ ov' K' o' fr,
 (E tab).C sq [(2,c2),(3,c3),(4,c4),(9,.ptr (st.heap.length+2) 0),(10,c10),(12,c12),(14,ov),(15,.int .i64 x),(16,c16),(17,c17),(18,c18),(19,c19),(20,.int .i64 i)] (pst st H K) =
  some (.exit 0,(2,c2)::(3,c3)::(4,c4)::(9,.ptr (st.heap.length+2) 0)::(10,c10)::(12,c12)::(14,ov')::(15,.int .i64 x)::(16,c16)::(17,c17)::(18,c18)::(19,c19)::fr,pst st H K') ∧
  Ac st K' 4 gs c12 oc∧Ac st K' 4 (((xs.take ah).map fun m=>(⟨m.a,m.b,x,0⟩:Gl)).map Gl.dv) ov' o'∧(∀ k,oc=some k→o'≠some k):=by
 intro k
 induction k with
 | zero=>
   intro i K ov o hi hC hA hd;obtain rfl:i=ah:=by omega
   refine⟨ov,K,o,[(20,.int .i64 i),(87,.bool false)],?_,hC,hA,hd⟩;rw[ae (L:=sq) rfl];simp[zS,hr]
 | succ k ih=>
   intro i K ov o hi hC hA hd;have hil:i<xs.length:=by omega
   have hia:(i:Int)<ah:=by omega
   have hia':i<ah:=by omega
   obtain rfl:=h6 (by intro e;rw[e] at hil;simp at hil);have hw:IntKind.i64.wrap ((i:Int)+1)=((i+1:Nat):Int):=by rw[ay (by omega)];simp
   have g0:=dN (L:=xs) hil;have l0:i<(xs.map ab.dv).length:=by simpa using hil
   have ht:xs.take (i+1)=xs.take i++[xs.getD i mz]:=by
    rw[List.take_add_one,getM hil];rfl
   generalize xs.getD i mz=m at *;obtain⟨ov2,K2,k2,hap,hA2,hC2,hd2⟩:=l4 (H:=H) (by_:=32) (ag:=true) (zs:=[Gl.dv ⟨m.a,m.b,x,0⟩]) (w:=.list st.cur 4 .tight true [Gl.dv ⟨m.a,m.b,x,0⟩]) hC hA hd (Lw.vw (.list _ _ _ _ (fun _=>rfl) (fun h=>by cases h))) (by omega) (by simp) (by simp[mG]) (by simp[aB];omega) (by simp[aB];omega);obtain⟨ov',K',o',fr,hJ,hR⟩:=ih (i+1) K2 ov2 (some k2) (by omega) hC2 (by rw[ht];simpa using hA2) hd2;refine⟨ov',K',o',fr,?_,hR⟩;rw[ae (L:=sq) rfl];generalize xs.map ab.dv=V at *;have g0':V[i]'l0=m.dv:=by rw[aaa l0] at g0;exact aab.inj g0
   simp[Gl.dv,Gl.cs] at hap hJ ⊢;simp[zS,aM,bM,bR,bQ,aR,hr,hia,hia',hw,l0,g0,g0',ab.dv,ab.cs,aC,aO,chunk,hap];simpa using hJ
end
theorem Ib {k:Int} (h:k=3∨k=4):aY k=false:=by rcases h with rfl | rfl<;>rfl
theorem M6 {R:List ab} (hR:mA R) {i:Nat} (hi:i+1<R.length) (h:(R.getD (i+1) mz).k=3∨(R.getD (i+1) mz).k=4):(R.getD (i+1) mz).e=0:=by
 rcases hR.adj i hi with e|⟨_,e,_⟩
 · exact e
 · rw[Ib h] at e;cases e
theorem wx {p:aI} {R:List ab} (hR:mA R) {i:Nat} (hi:i<R.length) (h:(R.getD i mz).k=3∨(R.getD i mz).k=4) (a:Int):atW p R i a=a:=by
 unfold atW;split
 · rename_i hc
   cases i with
   | zero=>simp at hc
   | succ i=>rw[M6 hR hi h];omega
 · rfl
theorem rL {p:aI} {R:List ab} (hR:mA R) {ah:Nat} (hah:∀ i,i<ah→(R.getD i mz).k=3) (x:Int):∀ i,i≤ah→i≤R.length→aT p R ah x i=x
 | 0,_,_=>rfl
 | i+1,h1,h2=>by
   have ih:=rL (p:=p) hR hah x i (by omega) (by omega);simp only[aT];rw[ih,wx hR (by omega) (.inl (hah i (by omega)))];unfold wdW;rw[if_pos (by omega)];omega
def gZ (p:aI) (R:List ab) (ah:Nat) (x:Int) (i:Nat):Gl:=⟨(R.getD i mz).a,(R.getD i mz).b,atW p R i (aT p R ah x i),wdW R ah i (atW p R i (aT p R ah x i))⟩
theorem Hg {p:aI} {R:List ab} (hR:mA R) {ah:Nat} (hah:∀ i,i<ah→(R.getD i mz).k=3) (h:ah≤R.length) (x:Int):((R.take ah).map fun m=>(⟨m.a,m.b,x,0⟩:Gl))=(aan ah).map (gZ p R ah x):=by
 apply List.ext_getElem
 · simp;omega
 · intro i h1 h2;simp only[aaP,List.length_range] at h2;have hi:i<R.length:=by omega
   have e1:atW p R i (aT p R ah x i)=x:=by rw[rL hR hah x i (by omega) (by omega),wx hR hi (.inl (hah i h2))]
   simp only[List.getElem_map,List.getElem_range,List.getElem_take,gZ,e1];unfold wdW;rw[if_pos h2];simp[aaf,aaa hi]
section
variable {st:St}
theorem Iy (l:List ab) (m:ab):blN (l++[m])=blN l+if m.k=3 then 1 else 0:=by rw[qP];simp[blN]
theorem IE (l:List ab) (m:ab):blS (l++[m])=blS l+if m.k=3 then m.w/3 else 0:=by rw[qO];simp[blS]
theorem OB {p:aI} {xs:List ab} (hR:mA xs) (hok:xs.all okM=true) {t n:Nat} {tk:Tk} {nn:Bool} (h6:xs≠[]→n=6) {ti ni:Nat} {tki:Tk} {nni:Bool} (h8:b4 p≠[]→ni=8) (c2 c3 c4 c12:DV) {gs:List DV} {oc:Option Nat} {x:Int} (hx:0≤x∧x≤5000) {s ah:Nat} (hah:∀ i,i<ah→(xs.getD i mz).k=3) (has:ah≤s) (hs:s≤xs.length) {av:DV}:∀ (k i:Nat) (H:List HO) (K:List Nat) (ov:DV) (o:Option Nat) (z:Int),i+k=s→ah≤i →
 rowAt H 2=some (.plain,[.list t n tk nn (xs.map ab.dv),.int .i64 ah,.int .i64 s,av]) →
 Ac st K 4 gs c12 oc→Ac st K 4 (((aan i).map (gZ p xs ah x)).map Gl.dv) ov o→(∀ k,oc=some k→o≠some k)→∃ ov' K' o' J fr,
 (E tab).C so [(2,c2),(3,c3),(4,c4),(9,.ptr (st.heap.length+2) 0),(10,.list ti ni tki nni ((b4 p).map It.dv)),(12,c12),(14,ov),(15,.int .i64 (aT p xs ah x i)),(16,.int .i64 (blN ((xs.take i).drop ah))),(17,.bool (((xs.take i).drop ah).any fun m=>decide (m.k=4))),(18,.int .i64 (blS ((xs.take i).drop ah))),(19,.int .i64 z),(21,.int .i64 i)] (pst st H K) =
  some (.exit 2,(2,c2)::(3,c3)::(4,c4)::(9,.ptr (st.heap.length+2) 0)::(10,.list ti ni tki nni ((b4 p).map It.dv))::(12,c12)::(14,ov')::(15,.int .i64 (aT p xs ah x s))::(16,.int .i64 (blN ((xs.take s).drop ah)))::(17,.bool (((xs.take s).drop ah).any fun m=>decide (m.k=4)))::(18,.int .i64 (blS ((xs.take s).drop ah)))::(19,.int .i64 (if i<s then (xs.getD (s-1) mz).s else z))::fr,pst st (H++J) K') ∧
  Ac st K' 4 gs c12 oc∧Ac st K' 4 (((aan s).map (gZ p xs ah x)).map Gl.dv) ov' o'∧(∀ k,oc=some k→o'≠some k):=by
 intro k
 induction k with
 | zero=>
   intro i H K ov o z hi _ hr hC hA hd;obtain rfl:i=s:=by omega
   refine⟨ov,K,o,[],[(21,.int .i64 i),(112,.bool false)],?_,hC,hA,hd⟩;rw[ae (L:=so) rfl];simp[jf,hr]
 | succ k ih=>
   intro i H K ov o z hi hai hr hC hA hd;have hlen:=hR.len;have hil:i<xs.length:=by omega
   have his:(i:Int)<s:=by omega
   have his':i<s:=by omega
   obtain rfl:=h6 (by intro e;rw[e] at hil;simp at hil);have hw:IntKind.i64.wrap ((i:Int)+1)=((i+1:Nat):Int):=by rw[ay (by omega)];simp
   have g0:=dN (L:=xs) hil;have l0:i<(xs.map ab.dv).length:=by simpa using hil
   have hpos:=hM (p:=p) hR hah hx.1 i (by omega);have hat:=hpos.2 hil;have hgR:=hR.ok i hil;have hle:=j3 (a:=aT p xs ah x i) (by omega)
   have htake:(xs.take (i+1)).drop ah=(xs.take i).drop ah++[xs.getD i mz]:=by
    rw[List.take_add_one,getM hil];simp only[Option.toList_some];rw[List.drop_append_of_le_length (by simp;omega)]
   have hbn:=Iy ((xs.take i).drop ah) (xs.getD i mz);have hbs:=IE ((xs.take i).drop ah) (xs.getD i mz);have hd1:=wV ((xs.take i).drop ah);have hd2:=Aa ((xs.take i).drop ah) (aae.2 fun m hm=>aae.1 hok m (aa5 (aaD hm)));have hdl:((xs.take i).drop ah).length≤4096:=by simp;omega
   have hpt:=fun st=>EZ (st:=st) (p:=p) (t:=ti) (n:=ni) (tk:=tki) (nn:=nni) h8 (xs.getD i mz).a;have haf:=fun st=>H4 (aT p xs ah x i) (by omega) st;have hsame:=wx (p:=p) hR hil (a:=aT p xs ah x i);have hrange:(aan (i+1)).map (gZ p xs ah x)=(aan i).map (gZ p xs ah x)++[gZ p xs ah x i]:=by rw[List.range_succ];simp
   have hrow1:=fq hr [.cells .plain (xs.getD i mz).cs,.cells .plain (gZ p xs ah x i).cs];obtain⟨ov2,K2,k2,hap,hA2,hC2,hd2⟩:=l4 (H:=H++[.cells .plain (xs.getD i mz).cs,.cells .plain (gZ p xs ah x i).cs]) (by_:=32) (ag:=true) (zs:=[(gZ p xs ah x i).dv]) (w:=.list st.cur 4 .tight true [(gZ p xs ah x i).dv]) hC hA hd (Lw.vw (.list _ _ _ _ (fun _=>rfl) (fun h=>by cases h))) (by omega) (by simp) (by simp[mG]) (by simp[aB];omega) (by simp[aB];omega);obtain⟨ov',K',o',J,fr,hJ,hR'⟩:=ih (i+1) (H++[.cells .plain (xs.getD i mz).cs,.cells .plain (gZ p xs ah x i).cs]) K2 ov2 (some k2) (xs.getD i mz).s (by omega) (by omega) hrow1 hC2 (by rw[hrange];simpa using hA2) hd2;refine⟨ov',K',o',.cells .plain (xs.getD i mz).cs::.cells .plain (gZ p xs ah x i).cs::J,fr,?_,hR'⟩
   have hsz:(if i+1<s then (xs.getD (s-1) mz).s else (xs.getD i mz).s)=(xs.getD (s-1) mz).s:=by
    by_cases h:i+1<s
    · rw[if_pos h]
    · rw[if_neg h,show s-1=i by omega]
   rw[hsz,htake,hbn,hbs] at hJ;rw[if_pos his'];rw[ae (L:=so) rfl];have hnat:gZ p xs ah x i=⟨(xs.getD i mz).a,(xs.getD i mz).b,atW p xs i (aT p xs ah x i),wdW xs ah i (atW p xs i (aT p xs ah x i))⟩:=rfl;have hps:aT p xs ah x (i+1)=atW p xs i (aT p xs ah x i)+wdW xs ah i (atW p xs i (aT p xs ah x i)):=rfl;have hwd:wdW xs ah i (atW p xs i (aT p xs ah x i))=if (xs.getD i mz).k=4 then gd (atW p xs i (aT p xs ah x i))-atW p xs i (aT p xs ah x i) else (xs.getD i mz).w:=if_neg (by omega)
   have hatd:(0<i∧js p (xs.getD i mz).a=false∧atW p xs i (aT p xs ah x i)=aT p xs ah x i+(xs.getD i mz).e)∨(0<i∧js p (xs.getD i mz).a=true∧atW p xs i (aT p xs ah x i)=aT p xs ah x i)∨(i=0∧atW p xs i (aT p xs ah x i)=aT p xs ah x i):=by
    unfold atW;by_cases c0:0<i
    · cases hb:js p (xs.getD i mz).a<;>simp[c0]
    · right;right;simp[c0];omega
   have hany:(((xs.take i).drop ah)++[xs.getD i mz]).any (fun m=>decide (m.k=4))=(((xs.take i).drop ah).any (fun m=>decide (m.k=4))||decide ((xs.getD i mz).k=4)):=by simp
   rw[hps,hany] at hJ;rw[hnat] at hap hJ ⊢;have hkk:=hgR;generalize (xs.drop 0)=unused at *;generalize wdW xs ah i (atW p xs i (aT p xs ah x i))=WD at *;generalize atW p xs i (aT p xs ah x i)=AT at *;generalize aT p xs ah x i=PO at *;generalize blN ((xs.take i).drop ah)=BN at *;generalize blS ((xs.take i).drop ah)=BS at *;generalize ((xs.take i).drop ah).any (fun m=>decide (m.k=4))=TB at *;generalize xs.getD (s-1) mz=ml at *;generalize xs.getD i mz=m at *;generalize xs.map ab.dv=V at *;have g0':V[i]'l0=m.dv:=by rw[aaa l0] at g0;exact aab.inj g0
   have w1:IntKind.i64.wrap (PO+m.e)=PO+m.e:=ay (by omega);have w2:IntKind.i64.wrap (gd PO-PO)=gd PO-PO:=ay (by omega);have w4:IntKind.i64.wrap (m.w.tdiv 3)=m.w/3:=by rw[aaI hgR.1,ay (by omega)]
   have w5:IntKind.i64.wrap (BS+m.w/3)=BS+m.w/3:=ay (by omega);have w6:IntKind.i64.wrap ((BN:Int)+1)=(BN:Int)+1:=ay (by omega)
   have w3:IntKind.i64.wrap (AT+WD)=AT+WD:=by
    rw[hwd];split
    · rename_i h4;rw[hsame (.inr h4)];rw[ay (by omega)]
    · rw[ay (by omega)]
   by_cases k4:m.k=4
   · have hs:=hsame (.inr k4);subst hs;rw[if_pos k4] at hwd;subst hwd;simp[k4,Gl.dv,Gl.cs,ab.cs] at hap hJ ⊢;rcases hatd with ⟨c1,d2,d3⟩ | ⟨c1,d2,d3⟩ | ⟨c1,d3⟩
     · rw[d2] at hpt;have w1':IntKind.i64.wrap (AT+m.e)=AT:=by rw[w1];omega
       simp[jf,his,hr,l0,g0',ab.dv,ab.cs,k4,c1,hpt,haf,w1',w2,w3,hw,aC,aO,chunk,hap];simpa[show IntKind.i64.wrap 1=1 by decide] using hJ
     · rw[d2] at hpt;simp[jf,his,hr,l0,g0',ab.dv,ab.cs,k4,c1,hpt,haf,w2,w3,hw,aC,aO,chunk,hap];simpa[show IntKind.i64.wrap 1=1 by decide] using hJ
     · subst c1;simp at w3 hap hJ;simp[jf,his',hr,l0,g0',ab.dv,ab.cs,k4,haf,w2,w3,hw,aC,aO,chunk,hap];simpa[show IntKind.i64.wrap 1=1 by decide] using hJ
   · rw[if_neg k4] at hwd;subst hwd;by_cases k3:m.k=3
     · simp[k3,Gl.dv,Gl.cs,ab.cs] at hap hJ ⊢;rcases hatd with ⟨c1,d2,d3⟩ | ⟨c1,d2,d3⟩ | ⟨c1,d3⟩
       · subst d3;rw[d2] at hpt;simp[jf,his,hr,l0,g0',ab.dv,ab.cs,k3,c1,hpt,haf,w1,w3,w4,w5,w6,hw,aC,aO,chunk,hap];simpa[show IntKind.i64.wrap 1=1 by decide] using hJ
       · subst d3;rw[d2] at hpt;simp[jf,his,hr,l0,g0',ab.dv,ab.cs,k3,c1,hpt,haf,w3,w4,w5,w6,hw,aC,aO,chunk,hap];simpa[show IntKind.i64.wrap 1=1 by decide] using hJ
       · subst c1 d3;simp at w3 hap hJ;simp[jf,his',hr,l0,g0',ab.dv,ab.cs,k3,haf,w3,w4,w5,w6,hw,aC,aO,chunk,hap];simpa[show IntKind.i64.wrap 1=1 by decide] using hJ
     · simp[k3,k4,Gl.dv,Gl.cs,ab.cs] at hap hJ ⊢;rcases hatd with ⟨c1,d2,d3⟩ | ⟨c1,d2,d3⟩ | ⟨c1,d3⟩
       · subst d3;rw[d2] at hpt;simp[jf,his,hr,l0,g0',ab.dv,ab.cs,k3,k4,c1,hpt,haf,w1,w3,hw,aC,aO,chunk,hap];simpa[show IntKind.i64.wrap 1=1 by decide] using hJ
       · subst d3;rw[d2] at hpt;simp[jf,his,hr,l0,g0',ab.dv,ab.cs,k3,k4,c1,hpt,haf,w3,hw,aC,aO,chunk,hap];simpa[show IntKind.i64.wrap 1=1 by decide] using hJ
       · subst c1 d3;simp at w3 hap hJ;simp[jf,his',hr,l0,g0',ab.dv,ab.cs,k3,k4,haf,w3,hw,aC,aO,chunk,hap];simpa[show IntKind.i64.wrap 1=1 by decide] using hJ
end
def GR (p:aI) (l:Ln) (last:Bool) (i:Nat):Int:=if spB p l last then kAt (aa p l) (bZ p l) i else 0
section
variable {st:St} {p:aI} {w u:LW} {l:Ln} {last:Bool}
theorem Nw (h0:aE p=0) (hm:c8 p.text l=true) {t n:Nat} {tk:Tk} {nn:Bool} (h6:(aa p l).l≠[]→n=6) {tN nN:Nat} {tkN:Tk} {nnN:Bool} (h4:0<(aa p l).aq→nN=4) (c4 c15 c25:DV) {av:DV}:∀ (k i:Nat) (H:List HO) (K:List Nat) (ov:DV),i+k=(aa p l).aq →
 rowAt H 2=some (.plain,[.list t n tk nn ((aa p l).l.map ab.dv),.int .i64 (aa p l).ahead,.int .i64 (aa p l).aq,av]) →
 Acc st K 4 ((dH p l++(aan i).map (eC p l last)).map Gl.dv) ov→∃ ov' K' J fr,
 (E tab).C tc [(4,c4),(9,.ptr (st.heap.length+2) 0),(12,ov),(14,.list tN nN tkN nnN (((aan (aa p l).aq).map (gZ p (aa p l).l (aa p l).ahead l.x)).map Gl.dv)),(15,c15),(25,c25),(26,.int .i64 (exP p l)),(27,.bool (spB p l last)),(28,.int .i64 (di p l)),(29,.int .i64 (GR p l last i)),(30,.int .i64 (dK p l)),(31,.int .i64 i)] (pst st H K) =
  some (.exit 6,(4,c4)::(9,.ptr (st.heap.length+2) 0)::(12,ov')::(14,.list tN nN tkN nnN (((aan (aa p l).aq).map (gZ p (aa p l).l (aa p l).ahead l.x)).map Gl.dv))::(15,c15)::(25,c25)::(26,.int .i64 (exP p l))::(27,.bool (spB p l last))::(28,.int .i64 (di p l))::fr,pst st (H++J) K') ∧
  Acc st K' 4 ((dH p l++(aan (aa p l).aq).map (eC p l last)).map Gl.dv) ov':=by
 have hL:=qE h0 l;have hm':=hm;simp only[c8,aac,decide_eq_true_eq] at hm';have hsol:(aa p l).aq≤(aa p l).l.length:=cr _ _;have hok:(aa p l).l.all okM=true:=aae.2 fun m hm=>aae.1 (cD p).ok m (eP hm);have hlenR:=hL.row.len;have hex:=mE h0 hL hm;have hadd:=wa h0 hm;have hpre:(dH p l).length≤1:=by unfold dH;split<;>simp
 have hall:spB p l last=true→dK p l≠0∧(exP p l<0∨0<exP p l):=by
  intro hs;simp only[spB,aac,aa6,decide_eq_true_eq] at hs;have hex0:exP p l<0∨0<exP p l:=by omega
  refine⟨?_,hex0⟩;unfold dK bZ;by_cases hx:exP p l<0
  · simp only[hx,decide_true,if_true];omega
  · simp only[hx,decide_false,aao,if_false];omega
 have hvl:(((aan (aa p l).aq).map (gZ p (aa p l).l (aa p l).ahead l.x)).map Gl.dv).length=(aa p l).aq:=by simp
 intro k
 induction k with
 | zero=>
   intro i H K ov hi hr hA;obtain rfl:i=(aa p l).aq:=by omega
   refine⟨ov,K,[],[(29,.int .i64 (GR p l last (aa p l).aq)),(30,.int .i64 (dK p l)),(31,.int .i64 (aa p l).aq),(263,.bool false)],?_,hA⟩;rw[ae (L:=tc) rfl];generalize (((aan (aa p l).aq).map (gZ p (aa p l).l (aa p l).ahead l.x)).map Gl.dv)=VN at *;simp[mI,hvl]
 | succ k ih=>
   intro i H K ov hi hr hA;have his:i<(aa p l).aq:=by omega
   have hil:i<(aa p l).l.length:=by omega
   obtain rfl:=h6 (by intro e;rw[e] at hil;simp at hil);obtain rfl:=h4 (by omega);have hpos:=hM (p:=p) hL.row hL.ah (x:=l.x) (by omega) i (by omega);have hat:=hpos.2 hil;have hgR:=hL.row.ok i hil;have hle:=j3 (a:=atW p (aa p l).l i (aT p (aa p l).l (aa p l).ahead l.x i)) (by omega)
   have hwd:0≤wdW (aa p l).l (aa p l).ahead i (atW p (aa p l).l i (aT p (aa p l).l (aa p l).ahead l.x i))∧wdW (aa p l).l (aa p l).ahead i (atW p (aa p l).l i (aT p (aa p l).l (aa p l).ahead l.x i))≤4095:=by
    unfold wdW;split
    · omega
    · split<;>omega
   have hk:=ng (neg:=bZ p l) hok i (by omega);have hk2:=ng (neg:=bZ p l) hok (i+1) (by omega);have hb1:=kz (sp:=true) (all:=dK p l) hex (k:=kAt (aa p l) (bZ p l) i) ⟨hk.1,by omega⟩;have hb2:=kz (sp:=true) (all:=dK p l) hex (k:=kAt (aa p l) (bZ p l) (i+1)) ⟨hk2.1,by omega⟩;have hw:IntKind.i64.wrap ((i:Int)+1)=((i+1:Nat):Int):=by rw[ay (by omega)];simp
   have g0:=dN hil;have l0:i<((aa p l).l.map ab.dv).length:=by simpa using hil
   have gN:(((aan (aa p l).aq).map (gZ p (aa p l).l (aa p l).ahead l.x)).map Gl.dv)[i]? = some (gZ p (aa p l).l (aa p l).ahead l.x i).dv:=by simp[his]
   have lN:i<(((aan (aa p l).aq).map (gZ p (aa p l).l (aa p l).ahead l.x)).map Gl.dv).length:=by rw[hvl];exact his
   have hrange:(aan (i+1)).map (eC p l last)=(aan i).map (eC p l last)++[eC p l last i]:=by rw[List.range_succ];simp
   have hrow1:=fq hr [.cells .plain (eC p l last i).cs];obtain⟨ov2,K2,hap,hA2⟩:=cR (H:=H++[.cells .plain (eC p l last i).cs]) (by_:=32) (ag:=true) (tk:=.tight) (t:=st.cur) (ys:=[(eC p l last i).dv]) hA (by omega) (by simp) (by simp[mG]) (by simp[aB];omega) (by simp[aB];omega);obtain⟨ov',K',J,fr,hJ,hR'⟩:=ih (i+1) (H++[.cells .plain (eC p l last i).cs]) K2 ov2 (by omega) hrow1 (by rw[hrange];simpa using hA2);refine⟨ov',K',.cells .plain (eC p l last i).cs::J,fr,?_,hR'⟩;rw[ae (L:=tc) rfl];have hnat:gZ p (aa p l).l (aa p l).ahead l.x i=⟨((aa p l).l.getD i mz).a,((aa p l).l.getD i mz).b,atW p (aa p l).l i (aT p (aa p l).l (aa p l).ahead l.x i),wdW (aa p l).l (aa p l).ahead i (atW p (aa p l).l i (aT p (aa p l).l (aa p l).ahead l.x i))⟩:=rfl;rw[hnat] at gN;generalize ((aan (aa p l).aq).map (gZ p (aa p l).l (aa p l).ahead l.x)).map Gl.dv=VN at *;have gN':VN[i]'lN=Gl.dv ⟨((aa p l).l.getD i mz).a,((aa p l).l.getD i mz).b,atW p (aa p l).l i (aT p (aa p l).l (aa p l).ahead l.x i),wdW (aa p l).l (aa p l).ahead i (atW p (aa p l).l i (aT p (aa p l).l (aa p l).ahead l.x i))⟩:=by rw[aaa lN] at gN;exact aab.inj gN
   have hgl:eC p l last i=⟨((aa p l).l.getD i mz).a,((aa p l).l.getD i mz).b,atW p (aa p l).l i (aT p (aa p l).l (aa p l).ahead l.x i)+di p l+tkn (spB p l last) (exP p l) (dK p l) (kAt (aa p l) (bZ p l) i),wdW (aa p l).l (aa p l).ahead i (atW p (aa p l).l i (aT p (aa p l).l (aa p l).ahead l.x i))+(tkn (spB p l last) (exP p l) (dK p l) (kAt (aa p l) (bZ p l) (i+1))-tkn (spB p l last) (exP p l) (dK p l) (kAt (aa p l) (bZ p l) i))⟩:=rfl;have hkn:kAt (aa p l) (bZ p l) (i+1)=iV (aa p l) (bZ p l) i (kAt (aa p l) (bZ p l) i):=rfl;have hng:bZ p l=decide (exP p l<0):=rfl;unfold GR at hJ ⊢;rw[hgl] at hap hJ ⊢;unfold iV at hkn;generalize (aa p l).aq=SOL at *;generalize (aa p l).ahead=AH at *;generalize wdW (aa p l).l AH i (atW p (aa p l).l i (aT p (aa p l).l AH l.x i))=WD at *;generalize atW p (aa p l).l i (aT p (aa p l).l AH l.x i)=AT at *;generalize kAt (aa p l) (bZ p l) (i+1)=KB at *;generalize kAt (aa p l) (bZ p l) i=KA at *;generalize dK p l=ALL at *;generalize di p l=ADD at *;have hrA:=fun X=>fq hr X;generalize exP p l=EX at *;generalize bZ p l=NG at *;generalize (aa p l).l.getD i mz=m at *;generalize (aa p l).l.map ab.dv=V at *;have g0':V[i]'l0=m.dv:=by rw[aaa l0] at g0;exact aab.inj g0
   have w1:IntKind.i64.wrap (AT+ADD)=AT+ADD:=ay (by omega)
   cases hs:spB p l last with
   | false=>
     rw[hs] at hap hJ;simp[tkn,Gl.dv,Gl.cs] at hap hJ ⊢;simp[mI,his,hr,lN,gN',Gl.dv,Gl.cs,w1,hw,aC,aO,chunk,hap];simpa using hJ
   | true=>
     obtain⟨hA0,hX0⟩:=hall hs;rw[hs] at hap hJ;simp only[tkn,if_true] at hb1 hb2 hap hJ ⊢;have wm1:IntKind.i64.wrap (EX*KA)=EX*KA:=ay (by omega);have wm2:IntKind.i64.wrap (EX*KB)=EX*KB:=ay (by omega);have wd1:IntKind.i64.wrap ((EX*KA).tdiv ALL)=(EX*KA).tdiv ALL:=ay (by omega);have wd2:IntKind.i64.wrap ((EX*KB).tdiv ALL)=(EX*KB).tdiv ALL:=ay (by omega);have wX:IntKind.i64.wrap (AT+ADD+(EX*KA).tdiv ALL)=AT+ADD+(EX*KA).tdiv ALL:=ay (by omega);have wW:IntKind.i64.wrap (WD+(EX*KB).tdiv ALL)=WD+(EX*KB).tdiv ALL:=ay (by omega);have wW2:IntKind.i64.wrap (WD+(EX*KB).tdiv ALL-(EX*KA).tdiv ALL)=WD+((EX*KB).tdiv ALL-(EX*KA).tdiv ALL):=by rw[ay (by omega)];omega
     have w4:IntKind.i64.wrap (m.w.tdiv 3)=m.w/3:=by rw[aaI hgR.1,ay (by omega)]
     by_cases hai:AH≤i
     · have hai':(AH:Int)≤i:=by omega
       by_cases k3:m.k=3
       · rw[if_pos ⟨k3,hai⟩] at hkn;rw[hng] at hkn;rcases hX0 with hX | hX
         · have hX':¬ 0<EX:=by omega
           have hkb:KB=KA+m.w/3:=by rw[hkn];simp[prt,hX]
           have wK:IntKind.i64.wrap (KA+m.w/3)=KB:=by rw[hkb];exact ay (by omega)
           clear hkn hkb;simp[Gl.dv,Gl.cs] at hap hJ ⊢;simp[mI,aM,bM,bR,bQ,aR,his,hrA,lN,gN',l0,g0',ab.dv,ab.cs,Gl.dv,Gl.cs,w1,w4,wm1,wd1,wm2,wd2,wX,wW,wW2,wK,hai',k3,hX',hA0,hw,aC,aO,chunk,hap];simpa using hJ
         · have hkb:KB=KA+1:=by rw[hkn];simp[prt,show ¬ EX<0 by omega]
           have wK:IntKind.i64.wrap (KA+1)=KB:=by rw[hkb];exact ay (by omega)
           clear hkn hkb;simp[Gl.dv,Gl.cs] at hap hJ ⊢;simp[mI,aM,bM,bR,bQ,aR,his,hrA,lN,gN',l0,g0',ab.dv,ab.cs,Gl.dv,Gl.cs,w1,w4,wm1,wd1,wm2,wd2,wX,wW,wW2,wK,hai',k3,hX,hA0,hw,aC,aO,chunk,hap];simpa using hJ
       · rw[if_neg (fun h=>k3 h.1)] at hkn;subst hkn;simp[Gl.dv,Gl.cs] at hap hJ ⊢;simp[mI,aM,bM,bR,bQ,aR,his,hrA,lN,gN',l0,g0',ab.dv,ab.cs,Gl.dv,Gl.cs,w1,wm1,wd1,wX,hai',k3,hA0,hw,aC,aO,chunk,hap];simpa using hJ
     · rw[if_neg (fun h=>hai h.2)] at hkn;subst hkn;have hai':¬ (AH:Int)≤i:=by omega
       simp[Gl.dv,Gl.cs] at hap hJ ⊢;simp[mI,aM,bM,bR,bQ,aR,his,hrA,lN,gN',l0,g0',ab.dv,ab.cs,Gl.dv,Gl.cs,w1,wm1,wd1,wX,hai',hA0,hw,aC,aO,chunk,hap];simpa using hJ
end
def I8:RC:=(.seq (.region CV [4,9,12,25,26,27,34]) (.seq (.seq (.region Dn [4,9,12,25,26,34,330]) (.cond (.t 330) (.region Dk [4,9,12,25,34]) .skip)) (.seq (.seq (.region Br [4,9,12,25,34,35]) (.block 8 rD)) (.seq (.seq (.region Dm [4,12,25,34,361]) (.cond (.t 361) (.region BI [12]) .skip)) (.seq (.region CJ [6,7]) .ret)))))
def Bm:RC:=(.seq (.seq (.region C2 [4,9,12,14,15,25,26,27,28,29,30,31]) (.block 6 tc)) I8)
def LQ:RC:=(.seq (.region vz [2,3,4,9,12,14,15,16,17,18,19,25]) (.seq (.seq (.region w9 [2,3,4,9,12,14,15,16,17,18,19,25,195]) (.cond (.t 195) (.region xc [2,3,4,9,12,14,15,16,17,18,25]) .skip)) (.seq (.region vP [2,3,4,9,12,14,15,16,17,18,25,26]) (.seq (.region wg [3,4,9,12,14,15,16,18,25,26,27]) (.seq (.region we [3,4,9,12,14,15,16,18,25,26,27,28]) (.seq (.seq (.region vb [3,4,9,12,14,15,16,18,25,26,27,28,244]) (.cond (.t 244) (.region xj [3,4,9,12,14,15,16,18,25,26,27,28]) .skip)) (.seq (.seq (.region wP [4,9,12,14,15,16,18,25,26,27,28,253]) (.cond (.t 253) (.region wb [4,9,12,14,15,16,18,25,26,27,28]) .skip)) (.seq (.region v7 [4,9,12,14,15,18,25,26,27,28,29,30]) (.seq (.seq (.region vD [4,9,12,14,15,18,25,26,27,28,29,30,258]) (.cond (.t 258) (.region vM [4,9,12,14,15,25,26,27,28,29,30]) .skip)) Bm)))))))))
def Mt:RC:=(.seq (.region CL [2,3,4,9,10,12,14]) (.seq (.region B3 [2,3,4,9,10,12,14,15]) (.seq (.region CM [2,3,4,9,10,12,14,15,16,17,18]) (.seq (.region Cp [2,3,4,9,10,12,14,15,16,17,18,19]) (.seq (.seq (.region Bz [2,3,4,9,10,12,14,15,16,17,18,19,20]) (.block 0 sq)) (.seq (.seq (.region C0 [2,3,4,9,10,12,14,15,16,17,18,19,21]) (.block 2 so)) (.seq (.seq (.region BV [2,3,4,9,12,14,15,16,17,18,19,24]) (.block 4 r8)) LQ)))))))
theorem Lc:f213=⟨[.t 6,.t 7],(.seq (.region HE [2,3,4]) (.seq (.region HL [2,3,4,8]) (.seq (.seq (.region Hz [2,3,4,8,39]) (.cond (.t 39) (.seq (.region GM [6,7]) .ret) .skip)) (.seq (.seq (.region FD [2,3,4,44]) (.cond (.t 44) (.seq (.region GQ [6,7]) .ret) .skip)) (.seq (.region FQ [2,3,4,9]) (.seq (.region H0 [2,3,4,9,10]) (.seq (.region Fk [2,3,4,9,10,12]) (.seq (.seq (.region HG [2,3,4,9,10,12,56]) (.cond (.t 56) (.seq (.region CT [2,3,4,9,10,12,13]) (.aG B6 [] [] [2,3,4,9,10,12])) .skip)) Mt)))))))),true⟩:=rfl
section
variable {st:St} {p:aI} {w u:LW} {l:Ln} {last:Bool}
theorem MI {xs:List ab} (hl:xs.length≤4096) {t n:Nat} {tk:Tk} {nn:Bool} (h6:xs≠[]→n=6) (c4 c25:DV) (en:Int) {H:List HO} {s0 av:DV} (gs:List Gl) (hgs:gs.length≤8000) (sol:Nat) {ah:DV} (hr:rowAt H 2=some (.plain,[.list t n tk nn (xs.map ab.dv),ah,s0,av])):∀ (k i:Nat) (K:List Nat) (ov:DV),i+k=xs.length→sol≤i →
 Acc st K 4 ((gs++((xs.take i).drop sol).map fun m=>(⟨m.a,m.b,en,0⟩:Gl)).map Gl.dv) ov→∃ ov' K' fr,
 (E tab).C rD [(4,c4),(9,.ptr (st.heap.length+2) 0),(12,ov),(25,c25),(34,.int .i64 en),(35,.int .i64 i)] (pst st H K) =
  some (.exit 8,(4,c4)::(9,.ptr (st.heap.length+2) 0)::(12,ov')::(25,c25)::(34,.int .i64 en)::fr,pst st H K') ∧
  Acc st K' 4 ((gs++(xs.drop sol).map fun m=>(⟨m.a,m.b,en,0⟩:Gl)).map Gl.dv) ov':=by
 intro k
 induction k with
 | zero=>
   intro i K ov hi hs hA;obtain rfl:i=xs.length:=by omega
   rw[List.take_length] at hA;refine⟨ov,K,[(35,.int .i64 xs.length),(340,.bool false)],?_,hA⟩;rw[ae (L:=rD) rfl];simp[Bb,hr]
 | succ k ih=>
   intro i K ov hi hs hA;have hil:i<xs.length:=by omega
   obtain rfl:=h6 (by intro e;rw[e] at hil;simp at hil);have hw:IntKind.i64.wrap ((i:Int)+1)=((i+1:Nat):Int):=by rw[ay (by omega)];simp
   have g0:=dN (L:=xs) hil;have l0:i<(xs.map ab.dv).length:=by simpa using hil
   have ht:(xs.take (i+1)).drop sol=(xs.take i).drop sol++[xs.getD i mz]:=by
    rw[List.take_add_one,getM hil];simp only[Option.toList_some];rw[List.drop_append_of_le_length (by simp;omega)]
   generalize xs.getD i mz=m at *;obtain⟨ov2,K2,hap,hA2⟩:=cR (H:=H) (by_:=32) (ag:=true) (tk:=.tight) (t:=st.cur) (ys:=[Gl.dv ⟨m.a,m.b,en,0⟩]) hA (by omega) (by simp) (by simp[mG]) (by simp[aB];omega) (by simp[aB];omega);obtain⟨ov',K',fr,hJ,hR⟩:=ih (i+1) K2 ov2 (by omega) (by omega) (by rw[ht];simpa using hA2);refine⟨ov',K',fr,?_,hR⟩;rw[ae (L:=rD) rfl];have hVl:(xs.map ab.dv).length=xs.length:=by simp
   generalize xs.map ab.dv=V at *;have g0':V[i]'l0=m.dv:=by rw[aaa l0] at g0;exact aab.inj g0
   simp[Gl.dv,Gl.cs] at hap hJ ⊢;simp[Bb,aM,bM,bR,bQ,aR,hr,hVl,hil,hw,l0,g0,g0',ab.dv,ab.cs,aC,aO,chunk,hap];simpa using hJ
theorem Jy (h0:aE p=0) (hm:c8 p.text l=true) {t n:Nat} {tk:Tk} {nn:Bool} (h6:(aa p l).l≠[]→n=6) {H:List HO} {K:List Nat} {ov av:DV} (hr1:rowAt H 1=some (.plain,l.cs)) (hr:rowAt H 2=some (.plain,[.list t n tk nn ((aa p l).l.map ab.dv),.int .i64 (aa p l).ahead,.int .i64 (aa p l).aq,av]))
 (hA:Acc st K 4 ((dH p l++(aan (aa p l).aq).map (eC p l last)).map Gl.dv) ov) (fr:Fr) (c14:DV):∃ ov' K',
 (E tab).C I8 ((4,.ptr (st.heap.length+1) 0)::(9,.ptr (st.heap.length+2) 0)::(12,ov)::(14,c14)::(15,.int .i64 (aT p (aa p l).l (aa p l).ahead l.x (aa p l).aq))::(25,.int .i64 (aa p l).dL)::(26,.int .i64 (exP p l))::(27,.bool (spB p l last))::(28,.int .i64 (di p l))::fr) (pst st H K) =
  some (.ret,[(6,ov'),(7,.int .i64 0)],pst st H K')∧Acc st K' 4 ((bV p l last).map Gl.dv) ov':=by
 have hL:=qE h0 l;have hm':=hm;simp only[c8,aac,decide_eq_true_eq] at hm';have hsol:(aa p l).aq≤(aa p l).l.length:=cr _ _;have hlenR:=hL.row.len;have hex:=mE h0 hL hm;have hadd:=wa h0 hm;have hpos:=(hM (p:=p) hL.row hL.ah (x:=l.x) (by omega) _ hsol).1;have hpre:(dH p l).length≤1:=by unfold dH;split<;>simp
 have hes:=JU (p:=p) (l:=l) (last:=last)
 obtain⟨ov1,K1,fr1,hJ,hA1⟩:=MI (st:=st) hlenR h6 (.ptr (st.heap.length+1) 0) (.int .i64 (aa p l).dL) (cq p l last (aa p l).aq) (dH p l++(aan (aa p l).aq).map (eC p l last)) (by simp;omega) (aa p l).aq hr ((aa p l).l.length-(aa p l).aq) (aa p l).aq K ov (by omega) (aai _) (by
  rw[aa8 (by simp;omega)];simpa using hA)
 have hgl0:dH p l++(aan (aa p l).aq).map (eC p l last)++((aa p l).l.drop (aa p l).aq).map (fun m=>(⟨m.a,m.b,cq p l last (aa p l).aq,0⟩:Gl))++ll p l last=bV p l last:=rfl;have wE1:IntKind.i64.wrap (aT p (aa p l).l (aa p l).ahead l.x (aa p l).aq+di p l)=aT p (aa p l).l (aa p l).ahead l.x (aa p l).aq+di p l:=ay (by omega)
 have wE2:spB p l last=true→IntKind.i64.wrap (aT p (aa p l).l (aa p l).ahead l.x (aa p l).aq+di p l+exP p l)=cq p l last (aa p l).aq:=by
  intro hs;rw[ay (by omega),hes,hs];simp
 have hlen1:(dH p l++(aan (aa p l).aq).map (eC p l last)++((aa p l).l.drop (aa p l).aq).map (fun m=>(⟨m.a,m.b,cq p l last (aa p l).aq,0⟩:Gl))).length≤4100:=by simp;omega
 cases hh:l.h with
 | false=>
   have hhy:ll p l last=[]:=by unfold ll;rw[hh];rfl
   rw[hhy,aaE] at hgl0;rw[hgl0] at hA1;refine⟨ov1,K1,?_,hA1⟩;unfold I8;simp only[Ln.cs,hh] at hr1;generalize (aa p l).l.map ab.dv=V at *
   cases hs:spB p l last with
   | false=>
     rw[hs] at hes;simp at hes;have wE0:=wE1.trans hes.symm;simp[wE0,hr,hr1,hJ]
   | true=>
     simp[wE1,wE2 hs,hr,hr1,hJ]
 | true=>
   have hhy:ll p l last=[⟨l.t,l.t,cq p l last (aa p l).aq,(aa p l).dL⟩]:=by unfold ll;rw[hh];rfl
   rw[hhy] at hgl0;obtain⟨ov2,K2,hap,hA2⟩:=cR (H:=H) (by_:=32) (ag:=true) (tk:=.tight) (t:=st.cur) (ys:=[Gl.dv ⟨l.t,l.t,cq p l last (aa p l).aq,(aa p l).dL⟩]) hA1 (by omega) (by simp) (by simp[mG]) (by simp[aB];omega) (by simp[aB];omega);refine⟨ov2,K2,?_,by rw[← hgl0];simpa using hA2⟩;unfold I8;simp only[Ln.cs,hh] at hr1;generalize (aa p l).l.map ab.dv=V at *;simp[Gl.dv,Gl.cs] at hap
   cases hs:spB p l last with
   | false=>
     rw[hs] at hes;simp at hes;have wE0:=wE1.trans hes.symm;simp[wE0,hr,hr1,hJ,aC,aO,chunk,hap]
   | true=>
     simp[wE1,wE2 hs,hr,hr1,hJ,aC,aO,chunk,hap]
end
def Og:RC:=(.seq (.region we [3,4,9,12,14,15,16,18,25,26,27,28]) (.seq (.seq (.region vb [3,4,9,12,14,15,16,18,25,26,27,28,244]) (.cond (.t 244) (.region xj [3,4,9,12,14,15,16,18,25,26,27,28]) .skip)) (.seq (.seq (.region wP [4,9,12,14,15,16,18,25,26,27,28,253]) (.cond (.t 253) (.region wb [4,9,12,14,15,16,18,25,26,27,28]) .skip)) (.seq (.region v7 [4,9,12,14,15,18,25,26,27,28,29,30]) (.seq (.seq (.region vD [4,9,12,14,15,18,25,26,27,28,29,30,258]) (.cond (.t 258) (.region vM [4,9,12,14,15,25,26,27,28,29,30]) .skip)) Bm)))))
def Mm:RC:=(.seq (.region vP [2,3,4,9,12,14,15,16,17,18,25,26]) (.seq (.region wg [3,4,9,12,14,15,16,18,25,26,27]) Og))
theorem Vm:LQ=(.seq (.region vz [2,3,4,9,12,14,15,16,17,18,19,25]) (.seq (.seq (.region w9 [2,3,4,9,12,14,15,16,17,18,19,25,195]) (.cond (.t 195) (.region xc [2,3,4,9,12,14,15,16,17,18,25]) .skip)) Mm)):=rfl
section
variable {st:St} {p:aI} {w u:LW} {l:Ln} {last:Bool}
theorem GX:GR p l last 0=0:=by unfold GR;split<;>rfl
structure vQ (p:aI) (w u:LW) (l:Ln) (t n:Nat) (tk:Tk) (nn:Bool) (av:DV) (H:List HO):Prop where
 r0:rowAt H 0=some (.plain,af p w u)
 r1:rowAt H 1=some (.plain,l.cs)
 r2:rowAt H 2=some (.plain,[.list t n tk nn ((aa p l).l.map ab.dv),.int .i64 (aa p l).ahead,.int .i64 (aa p l).aq,av])
theorem vQ.add {t n:Nat} {tk:Tk} {nn:Bool} {av:DV} {H:List HO} (h:vQ p w u l t n tk nn av H) (X:List HO):vQ p w u l t n tk nn av (H++X):=⟨fq h.r0 X,fq h.r1 X,fq h.r2 X⟩
def kY (p:aI) (l:Ln) (tN nN:Nat) (tkN:Tk) (nnN:Bool):DV:=.list tN nN tkN nnN (((aan (aa p l).aq).map (gZ p (aa p l).l (aa p l).ahead l.x)).map Gl.dv)
def atN (p:aI) (l:Ln):Int:=aT p (aa p l).l (aa p l).ahead l.x (aa p l).aq
variable {t n:Nat} {tk:Tk} {nn:Bool} {av:DV} {tN nN:Nat} {tkN:Tk} {nnN:Bool}
theorem JM (h0:aE p=0) (hm:c8 p.text l=true) (h6:(aa p l).l≠[]→n=6) (h4:0<(aa p l).aq→nN=4) {H:List HO} (hH:vQ p w u l t n tk nn av H) {K:List Nat} {ov:DV} (hA:Acc st K 4 ((dH p l).map Gl.dv) ov) (fr:Fr):∃ ov' H' K',
 (E tab).C Bm ((4,.ptr (st.heap.length+1) 0)::(9,.ptr (st.heap.length+2) 0)::(12,ov)::(14,kY p l tN nN tkN nnN)::(15,.int .i64 (atN p l))::(25,.int .i64 (aa p l).dL)::(26,.int .i64 (exP p l))::(27,.bool (spB p l last))::(28,.int .i64 (di p l))::(29,.int .i64 0)::(30,.int .i64 (dK p l))::fr) (pst st H K) =
  some (.ret,[(6,ov'),(7,.int .i64 0)],pst st H' K')∧Acc st K' 4 ((bV p l last).map Gl.dv) ov':=by
 obtain⟨ov1,K1,J1,fr1,hJ,hA1⟩:=Nw (st:=st) (last:=last) h0 hm (t:=t) (tk:=tk) (nn:=nn) h6 (tN:=tN) (tkN:=tkN) (nnN:=nnN) h4 (.ptr (st.heap.length+1) 0) (.int .i64 (atN p l)) (.int .i64 (aa p l).dL) (aa p l).aq 0 H K ov (by omega) hH.r2 (by simpa using hA);rw[GX (p:=p) (l:=l) (last:=last)] at hJ;have hH1:=hH.add J1;obtain⟨ov2,K2,h68,hA2⟩:=Jy (st:=st) (last:=last) h0 hm h6 hH1.r1 hH1.r2 hA1 fr1 (kY p l tN nN tkN nnN);refine⟨ov2,H++J1,K2,?_,hA2⟩;unfold Bm;unfold kY atN at *;generalize ((aan (aa p l).aq).map (gZ p (aa p l).l (aa p l).ahead l.x)).map Gl.dv=VN at *;simp at hJ;simp[hJ,h68]
theorem lO (st:St) (a4 a9 a12 a14 a15 a18 a25 a26 a27 a28 a29 a30 a258:DV):(E tab).C Bm [(4,a4),(9,a9),(12,a12),(14,a14),(15,a15),(18,a18),(25,a25),(26,a26),(27,a27),(28,a28),(29,a29),(30,a30),(258,a258)] st=(E tab).C Bm [(4,a4),(9,a9),(12,a12),(14,a14),(15,a15),(25,a25),(26,a26),(27,a27),(28,a28),(29,a29),(30,a30)] st:=by
 unfold Bm;simp
theorem Jv (h0:aE p=0) (hm:c8 p.text l=true) (h6:(aa p l).l≠[]→n=6) (h4:0<(aa p l).aq→nN=4) {H:List HO} (hH:vQ p w u l t n tk nn av H) {K:List Nat} {ov:DV} (hA:Acc st K 4 ((dH p l).map Gl.dv) ov):∃ ov' H' K',
 (E tab).C Og [(3,.ptr st.heap.length 0),(4,.ptr (st.heap.length+1) 0),(9,.ptr (st.heap.length+2) 0),(12,ov),(14,kY p l tN nN tkN nnN),(15,.int .i64 (atN p l)),(16,.int .i64 (blN (b7 (aa p l)))),(18,.int .i64 (blS (b7 (aa p l)))),(25,.int .i64 (aa p l).dL),(26,.int .i64 (exP p l)),(27,.bool (spB p l last))] (pst st H K) =
  some (.ret,[(6,ov'),(7,.int .i64 0)],pst st H' K')∧Acc st K' 4 ((bV p l last).map Gl.dv) ov':=by
 have hL:=qE h0 l;have hex:=mE h0 hL hm;have pa:=qL (p:=p) (w:=w) (u:=u);have hadd:di p l=if p.pr.align=2 then max (exP p l) 0 else if p.pr.align=3 then max (exP p l) 0/2 else 0:=rfl
 have hall:dK p l=if exP p l<0 then blS (b7 (aa p l)) else (blN (b7 (aa p l)):Int):=by
  unfold dK bZ;by_cases h:exP p l<0<;>simp[h]
 obtain⟨ov',H',K',h54,hA'⟩:=JM (st:=st) (last:=last) (tN:=tN) (tkN:=tkN) (nnN:=nnN) h0 hm h6 h4 hH hA [];refine⟨ov',H',K',?_,hA'⟩;have r0:=hH.r0;unfold Og;generalize kY p l tN nN tkN nnN=NV at *;generalize atN p l=AN at *;generalize b7 (aa p l)=ML at *;generalize di p l=AD at *;generalize dK p l=AL at *;generalize exP p l=EX at *;by_cases h5:0<EX
 · have h6':¬ EX<0:=by omega
   have hmx:max EX 0=EX:=by omega
   rw[if_neg h6'] at hall;rw[hmx] at hadd;by_cases h2:p.pr.align=2
   · rw[if_pos h2] at hadd;subst hadd hall;simp[r0,pa,h5,h6',h2,lO,h54]
   · rw[if_neg h2] at hadd;by_cases h3:p.pr.align=3
     · rw[if_pos h3] at hadd;subst hadd hall;have w2:IntKind.i64.wrap (EX.tdiv 2)=EX/2:=by rw[aaI (by omega),ay (by omega)]
       simp[r0,pa,h5,h6',h3,w2,lO,h54]
     · rw[if_neg h3] at hadd;subst hadd hall;simp[r0,pa,h5,h6',h2,h3,lO,h54]
 · have hz:AD=0:=by
    rw[hadd,show max EX 0=0 by omega];split
    · rfl
    · split<;>rfl
   subst hz;by_cases h6':EX<0
   · rw[if_pos h6'] at hall;subst hall;simp[r0,pa,h5,h6',lO,h54]
   · rw[if_neg h6'] at hall;subst hall;simp[r0,pa,h5,h6',lO,h54]
end
section
variable {st:St} {p:aI} {w u:LW} {l:Ln} {last:Bool}
theorem Jh (h0:aE p=0):((aa p l).l.any fun m=>decide (m.k=4))=((b7 (aa p l)).any fun m=>decide (m.k=4)):=by
 have hL:=qE h0 l;have hsol:(aa p l).aq≤(aa p l).l.length:=cr _ _;have hmid:=Jf (L:=(aa p l).l) (a:=(aa p l).ahead) hsol (P:=fun m=>decide (m.k=4)=true);rw[aaQ,abf,abf];constructor
 · rintro⟨m,hm,hk⟩;obtain⟨j,hj,rfl⟩:=aa1 hm;have eg:(aa p l).l.getD j mz=(aa p l).l[j]:=by rw[aaf,aaa hj];rfl
   rw[← eg] at hk;refine hmid.2 ⟨j,?_,?_,hk⟩
   · apply Nat.le_of_not_lt;intro h;have:=hL.ah j h;rw[this] at hk;revert hk;decide
   · apply Nat.lt_of_not_le;intro h;have hb:=zp (bx p l) (bx p l).length j h hj;rw[decide_eq_true_eq] at hk;have hk':((bx p l).getD j mz).k=4:=hk;unfold ep at hb;rw[hk'] at hb;revert hb;decide
 · intro h;obtain⟨j,h1,h2,h3⟩:=hmid.1 h;exact⟨_,zC (by omega),h3⟩
variable {t n:Nat} {tk:Tk} {nn:Bool} {av:DV} {tN nN:Nat} {tkN:Tk} {nnN:Bool}
def mP (p:aI) (l:Ln):Bool:=(b7 (aa p l)).any fun m=>decide (m.k=4)
theorem KR (h0:aE p=0) (hm:c8 p.text l=true) (h6:(aa p l).l≠[]→n=6) (h4:0<(aa p l).aq→nN=4) {H:List HO} (hH:vQ p w u l t n tk nn av H) {K:List Nat} {ov:DV} (hA:Acc st K 4 ((dH p l).map Gl.dv) ov) {fr0:Fr} (hg:fr0.get 25=.int .i64 (aa p l).dL):∃ ov' H' K',
 (E tab).C Mm ((2,.bool last)::(3,.ptr st.heap.length 0)::(4,.ptr (st.heap.length+1) 0)::(9,.ptr (st.heap.length+2) 0)::(12,ov)::(14,kY p l tN nN tkN nnN)::(15,.int .i64 (atN p l))::(16,.int .i64 (blN (b7 (aa p l))))::(17,.bool (mP p l))::(18,.int .i64 (blS (b7 (aa p l))))::fr0) (pst st H K) =
  some (.ret,[(6,ov'),(7,.int .i64 0)],pst st H' K')∧Acc st K' 4 ((bV p l last).map Gl.dv) ov':=by
 have hL:=qE h0 l;have hm':=hm;simp only[c8,aac,decide_eq_true_eq] at hm';have hsol:(aa p l).aq≤(aa p l).l.length:=cr _ _;have hlenR:=hL.row.len;have hex:=mE h0 hL hm;have pa:=qL (p:=p) (w:=w) (u:=u);have hpos:l.x≤atN p l∧atN p l≤l.x+4200*(aa p l).aq∧_:=(hM (p:=p) hL.row hL.ah (x:=l.x) (by omega) _ hsol).1;have hhy:=CX h0 l;obtain⟨ov',H',K',h46,hA'⟩:=Jv (st:=st) (last:=last) (tN:=tN) (tkN:=tkN) (nnN:=nnN) h0 hm h6 h4 hH hA;refine⟨ov',H',K',?_,hA'⟩;have r0:=hH.r0;have r1:=hH.r1;simp only[Ln.cs] at r1;have hxd:exP p l=l.w-(atN p l+(aa p l).dL-l.x):=rfl;have w1:IntKind.i64.wrap (atN p l+(aa p l).dL)=atN p l+(aa p l).dL:=ay (by omega);have w2:IntKind.i64.wrap (atN p l+(aa p l).dL-l.x)=atN p l+(aa p l).dL-l.x:=ay (by omega);have w3:IntKind.i64.wrap (l.w-(atN p l+(aa p l).dL-l.x))=exP p l:=by rw[hxd];exact ay (by omega)
 have wn:IntKind.i64.wrap (-exP p l) = -exP p l:=ay (by omega)
 have hsp:spB p l last=(decide (p.pr.align=1) && !last && !mP p l&&decide (0<blN (b7 (aa p l)))&&(decide (0<exP p l)||(decide (exP p l<0)&&decide (-exP p l≤blS (b7 (aa p l)))))):=by
  unfold spB mP;rw[Jh h0]
 rw[hsp] at h46;clear hxd;unfold Mm;generalize kY p l tN nN tkN nnN=NV at *;generalize atN p l=AN at *;generalize mP p l=TB at *;generalize b7 (aa p l)=ML at *;generalize exP p l=EX at *;generalize (aa p l).dL=HY at *;by_cases h1:p.pr.align=1;rotate_left
 · simp[h1] at h46;simp[r0,r1,pa,hg,w1,w2,w3,h1,h46]
 cases last with
 | true=>
   simp[h1] at h46;simp[r0,r1,pa,hg,w1,w2,w3,h1,h46]
 | false=>
 cases TB with
 | true=>
   simp[h1] at h46;simp[r0,r1,pa,hg,w1,w2,w3,h1,h46]
 | false=>
 by_cases h4:0<blN ML;rotate_left
 · have h4':blN ML=0:=by omega
   simp[h1,h4'] at h46;simp[r0,r1,pa,hg,w1,w2,w3,h1,h4',h46]
 have h4':(0:Int)<blN ML:=by omega
 by_cases h5:0<EX
 · simp[h1,h4,h5] at h46;simp[r0,r1,pa,hg,w1,w2,w3,h1,h4,h4',h5,h46]
 by_cases h6:EX<0;rotate_left
 · simp[h1,h4,h5,h6] at h46;simp[r0,r1,pa,hg,w1,w2,w3,h1,h4,h4',h5,h6,h46]
 by_cases h7:-EX≤blS ML
 · simp[h1,h4,h5,h6,h7] at h46;simp[r0,r1,pa,hg,w1,w2,w3,h1,h4,h4',h5,h6,wn,h7,h46]
 · simp[h1,h4,h5,h6,h7] at h46;simp[r0,r1,pa,hg,w1,w2,w3,h1,h4,h4',h5,h6,wn,h7,h46]
theorem Ja (h0:aE p=0) (hm:c8 p.text l=true) (h6:(aa p l).l≠[]→n=6) (h4:0<(aa p l).aq→nN=4) {H:List HO} (hH:vQ p w u l t n tk nn av H) {K:List Nat} {ov:DV} (hA:Acc st K 4 ((dH p l).map Gl.dv) ov) (fr:Fr):∃ ov' H' K',
 (E tab).C LQ ((2,.bool last)::(3,.ptr st.heap.length 0)::(4,.ptr (st.heap.length+1) 0)::(9,.ptr (st.heap.length+2) 0)::(12,ov)::(14,kY p l tN nN tkN nnN)::(15,.int .i64 (atN p l))::(16,.int .i64 (blN (b7 (aa p l))))::(17,.bool (mP p l))::(18,.int .i64 (blS (b7 (aa p l))))::(19,.int .i64 (kc p l))::fr) (pst st H K) =
  some (.ret,[(6,ov'),(7,.int .i64 0)],pst st H' K')∧Acc st K' 4 ((bV p l last).map Gl.dv) ov':=by
 obtain⟨ov',H',K',h44,hA'⟩:=KR (st:=st) (last:=last) (tN:=tN) (tkN:=tkN) (nnN:=nnN) h0 hm h6 h4 hH hA (fr0:=if l.h then [(25,.int .i64 (aa p l).dL)] else [(19,.int .i64 (kc p l)),(25,.int .i64 (aa p l).dL),(195,.bool false)]) (by split<;>simp);refine⟨ov',H',K',?_,hA'⟩;have r1:=hH.r1;have hy:(aa p l).dL=if l.h then hyW (kc p l) else 0:=rfl
 have h37:=fun st=>te (st:=st) (kc p l);rw[Vm];simp only[Ln.cs] at r1;generalize kY p l tN nN tkN nnN=NV at *;generalize atN p l=AN at *;generalize mP p l=TB at *;generalize b7 (aa p l)=ML at *
 cases hh:l.h with
 | true=>
   rw[hh] at hy r1 h44;simp only[if_true] at hy h44;rw[hy] at h44;simp[r1,h37,h44]
 | false=>
   rw[hh] at hy r1 h44;simp only[aao,if_false] at hy h44;rw[hy] at h44;simp[r1,h44]
end
section
variable {st:St} {p:aI} {w u:LW} {l:Ln} {last:Bool} {t n:Nat} {tk:Tk} {nn:Bool} {av:DV}
theorem Fo (h0:aE p=0):kc p l=hsz (if (aa p l).ahead<(aa p l).aq then ((aa p l).l.getD ((aa p l).aq-1) mz).s else p.pr.size) ((aa p l).l.drop (aa p l).aq):=by
 have hL:=qE h0 l;unfold kc;by_cases h:(aa p l).ahead<(aa p l).aq
 · rw[if_pos h,if_pos (show 0<aV p l by have:(aa p l).aq=aV p l:=rfl;omega)];rfl
 · have h2:¬ 0<aV p l:=by
    intro hp;have hno:ep ((bx p l).getD (aV p l-1) mz)=false:=CC (bx p l) (bx p l).length hp;have he:(aa p l).aq=aV p l:=rfl;have:=hL.ah (aV p l-1) (by omega);have hk:((bx p l).getD (aV p l-1) mz).k=3:=this;unfold ep at hno;rw[hk] at hno;revert hno;decide
   rw[if_neg h,if_neg h2];rfl
theorem BZ (h0:aE p=0) (hm:c8 p.text l=true) (h6:(aa p l).l≠[]→n=6) {H:List HO} (hH:vQ p w u l t n tk nn av H) {K:List Nat} {ov:DV} {oc:Option Nat} (hC:Ac st K 4 ((dH p l).map Gl.dv) ov oc) {ti ni:Nat} {tki:Tk} {nni:Bool} (h8:b4 p≠[]→ni=8) (fr:Fr):∃ ov' H' K',
 (E tab).C Mt ((2,.bool last)::(3,.ptr st.heap.length 0)::(4,.ptr (st.heap.length+1) 0)::(9,.ptr (st.heap.length+2) 0)::(10,.list ti ni tki nni ((b4 p).map It.dv))::(12,ov)::fr) (pst st H K) =
  some (.ret,[(6,ov'),(7,.int .i64 0)],pst st H' K')∧Acc st K' 4 ((bV p l last).map Gl.dv) ov':=by
 have hL:=qE h0 l;have hm':=hm;simp only[c8,aac,decide_eq_true_eq] at hm';have hsol:(aa p l).aq≤(aa p l).l.length:=cr _ _;have hok:(aa p l).l.all okM=true:=aae.2 fun m hm=>aae.1 (cD p).ok m (eP hm);have hlenR:=hL.row.len;have hah2:(aa p l).ahead≤(aa p l).l.length:=abl hL.ahs hsol;obtain⟨ov1,K1,o1,fr1,hJ0,hC1,hA1,hd1⟩:=NK (st:=st) hlenR h6 (.bool last) (.ptr st.heap.length 0) (.ptr (st.heap.length+1) 0) (.list ti ni tki nni ((b4 p).map It.dv)) ov (.int .i64 0) (.bool false) (.int .i64 0) (.int .i64 p.pr.size) l.x hah2 hH.r2 (aa p l).ahead 0 K (.list 0 0 .no false []) none (by omega) hC ⟨rfl,_,_,_,rfl⟩ (fun k _ h=>by cases h);rw[Hg hL.row hL.ah hah2 l.x] at hA1;obtain⟨ov2,K2,o2,J2,fr2,hJ1,hC2,hA2,hd2⟩:=OB (st:=st) (p:=p) (ti:=ti) (tki:=tki) (nni:=nni) hL.row hok h6 h8 (.bool last) (.ptr st.heap.length 0) (.ptr (st.heap.length+1) 0) ov (x:=l.x) ⟨hm'.1.1.1.2,by omega⟩ hL.ah hL.ahs hsol ((aa p l).aq-(aa p l).ahead) (aa p l).ahead H K1 ov1 o1 p.pr.size (by have:=hL.ahs;omega) (aai _) hH.r2 hC1 hA1 hd1;rw[rL hL.row hL.ah l.x _ (aai _) hah2] at hJ1;have e0:((aa p l).l.take (aa p l).ahead).drop (aa p l).ahead=[]:=aa8 (by simp;omega);rw[e0] at hJ1;obtain⟨tN,nN,tkN,nnN,e2,c1,c2⟩:=qQ hA2.acc;have e2':ov2=kY p l tN nN tkN nnN:=e2;subst e2'
 have h4:0<(aa p l).aq→nN=4:=by
  intro hs
  cases hn:nnN with
  | true=>exact c1 hn
  | false=>
    have:=congrArg List.length (c2 hn);simp at this;omega
 have hH2:=hH.add J2;obtain⟨fr3,hJ2⟩:=MT (st:=st) hlenR h6 (.bool last) (.ptr st.heap.length 0) (.ptr (st.heap.length+1) 0) ov (kY p l tN nN tkN nnN) (.int .i64 (atN p l)) (.int .i64 (blN (b7 (aa p l)))) (.bool (mP p l)) (.int .i64 (blS (b7 (aa p l)))) (K:=K2) hH2.r2 ((aa p l).l.drop (aa p l).aq) ((aa p l).l.take (aa p l).aq) (if (aa p l).ahead<(aa p l).aq then ((aa p l).l.getD ((aa p l).aq-1) mz).s else p.pr.size) (by simp);rw[← Fo h0,List.length_take,Nat.min_eq_left hsol] at hJ2;obtain⟨ov3,H3,K3,h41,hA3⟩:=Ja (st:=st) (last:=last) (tN:=tN) (tkN:=tkN) (nnN:=nnN) h0 hm h6 h4 hH2 hC2.acc fr3;refine⟨ov3,H3,K3,?_,hA3⟩;have r0:=hH.r0;have r1:=hH.r1;have r2:=hH.r2;have r2':=hH2.r2;simp only[Ln.cs] at r1;have ea:aT p (aa p l).l (aa p l).ahead l.x (aa p l).aq=atN p l:=rfl;have em:((aa p l).l.take (aa p l).aq).drop (aa p l).ahead=b7 (aa p l):=rfl;have et:((b7 (aa p l)).any fun m=>decide (m.k=4))=mP p l:=rfl;rw[ea,em,et] at hJ1;simp only[blN,blS,List.any_nil] at hJ1;unfold Mt;generalize kY p l tN nN tkN nnN=NV at *;generalize atN p l=AN at *;generalize mP p l=TB at *;generalize blN (b7 (aa p l))=BN at *;generalize blS (b7 (aa p l))=BS at *;generalize kc p l=HZ at *;generalize (if (aa p l).ahead<(aa p l).aq then ((aa p l).l.getD ((aa p l).aq-1) mz).s else p.pr.size)=Z at *;simp at hJ0 hJ1;simp[r0,r1,r2,r2',hJ0,hJ1,hJ2,h41]
end
theorem Qz:tab 213=some (.code f213):=by kernel_rfl
theorem R1:tab 215=some (.code f215):=by kernel_rfl
section
variable {st:St} {p:aI} {w u:LW} {l:Ln} {last:Bool}
theorem Hf (h0:aE p=0) (hm:c8 p.text l=true):(dH p l=[]∧apL (aH p) l.f l.t (ak p)=[])∨(∃ m0,apL (aH p) l.f l.t (ak p)=[m0]∧dH p l=[⟨m0.a,m0.b,l.x-cB p,cB p-4⟩]∧4≤cB p):=by
 have hch:=j4 h0;rcases zf h0 hm with ⟨c1,c2⟩ | ⟨m0,c1,c2,c3,c4,c5,c6,c7⟩
 · left;refine⟨by unfold dH;rw[if_neg (by omega)],?_⟩;unfold apL
   cases hD:aH p with
   | false=>rfl
   | true=>
     rw[if_pos rfl]
     cases hL:ak p with
     | nil=>rfl
     | cons x r=>
       rw[hL] at hch;obtain⟨g1,g2,g3⟩:=hch;rw[show (x::r).take 1=[x] from rfl]
       cases hi:inR l.f l.t x with
       | false=>rw[abm (by rw[hi];simp)];rfl
       | true=>
         exfalso
         have hx:x∈uE p l:=by
          unfold uE;rw[hL];exact List.mem_filter.2 ⟨aax,hi⟩
         rw[← c2] at hx;have:=(List.mem_filter.1 hx).2;unfold dT at this;rw[hD,hi,decide_eq_true g1] at this;cases this
 · right;refine⟨m0,?_,?_,c6⟩
   · unfold apL;rw[c7,if_pos rfl]
     cases hL:ak p with
     | nil=>rw[hL] at c3;cases c3
     | cons x r=>
       rw[hL] at hch c3;obtain⟨g1,g2,g3⟩:=hch
       have hx:m0=x:=by
        rcases aas.1 c3 with h|h
        · exact h
        · have:=g3.ge.2 m0 h;omega
       have hmem:m0∈uE p l:=by rw[c1];exact aax
       have hi:=(List.mem_filter.1 hmem).2;rw[show (x::r).take 1=[x] from rfl,← hx,List.filter_cons_of_pos hi];rfl
   · unfold dH;have hn:=(DY h0 c3).1;rw[c2] at hn;rw[if_pos (by omega),c5,hn,c2]
theorem rR (hp:p.small) (hw:w.ok 4 p.aF) (hu:u.ok 1 p.marks) :
 ∃ v,(E tab).F 213 [.agg (af p w u),.agg l.cs,.bool last] st=some (.tuple [v,.int .i64 (bG p l)],st)∧Lw 4 ((if bG p l=0 then bV p l last else []).map Gl.dv) v:=by
 rw[aK Qz rfl];have h14:=fun st=>qK p hp w u hw hu st;have h236:=fun st=>Ms (st:=st) (p:=p) (w:=w) (u:=u) l;by_cases h0:aE p=0;rotate_left
 · have hE:bG p l=aE p:=if_pos h0;rw[hE,if_neg h0];refine⟨.list 0 0 .no false [],?_,.list _ _ _ _ (fun h=>by cases h) (fun _=>rfl)⟩;simp only[Ln.cs] at h236 ⊢;simp[f213,h14,h0]
 by_cases hm:c8 p.text l=true;rotate_left
 · have hE:bG p l=5:=by unfold bG;rw[if_neg (by simp[h0]),if_neg hm]
   rw[hE];refine⟨.list 0 0 .no false [],?_,.list _ _ _ _ (fun h=>by cases h) (fun _=>rfl)⟩;simp only[abw] at hm;rw[hm] at h236;simp only[Ln.cs] at h236 ⊢;simp[f213,h14,h0,h236]
 have hE:bG p l=0:=by unfold bG;rw[if_neg (by simp[h0]),if_pos hm]
 rw[hE,if_pos rfl];rw[hm] at h236;have hm':=hm;simp only[c8,aac,decide_eq_true_eq] at hm';have hcp:=qN p;obtain⟨lv,av,h237,hlv,hav⟩:=TZ (st:=pst st [.cells .plain (af p w u),.cells .plain l.cs] []) h0 hp hw hu hm;obtain⟨t,n,tk,nn,rfl,hn6a,_,_⟩:=eY hlv;obtain⟨ta,na,tka,nna,rfl,hna,_,_⟩:=eY hav
 have hn6:(aa p l).l≠[]→n=6:=fun h=>hn6a (by
  intro e;rw[abq] at e;exact h e)
 obtain⟨iv,h238,hiv⟩:=FK (st:=pst st [.cells .plain (af p w u),.cells .plain l.cs,.cells .plain [.list t n tk nn ((bx p l).map ab.dv),.int .i64 (fw p l),.int .i64 (aV p l),.list ta na tka nna ((apL (aH p) l.f l.t (ak p)).map ab.dv)]] []) hp hw hu;rw[h0] at h238;rw[if_pos h0] at hiv;obtain⟨ti,ni,tki,nni,rfl,hn8a,_,_⟩:=eY hiv
 have hn8:b4 p≠[]→ni=8:=fun h=>hn8a (by
  intro e;rw[abq] at e;exact h e)
 have h239:=sW (st:=pst st [.cells .plain (af p w u),.cells .plain l.cs,.cells .plain [.list t n tk nn ((bx p l).map ab.dv),.int .i64 (fw p l),.int .i64 (aV p l),.list ta na tka nna ((apL (aH p) l.f l.t (ak p)).map ab.dv)]] []) hp hw hu;have hH:vQ p w u l t n tk nn (.list ta na tka nna ((apL (aH p) l.f l.t (ak p)).map ab.dv)) [.cells .plain (af p w u),.cells .plain l.cs,.cells .plain [.list t n tk nn ((bx p l).map ab.dv),.int .i64 (fw p l),.int .i64 (aV p l),.list ta na tka nna ((apL (aH p) l.f l.t (ak p)).map ab.dv)]]:=⟨rfl,rfl,rfl⟩;rcases Hf h0 hm with ⟨q1,q2⟩ | ⟨m0,q2,q1,q3⟩
 · obtain⟨ov,H',K',h12,hA⟩:=BZ (st:=st) (last:=last) h0 hm hn6 hH (K:=[]) (ov:=.list 0 0 .no false []) (oc:=none) ⟨by rw[q1];rfl,_,_,_,rfl⟩ (ti:=ti) (tki:=tki) (nni:=nni) hn8 [(56,.bool false)];obtain⟨b0,b1,b2,b3,rfl,c1,c2⟩:=qQ hA;refine⟨.list b0 b1 (jc b2) b3 ((bV p l last).map Gl.dv),?_,.list _ _ _ _ c1 c2⟩;rw[Lc];rw[q2] at h12 h238 h237;generalize (bV p l last).map Gl.dv=VG at *;generalize (bx p l).map ab.dv=VL at *;generalize (b4 p).map It.dv=VI at *;simp only[Ln.cs] at h236 h237 h238 h12 ⊢;simp at h237 h238 h12;simp[-cP,exl,h14,h0,h236,h237,h238,h12]
 · obtain rfl:=hna (by rw[q2];simp);obtain⟨ov1,K1,k1,hap,hA1,_,_⟩:=wE (st:=st) (H:=[.cells .plain (af p w u),.cells .plain l.cs,.cells .plain [.list t n tk nn ((bx p l).map ab.dv),.int .i64 (fw p l),.int .i64 (aV p l),.list ta 6 tka nna ((apL (aH p) l.f l.t (ak p)).map ab.dv)]]) (K:=[]) (n:=4) (by_:=32) (ag:=true) (xs:=[]) (v:=.list 0 0 .no false []) (o:=none) (ys:=[Gl.dv ⟨m0.a,m0.b,l.x-cB p,cB p-4⟩]) (w:=.list st.cur 4 .tight true [Gl.dv ⟨m0.a,m0.b,l.x-cB p,cB p-4⟩]) ⟨rfl,_,_,_,rfl⟩ (Lw.vw (.list _ _ _ _ (fun _=>rfl) (fun h=>by cases h))) (by omega) (by simp) (by simp[mG]) (by simp[aB]) (by simp[aB]);obtain⟨ov,H',K',h12,hA⟩:=BZ (st:=st) (last:=last) h0 hm hn6 hH (K:=K1) (ov:=ov1) (oc:=some k1) (by rw[q1];simpa using hA1) (ti:=ti) (tki:=tki) (nni:=nni) hn8 [];obtain⟨b0,b1,b2,b3,rfl,c1,c2⟩:=qQ hA;refine⟨.list b0 b1 (jc b2) b3 ((bV p l last).map Gl.dv),?_,.list _ _ _ _ c1 c2⟩;rw[Lc];rw[q2] at h12 h238 h237 h239 hap;have w1:IntKind.i64.wrap (l.x-cB p)=l.x-cB p:=ay (by omega);have w2:IntKind.i64.wrap (cB p-4)=cB p-4:=ay (by omega);generalize (bV p l last).map Gl.dv=VG at *;generalize (bx p l).map ab.dv=VL at *;generalize (b4 p).map It.dv=VI at *;simp only[Ln.cs] at h236 h237 h238 h239 h12 hap ⊢;simp[ab.dv,ab.cs] at h237 h238 h239 h12;simp[ab.dv,ab.cs,Gl.dv,Gl.cs] at hap;simp[-cP,exl,h14,h0,h236,h237,h238,h239,aM,bM,bR,bQ,aR,ab.dv,ab.cs,w1,w2,aC,aO,chunk,hap,h12]
end
theorem Lu:tab 217=some (.code f217):=by kernel_rfl
theorem TY:tab 204=some (.code f204):=by kernel_rfl
section
variable {st:St} {p:aI} {w u:LW} {l:Ln} {last:Bool}
theorem MO (hp:p.small) (hw:w.ok 4 p.aF) (hu:u.ok 1 p.marks) (l:Ln) (last:Bool) :
 (E tab).F 215 [.agg (af p w u),.agg l.cs,.bool last] st=some (.tuple [.int .i64 (Jl p l last),.int .i64 (bG p l)],st):=by
 rw[aK R1 rfl];obtain⟨v,hpl,hv⟩:=rR (st:=pst st [.cells .plain (af p w u),.cells .plain l.cs] []) hp hw hu (l:=l) (last:=last);obtain⟨t,n,tk,nn,rfl,h4,_,_⟩:=eY hv;unfold Jl;by_cases h0:bG p l=0
 · simp only[h0,if_true] at hpl h4 ⊢;obtain⟨hc,hm⟩:=ql h0;have hlen:=vi p l last;have hbd:=LG (last:=last) hc hm;unfold Fh;have hVl:((bV p l last).map Gl.dv).length=(bV p l last).length:=by simp
   by_cases hz:(bV p l last).length=0
   · rw[if_pos hz];generalize (bV p l last).map Gl.dv=VG at *;simp only[Ln.cs] at hpl ⊢;simp[f215,hpl,hVl,hz]
   · rw[if_neg hz];have hlt:(bV p l last).length-1<(bV p l last).length:=by omega
     have g0:=Lt hlt;have hb:=hbd _ (aat (NJ hlt));obtain rfl:=h4 (by intro e;rw[abq] at e;exact hz (by rw[e];rfl));have l0:(bV p l last).length-1<((bV p l last).map Gl.dv).length:=by rw[hVl];exact hlt
     have w1:IntKind.i64.wrap (((bV p l last).length:Int)-1)=(((bV p l last).length-1:Nat):Int):=by rw[ay (by omega)];omega
     generalize (bV p l last).getD ((bV p l last).length-1) gz=g at *;have w2:IntKind.i64.wrap (g.x+g.w)=g.x+g.w:=ay (by omega);generalize (bV p l last).map Gl.dv=VG at *;have g0':VG[(bV p l last).length-1]'l0=g.dv:=by rw[aaa l0] at g0;exact aab.inj g0
     have hz':¬ ((bV p l last).length:Int)=0:=by omega
     simp only[Ln.cs] at hpl ⊢;have hnn:¬ bV p l last=[]:=fun e=>hz (by rw[e];rfl);simp[f215,aM,bM,bR,bQ,aR,hpl,hVl,hz,hz',hnn,w1,w2,l0,g0,g0',Gl.dv,Gl.cs]
 · simp only[h0,if_false] at hpl ⊢;simp only[Ln.cs] at hpl ⊢;simp[f215,hpl,h0]
theorem xY (hp:p.small) (hw:w.ok 4 p.aF) (hu:u.ok 1 p.marks) :
 ∃ v fr H K,(E tab).C f210.body (bS [.agg (af p w u),.agg l.cs,.bool last] 0) (pst st [] [])=some (.ret,(6,v)::(7,.int .i64 (bG p l))::fr,pst st H K)∧Acc st K 4 ((if bG p l=0 then bV p l last else []).map Gl.dv) v:=by
 have h13:=fun st=>wz p hp w u hw hu st;have h222:=fun st=>Fw (st:=st) (p:=p) (w:=w) (u:=u) l;by_cases h0:aE p=0;rotate_left
 · have hE:bG p l=aE p:=if_pos h0;rw[hE,if_neg h0];refine⟨.list 0 0 .no false [],[],[.cells .plain (af p w u),.cells .plain l.cs],[],?_,dU _ _ _ _ _ _⟩;simp only[Ln.cs] at h222 ⊢;simp[f210,h13,h0]
 by_cases hm:c8 p.text l=true;rotate_left
 · have hE:bG p l=5:=by unfold bG;rw[if_neg (by simp[h0]),if_neg hm]
   rw[hE];refine⟨.list 0 0 .no false [],[],[.cells .plain (af p w u),.cells .plain l.cs],[],?_,dU _ _ _ _ _ _⟩;simp only[abw] at hm;rw[hm] at h222;simp only[Ln.cs] at h222 ⊢;simp[f210,h13,h0,h222]
 have hE:bG p l=0:=by unfold bG;rw[if_neg (by simp[h0]),if_pos hm]
 rw[hE,if_pos rfl];have hL:=qE h0 l;have hm':=hm;simp only[c8,aac,decide_eq_true_eq] at hm';rw[hm] at h222;obtain⟨lv,kv,h223,hlv,hkv⟩:=sy (st:=pst st [.cells .plain (af p w u),.cells .plain l.cs] []) h0 hp hw hu l;obtain⟨ts,ns,tks,nns,rfl,hn6a,hnn,_⟩:=eY hlv;obtain⟨t,n,tk,nn,rfl,hn1a,_,_⟩:=eY hkv;have hn6:(aa p l).l≠[]→ns=6:=fun h=>hn6a (by simpa using h);have hn1:(aa p l).kr≠[]→n=1:=fun h=>hn1a (by simpa using h);obtain⟨J1,hhead⟩:=rE (st:=st) (last:=last) h0 hL hm (ts:=ts) (tks:=tks) (t:=t) (tk:=tk) (nn:=nn) hn6 hnn hn1 (af p w u);have hPA:PlA p w u l (.list ts ns tks nns ((aa p l).l.map ab.dv)) (.list t n tk nn ((aa p l).kr.map DV.bool)) (.cells .plain (af p w u)::.cells .plain l.cs::.cells .plain ((aa p l).cs (.list ts ns tks nns ((aa p l).l.map ab.dv)) (.list t n tk nn ((aa p l).kr.map DV.bool)))::.cells .plain [.int .i64 (exP p l)]::J1):=⟨fun _=>rfl,fun _=>rfl,fun _=>rfl,fun _=>rfl⟩;obtain⟨v,H',K',hr,hR⟩:=Fu (st:=st) (last:=last) h0 hL hm hn6 hnn hn1 hPA;refine⟨v,[],H',K',?_,hR⟩;rw[Lf];generalize (bV p l last).map Gl.dv=VG at *;generalize (aa p l).l.map ab.dv=VL at *;generalize (aa p l).kr.map DV.bool=VK at *;simp only[Sg.cs,Ln.cs] at h222 h223 hhead hr ⊢;simp[nk] at hhead;simp[h13,h0,h222,h223,hhead,hr]
end
section
variable {st:St} {p:aI} {w u:LW} {l:Ln} {last:Bool}
theorem M0 (L:List Gl) (hl:L.length≤5000) (w u:LW) (hw:L≠[]→w.n=4) (hu:L≠[]→u.n=4) (st:St):∀ (r d:List Gl),L=d++r →
 (E tab).C mW [(0,.list w.t w.n w.tk w.nn (L.map Gl.dv)),(1,.list u.t u.n u.tk u.nn (L.map Gl.dv)),(5,.int .i64 d.length)] (pst st [] []) =
  some (.exit 0,[(0,.list w.t w.n w.tk w.nn (L.map Gl.dv)),(1,.list u.t u.n u.tk u.nn (L.map Gl.dv)),(5,.int .i64 L.length),(14,.bool false)],pst st [] []):=by
 intro r
 induction r with
 | nil=>
   intro d hd;rw[ae (L:=mW) rfl];simp[rB,hd]
 | cons m r ih=>
   intro d hd;have w4:=hw (by simp[hd]);have u4:=hu (by simp[hd]);have h0:d.length<L.length:=by simp[hd]
   have hw:IntKind.i64.wrap ((d.length:Int)+1)=((d++[m]).length:Nat):=by rw[ay (by omega)];simp
   have hg:L[d.length]=m:=by simp[hd]
   rw[ae (L:=mW) rfl];have hJ:=ih (d++[m]) (by simp[hd]);simp[w4,u4] at hJ ⊢;simp[rB,aM,bM,bR,bQ,aR,h0,hg,hw,Gl.dv,Gl.cs,eqD,aU,cA];simpa[Gl.dv,Gl.cs] using hJ
theorem vL (L:List Gl) (hl:L.length≤5000) (w u:LW) (hw:L≠[]→w.n=4) (hu:L≠[]→u.n=4) (st:St) :
 (E tab).F 217 [.list w.t w.n w.tk w.nn (L.map Gl.dv),.list u.t u.n u.tk u.nn (L.map Gl.dv)] st=some (.bool true,st):=by
 rw[aK Lu rfl];have h:=M0 L hl w u hw hu st L [] rfl;simp at h;simp[f217,h]
theorem EP {st:St} {b:Nat} {x:CK×List DV} (h:st.cells b=some x) (H:List HO) (K:List Nat):(pst st H K).cells b=some x:=by
 unfold St.cells at h ⊢
 have hb:b<st.heap.length:=by
  split at h
  · rename_i e;exact(aad.1 e).1
  · cases h
 have:(pst st H K).heap[b]? = st.heap[b]?:=aak hb;rw[this];exact h
def mj (l:List Gl):List DV:=l.flatMap Gl.cs
theorem rl:∀ l:List Gl,(mj l).length=l.length*4
 | []=>rfl
 | m::r=>by
   have:=rl r;unfold mj at this ⊢;rw[abA,aag,this,aaJ,abP,Nat.add_comm];rfl
theorem CG:∀ (l:List Gl) (i:Nat) (h:i<l.length),((mj l).drop (i*4)).take 4=(l[i]).cs
 | m::r,0,_=>rfl
 | m::r,i+1,h=>by
   have:=CG r i (by simpa using h);have e:mj (m::r)=m.cs++mj r:=rfl;rw[e,abP,Nat.add_comm,← abM];exact this
theorem Cf (l:List Gl):flat (l.map Gl.dv)=mj l:=by
 unfold flat mj;rw[List.flatMap_map];rfl
theorem DN (l:List Gl):(mj l).all DV.eO=true:=by
 rw[aae];intro v hv;obtain⟨m,_,hv⟩:=aaM.1 hv;simp[Gl.cs] at hv;rcases hv with rfl | rfl | rfl | rfl<;>rfl
theorem Pv (L:List Gl) (hl:L.length≤5000) (b:Nat) (ag:Bool) (u:LW) (hu:L≠[]→u.n=4) (st:St) (hc:st.cells b=some (.grown,mj L)):∀ (k i:Nat),i+k=L.length →
 (E tab).C mW [(0,.hsl 4 ag b 0 L.length none),(1,.list u.t u.n u.tk u.nn (L.map Gl.dv)),(5,.int .i64 i)] (pst st [] []) =
  some (.exit 0,[(0,.hsl 4 ag b 0 L.length none),(1,.list u.t u.n u.tk u.nn (L.map Gl.dv)),(5,.int .i64 L.length),(14,.bool false)],pst st [] []):=by
 have hc2:=EP hc [] [];intro k
 induction k with
 | zero=>
   intro i hi;obtain rfl:i=L.length:=by omega
   rw[ae (L:=mW) rfl];simp[rB]
 | succ k ih=>
   intro i hi;have h0:i<L.length:=by omega
   have u6:=hu (fun h=>by rw[h] at h0;simp at h0);have hw:IntKind.i64.wrap ((i:Int)+1)=((i+1:Nat):Int):=by rw[ay (by omega)];simp
   have h1:=CG L i h0;have h2:i*4+4≤(mj L).length:=by rw[rl];omega
   have h3:=ih (i+1) (by omega);rw[ae (L:=mW) rfl];simp[u6] at h3 ⊢;simp[rB,aM,bM,bR,bQ,aR,h0,hc2,h1,h2,hw,Gl.cs,Gl.dv,eqD,aU,cA];simpa[Gl.dv,Gl.cs] using h3
theorem Hk (L:List Gl) (hl:L.length≤5000) (b:Nat) (ag:Bool) (u:LW) (hu:L≠[]→u.n=4) (st:St) (hc:st.cells b=some (.grown,mj L)) :
 (E tab).F 217 [.hsl 4 ag b 0 L.length none,.list u.t u.n u.tk u.nn (L.map Gl.dv)] st=some (.bool true,st):=by
 rw[aK Lu rfl];have h:=Pv L hl b ag u hu st hc L.length 0 (by omega);simp at h;simp[f217,h]
end
def qk:List (Nat×Nat×Bool):=[(100210,210,true)]
theorem yG:∀ x∈qk,tab x.1=none:=by
 intro x hx;simp only[qk,aas,abu,or_false] at hx;subst hx;kernel_rfl
theorem cW:ri tab (gR tab qk):=nz qk yG
def Is:List Sh:=[.int .i64,.int .i64,.int .i64,.int .i64,.int .i64,.bool,.int .i64]
theorem GH {vs:List DV} (h:Fits Is vs):∃ l:Ln,vs=l.cs:=by
 obtain⟨_,_,rfl,⟨a,rfl,_⟩,_,_,rfl,⟨b,rfl,_⟩,_,_,rfl,⟨c,rfl,_⟩,_,_,rfl,⟨d,rfl,_⟩,_,_,rfl,⟨e,rfl,_⟩,_,_,rfl,⟨f,rfl⟩,_,_,rfl,⟨g,rfl,_⟩,rfl⟩:=h;exact⟨⟨a,b,c,d,e,f,g⟩,rfl⟩
def K5:List (Bool×List Sh):=[(true,FF),(true,Is),(false,[.bool])]
noncomputable def iM:Tab:=gR tab qk
theorem FN:iM 204=some (.code f204):=by
 refine(gB fun x hx=>?_).trans TY;simp only[qk,aas,abu,or_false] at hx;subst hx;decide
theorem JX {T:Tab} {g:Nat} {p:List DV→St→Option (DV×St)} {args:List DV} {st:St} (h:T g=some (.lf p)):(E T).F g args st=p args st:=by
 rw[EF];simp only[eo,h]
theorem oU {α:Type} {f:α→DV} (h:∀ a,(f a).free=true):∀ l:List α,DV.fV (l.map f)=true
 | []=>rfl
 | a::r=>by simp only[aaH,DV.fV,h a,oU h r,Bool.and_self]
theorem MH (p:aI) (w u:LW) (hw:w.tied) (hu:u.tied) (l:Ln) (b:Bool):DV.fV [.agg (af p w u),.agg l.cs,.bool b]=true:=by
 have h1:DV.fV (p.aF.map Span.dv)=true:=oU (fun _=>rfl) _;have h2:DV.fV (p.marks.map .str)=true:=oU (fun _=>rfl) _;obtain⟨t,n,tk,nn⟩:=w;obtain⟨t',n',tk',nn'⟩:=u
 cases tk<;>cases tk'<;>first
  | exact absurd rfl (hw _ _)
  | exact absurd rfl (hu _ _)
  | (simp[DV.fV,DV.free,af,cp.cs,LW.dv,h1,h2,Ln.cs])
def iN (p:aI) (l:Ln) (last:Bool):List Gl:=if bG p l=0 then bV p l last else []
section
variable {p:aI} {w u:LW} {l:Ln} {last:Bool}
theorem KE (hp:p.small) (hw:w.ok 4 p.aF) (hu:u.ok 1 p.marks) (tw:w.tied) (tu:u.tied) (st:St) :
 (∃ t n tk,iN p l last=[]∧(E iM).F 100210 [.agg (af p w u),.agg l.cs,.bool last] st=some (.tuple [.list t n tk false [],.int .i64 (bG p l)],st)) ∨
 (E iM).F 100210 [.agg (af p w u),.agg l.cs,.bool last] st=some (.tuple [.hsl 4 true st.heap.length 0 (iN p l last).length none,.int .i64 (bG p l)],st.push (.cells .grown (mj (iN p l last)))):=by
 obtain⟨v,fr,H,K,h1,h2⟩:=xY (st:=st0) (l:=l) (last:=last) hp hw hu;rw[show (if bG p l=0 then bV p l last else [])=iN p l last from rfl] at h2;have e:(E iM).F 100210 [.agg (af p w u),.agg l.cs,.bool last] st=tr tab 210 true [.agg (af p w u),.agg l.cs,.bool last] st:=JX rfl
 have e2:tr tab 210 true [.agg (af p w u),.agg l.cs,.bool last] st=nA true st (pst st0 H K) (.tuple [v,.int .i64 (bG p l)]):=by
  unfold tr;rw[Lg];simp only[MH p w u tw tu l last,and_true,show f210.jZ=true from rfl,if_true];have h1':(E tab).C f210.body (bS [.agg (af p w u),.agg l.cs,.bool last] 0) st0=_:=h1;rw[h1'];rfl
 rw[e,e2];rcases h2 with ⟨hx,t,n',tk,rfl⟩ | ⟨k,s,rfl,hk⟩
 · refine .inl ⟨t,n',tk,by simpa using hx,?_⟩;simp[nA,si,DV.eO]
 · refine .inr ?_;have hb:=DN (iN p l last);have hk':(pst st0 H K).bt[st0.bt.length+k]? = some s:=by rw[JN];exact hk
   have hb':(pst st0 H K).bt[st0.bt.length+k]? = some s∧(flat ((iN p l last).map Gl.dv)).all DV.eO=true:=⟨hk',by rw[Cf];exact hb⟩
   have e3:si true st (pst st0 H K) (.list st0.cur 4 (.own (st0.bt.length+k) s) true ((iN p l last).map Gl.dv))=some (.hsl 4 true st.heap.length 0 (iN p l last).length none,st.push (.cells .grown (mj (iN p l last)))):=by
    show (if _ then _ else _)=_;rw[if_pos hb',Cf,aaP]
   have e4:∀ v:DV,nA true st (pst st0 H K) (.tuple [v,.int .i64 (bG p l)])=(si true st (pst st0 H K) v).map fun q=>(.tuple (q.1::[.int .i64 (bG p l)]),q.2):=fun v=>by
    simp[nA,DV.eO]
   rw[e4,e3];rfl
theorem Ob (n:Nat) (hn:n≤5000) (A:List HO) (K:List Nat) (y2 y4 y7 y10:DV) (st:St):∀ (k i:Nat) (vs:List DV),vs.length=n*4→i+k=n →
 ∃ vs',(E iM).C pC [(2,y2),(4,y4),(7,y7),(8,.hsl 4 true (st.heap.length+A.length) 0 n none),(10,y10),(20,.int .i64 i)] (pst st (A++[.cells .grown vs]) K) =
   some (.exit 0,[(2,y2),(4,y4),(7,y7),(8,.hsl 4 true (st.heap.length+A.length) 0 n none),(10,y10),(20,.int .i64 n),(123,.bool false)],pst st (A++[.cells .grown vs']) K):=by
 intro k
 induction k with
 | zero=>
   intro i vs _ hi;obtain rfl:i=n:=by omega
   refine⟨vs,?_⟩;rw[ae (L:=pC) rfl];simp[vR]
 | succ k ih=>
   intro i vs hl hi;have h0:i<n:=by omega
   have hw:IntKind.i64.wrap ((i:Int)+1)=((i+1:Nat):Int):=by rw[ay (by omega)];simp
   have h1:i*4+2+1≤vs.length:=by omega
   obtain⟨vs',h2⟩:=ih (i+1) (vs.take (i*4+2)++[.int .i64 9999]++vs.drop (i*4+2+1)) (by simp;omega) (by omega);refine⟨vs',?_⟩;rw[ae (L:=pC) rfl];simp at h2 ⊢;simp[vR,h0,h1,hw,h2]
theorem Fm:(iN p l last).length≤5000:=by
 unfold iN;split
 · have:=vi p l last;omega
 · simp
def t3c:RC:=(.seq (.region Hj [2,3,4,7]) (.seq (.region IP [2,3,4,7,8,9]) (.seq (.region Ip [2,3,4,7,8,9,10,11]) (.seq (.region Iv [2,3,4,7,8,9,10,11,12,13]) (.seq (.region HM [2,3,4,7,8,9,10,11,12,13,14,15]) (.seq (.region FG [2,3,4,7,8,9,10,11,12,13,14,15,16,17]) (.seq (.region FO [2,3,4,7,8,9,10,11,12,13,14,15,16,17,18,19]) (.seq (.seq (.region CU [2,4,7,8,10,119]) (.cond (.t 119) (.seq (.region Dd [6]) .ret) .skip)) (.seq (.seq (.region Ck [2,4,7,8,10,20]) (.block 0 pC)) (.seq (.region CI [10,21]) (.seq (.region CH [6]) .ret)))))))))))
theorem Qn:f204=⟨[.t 6],(.seq (.region F5 [2,3,4]) (.seq (.seq (.region Gx [2,3,4,44]) (.cond (.t 44) (.seq (.region Ft [6]) .ret) .skip)) t3c)),true⟩:=rfl
set_option maxHeartbeats 4000000 in
theorem MK (hs:p.small) (hw:w.ok 4 p.aF) (hu:u.ok 1 p.marks) (c1:p.aF.length≤5000) (c2:p.marks.length≤5000):∃ fr' H' K',(E iM).C t3c [(2,.bool last),(3,.ptr st0.heap.length 0),(4,.ptr (st0.heap.length+1) 0),(44,.bool false)] (pst st0 [.cells .plain (af p w u),.cells .plain l.cs] [])=some (.ret,(6,.bool true)::fr',pst st0 H' K'):=by
 obtain⟨w',u',h9,hw',hu',tw,tu⟩:=Qy p w u hw hu c1 c2 (pst st0 [.cells .plain (af p w u),.cells .plain l.cs] []);have h9:=iX cW h9;have hlen:=Fm (p:=p) (l:=l) (last:=last);have h15:=fun st=>iX cW (L4 p w' u' w u hw' hu' hw hu c1 c2 st);have h207:=fun st=>iX cW (Eo st);have h214:=fun st=>iX cW (LJ (st:=st) hs hw' hu' l last);have h215:=fun st=>iX cW (MO (st:=st) hs hw hu l last);have h211:=fun st=>iX cW (J5 (st:=st) hs hw' hu');have h216:=fun st=>iX cW (JP (st:=st) hs hw hu);change (E iM).F 9 _ _=_ at h9;change ∀ st,(E iM).F 15 _ _=_ at h15;change ∀ st,(E iM).F 207 _ _=_ at h207;change ∀ st,(E iM).F 214 _ _=_ at h214;change ∀ st,(E iM).F 215 _ _=_ at h215;change ∀ st,(E iM).F 211 _ _=_ at h211;change ∀ st,(E iM).F 216 _ _=_ at h216;rcases KE (l:=l) (last:=last) hs hw' hu' tw tu (pst st0 [.cells .plain (af p w u),.cells .plain l.cs,.cells .plain (af p w' u')] []) with ⟨t,n,tk,hm,h10⟩ | h10
 · obtain⟨v11,h11,hv11⟩:=rR (st:=pst st0 [.cells .plain (af p w u),.cells .plain l.cs,.cells .plain (af p w' u')] []) (l:=l) (last:=last) hs hw hu;obtain⟨v12,h12,hv12⟩:=o5 (st:=pst st0 [.cells .plain (af p w u),.cells .plain l.cs,.cells .plain (af p w' u')] []) hs hw' hu' l last;rw[show (if bG p l=0 then bV p l last else [])=iN p l last from rfl,hm] at hv11 hv12;obtain⟨x0,x1,x2,x3,rfl,_,_,_⟩:=eY hv11;obtain⟨y0,y1,y2,y3,rfl,_,_,_⟩:=eY hv12;have h11:=iX cW h11;have h12:=iX cW h12;change (E iM).F 213 _ _=_ at h11;change (E iM).F 210 _ _=_ at h12;have s1:=fun st=>iX cW (vL [] (by simp) ⟨t,n,tk,false⟩ ⟨x0,x1,x2,x3⟩ (fun h=>absurd rfl h) (fun h=>absurd rfl h) st);have s2:=fun st=>iX cW (vL [] (by simp) ⟨y0,y1,y2,y3⟩ ⟨x0,x1,x2,x3⟩ (fun h=>absurd rfl h) (fun h=>absurd rfl h) st);change ∀ st,(E iM).F 217 _ _=_ at s1;change ∀ st,(E iM).F 217 _ _=_ at s2;refine⟨[],[.cells .plain (af p w u),.cells .plain l.cs,.cells .plain (af p w' u')],[],?_⟩;simp only[Ln.cs] at h9 h10 h11 h12 h214 h215 h211 h216 ⊢;simp at h9 h10 h11 h12 s1 s2;unfold t3c;simp[h9,No,-bj,h10,h11,h214,h215,h211,h216,s1,h15,ae (L:=pC) rfl,vR,h12,s2,h207]
 · obtain⟨v11,h11,hv11⟩:=rR (st:=pst st0 [.cells .plain (af p w u),.cells .plain l.cs,.cells .plain (af p w' u'),.cells .grown (mj (iN p l last))] []) (l:=l) (last:=last) hs hw hu;obtain⟨vs',hL⟩:=Ob (iN p l last).length hlen [.cells .plain (af p w u),.cells .plain l.cs,.cells .plain (af p w' u')] [] (.bool last) (.ptr (st0.heap.length+1) 0) (.ptr (st0.heap.length+2) 0) v11 st0 (iN p l last).length 0 (mj (iN p l last)) (rl _) (by omega);obtain⟨v12,h12,hv12⟩:=o5 (st:=pst st0 [.cells .plain (af p w u),.cells .plain l.cs,.cells .plain (af p w' u'),.cells .grown vs'] []) hs hw' hu' l last;rw[show (if bG p l=0 then bV p l last else [])=iN p l last from rfl] at hv11 hv12;obtain⟨x0,x1,x2,x3,rfl,hx,_,_⟩:=eY hv11;obtain⟨y0,y1,y2,y3,rfl,hy,_,_⟩:=eY hv12;have hx':iN p l last≠[]→x1=4:=fun h=>hx (by intro e;rw[abq] at e;exact h e);have hy':iN p l last≠[]→y1=4:=fun h=>hy (by intro e;rw[abq] at e;exact h e);have h11:=iX cW h11;have h12:=iX cW h12;change (E iM).F 213 _ _=_ at h11;change (E iM).F 210 _ _=_ at h12;have s1:=iX cW (Hk (iN p l last) hlen (st0.heap.length+3) true ⟨x0,x1,x2,x3⟩ hx' (pst st0 [.cells .plain (af p w u),.cells .plain l.cs,.cells .plain (af p w' u'),.cells .grown (mj (iN p l last))] []) (by simp));have s2:=fun st=>iX cW (vL (iN p l last) hlen ⟨y0,y1,y2,y3⟩ ⟨x0,x1,x2,x3⟩ hy' hx' st);change (E iM).F 217 _ _=_ at s1;change ∀ st,(E iM).F 217 _ _=_ at s2;refine⟨[],[.cells .plain (af p w u),.cells .plain l.cs,.cells .plain (af p w' u'),.cells .grown vs'],[],?_⟩;generalize iN p l last=GE at *;generalize hVV:GE.map Gl.dv=VV at *;simp only[Ln.cs] at h9 h10 h11 h12 h214 h215 h211 h216 s1 hL ⊢;simp at h9 h10 h11 h12 s1 s2 hL;unfold t3c;simp[h9,No,-bj,h10,h11,h214,h215,h211,h216,s1,h15,hL,h12,s2,h207]
theorem JB (us:List DV) (hf:vH K5 us):∃ st',(E iM).F 204 us st0=some (.bool true,st'):=by
 obtain⟨_,_,rfl,hp,_,_,rfl,hl,_,_,rfl,⟨_,_,rfl,⟨b,rfl⟩,rfl⟩,rfl⟩:=hf;obtain⟨p,w,u,rfl,hs,hw,hu⟩:=IS hp;obtain⟨l,rfl⟩:=GH hl;refine⟨st0,?_⟩;rw[aK FN rfl];simp only[elemOf,List.headD_cons,aao,if_false,if_true];rw[Qn];have h3':=fun c1 c2=>MK (p:=p) (w:=w) (u:=u) (l:=l) (last:=b) hs hw hu c1 c2;simp only[Ln.cs] at h3' ⊢;by_cases c1:p.aF.length≤5000
 · by_cases c2:p.marks.length≤5000
   · obtain⟨fr',H',K',h3⟩:=h3' c1 c2;have c1':¬ (5000:Int)<p.aF.length:=by omega
     have c2':¬ (5000:Int)<p.marks.length:=by omega
     by_cases a:(600:Int)<p.text.length
     · by_cases a2:(p.text.length:Int)≤4096
       · simp[a,a2]
       · simp[a,a2,c1',c2',h3]
     · simp[a,c1',c2',h3]
   · have c1':¬ (5000:Int)<p.aF.length:=by omega
     have c2':(5000:Int)<p.marks.length:=by omega
     by_cases a:(600:Int)<p.text.length
     · by_cases a2:(p.text.length:Int)≤4096
       · simp[a,a2]
       · simp[a,a2,c1',c2']
     · simp[a,c1',c2']
 · have c1':(5000:Int)<p.aF.length:=by omega
   by_cases a:(600:Int)<p.text.length
   · by_cases a2:(p.text.length:Int)≤4096
     · simp[a,a2]
     · simp[a,a2,c1']
   · simp[a,c1']
end
end Go.D.Tab
end
section
namespace Go.D
open Go.RowKit
variable {P:Program}
theorem zI {w:World}:∀ (l:List (String×DataW Unit)) (ps:List MemPlace),DataW.LaidVars P w l ps→∀ x∈l,∃ g t cs fuel p,P.globalNamed x.1=some g∧(P.globals[g]?).map (·.type)=some t∧w.var? P x.1=some cs ∧
 DataW.trod (fun _=>()) P w 0 (fun _=>true) false fuel t cs.toList=some (x.2,p)
 | [],_,_,x,hx=>by simp at hx
 | y::l,ps,h,x,hx=>by
   obtain⟨g,t,cs,fuel,p,q,h1,h2,h3,h4,h5,h6⟩:=h;rcases aas.1 hx with rfl|hx
   · exact⟨g,t,cs,fuel,p,h1,h2,h3,h4⟩
   · exact zI l _ h5 x hx
theorem Fq {laid:List (String×DataW Unit)} {w:World} {name:String} {k:IntKind} {tab:List Nat} {g n:Nat} {t e:TypeId} (hg:P.globalNamed name=some g) (hty:(P.globals[g]?).map (·.type)=some t) (ht:P.underlying t=some (.array n e))
 (he:P.underlying e=some (.int k)) (hce:P.cellsOf e=1) (hct:P.cellsOf t=n) (hx:(name,Lib.tabData k (tab.map Int.ofNat))∈laid) (h:laidMet P laid w):∀ i (h:i<tab.length),w.cell? ⟨g,i,none⟩=some (.int k (Int.ofNat tab[i])):=by
 obtain⟨ps,h1,_⟩:=h;obtain⟨g',t',cs,fuel,p,hg',ht',hvar,hd⟩:=zI laid ps h1 _ hx;obtain rfl:=aab.inj (hg.symm.trans hg');obtain rfl:=aab.inj (hty.symm.trans ht');have hcs:=Lib.cells_of_tab ht he hce hct hd;intro i hi;rw[World.var?_cell hg hvar i,← abG,hcs];simp[hi]
end Go.D
end
