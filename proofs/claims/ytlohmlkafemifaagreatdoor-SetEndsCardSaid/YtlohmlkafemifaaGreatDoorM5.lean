import Derived.Lib.LaidTab
import Derived.LaidMore
import Derived.Test.YtlohmlkafemifaaGreatDoorM4
/-! Texts 5 of this claim, joined. -/
section
set_option linter.unusedSimpArgs false
set_option linter.unusedVariables false
set_option linter.unnecessarySimpa false
namespace Go.D.Tab
theorem at251:tab 251=some (.code f251):=by kernel_rfl
theorem at212:tab 212=some (.code f212):=by kernel_rfl
theorem at235:tab 235=some (.code f235):=by kernel_rfl
theorem each0 (s:List UInt8) (hs:s.length≤4096) (y:DV) (st:St) (A:List HO) (q:Nat) (hA:∀ o,rowAt (A++[o]) q=some (.plain,[.str s])) (K:List Nat) (a:Nat) (ha:a<s.length) (k:Int):∀ (n t:Nat),t+n=a+3→1≤t →
 (E tab).C f69L0 [(0,y),(1,.ptr (st.heap.length+q) 0),(3,.int .i64 a),(4,.ptr (st.heap.length+A.length) 0)] (pst st (A++[.cells .plain [.int .i64 a,.int .i64 t,.int .i64 k]]) K) =
  some (.exit 2,[(0,y),(1,.ptr (st.heap.length+q) 0),(3,.int .i64 a),(4,.ptr (st.heap.length+A.length) 0),(40,.bool false)],pst st (A++[.cells .plain [.int .i64 a,.int .i64 (adv s k n t),.int .i64 k]]) K):=by
 intro n
 induction n with
 | zero=>
   intro t ht _
   have hw:IntKind.i64.wrap ((a:Int)+3)=(a:Int)+3:=i64w (by omega)
   have h1:¬ (t:Int)<a+3:=by omega
   rw [C_turn (L:=f69L0) rfl]
   by_cases hk:k=1
   · by_cases hl:t<s.length
     · simp [f69B0,hk,hl,hw,h1,adv,hA]
     · simp [f69B0,hk,hl,adv,hA]
   · simp [f69B0,hk,adv]
 | succ n ih=>
   intro t ht h0
   have hw:IntKind.i64.wrap ((a:Int)+3)=(a:Int)+3:=i64w (by omega)
   have h1:(t:Int)<a+3:=by omega
   rw [C_turn (L:=f69L0) rfl]
   by_cases hk:k=1
   · by_cases hl:t<s.length
     · have hw2:IntKind.i64.wrap ((t:Int)+1)=((t+1:Nat):Int):=by rw [i64w (by omega)];simp
       cases hac:isAcc (s[t]).toNat with
       | true=>
         have hJ:=ih (t+1) (by omega) (by omega)
         simp [f69B0,hk,hl,hw,h1,acc70,hac,hw2,adv,hA] at hJ ⊢
         exact hJ
       | false=>simp [f69B0,hk,hl,hw,h1,acc70,hac,adv,hA]
     · simp [f69B0,hk,hl,adv,hA]
   · simp [f69B0,hk,adv]
def cluAt (s:List UInt8) (i:Nat):Clu:=⟨i,cTo s i,kdAt s i⟩
theorem each_gen {st:St} (s:List UInt8) (hs:s.length≤4096) (y:DV) (q:Nat) (P:Nat→Nat→List HO→List Nat→Prop) (Q:List HO→List Nat→Prop)
 (hr:∀ n i H K,P n i H K→rowAt H q=some (.plain,[.str s])∧q<H.length)
 (hq:∀ n H K,P n s.length H K→Q H K)
 (step:∀ n i (hi:i<s.length) H K,P (n+1) i H K →
  (∃ H' K',(E tab).V y [(cluAt s i).dv] (pst st (H++[.cells .plain (cluAt s i).cs]) K)=some (.bool true,pst st H' K')∧rowAt H' H.length=some (.plain,(cluAt s i).cs)∧P n (cTo s i) H' K') ∨
  (∃ H' K',(E tab).V y [(cluAt s i).dv] (pst st (H++[.cells .plain (cluAt s i).cs]) K)=some (.bool false,pst st H' K')∧Q H' K')) :
 ∀ n i H K,s.length≤i+n→i≤s.length→P n i H K→∃ H' K',Q H' K'∧∃ e,(e=.ret∨e=.exit 0)∧∃ fr,
   (E tab).C f69L1 [(0,y),(1,.ptr (st.heap.length+q) 0),(3,.int .i64 i)] (pst st H K)=some (e,fr,pst st H' K'):=by
 intro n
 induction n with
 | zero=>
   intro i H K h1 h2 hP
   obtain rfl:i=s.length:=by omega
   have hr:=hr _ _ _ _ hP
   refine ⟨H,K,hq _ _ _ hP,.exit 0,.inr rfl,?_⟩
   rw [C_turn (L:=f69L1) rfl]
   simp [f69B1,hr.1]
 | succ n ih=>
   intro i H K h1 h2 hP
   have hr:=hr _ _ _ _ hP
   by_cases hi:i<s.length
   · have hw:IntKind.i64.wrap ((i:Int)+1)=((i+1:Nat):Int):=by rw [i64w (by omega)];simp
     have ht:=adv_le s (kdAt s i) 2 (i+1)
     have hA:∀ o,rowAt (H++[o]) q=some (.plain,[.str s]):=fun o=>by rw [rowAt_left hr.2];exact hr.1
     have hL:=each0 s hs y st H q hA K i hi (kdAt s i) 2 (i+1) (by omega) (by omega)
     have hg:kdAt s i=kd (s[i]).toNat:=by simp [kdAt,hi]
     rcases step n i hi H K hP with ⟨H',K',hV,hr',hP'⟩ | ⟨H',K',hV,hQ⟩
     · obtain ⟨H2,K2,hQ,e,he,fr,hJ⟩:=ih (cTo s i) H' K' (by unfold cTo;omega) (by unfold cTo;omega) hP'
       refine ⟨H2,K2,hQ,e,he,fr,?_⟩
       rw [C_turn (L:=f69L1) rfl]
       simp [cluAt,Clu.cs,Clu.dv,cTo] at hV hL hJ hr' ⊢
       simp [f69B1,hi,hw,kd68,hL,← hg,hV,hr',hr.1,hA]
       exact hJ
     · refine ⟨H',K',hQ,.ret,.inl rfl,?_⟩
       rw [C_turn (L:=f69L1) rfl]
       simp [cluAt,Clu.cs,Clu.dv,cTo] at hV hL ⊢
       simp [f69B1,hi,hw,kd68,hL,← hg,hV,hr.1,hA]
   · obtain rfl:i=s.length:=by omega
     refine ⟨H,K,hq _ _ _ hP,.exit 0,.inr rfl,?_⟩
     rw [C_turn (L:=f69L1) rfl]
     simp [f69B1,hr.1]
theorem each_call {st:St} (s:List UInt8) (hs:s.length≤4096) (y:DV) (q:Nat) (P:Nat→Nat→List HO→List Nat→Prop) (Q:List HO→List Nat→Prop)
 (hr:∀ n i H K,P n i H K→rowAt H q=some (.plain,[.str s])∧q<H.length)
 (hq:∀ n H K,P n s.length H K→Q H K)
 (step:∀ n i (hi:i<s.length) H K,P (n+1) i H K →
  (∃ H' K',(E tab).V y [(cluAt s i).dv] (pst st (H++[.cells .plain (cluAt s i).cs]) K)=some (.bool true,pst st H' K')∧rowAt H' H.length=some (.plain,(cluAt s i).cs)∧P n (cTo s i) H' K') ∨
  (∃ H' K',(E tab).V y [(cluAt s i).dv] (pst st (H++[.cells .plain (cluAt s i).cs]) K)=some (.bool false,pst st H' K')∧Q H' K'))
 {H:List HO} {K:List Nat} (hP:P s.length 0 H K):∃ H' K',Q H' K'∧(E tab).F 69 [y,.ptr (st.heap.length+q) 0] (pst st H K)=some (.tuple [],pst st H' K'):=by
 obtain ⟨H',K',hQ,e,he,fr,hJ⟩:=each_gen s hs y q P Q hr hq step s.length 0 H K (by omega) (by omega) hP
 refine ⟨H',K',hQ,?_⟩
 rw [F_go at69 rfl]
 simp at hJ
 rcases he with rfl | rfl<;>simp [f69,hJ]
theorem each55 (s:List UInt8) (st:St) (H:List HO) (K:List Nat):(E tab).F 55 [.str s] (pst st H K)=some (.fn 69 [] [.ptr (st.heap.length+H.length) 0],pst st (H++[.cells .plain [.str s]]) K):=by
 rw [F_go at55 rfl]
 simp [f55]
def boundB (s:List UInt8) (t:Int):Bool:=decide (wrongN s=0)&&(decide (t=0)||(clus s).any fun c=>decide ((c.b:Int)=t))
theorem clusF_starts (s:List UInt8) (t:Int):∀ n i,s.length≤i+n→i≤s.length→(((clusF s n i).any fun c=>decide ((c.a:Int)=t))||decide (t=s.length))=(decide (t=i)||(clusF s n i).any fun c=>decide ((c.b:Int)=t))
 | 0,i,h1,h2=>by
   obtain rfl:i=s.length:=by omega
   simp [clusF]
 | n+1,i,h1,h2=>by
   have ht:=adv_le s (kdAt s i) 2 (i+1)
   by_cases hi:i<s.length
   · have ih:=clusF_starts s t n (cTo s i) (by unfold cTo;omega) (by unfold cTo;omega)
     simp only [clusF,hi,if_true,List.any_cons]
     rw [Bool.or_assoc,ih]
     have e1:decide ((i:Int)=t)=decide (t=i):=by simp [eq_comm]
     have e2:decide (((cTo s i:Nat):Int)=t)=decide (t=(cTo s i:Nat)):=by simp [eq_comm]
     simp only [e1,e2]
   · obtain rfl:i=s.length:=by omega
     simp [clusF]
theorem clusF_in (s:List UInt8):∀ n i,i≤s.length→∀ c∈clusF s n i,i≤c.a∧c.a<c.b∧c.b≤s.length∧c.a<s.length
 | 0,i,_,c,h=>by simp [clusF] at h
 | n+1,i,h2,c,h=>by
   have ht:=adv_le s (kdAt s i) 2 (i+1)
   by_cases hi:i<s.length
   · simp only [clusF,hi,if_true] at h
     rcases List.mem_cons.1 h with rfl | h
     · simp only [cTo];omega
     · have:=clusF_in s n (cTo s i) (by unfold cTo;omega) c h
       unfold cTo at this;omega
   · simp [clusF,hi] at h
section
variable {st:St}
def lo251 (st:St) (s:List UInt8) (b:Bool):HO:=.loop (mkLo [(0,.str s),(3,.ptr st.heap.length 0),(4,.ptr (st.heap.length+1) 0),(20,.fn 69 [] [.ptr (st.heap.length+2) 0])] [21] (.region f251r4 [3,4,5]) (.block 1 (.seq (.region f251r5 [4,25]) (.cond (.t 25) (.seq (.region f251r6 [4]) .ret) .skip))) (if b then 2 else 0) (if b then some .ret else none))
def H251 (st:St) (s:List UInt8) (t:Int) (b:Bool) (J:List HO):List HO:=.cells .plain [.int .i64 t]::.cells .plain [.bool b]::.cells .plain [.str s]::lo251 st s b::J
theorem yield251 (s:List UInt8) (t:Int) (c:Clu) (J:List HO) :
 (E tab).V (.yield (st.heap.length+3)) [c.dv] (pst st (H251 st s t false J) [])=some (.bool (!decide ((c.a:Int)=t)),pst st (H251 st s t (decide ((c.a:Int)=t)) (J++[.cells .plain c.cs])) []):=by
 by_cases h:(c.a:Int)=t
 · have:=V_client (T:=tab) (st:=st) (H:=H251 st s t false J) (K:=[]) (k:=3) (args:=[c.dv]) (params:=[21]) (assign:=.region f251r4 [3,4,5]) (body:=.block 1 (.seq (.region f251r5 [4,25]) (.cond (.t 25) (.seq (.region f251r6 [4]) .ret) .skip))) (fr:=[(0,.str s),(3,.ptr st.heap.length 0),(4,.ptr (st.heap.length+1) 0),(20,.fn 69 [] [.ptr (st.heap.length+2) 0])]) (e:=.ret)
    (H1:=H251 st s t false (J++[.cells .plain c.cs])) (K1:=[]) (H2:=(H251 st s t true (J++[.cells .plain c.cs])).set 3 (.loop (mkLo [(0,.str s),(3,.ptr st.heap.length 0),(4,.ptr (st.heap.length+1) 0),(20,.fn 69 [] [.ptr (st.heap.length+2) 0])] [21] (.region f251r4 [3,4,5]) (.block 1 (.seq (.region f251r5 [4,25]) (.cond (.t 25) (.seq (.region f251r6 [4]) .ret) .skip))) 1 none))) (K2:=[])
    (fr1:=[(3,.ptr st.heap.length 0),(4,.ptr (st.heap.length+1) 0),(5,.ptr (st.heap.length+(J.length+4)) 0)]) rfl rfl (by simp [H251,Clu.dv,Clu.cs,lo251]) rfl (by simp [H251,Clu.cs,lo251,h]) rfl
   rw [this]
   simp [H251,lo251,h,yT]
 · have:=V_client (T:=tab) (st:=st) (H:=H251 st s t false J) (K:=[]) (k:=3) (args:=[c.dv]) (params:=[21]) (assign:=.region f251r4 [3,4,5]) (body:=.block 1 (.seq (.region f251r5 [4,25]) (.cond (.t 25) (.seq (.region f251r6 [4]) .ret) .skip))) (fr:=[(0,.str s),(3,.ptr st.heap.length 0),(4,.ptr (st.heap.length+1) 0),(20,.fn 69 [] [.ptr (st.heap.length+2) 0])]) (e:=.normal)
    (H1:=H251 st s t false (J++[.cells .plain c.cs])) (K1:=[]) (H2:=(H251 st s t false (J++[.cells .plain c.cs])).set 3 (.loop (mkLo [(0,.str s),(3,.ptr st.heap.length 0),(4,.ptr (st.heap.length+1) 0),(20,.fn 69 [] [.ptr (st.heap.length+2) 0])] [21] (.region f251r4 [3,4,5]) (.block 1 (.seq (.region f251r5 [4,25]) (.cond (.t 25) (.seq (.region f251r6 [4]) .ret) .skip))) 1 none))) (K2:=[])
    (fr1:=[(3,.ptr st.heap.length 0),(4,.ptr (st.heap.length+1) 0),(5,.ptr (st.heap.length+(J.length+4)) 0)]) rfl rfl (by simp [H251,Clu.dv,Clu.cs,lo251]) rfl (by simp [H251,Clu.cs,lo251,h]) rfl
   rw [this]
   simp [H251,lo251,h,yT]
theorem bound251 (s:List UInt8) (t:Int):(E tab).F 251 [.str s,.int .i64 t] st=some (.bool (boundB s t),st):=by
 rw [F_run at251 rfl]
 by_cases hw:wrongN s=0
 · obtain ⟨hs,_⟩:=wrongN_zero hw
   have hst:=clusF_starts s t s.length 0 (by omega) (by omega)
   by_cases h0:t<0
   · have:boundB s t=false:=by
      simp only [boundB,hw,decide_true,Bool.true_and,clus]
      rw [show decide (t=0)=false from decide_eq_false (by omega),Bool.false_or,List.any_eq_false]
      intro c _;simp;omega
     simp [f251,wrong54,hw,h0,this]
   by_cases h1:(s.length:Int)<t
   · have:boundB s t=false:=by
      simp only [boundB,hw,decide_true,Bool.true_and,clus]
      rw [show decide (t=0)=false from decide_eq_false (by omega),Bool.false_or,List.any_eq_false]
      intro c hc;have:=clusF_in s _ 0 (by omega) c hc;simp;omega
     simp [f251,wrong54,hw,h0,h1,this]
   have hgoal:boundB s t=(((clus s).any fun c=>decide ((c.a:Int)=t))||decide (t=s.length)):=by
    simp only [boundB,hw,decide_true,Bool.true_and,clus]
    rw [hst];simp
   obtain ⟨H',K',⟨rfl,J,rfl⟩,hF⟩:=each_call (st:=st) s hs (.yield (st.heap.length+3)) 2
    (fun n i H K=>K=[]∧(∃ J,H=H251 st s t false J)∧((clus s).any fun c=>decide ((c.a:Int)=t))=((clusF s n i).any fun c=>decide ((c.a:Int)=t)))
    (fun H K=>K=[]∧∃ J,H=H251 st s t ((clus s).any fun c=>decide ((c.a:Int)=t)) J)
    (by rintro n i H K ⟨_,⟨J,rfl⟩,_⟩;exact ⟨rfl,by simp [H251]⟩)
    (by
     rintro n H K ⟨rfl,⟨J,rfl⟩,h⟩
     have:clusF s n s.length=[]:=by cases n<;>simp [clusF]
     rw [h,this];exact ⟨rfl,J,rfl⟩)
    (by
     rintro n i hi H K ⟨rfl,⟨J,rfl⟩,h⟩
     have hy:=yield251 (st:=st) s t (cluAt s i) (J++[.cells .plain (cluAt s i).cs])
     have hH:H251 st s t false J++[.cells .plain (cluAt s i).cs]=H251 st s t false (J++[.cells .plain (cluAt s i).cs]):=by simp [H251]
     rw [hH]
     simp only [clusF,hi,if_true,List.any_cons] at h
     by_cases he:((cluAt s i).a:Int)=t
     · right
       have he':decide ((i:Int)=t)=true:=decide_eq_true he
       rw [he',Bool.true_or] at h
       refine ⟨_,_,by simpa [he] using hy,rfl,J++[.cells .plain (cluAt s i).cs]++[.cells .plain (cluAt s i).cs],by simp [h]⟩
     · left
       have he':decide ((i:Int)=t)=false:=decide_eq_false he
       rw [he',Bool.false_or] at h
       refine ⟨_,_,by simpa [he] using hy,?_,rfl,⟨J++[.cells .plain (cluAt s i).cs]++[.cells .plain (cluAt s i).cs],by simp⟩,h⟩
       simp [H251])
    (H:=H251 st s t false []) (K:=[]) ⟨rfl,⟨[],rfl⟩,rfl⟩
   have hrf:=C_rfunc_pst (T:=tab) (st:=st) (H:=[.cells .plain [.int .i64 t],.cells .plain [.bool false],.cells .plain [.str s]]) (K:=[]) (f:=.t 20) (params:=[21]) (live:=[0,3,4,20]) (assign:=.region f251r4 [3,4,5]) (body:=.block 1 (.seq (.region f251r5 [4,25]) (.cond (.t 25) (.seq (.region f251r6 [4]) .ret) .skip)))
    (fr:=[(0,.str s),(3,.ptr st.heap.length 0),(4,.ptr (st.heap.length+1) 0),(20,.fn 69 [] [.ptr (st.heap.length+2) 0])]) (g:=69) (first:=[]) (captured:=[.ptr (st.heap.length+2) 0]) rfl at69 hF rfl (by cases (clus s).any fun c=>decide ((c.a:Int)=t)<;>decide)
   rw [hgoal]
   have h55:=each55 s st [.cells .plain [.int .i64 t],.cells .plain [.bool false]] []
   generalize ((clus s).any fun c=>decide ((c.a:Int)=t))=b at *
   cases b with
   | true=>
     simp [H251,lo251] at hrf h55
     simp [f251,wrong54,hw,h0,h1,h55,hrf]
   | false=>
     simp [H251,lo251] at hrf h55
     simp [f251,wrong54,hw,h0,h1,h55,hrf]
     rfl
 · simp [f251,wrong54,hw,boundB]
def nextB (s:List UInt8) (t:Int):Int:=match (clus s).find? (fun c=>decide (t<c.b)) with | some c=>c.b | none=>s.length
def nextN (s:List UInt8) (t:Int):Int:=if wrongN s≠0 then wrongN s else if t<0∨(s.length:Int)<t then 5 else 0
theorem place235 (s:List UInt8) (t:Int):(E tab).F 235 [.str s,.int .i64 t] st=some (.int .i64 (nextN s t),st):=by
 rw [F_run at235 rfl]
 by_cases hw:wrongN s=0
 · by_cases h0:t<0
   · simp [f235,wrong54,hw,h0,nextN]
   · by_cases h1:(s.length:Int)<t
     · simp [f235,wrong54,hw,h0,h1,nextN]
     · simp [f235,wrong54,hw,h0,h1,nextN]
 · simp [f235,wrong54,hw,nextN]
def lo212 (st:St) (s:List UInt8) (b:Bool):HO:=.loop (mkLo [(0,.str s),(3,.ptr st.heap.length 0),(4,.ptr (st.heap.length+1) 0),(5,.ptr (st.heap.length+2) 0),(15,.fn 69 [] [.ptr (st.heap.length+3) 0])] [16] (.region f212r5 [3,4,5,7]) (.block 1 (.seq (.region f212r6 [4,5,7,20]) (.cond (.t 20) (.seq (.region f212r7 [4,5]) .ret) .skip))) (if b then 2 else 0) (if b then some .ret else none))
def H212 (st:St) (s:List UInt8) (t:Int) (o:Option Clu) (J:List HO):List HO:=.cells .plain [.int .i64 t]::.cells .plain [.int .i64 (match o with | some c=>c.b | none=>0)]::.cells .plain [.int .i64 0]::.cells .plain [.str s]::lo212 st s o.isSome::J
theorem yield212 (s:List UInt8) (t:Int) (c:Clu) (J:List HO) :
 (E tab).V (.yield (st.heap.length+4)) [c.dv] (pst st (H212 st s t none J) [])=some (.bool (!decide (t<c.b)),pst st (H212 st s t (if t<c.b then some c else none) (J++[.cells .plain c.cs])) []):=by
 by_cases h:t<c.b
 · have:=V_client (T:=tab) (st:=st) (H:=H212 st s t none J) (K:=[]) (k:=4) (args:=[c.dv]) (params:=[16]) (assign:=.region f212r5 [3,4,5,7]) (body:=.block 1 (.seq (.region f212r6 [4,5,7,20]) (.cond (.t 20) (.seq (.region f212r7 [4,5]) .ret) .skip))) (fr:=[(0,.str s),(3,.ptr st.heap.length 0),(4,.ptr (st.heap.length+1) 0),(5,.ptr (st.heap.length+2) 0),(15,.fn 69 [] [.ptr (st.heap.length+3) 0])]) (e:=.ret)
    (H1:=H212 st s t none (J++[.cells .plain c.cs])) (K1:=[]) (H2:=(H212 st s t (some c) (J++[.cells .plain c.cs])).set 4 (.loop (mkLo [(0,.str s),(3,.ptr st.heap.length 0),(4,.ptr (st.heap.length+1) 0),(5,.ptr (st.heap.length+2) 0),(15,.fn 69 [] [.ptr (st.heap.length+3) 0])] [16] (.region f212r5 [3,4,5,7]) (.block 1 (.seq (.region f212r6 [4,5,7,20]) (.cond (.t 20) (.seq (.region f212r7 [4,5]) .ret) .skip))) 1 none))) (K2:=[])
    (fr1:=[(3,.ptr st.heap.length 0),(4,.ptr (st.heap.length+1) 0),(5,.ptr (st.heap.length+2) 0),(7,.ptr (st.heap.length+(J.length+5)) 0)]) rfl rfl (by simp [H212,Clu.dv,Clu.cs,lo212]) rfl (by simp [H212,Clu.cs,lo212,h]) rfl
   rw [this]
   simp [H212,lo212,h,yT]
 · have:=V_client (T:=tab) (st:=st) (H:=H212 st s t none J) (K:=[]) (k:=4) (args:=[c.dv]) (params:=[16]) (assign:=.region f212r5 [3,4,5,7]) (body:=.block 1 (.seq (.region f212r6 [4,5,7,20]) (.cond (.t 20) (.seq (.region f212r7 [4,5]) .ret) .skip))) (fr:=[(0,.str s),(3,.ptr st.heap.length 0),(4,.ptr (st.heap.length+1) 0),(5,.ptr (st.heap.length+2) 0),(15,.fn 69 [] [.ptr (st.heap.length+3) 0])]) (e:=.normal)
    (H1:=H212 st s t none (J++[.cells .plain c.cs])) (K1:=[]) (H2:=(H212 st s t none (J++[.cells .plain c.cs])).set 4 (.loop (mkLo [(0,.str s),(3,.ptr st.heap.length 0),(4,.ptr (st.heap.length+1) 0),(5,.ptr (st.heap.length+2) 0),(15,.fn 69 [] [.ptr (st.heap.length+3) 0])] [16] (.region f212r5 [3,4,5,7]) (.block 1 (.seq (.region f212r6 [4,5,7,20]) (.cond (.t 20) (.seq (.region f212r7 [4,5]) .ret) .skip))) 1 none))) (K2:=[])
    (fr1:=[(3,.ptr st.heap.length 0),(4,.ptr (st.heap.length+1) 0),(5,.ptr (st.heap.length+2) 0),(7,.ptr (st.heap.length+(J.length+5)) 0)]) rfl rfl (by simp [H212,Clu.dv,Clu.cs,lo212]) rfl (by simp [H212,Clu.cs,lo212,h]) rfl
   rw [this]
   simp [H212,lo212,h,yT]
theorem next212 (s:List UInt8) (t:Int):(E tab).F 212 [.str s,.int .i64 t] st=some (.tuple [.int .i64 (if nextN s t=0 then nextB s t else 0),.int .i64 (nextN s t)],st):=by
 rw [F_run at212 rfl]
 by_cases hn:nextN s t=0
 · have hw:wrongN s=0:=by
    unfold nextN at hn
    split at hn
    · exact hn
    · rename_i h;simpa using h
   obtain ⟨hs,_⟩:=wrongN_zero hw
   obtain ⟨H',K',⟨rfl,J,rfl⟩,hF⟩:=each_call (st:=st) s hs (.yield (st.heap.length+4)) 3
    (fun n i H K=>K=[]∧(∃ J,H=H212 st s t none J)∧(clus s).find? (fun c=>decide (t<c.b))=(clusF s n i).find? (fun c=>decide (t<c.b)))
    (fun H K=>K=[]∧∃ J,H=H212 st s t ((clus s).find? (fun c=>decide (t<c.b))) J)
    (by rintro n i H K ⟨_,⟨J,rfl⟩,_⟩;exact ⟨rfl,by simp [H212]⟩)
    (by
     rintro n H K ⟨rfl,⟨J,rfl⟩,h⟩
     have:clusF s n s.length=[]:=by cases n<;>simp [clusF]
     rw [h,this];exact ⟨rfl,J,rfl⟩)
    (by
     rintro n i hi H K ⟨rfl,⟨J,rfl⟩,h⟩
     have hy:=yield212 (st:=st) s t (cluAt s i) (J++[.cells .plain (cluAt s i).cs])
     have hH:H212 st s t none J++[.cells .plain (cluAt s i).cs]=H212 st s t none (J++[.cells .plain (cluAt s i).cs]):=by simp [H212]
     rw [hH]
     simp only [clusF,hi,if_true,List.find?_cons] at h
     by_cases he:t<(cluAt s i).b
     · right
       have he':decide (t<(cTo s i:Nat))=true:=decide_eq_true he
       rw [he'] at h
       rw [if_pos he] at hy
       refine ⟨_,_,by simpa [he] using hy,rfl,J++[.cells .plain (cluAt s i).cs]++[.cells .plain (cluAt s i).cs],by rw [h,List.append_assoc];rfl⟩
     · left
       have he':decide (t<(cTo s i:Nat))=false:=decide_eq_false he
       rw [he'] at h
       rw [if_neg he] at hy
       refine ⟨_,_,by simpa [he] using hy,?_,rfl,⟨J++[.cells .plain (cluAt s i).cs]++[.cells .plain (cluAt s i).cs],by simp⟩,h⟩
       simp [H212])
    (H:=H212 st s t none []) (K:=[]) ⟨rfl,⟨[],rfl⟩,rfl⟩
   have hrf:=C_rfunc_pst (T:=tab) (st:=st) (H:=[.cells .plain [.int .i64 t],.cells .plain [.int .i64 0],.cells .plain [.int .i64 0],.cells .plain [.str s]]) (K:=[]) (f:=.t 15) (params:=[16]) (live:=[0,3,4,5,15]) (assign:=.region f212r5 [3,4,5,7]) (body:=.block 1 (.seq (.region f212r6 [4,5,7,20]) (.cond (.t 20) (.seq (.region f212r7 [4,5]) .ret) .skip)))
    (fr:=[(0,.str s),(3,.ptr st.heap.length 0),(4,.ptr (st.heap.length+1) 0),(5,.ptr (st.heap.length+2) 0),(15,.fn 69 [] [.ptr (st.heap.length+3) 0])]) (g:=69) (first:=[]) (captured:=[.ptr (st.heap.length+3) 0]) rfl at69 hF rfl (by cases (clus s).find? (fun c=>decide (t<c.b))<;>simp)
   unfold nextB
   have h55:=each55 s st [.cells .plain [.int .i64 t],.cells .plain [.int .i64 0],.cells .plain [.int .i64 0]] []
   have h235:=fun H=>place235 (st:=pst st H []) s t
   generalize (clus s).find? (fun c=>decide (t<c.b))=o at *
   cases o with
   | some c=>
     simp [H212,lo212] at hrf h55
     simp [f212,h235,hn,h55,hrf]
   | none=>
     simp [H212,lo212] at hrf h55
     simp [f212,h235,hn,h55,hrf]
 · simp [f212,place235,hn]
end
section
variable {st:St}
theorem lw_len {n:Nat} {xs:List DV} {v:DV} (h:Lw n xs v):∃ t n' tk nn,v=.list t n' tk nn xs∧(xs≠[]→n'=n)∧(nn=true→n'=n)∧(nn=false→xs=[]):=by
 cases h with
 | list t n' tk nn h1 h2=>exact ⟨t,n',tk,nn,rfl,fun hx=>h1 (by cases nn with | true=>rfl | false=>exact absurd (h2 rfl) hx),h1,h2⟩
end
theorem at234:tab 234=some (.code f234):=by kernel_rfl
theorem at211:tab 211=some (.code f211):=by kernel_rfl
theorem at222:tab 222=some (.code f222):=by kernel_rfl
theorem minI (x y:Int):foldD min2D [.int .i64 x,.int .i64 y]=some (.int .i64 (min x y)):=by
 have:(if y<x then y else x)=min x y:=by split<;>omega
 simp [foldD,min2D,this]
theorem maxI (x y:Int):foldD max2D [.int .i64 x,.int .i64 y]=some (.int .i64 (max x y)):=by
 have:(if x<y then y else x)=max x y:=by split<;>omega
 simp [foldD,max2D,this]
def capN (p:Para):Int:=if dropB p=true then wd (bAt p.text 0) (min (p.pr.size*p.pr.drop) 64)+4 else 0
theorem checkN_props {p:Para} (h:checkN p=0):1≤p.pr.size∧p.pr.size≤64∧0≤p.pr.drop∧p.pr.drop≤4∧0≤p.pr.align∧p.pr.align≤3∧p.text.length≤4096:=by
 obtain ⟨h1,_,_,hpr,_⟩:=checkN_zero h
 have:=(wrongN_zero h1).1
 simp only [propsOk,fb,Bool.and_eq_true,decide_eq_true_eq] at hpr
 omega
theorem dropB_zero {p:Para} (h:dropB p=true):checkN p=0∧0<p.text.length∧0<(massL p).length:=by
 simp only [dropB,Bool.and_eq_true,decide_eq_true_eq] at h
 have h0:checkN p=0:=by
  refine Classical.byContradiction fun hc => ?_
  have:massL p=[]:=by unfold massL;rw [if_neg hc]
  rw [this] at h;simp at h
 have hm:=(massL_MOk p).at_ ((massL p)[0]'h.2.1) (List.getElem_mem _)
 exact ⟨h0,by omega,h.2.1⟩
theorem capN_le (p:Para):0≤capN p∧capN p≤68∧(dropB p=true→4≤capN p):=by
 unfold capN
 by_cases h:dropB p=true
 · have hc:=checkN_props (dropB_zero h).1
   have h2:2≤p.pr.drop:=by simp only [dropB,Bool.and_eq_true,decide_eq_true_eq] at h;exact h.1
   have hm:(2:Int)≤p.pr.size*p.pr.drop:=by
    have:=Int.mul_le_mul hc.1 h2 (by omega) (by omega);omega
   have h1:1≤min (p.pr.size*p.pr.drop) 64:=by omega
   have h3:min (p.pr.size*p.pr.drop) 64≤64:=by omega
   have:=wd_le (bAt p.text 0) h1 h3
   rw [if_pos h];omega
 · rw [if_neg h];exact ⟨by omega,by omega,fun e=>absurd e h⟩
section
variable {st:St} {p:Para} {w u:LW}
theorem capital234 {t n:Nat} {tk:Tk} {nn:Bool} (h6:massL p≠[]→n=6):(E tab).F 234 [.agg (paraCs p w u),.list t n tk nn ((massL p).map Mass.dv)] st=some (.int .i64 (capN p),st):=by
 rw [F_run at234 rfl]
 have hV0:((massL p).map Mass.dv).length=(massL p).length:=by simp
 have hpd:=pcDrop (p:=p) (w:=w) (u:=u)
 unfold capN
 by_cases h1:2≤p.pr.drop
 · have h1':¬ p.pr.drop<2:=by omega
   by_cases h2:0<(massL p).length
   · have h2':¬ ((massL p).length:Int)=0:=by omega
     have h2b:¬ massL p=[]:=by intro e;rw [e] at h2;simp at h2
     obtain rfl:=h6 h2b
     have g0:=getMD (L:=massL p) h2
     have l0:0<((massL p).map Mass.dv).length:=by simpa using h2
     by_cases h3:((massL p).getD 0 mz).k=1
     · have hb:dropB p=true:=by simp only [dropB,h1,h2,h3,decide_true,Bool.true_and,beq_self_eq_true]
       rw [if_pos hb]
       obtain ⟨h0,ht,_⟩:=dropB_zero hb
       have hc:=checkN_props h0
       have hm:(2:Int)≤p.pr.size*p.pr.drop∧p.pr.size*p.pr.drop≤256:=by
        have a:=Int.mul_le_mul hc.1 h1 (by omega) (by omega)
        have b:=Int.mul_le_mul hc.2.1 hc.2.2.2.1 hc.2.2.1 (by omega)
        omega
       have hm1:1≤min (p.pr.size*p.pr.drop) 64:=by omega
       have hm3:min (p.pr.size*p.pr.drop) 64≤64:=by omega
       have hww:=wd_le (bAt p.text 0) hm1 hm3
       have hmin:=minI (p.pr.size*p.pr.drop) 64
       have hsl:sliceD true 1 (.str p.text) none (some (.int .i64 1)) none=some (.str (p.text.take 1)):=by rw [slice_su (by omega) (by omega)];simp
       have hW:∀ st,(E tab).F 17 [.str (p.text.take 1),.int .i64 (min (p.pr.size*p.pr.drop) 64)] st=some (.tuple [.int .i64 (wd (bAt p.text 0) (min (p.pr.size*p.pr.drop) 64)),.int .i64 0],st):=by
        intro st
        have e:p.text.take 1=[bAt p.text 0]:=by
         cases hs:p.text with
         | nil=>rw [hs] at ht;simp at ht
         | cons a r=>simp [bAt]
        rw [width17,e]
        have hw:IntKind.i64.wrap (wd (bAt p.text 0) (min (p.pr.size*p.pr.drop) 64))=wd (bAt p.text 0) (min (p.pr.size*p.pr.drop) 64):=i64w (by omega)
        simp only [widthV]
        rw [if_pos ⟨hm1,hm3⟩]
        simp [tw,hw]
       have hw2:IntKind.i64.wrap (p.pr.size*p.pr.drop)=p.pr.size*p.pr.drop:=i64w (by omega)
       have hw3:IntKind.i64.wrap (wd (bAt p.text 0) (min (p.pr.size*p.pr.drop) 64)+4)=wd (bAt p.text 0) (min (p.pr.size*p.pr.drop) 64)+4:=i64w (by omega)
       generalize (massL p).getD 0 mz=m at *
       generalize (massL p).map Mass.dv=V at *
       have g0':V[0]'l0=m.dv:=by rw [List.getElem?_eq_getElem l0] at g0;exact Option.some.inj g0
       generalize wd (bAt p.text 0) (min (p.pr.size*p.pr.drop) 64)=W at *
       have ht1:(1:Int)≤p.text.length:=by omega
       simp [f234,hpd,h1',hV0,h2b,h2',g0,g0',l0,Mass.dv,Mass.cs,h3,hw2,hw3,hW,hsl,hmin]
     · have hb:¬ dropB p=true:=by
        simp only [dropB,Bool.and_eq_true]
        rintro ⟨_,_,h⟩
        exact h3 (by simpa using h)
       rw [if_neg hb]
       generalize (massL p).getD 0 mz=m at *
       generalize (massL p).map Mass.dv=V at *
       have g0':V[0]'l0=m.dv:=by rw [List.getElem?_eq_getElem l0] at g0;exact Option.some.inj g0
       simp [f234,hpd,h1',hV0,h2b,h2',g0,g0',l0,Mass.dv,Mass.cs,h3]
   · have h2':massL p=[]:=List.length_eq_zero_iff.1 (by omega)
     have hb:¬ dropB p=true:=by simp [dropB,h2']
     rw [if_neg hb,h2']
     simp [f234,hpd,h1']
 · have h1':p.pr.drop<2:=by omega
   have hb:¬ dropB p=true:=by simp only [dropB,Bool.and_eq_true,decide_eq_true_eq];rintro ⟨h,_⟩;exact h1 h
   rw [if_neg hb]
   generalize (massL p).map Mass.dv=V at *
   simp [f234,hpd,h1']
theorem drop211 (hp:p.small) (hw:w.ok 4 p.spans) (hu:u.ok 1 p.marks):(E tab).F 211 [.agg (paraCs p w u)] st=some (.tuple [.int .i64 (capN p),.int .i64 (checkN p)],st):=by
 rw [F_run at211 rfl]
 obtain ⟨_,hm,v,rfl,hv⟩:=masses10 p hp w u hw hu (pst st [.cells .plain (paraCs p w u)] [])
 have hc:=fun st=>capital234 (st:=st) (p:=p) (w:=w) (u:=u) (t:=v.t) (tk:=v.tk) (nn:=v.nn) hv.n
 by_cases h0:checkN p=0
 · generalize (massL p).map Mass.dv=V at *
   simp [f211,hm,h0,hc]
 · have hb:¬ dropB p=true:=fun h=>h0 (dropB_zero h).1
   have hcp:capN p=0:=by unfold capN;rw [if_neg hb]
   generalize (massL p).map Mass.dv=V at *
   simp [f211,hm,h0,hcp]
structure Ln where
 f:Int
 t:Int
 x:Int
 w:Int
 n:Int
 h:Bool
 g:Int
def Ln.cs (l:Ln):List DV:=[.int .i64 l.f,.int .i64 l.t,.int .i64 l.x,.int .i64 l.w,.int .i64 l.n,.bool l.h,.int .i64 l.g]
def Ln.dv (l:Ln):DV:=.agg l.cs
def mayL (s:List UInt8) (l:Ln):Bool:=decide (l.f≤l.t)&&boundB s l.f&&boundB s l.t&&decide (0≤l.x)&&decide (l.x≤4095)&&decide (0≤l.w)&&decide (l.w≤4095)
theorem pcText:(paraCs p w u)[0]? = some (.str p.text):=rfl
theorem may222 (l:Ln):(E tab).F 222 [.agg (paraCs p w u),.agg l.cs] st=some (.bool (mayL p.text l),st):=by
 rw [F_run at222 rfl]
 have hb:=fun t st=>bound251 (st:=st) p.text t
 unfold mayL
 by_cases h1:l.f≤l.t
 rotate_left
 · simp [f222,Ln.cs,pcText,hb,h1]
 by_cases h2:boundB p.text l.f=true
 rotate_left
 · simp [f222,Ln.cs,pcText,hb,h1,h2]
 by_cases h3:boundB p.text l.t=true
 rotate_left
 · simp [f222,Ln.cs,pcText,hb,h1,h2,h3]
 by_cases h4:0≤l.x
 rotate_left
 · simp [f222,Ln.cs,pcText,hb,h1,h2,h3,h4]
 by_cases h5:l.x≤4095
 rotate_left
 · simp [f222,Ln.cs,pcText,hb,h1,h2,h3,h4,h5]
 by_cases h6:0≤l.w
 rotate_left
 · simp [f222,Ln.cs,pcText,hb,h1,h2,h3,h4,h5,h6]
 by_cases h7:l.w≤4095
 rotate_left
 · simp [f222,Ln.cs,pcText,hb,h1,h2,h3,h4,h5,h6,h7]
 simp [f222,Ln.cs,pcText,hb,h1,h2,h3,h4,h5,h6,h7]
end
theorem ac_next {st:St} {H:List HO} {K:List Nat} {n1 n by_:Nat} {ag:Bool} {xs ys zs:List DV} {v1 v w:DV} {o1 o:Option Nat} (h1:Ac st K n1 xs v1 o1) (h:Ac st K n ys v o) (hd:∀ k,o1=some k→o≠some k) (hw:Vw (pst st H K) n ag zs w) (hn:0<n) (hy:zs≠[]) (he:∀ y∈zs,IsEl n ag y)
 (hr:(ys.length+zs.length)*by_≤roomD) (hr2:ys.length+zs.length≤roomD) :
 ∃ v' K' k,appendD (pst st H K) n ag by_ v w=some (v',pst st H K')∧Ac st K' n (ys++zs) v' (some k)∧Ac st K' n1 xs v1 o1∧∀ j,o1=some j→some k≠some j:=by
 obtain ⟨v',K',k,e1,e2,e3,e4⟩:=ac_app h hw hn hy he hr hr2
 have hne:o1≠some k:=by
  intro e
  rcases e3 with e3 | ⟨_,e3⟩
  · exact hd k e e3
  · subst e
    obtain ⟨s,_,hs⟩:=h1
    have:=(List.getElem?_eq_some_iff.1 hs).1
    omega
 exact ⟨v',K',k,e1,e2,h1.stay hne e4,fun j e e'=>hne (by rw [e,← e'])⟩
theorem ac_len {st:St} {K:List Nat} {n:Nat} {xs:List DV} {v:DV} {o:Option Nat} (h:Ac st K n xs v o):∃ t n' tk nn,v=.list t n' tk nn xs∧(xs≠[]→n'=n∧nn=true)∧(nn=true→n'=n)∧(nn=false→xs=[]):=by
 cases o with
 | none=>
   obtain ⟨rfl,t,n',tk,rfl⟩:=h
   exact ⟨_,_,_,_,rfl,fun h=>absurd rfl h,(fun h=>by cases h),fun _=>rfl⟩
 | some k=>
   obtain ⟨s,rfl,_⟩:=h
   exact ⟨_,_,_,_,rfl,fun _=>⟨rfl,rfl⟩,fun _=>rfl,(fun h=>by cases h)⟩
theorem at223:tab 223=some (.code f223):=by kernel_rfl
theorem at252:tab 252=some (.code f252):=by kernel_rfl
def blankB (m:Mass):Bool:=m.k==3||m.k==5
def inR (f t:Int) (m:Mass):Bool:=decide (f≤m.a)&&decide (m.a<t)
def eB (a:Int):DV×DV:=(.int .i64 a,.bool true)
def keepB (D:Bool) (f t:Int) (m:Mass):Bool:=inR f t m && !(decide (m.a=0)&&D)
def rowOf (D:Bool) (f t:Int) (L:List Mass):List Mass:=L.filter (keepB D f t)
def dropV (D:Bool) (c f t:Int) (L:List Mass):Int:=if D&&L.any (fun m=>inR f t m&&decide (m.a=0)) then c else 0
def krs (S:List Int):Nat→List Mass→List Bool
 | _,[]=>[]
 | k,m::r=>(decide (0<k) && !decide (m.a∈S))::krs S (k+1) r
theorem krs_app (S:List Int):∀ (l r:List Mass) (k:Nat),krs S k (l++r)=krs S k l++krs S (k+l.length) r
 | [],r,k=>by simp [krs]
 | m::l,r,k=>by simp [krs,krs_app S l r (k+1),Nat.add_comm,Nat.add_left_comm]
theorem krs_len (S:List Int):∀ (l:List Mass) (k:Nat),(krs S k l).length=l.length
 | [],k=>rfl
 | m::l,k=>by simp [krs,krs_len S l (k+1)]
def trimM (l:List Mass):Nat→Nat
 | 0=>0
 | b+1=>if blankB (l.getD b mz) then trimM l b else b+1
theorem trimM_le (l:List Mass):∀ b,trimM l b≤b
 | 0=>Nat.le_refl _
 | b+1=>by unfold trimM;have:=trimM_le l b;split<;>omega
def aheadM (l:List Mass) (s:Nat):Nat→Nat→Nat
 | 0,i=>i
 | n+1,i=>if i<s∧(l.getD i mz).k=3 then aheadM l s n (i+1) else i
theorem findI (a:Int):∀ (S:List Int) (i:Nat),(a∉S∧findD [.int] (.int .i64 a) (S.map eB) i=some none)∨(a∈S∧∃ j,S[j]? = some a∧findD [.int] (.int .i64 a) (S.map eB) i=some (some (i+j,.bool true)))
 | [],i=>.inl ⟨by simp,rfl⟩
 | b::r,i=>by
   by_cases h:a=b
   · subst h
     exact .inr ⟨by simp,0,rfl,by simp [findD,eB,keyEq,scalEq]⟩
   · have hb:(a==b)=false:=by rw [beq_eq_false_iff_ne];exact h
     have e:∀ r,findD [.int] (.int .i64 a) (eB b::r) i=findD [.int] (.int .i64 a) r (i+1):=by
      intro r;simp [findD,eB,keyEq,scalEq,hb]
     rcases findI a r (i+1) with ⟨h1,h2⟩ | ⟨h1,j,h2,h3⟩
     · exact .inl ⟨by simp [h,h1],by rw [List.map_cons,e];exact h2⟩
     · exact .inr ⟨by simp [h1],j+1,h2,by rw [List.map_cons,e,h3];congr 3;omega⟩
theorem eB_mod (a:Int):∀ (S:List Int) (j:Nat),S[j]? = some a→(S.map eB).modify j (fun _=>(.int .i64 a,.bool true))=S.map eB
 | [],j,h=>by simp at h
 | b::r,0,h=>by simp at h;subst h;rfl
 | b::r,j+1,h=>by simp [List.modify_succ_cons,eB_mod a r j (by simpa using h)]
section
variable {st:St}
theorem blank252 (m:Mass):(E tab).F 252 [m.dv] st=some (.bool (blankB m),st):=by
 rw [F_run at252 rfl]
 by_cases h1:m.k=3
 · simp [f252,blankB,Mass.dv,Mass.cs,h1]
 by_cases h2:m.k=5
 · simp [f252,blankB,Mass.dv,Mass.cs,h2]
 · simp [f252,blankB,Mass.dv,Mass.cs,h1,h2]
theorem L223_0 {l:List It} (hl:l.length≤200000) {t n:Nat} {tk:Tk} {nn:Bool} (h8:l≠[]→n=8) (mv:DV) (x0 x1 x2:HO) (K:List Nat):∀ (r d:List It) (S:List Int) (J:List HO),l=d++r →
 ∃ (S':List Int) (J':List HO) (fr:Fr),(E tab).C f223L0 [(2,.ptr st.heap.length 0),(3,.ptr (st.heap.length+1) 0),(4,.ptr (st.heap.length+2) 0),(5,mv),(9,.map (st.heap.length+3)),(29,.list t n tk nn (l.map It.dv)),(30,.int .i64 l.length),(31,.int .i64 d.length)] (pst st (x0::x1::x2::.map (S.map eB)::J) K) =
   some (.exit 0,(2,.ptr st.heap.length 0)::(3,.ptr (st.heap.length+1) 0)::(4,.ptr (st.heap.length+2) 0)::(5,mv)::(9,.map (st.heap.length+3))::fr,pst st (x0::x1::x2::.map (S'.map eB)::J') K) ∧
   ∀ a,a∈S'↔a∈S∨∃ x∈r,x.k=3∧x.f=a:=by
 intro r
 induction r with
 | nil=>
   intro d S J hd
   rw [List.append_nil] at hd
   subst hd
   refine ⟨S,J,[(29,.list t n tk nn (l.map It.dv)),(30,.int .i64 l.length),(31,.int .i64 l.length),(32,.bool false)],?_,by simp⟩
   rw [C_turn (L:=f223L0) rfl]
   simp [f223B0]
 | cons x r ih=>
   intro d S J hd
   have h0:d.length<l.length:=by simp [hd]
   obtain rfl:=h8 (by rw [hd];simp)
   have hw:IntKind.i64.wrap ((d.length:Int)+1)=((d++[x]).length:Nat):=by rw [i64w (by omega)];simp
   have hg:l[d.length]=x:=by simp [hd]
   by_cases h3:x.k=3
   · have hms:∃ S2:List Int,mapsetD (pst st (x0::x1::x2::.map (S.map eB)::(J++[.cells .plain x.cs])) K) [.int] (.map (st.heap.length+3)) (.int .i64 x.f) (.bool true)=some (pst st (x0::x1::x2::.map (S2.map eB)::(J++[.cells .plain x.cs])) K)∧∀ a,a∈S2↔a∈S∨a=x.f:=by
      rcases findI x.f S 0 with ⟨h1,h2⟩ | ⟨h1,j,h2,h3⟩
      · refine ⟨S++[x.f],?_,by simp⟩
        rw [pst_mapset (m:=3) (es:=S.map eB) rfl h2]
        simp [eB]
      · refine ⟨S,?_,fun a=>⟨.inl,?_⟩⟩
        · rw [pst_mapset2 (m:=3) (es:=S.map eB) rfl h3,Nat.zero_add,eB_mod _ _ _ h2]
          simp
        · rintro (h | rfl)
          · exact h
          · exact h1
     obtain ⟨S2,hms,hS2⟩:=hms
     obtain ⟨S',J',fr,hJ,hR⟩:=ih (d++[x]) S2 (J++[.cells .plain x.cs]) (by simp [hd])
     refine ⟨S',J',fr,?_,fun a => ?_⟩
     · rw [C_turn (L:=f223L0) rfl]
       simp [It.cs,It.dv,h3] at hms hJ ⊢
       have hkf:∀ s:Int,keyFit [.int] (.int .i64 s)=true:=fun _=>rfl
       simp [f223B0,h0,hw,hg,It.cs,It.dv,h3,hms,hkf]
       exact hJ
     · rw [hR,hS2]
       constructor
       · rintro ((h | h) | ⟨y,hy,h⟩)
         · exact .inl h
         · exact .inr ⟨x,by simp,h3,h.symm⟩
         · exact .inr ⟨y,by simp [hy],h⟩
       · rintro (h | ⟨y,hy,h,h'⟩)
         · exact .inl (.inl h)
         · rcases List.mem_cons.1 hy with rfl | hy
           · exact .inl (.inr h'.symm)
           · exact .inr ⟨y,hy,h,h'⟩
   · obtain ⟨S',J',fr,hJ,hR⟩:=ih (d++[x]) S (J++[.cells .plain x.cs]) (by simp [hd])
     refine ⟨S',J',fr,?_,fun a => ?_⟩
     · rw [C_turn (L:=f223L0) rfl]
       simp [It.cs,It.dv] at hJ ⊢
       simp [f223B0,h0,hw,hg,It.cs,It.dv,h3]
       exact hJ
     · rw [hR]
       constructor
       · rintro (h | ⟨y,hy,h⟩)
         · exact .inl h
         · exact .inr ⟨y,by simp [hy],h⟩
       · rintro (h | ⟨y,hy,h,h'⟩)
         · exact .inl h
         · rcases List.mem_cons.1 hy with rfl | hy
           · exact absurd h h3
           · exact .inr ⟨y,hy,h,h'⟩
end
section
variable {st:St}
theorem rowOf_app (D:Bool) (f t:Int) (l r:List Mass):rowOf D f t (l++r)=rowOf D f t l++rowOf D f t r:=List.filter_append ..
theorem dropV_app (D:Bool) (c f t:Int) (l:List Mass) (m:Mass):dropV D c f t (l++[m])=if D&&(inR f t m&&decide (m.a=0)) then c else dropV D c f t l:=by
 unfold dropV
 cases D with
 | false=>simp
 | true=>
   simp only [Bool.true_and,List.any_append,List.any_cons,List.any_nil,Bool.or_false]
   cases inR f t m&&decide (m.a=0)<;>simp
theorem look_map {st:St} {H:List HO} {K:List Nat} {S:List Int} (h:H[3]? = some (.map (S.map eB))) (a:Int):lookupD (pst st H K) [.int] (.bool false) (.map (st.heap.length+3)) (.int .i64 a) false=some (.bool (decide (a∈S))):=by
 rcases findI a S 0 with ⟨h1,h2⟩ | ⟨h1,j,_,h3⟩
 · simp only [lookupD,pst_heap,h,h2,h1,decide_false];rfl
 · simp only [lookupD,pst_heap,h,h3,h1,decide_true];rfl
theorem el_b (b:Bool):IsEl 1 false (.bool b):=⟨rfl,rfl,rfl⟩
theorem L223_1 {p:Para} {w u:LW} {l:Ln} {S:List Int} {t n:Nat} {tk:Tk} {nn:Bool} (h6:massL p≠[]→n=6) {A:List HO}
 (hA0:∀ X,rowAt (A++X) 0=some (.plain,paraCs p w u)) (hA1:∀ X,rowAt (A++X) 1=some (.plain,l.cs)) (hA3:∀ X:List HO,(A++X)[3]? = some (.map (S.map eB))) :
 ∀ (r d:List Mass) (J:List HO) (K:List Nat) (lv kv:DV) (o1 o2:Option Nat),massL p=d++r→Ac st K 6 ((rowOf (dropB p) l.f l.t d).map Mass.dv) lv o1→Ac st K 1 ((krs S 0 (rowOf (dropB p) l.f l.t d)).map DV.bool) kv o2→(∀ k,o1=some k→o2≠some k) →
 ∃ (lv' kv':DV) (K':List Nat) (J':List HO) (o1' o2':Option Nat) (fr:Fr),(E tab).C f223L1 [(2,.ptr st.heap.length 0),(3,.ptr (st.heap.length+1) 0),(4,.ptr (st.heap.length+2) 0),(5,.list t n tk nn ((massL p).map Mass.dv)),(9,.map (st.heap.length+3)),(12,.ptr (st.heap.length+A.length) 0),(42,.list t n tk nn ((massL p).map Mass.dv)),(43,.int .i64 (massL p).length),(44,.int .i64 d.length)]
  (pst st (A++.cells .plain [lv,kv,.int .i64 0,.int .i64 0,.int .i64 (dropV (dropB p) (capN p) l.f l.t d),.int .i64 0]::J) K) =
  some (.exit 2,(2,.ptr st.heap.length 0)::(3,.ptr (st.heap.length+1) 0)::(4,.ptr (st.heap.length+2) 0)::(5,.list t n tk nn ((massL p).map Mass.dv))::(9,.map (st.heap.length+3))::(12,.ptr (st.heap.length+A.length) 0)::fr,
   pst st (A++.cells .plain [lv',kv',.int .i64 0,.int .i64 0,.int .i64 (dropV (dropB p) (capN p) l.f l.t (massL p)),.int .i64 0]::J') K') ∧
  Ac st K' 6 ((rowOf (dropB p) l.f l.t (massL p)).map Mass.dv) lv' o1'∧Ac st K' 1 ((krs S 0 (rowOf (dropB p) l.f l.t (massL p))).map DV.bool) kv' o2':=by
 intro r
 induction r with
 | nil=>
   intro d J K lv kv o1 o2 hd a1 a2 _
   rw [List.append_nil] at hd
   rw [← hd] at a1 a2 ⊢
   refine ⟨lv,kv,K,J,o1,o2,[(42,.list t n tk nn ((massL p).map Mass.dv)),(43,.int .i64 (massL p).length),(44,.int .i64 (massL p).length),(45,.bool false)],?_,a1,a2⟩
   rw [C_turn (L:=f223L1) rfl]
   simp [f223B1]
 | cons m r ih=>
   intro d J K lv kv o1 o2 hd a1 a2 hdj
   have hlen:=massL_len p
   have h0:d.length<(massL p).length:=by rw [hd];simp
   obtain rfl:=h6 (by rw [hd];simp)
   have hw:IntKind.i64.wrap ((d.length:Int)+1)=((d++[m]).length:Nat):=by rw [i64w (by omega)];simp
   have hg0:(massL p)[d.length]? = some m:=by rw [hd];simp
   have hV:((massL p).map Mass.dv)[d.length]? = some m.dv:=by rw [List.getElem?_map,hg0];rfl
   have hVl:((massL p).map Mass.dv).length=(massL p).length:=by simp
   have hcap:=fun st=>capital234 (st:=st) (p:=p) (w:=w) (u:=u) (t:=t) (n:=6) (tk:=tk) (nn:=nn) (fun _=>rfl)
   have hro:=rowOf_app (dropB p) l.f l.t d [m]
   have hdr:=dropV_app (dropB p) (capN p) l.f l.t d m
   have hcp:=capN_le p
   have hla:l.cs[0]? = some (.int .i64 l.f):=rfl
   have hlb:l.cs[1]? = some (.int .i64 l.t):=rfl
   have hV':((massL p).map Mass.dv)[d.length]'(by rw [hVl];exact h0)=m.dv:=by rw [List.getElem?_eq_getElem (by rw [hVl];exact h0)] at hV;exact Option.some.inj hV
   have hl0:d.length<((massL p).map Mass.dv).length:=by rw [hVl];exact h0
   by_cases hin:inR l.f l.t m=true
   · have hin':=hin
     simp only [inR,Bool.and_eq_true,decide_eq_true_eq] at hin'
     have c1:¬ m.a<l.f:=by omega
     have c2:¬ l.t≤m.a:=by omega
     by_cases hz:m.a=0∧dropB p=true
     · have hk:rowOf (dropB p) l.f l.t (d++[m])=rowOf (dropB p) l.f l.t d:=by rw [hro];simp [rowOf,keepB,hz.1,hz.2]
       have hd2:dropV (dropB p) (capN p) l.f l.t (d++[m])=capN p:=by rw [hdr,if_pos (by simp [hin,hz.1,hz.2])]
       obtain ⟨lv',kv',K',J',o1',o2',fr,hJ,hR⟩:=ih (d++[m]) (J++[.cells .plain m.cs]) K lv kv o1 o2 (by rw [hd];simp) (by rw [hk];exact a1) (by rw [hk];exact a2) hdj
       refine ⟨lv',kv',K',J',o1',o2',fr,?_,hR⟩
       have hcg:0<capN p:=by have:=hcp.2.2 hz.2;omega
       rw [hd2] at hJ
       rw [C_turn (L:=f223L1) rfl]
       generalize (massL p).map Mass.dv=V at *
       rw [hz.1] at c1 c2
       simp [Mass.cs,hz.1] at hJ ⊢
       simp [f223B1,h0,hw,hVl,hV,hV',hl0,hA0,hA1,hla,hlb,c1,c2,hz.1,hcap,hcg,Mass.cs,Mass.dv]
       simpa using hJ
     · have hk:rowOf (dropB p) l.f l.t (d++[m])=rowOf (dropB p) l.f l.t d++[m]:=by
        rw [hro]
        have:(decide (m.a=0)&&dropB p)=false:=by
         rw [Bool.and_eq_false_iff]
         by_cases e:m.a=0
         · right;cases hb:dropB p<;>simp_all
         · left;simp [e]
        simp [rowOf,keepB,hin,this]
       have hd2:dropV (dropB p) (capN p) l.f l.t (d++[m])=dropV (dropB p) (capN p) l.f l.t d:=by
        rw [hdr,if_neg]
        simp only [hin,Bool.true_and,Bool.and_eq_true,decide_eq_true_eq]
        rintro ⟨e1,e2⟩;exact hz ⟨e2,e1⟩
       have hxl:(rowOf (dropB p) l.f l.t d).length≤d.length:=List.length_filter_le ..
       have hkl:=krs_len S (rowOf (dropB p) l.f l.t d) 0
       generalize hxs:rowOf (dropB p) l.f l.t d=xs at *
       have hkx:krs S 0 (xs++[m])=krs S 0 xs++[decide (0<xs.length) && !decide (m.a∈S)]:=by rw [krs_app];simp [krs]
       obtain ⟨kv2,K1,k2,e2,b2,b1,hd1⟩:=ac_next (H:=A++.cells .plain [lv,kv,.int .i64 0,.int .i64 0,.int .i64 (dropV (dropB p) (capN p) l.f l.t d),.int .i64 0]::(J++[.cells .plain m.cs])) (by_:=1) (ag:=false) (zs:=[.bool (decide (0<xs.length) && !decide (m.a∈S))]) (w:=.list st.cur 1 .tight true [.bool (decide (0<xs.length) && !decide (m.a∈S))]) a1 a2 hdj (Lw.vw (.list _ _ _ _ (fun _=>rfl) (fun h=>by cases h))) (by omega) (by simp) (by intro y hy;simp only [List.mem_singleton] at hy;subst hy;exact el_b _) (by simp [roomD];omega) (by simp [roomD];omega)
       obtain ⟨lv2,K2,k1,e1,fu1,fu2,hd2'⟩:=ac_next (H:=A++.cells .plain [lv,kv2,.int .i64 0,.int .i64 0,.int .i64 (dropV (dropB p) (capN p) l.f l.t d),.int .i64 0]::(J++[.cells .plain m.cs])) (by_:=48) (ag:=true) (zs:=[m.dv]) (w:=.list st.cur 6 .tight true [m.dv]) b2 b1 (fun k e e'=>hd1 k e' e) (Lw.vw (.list _ _ _ _ (fun _=>rfl) (fun h=>by cases h))) (by omega) (by simp) (by intro y hy;simp only [List.mem_singleton] at hy;subst hy;exact el_mass _) (by simp [roomD];omega) (by simp [roomD];omega)
       obtain ⟨lv',kv',K',J',o1',o2',fr,hJ,hR⟩:=ih (d++[m]) (J++[.cells .plain m.cs]) K2 lv2 kv2 (some k1) (some k2) (by rw [hd];simp) (by rw [hk];simpa using fu1) (by rw [hk,hkx];simpa using fu2) (fun k e e'=>hd2' k e' e)
       refine ⟨lv',kv',K',J',o1',o2',fr,?_,hR⟩
       rw [hd2] at hJ
       rw [C_turn (L:=f223L1) rfl]
       have hlk:=fun (X:List HO) (K:List Nat)=>look_map (st:=st) (K:=K) (hA3 X) m.a
       have hkf:∀ s:Int,keyFit [.int] (.int .i64 s)=true:=fun _=>rfl
       obtain ⟨t1,n1,tk1,nn1,rfl,_⟩:=ac_len a1
       obtain ⟨t2,n2,tk2,nn2,rfl,_⟩:=ac_len b2
       obtain ⟨t3,n3,tk3,nn3,rfl,_⟩:=ac_len fu1
       generalize dropV (dropB p) (capN p) l.f l.t d=dd at *
       generalize dropV (dropB p) (capN p) l.f l.t (massL p)=de at *
       generalize (krs S 0 xs).map DV.bool++[DV.bool (decide (0<xs.length) && !decide (m.a∈S))]=KV at *
       generalize (massL p).map Mass.dv=V at *
       have hxm:(xs.map Mass.dv).length=xs.length:=by simp
       generalize xs.map Mass.dv=XV at *
       by_cases hz0:m.a=0
       · have hD:dropB p=false:=by cases hb:dropB p with | false=>rfl | true=>exact absurd ⟨hz0,hb⟩ hz
         have hc0:capN p=0:=by unfold capN;rw [hD];rfl
         rw [hz0] at c1 c2 hlk
         by_cases hx0:0<xs.length
         · have hx1:(0:Int)<xs.length:=by omega
           simp [Mass.cs,Mass.dv,hz0,hx0,List.length_pos_iff.1 hx0] at e1 e2 hJ ⊢
           simp [f223B1,h0,hw,hVl,hV,hV',hl0,hA0,hA1,hla,hlb,c1,c2,hz0,hcap,hc0,Mass.cs,Mass.dv,hxm,hx1,hx0,hlk,hkf,op_lit,repl,chunk,e1,e2,List.length_pos_iff.1 hx0]
           simpa using hJ
         · have hx1:xs=[]:=List.length_eq_zero_iff.1 (by omega)
           subst hx1
           simp [Mass.cs,Mass.dv,hz0] at e1 e2 hJ hxm ⊢
           subst hxm
           simp [f223B1,h0,hw,hVl,hV,hV',hl0,hA0,hA1,hla,hlb,c1,c2,hz0,hcap,hc0,Mass.cs,Mass.dv,hlk,hkf,op_lit,repl,chunk,e1,e2]
           simpa using hJ
       · by_cases hx0:0<xs.length
         · have hx1:(0:Int)<xs.length:=by omega
           simp [Mass.cs,Mass.dv,hx0,List.length_pos_iff.1 hx0] at e1 e2 hJ ⊢
           simp [f223B1,h0,hw,hVl,hV,hV',hl0,hA0,hA1,hla,hlb,c1,c2,hz0,Mass.cs,Mass.dv,hxm,hx1,hx0,hlk,hkf,op_lit,repl,chunk,e1,e2,List.length_pos_iff.1 hx0]
           simpa using hJ
         · have hx1:xs=[]:=List.length_eq_zero_iff.1 (by omega)
           subst hx1
           simp [Mass.cs,Mass.dv] at e1 e2 hJ hxm ⊢
           subst hxm
           simp [f223B1,h0,hw,hVl,hV,hV',hl0,hA0,hA1,hla,hlb,c1,c2,hz0,Mass.cs,Mass.dv,hlk,hkf,op_lit,repl,chunk,e1,e2]
           simpa using hJ
   · have hk:rowOf (dropB p) l.f l.t (d++[m])=rowOf (dropB p) l.f l.t d:=by rw [hro];simp [rowOf,keepB,hin]
     have hd2:dropV (dropB p) (capN p) l.f l.t (d++[m])=dropV (dropB p) (capN p) l.f l.t d:=by rw [hdr,if_neg (by simp [hin])]
     obtain ⟨lv',kv',K',J',o1',o2',fr,hJ,hR⟩:=ih (d++[m]) (J++[.cells .plain m.cs]) K lv kv o1 o2 (by rw [hd];simp) (by rw [hk];exact a1) (by rw [hk];exact a2) hdj
     refine ⟨lv',kv',K',J',o1',o2',fr,?_,hR⟩
     rw [hd2] at hJ
     rw [C_turn (L:=f223L1) rfl]
     generalize (massL p).map Mass.dv=V at *
     simp [Mass.cs] at hJ ⊢
     by_cases c1:m.a<l.f
     · simp [f223B1,h0,hw,hVl,hV,hV',hl0,hA0,hA1,hla,hlb,c1,Mass.cs,Mass.dv]
       simpa using hJ
     · have c2:l.t≤m.a:=by
        refine Classical.byContradiction fun h=>hin ?_
        simp only [inR,Bool.and_eq_true,decide_eq_true_eq];omega
       simp [f223B1,h0,hw,hVl,hV,hV',hl0,hA0,hA1,hla,hlb,c1,c2,Mass.cs,Mass.dv]
       simpa using hJ
end
def hsz (z:Int) (zs:List Mass):Int:=zs.foldl (fun z m=>if m.k=5 then m.s else z) z
def sRow (lv kv:DV) (a s:Nat) (d h:Int):HO:=.cells .plain [lv,kv,.int .i64 a,.int .i64 s,.int .i64 d,.int .i64 h]
section
variable {st:St} {xs:List Mass} {t n:Nat} {tk:Tk} {nn:Bool} {kv:DV}
theorem L223_2 (hl:xs.length≤4096) (h6:xs≠[]→n=6) (A J:List HO) (K:List Nat) (dd:Int):∀ b,b≤xs.length→∃ fr,
 (E tab).C f223L2 [(2,.ptr st.heap.length 0),(3,.ptr (st.heap.length+1) 0),(4,.ptr (st.heap.length+2) 0),(12,.ptr (st.heap.length+A.length) 0)] (pst st (A++sRow (.list t n tk nn (xs.map Mass.dv)) kv 0 b dd 0::J) K) =
  some (.exit 4,(2,.ptr st.heap.length 0)::(3,.ptr (st.heap.length+1) 0)::(4,.ptr (st.heap.length+2) 0)::(12,.ptr (st.heap.length+A.length) 0)::fr,pst st (A++sRow (.list t n tk nn (xs.map Mass.dv)) kv 0 (trimM xs b) dd 0::J) K):=by
 intro b
 induction b with
 | zero=>
   intro _
   rw [C_turn (L:=f223L2) rfl]
   simp [sRow,f223B2,trimM]
 | succ b ih=>
   intro hb
   have hb':b<xs.length:=by omega
   obtain rfl:=h6 (by intro e;rw [e] at hb';simp at hb')
   have hw:IntKind.i64.wrap (((b+1:Nat):Int)-1)=(b:Nat):=by rw [i64w (by omega)];omega
   have hw':IntKind.i64.wrap (b:Int)=(b:Int):=i64w (by omega)
   have g0:=getMD (L:=xs) hb'
   have l0:b<(xs.map Mass.dv).length:=by simpa using hb'
   have hbl:=fun st=>blank252 (st:=st) (xs.getD b mz)
   obtain ⟨fr,ih⟩:=ih (by omega)
   rw [trimM]
   generalize trimM xs b=T at *
   generalize xs.getD b mz=m at *
   generalize xs.map Mass.dv=V at *
   have g0':V[b]'l0=m.dv:=by rw [List.getElem?_eq_getElem l0] at g0;exact Option.some.inj g0
   cases hm:blankB m with
   | true=>
     refine ⟨fr,?_⟩
     rw [C_turn (L:=f223L2) rfl]
     simp [sRow] at ih ⊢
     have hp:(0:Int)<(b:Int)+1:=by omega
     simp [f223B2,hp,hw',l0,g0',g0,hbl,hm,Mass.dv,Mass.cs] at ih hbl ⊢
     simp [hbl,hm,hw',ih]
   | false=>
     rw [C_turn (L:=f223L2) rfl]
     have hp:(0:Int)<(b:Int)+1:=by omega
     simp [sRow,f223B2,hp,hw',l0,g0',g0,Mass.dv,Mass.cs] at hbl ⊢
     simp [hbl,hm,hw']
theorem L223_3 (hl:xs.length≤4096) (h6:xs≠[]→n=6) {A:List HO} {l:Ln} (hA1:∀ X,rowAt (A++X) 1=some (.plain,l.cs)) (J:List HO) (K:List Nat) (dd:Int) {s:Nat} (hs:s≤xs.length):∀ k i,s≤i+k→i≤s→(l.f≠0→i=0)→∃ fr,
 (E tab).C f223L3 [(2,.ptr st.heap.length 0),(3,.ptr (st.heap.length+1) 0),(4,.ptr (st.heap.length+2) 0),(12,.ptr (st.heap.length+A.length) 0)] (pst st (A++sRow (.list t n tk nn (xs.map Mass.dv)) kv i s dd 0::J) K) =
  some (.exit 6,(2,.ptr st.heap.length 0)::(3,.ptr (st.heap.length+1) 0)::(4,.ptr (st.heap.length+2) 0)::(12,.ptr (st.heap.length+A.length) 0)::fr,pst st (A++sRow (.list t n tk nn (xs.map Mass.dv)) kv (if l.f=0 then aheadM xs s k i else 0) s dd 0::J) K):=by
 have hla:l.cs[0]? = some (.int .i64 l.f):=rfl
 by_cases hf:l.f=0
 · intro k
   induction k with
   | zero=>
     intro i h1 h2 _
     obtain rfl:i=s:=by omega
     rw [C_turn (L:=f223L3) rfl]
     simp [sRow,f223B3,aheadM,hA1,hla,hf]
   | succ k ih=>
     intro i h1 h2 _
     by_cases hi:i<s
     · have hb':i<xs.length:=by omega
       obtain rfl:=h6 (by intro e;rw [e] at hb';simp at hb')
       have hw:IntKind.i64.wrap ((i:Int)+1)=((i+1:Nat):Int):=by rw [i64w (by omega)];omega
       have g0:=getMD (L:=xs) hb'
       have l0:i<(xs.map Mass.dv).length:=by simpa using hb'
       obtain ⟨fr,ih⟩:=ih (i+1) (by omega) (by omega) (fun h=>absurd hf h)
       rw [aheadM]
       generalize aheadM xs s k (i+1)=T at *
       generalize xs.getD i mz=m at *
       generalize xs.map Mass.dv=V at *
       have g0':V[i]'l0=m.dv:=by rw [List.getElem?_eq_getElem l0] at g0;exact Option.some.inj g0
       by_cases hm:m.k=3
       · refine ⟨fr,?_⟩
         rw [C_turn (L:=f223L3) rfl]
         simp [sRow,hf,hi,hm] at ih ⊢
         simp [f223B3,hA1,hla,hf,hi,hm,hw,l0,g0',g0,Mass.dv,Mass.cs]
         simpa using ih
       · rw [C_turn (L:=f223L3) rfl]
         simp [sRow,f223B3,hA1,hla,hf,hi,hm,l0,g0',g0,Mass.dv,Mass.cs]
     · obtain rfl:i=s:=by omega
       rw [C_turn (L:=f223L3) rfl]
       simp [sRow,f223B3,aheadM,hA1,hla,hf]
 · intro k i _ _ h
   obtain rfl:=h hf
   rw [C_turn (L:=f223L3) rfl]
   simp [sRow,f223B3,hA1,hla,hf]
theorem L223_4 {zs:List Mass} (hl:zs.length≤4096) (h6:zs≠[]→n=6) (a4 a12:DV):∀ (r d:List Mass) (H:List HO) (K:List Nat) (z:Int),zs=d++r→∃ fr J,
 (E tab).C f223L4 [(4,a4),(12,a12),(15,.int .i64 z),(161,.list t n tk nn (zs.map Mass.dv)),(162,.int .i64 zs.length),(163,.int .i64 d.length)] (pst st H K) =
  some (.exit 8,(4,a4)::(12,a12)::(15,.int .i64 (hsz z r))::fr,pst st (H++J) K):=by
 intro r
 induction r with
 | nil=>
   intro d H K z hd
   rw [List.append_nil] at hd
   subst hd
   refine ⟨[(161,.list t n tk nn (zs.map Mass.dv)),(162,.int .i64 zs.length),(163,.int .i64 zs.length),(164,.bool false)],[],?_⟩
   rw [C_turn (L:=f223L4) rfl]
   simp [f223B4,hsz]
 | cons m r ih=>
   intro d H K z hd
   have h0:d.length<zs.length:=by simp [hd]
   obtain rfl:=h6 (by rw [hd];simp)
   have hw:IntKind.i64.wrap ((d.length:Int)+1)=((d++[m]).length:Nat):=by rw [i64w (by omega)];simp
   have hg:zs[d.length]=m:=by simp [hd]
   obtain ⟨fr,J,hJ⟩:=ih (d++[m]) (H++[.cells .plain m.cs]) K (if m.k=5 then m.s else z) (by simp [hd])
   refine ⟨fr,.cells .plain m.cs::J,?_⟩
   rw [C_turn (L:=f223L4) rfl]
   have e:hsz z (m::r)=hsz (if m.k=5 then m.s else z) r:=rfl
   rw [e]
   by_cases h5:m.k=5
   · simp [h5,Mass.cs] at hJ ⊢
     simp [f223B4,h0,hw,hg,Mass.cs,Mass.dv,h5]
     exact hJ
   · simp [h5,Mass.cs] at hJ ⊢
     simp [f223B4,h0,hw,hg,Mass.cs,Mass.dv,h5]
     exact hJ
end
structure Sg where
 l:List Mass
 kr:List Bool
 ahead:Nat
 solid:Nat
 drop:Int
 hyph:Int
def Sg.cs (s:Sg) (lv kv:DV):List DV:=[lv,kv,.int .i64 s.ahead,.int .i64 s.solid,.int .i64 s.drop,.int .i64 s.hyph]
def partB (p:Para) (a:Int):Bool:=(itemsL p).any fun x=>decide (x.k=3)&&decide (x.f=a)
def krP (p:Para):Nat→List Mass→List Bool
 | _,[]=>[]
 | k,m::r=>(decide (0<k) && !partB p m.a)::krP p (k+1) r
def rowP (p:Para) (l:Ln):List Mass:=rowOf (dropB p) l.f l.t (massL p)
def solidP (p:Para) (l:Ln):Nat:=trimM (rowP p l) (rowP p l).length
def aheadP (p:Para) (l:Ln):Nat:=if l.f=0 then aheadM (rowP p l) (solidP p l) (solidP p l) 0 else 0
def hszP (p:Para) (l:Ln):Int:=hsz (if 0<solidP p l then ((rowP p l).getD (solidP p l-1) mz).s else p.pr.size) ((rowP p l).drop (solidP p l))
def setgP (p:Para) (l:Ln):Sg:=⟨rowP p l,krP p 0 (rowP p l),aheadP p l,solidP p l,dropV (dropB p) (capN p) l.f l.t (massL p),if l.h then hyW (hszP p l) else 0⟩
theorem krs_eq {p:Para} {S:List Int} (h:∀ a,a∈S↔∃ x∈itemsL p,x.k=3∧x.f=a):∀ (l:List Mass) (k:Nat),krs S k l=krP p k l
 | [],k=>rfl
 | m::l,k=>by
   have:decide (m.a∈S)=partB p m.a:=by
    unfold partB
    rw [Bool.eq_iff_iff]
    simp only [decide_eq_true_eq,List.any_eq_true,Bool.and_eq_true,h]
   simp only [krs,krP,krs_eq h l (k+1),this]
theorem hsz_ok {s:List UInt8} {L:List Mass} (hL:MOk s L):∀ (zs:List Mass) (z:Int),(∀ m∈zs,m∈L)→1≤z∧z≤64→1≤hsz z zs∧hsz z zs≤64
 | [],z,_,h=>h
 | m::zs,z,hm,h=>by
   refine hsz_ok hL zs _ (fun x hx=>hm x (by simp [hx])) ?_
   show 1≤(if m.k=5 then m.s else z)∧(if m.k=5 then m.s else z)≤64
   by_cases e:m.k=5
   · rw [if_pos e];exact hL.sz m (hm m (by simp))
   · rw [if_neg e];exact h
theorem rowP_sub {p:Para} {l:Ln} {m:Mass} (h:m∈rowP p l):m∈massL p:=(List.mem_filter.1 h).1
theorem rowP_len (p:Para) (l:Ln):(rowP p l).length≤4096:=Nat.le_trans (List.length_filter_le ..) (massL_len p)
theorem hszP_ok {p:Para} (h0:checkN p=0) (l:Ln):1≤hszP p l∧hszP p l≤64:=by
 have hc:=checkN_props h0
 refine hsz_ok (massL_MOk p) _ _ (fun m hm=>rowP_sub (List.mem_of_mem_drop hm)) ?_
 by_cases h:0<solidP p l
 · rw [if_pos h]
   have hle:solidP p l≤(rowP p l).length:=trimM_le _ _
   have hlt:solidP p l-1<(rowP p l).length:=by omega
   have:=getM hlt
   exact (massL_MOk p).sz _ (rowP_sub (List.mem_of_getElem? this))
 · rw [if_neg h];omega
section
variable {st:St} {p:Para} {w u:LW}
theorem L223_3k (a b c d:DV) (fr:Fr) (st:St):(E tab).C f223L3 ((2,a)::(3,b)::(4,c)::(12,d)::fr) st=(E tab).C f223L3 [(2,a),(3,b),(4,c),(12,d)] st:=by
 unfold f223L3;rw [C_loop_keep];rfl
theorem width45 {n:Int} (hn:1≤n∧n≤64):(E tab).F 17 [.str [45],.int .i64 n] st=some (.tuple [.int .i64 (hyW n),.int .i64 0],st):=by
 have hb:=wd_le 45 hn.1 hn.2
 rw [width17]
 have hw:IntKind.i64.wrap (wd 45 n)=wd 45 n:=i64w (by omega)
 simp only [widthV,if_pos hn]
 simp [tw,hw,hyW]
theorem itemsG_len (s:List UInt8) (L:List Mass) (pl:List Bool):∀ (l:List Mass) (k run fr:Nat),(itemsG s L pl k run fr l).length≤3*l.length+1
 | [],k,run,fr=>by simp only [itemsG];split<;>simp
 | m::r,k,run,fr=>by
   simp only [itemsG,List.length_cons]
   split
   · have:=itemsG_len s L pl r (k+1) (k+1) (k+1)
     split<;>simp<;>omega
   · split
     · have:=itemsG_len s L pl r (k+1) run fr;omega
     · split
       · have:=itemsG_len s L pl r (k+1) run k;simp;omega
       · split
         · have:=itemsG_len s L pl r (k+1) run k;simp;omega
         · have:=itemsG_len s L pl r (k+1) run fr;omega
theorem itemsL_len (p:Para):(itemsL p).length≤200000:=by
 have h1:=(bodyL_MOk p).len
 have:=itemsG_len p.text (bodyL p) (plOf p.text (bodyL p) p.pr.hyphen) (bodyL p) 0 0 0
 unfold itemsL;omega
theorem prepare223 (h0:checkN p=0) (hp:p.small) (hw:w.ok 4 p.spans) (hu:u.ok 1 p.marks) (l:Ln):∃ lv kv,(E tab).F 223 [.agg (paraCs p w u),.agg l.cs] st=some (.agg ((setgP p l).cs lv kv),st) ∧
 Lw 6 ((setgP p l).l.map Mass.dv) lv∧Lw 1 ((setgP p l).kr.map DV.bool) kv:=by
 rw [F_run at223 rfl]
 let R0:List HO:=[.cells .plain (paraCs p w u),.cells .plain l.cs,.cells .plain [.list 0 0 .no false [],.list 0 0 .no false [],.int .i64 0,.int .i64 0,.int .i64 0,.int .i64 0]]
 obtain ⟨_,hm,v,rfl,hv⟩:=masses10 p hp w u hw hu (pst st R0 [])
 obtain ⟨iv,hi,hiv⟩:=items106 (st:=pst st R0 []) hp hw hu
 rw [if_pos h0] at hiv
 obtain ⟨ti,ni,tki,nni,rfl,hi8,_,_⟩:=lw_len hiv
 have h8:itemsL p≠[]→ni=8:=fun h=>hi8 (by simpa using h)
 obtain ⟨S,J0,fr0,hJ0,hS⟩:=L223_0 (st:=st) (itemsL_len p) (t:=ti) (tk:=tki) (nn:=nni) h8 (.list v.t v.n v.tk v.nn ((massL p).map Mass.dv)) (.cells .plain (paraCs p w u)) (.cells .plain l.cs) (.cells .plain [.list 0 0 .no false [],.list 0 0 .no false [],.int .i64 0,.int .i64 0,.int .i64 0,.int .i64 0]) [] (itemsL p) [] [] [] rfl
 have hkr:=krs_eq (p:=p) (S:=S) (fun a=>by rw [hS];simp) (rowP p l) 0
 obtain ⟨lv,kv,K1,J1,o1,o2,fr1,hJ1,a1,a2⟩:=L223_1 (st:=st) (p:=p) (w:=w) (u:=u) (l:=l) (S:=S) (t:=v.t) (n:=v.n) (tk:=v.tk) (nn:=v.nn) hv.n
  (A:=.cells .plain (paraCs p w u)::.cells .plain l.cs::.cells .plain [.list 0 0 .no false [],.list 0 0 .no false [],.int .i64 0,.int .i64 0,.int .i64 0,.int .i64 0]::.map (S.map eB)::J0)
  (fun X=>rfl) (fun X=>rfl) (fun X=>rfl) (massL p) [] [] [] (.list 0 0 .no false []) (.list 0 0 .no false []) none none rfl ⟨rfl,_,_,_,rfl⟩ ⟨rfl,_,_,_,rfl⟩ (by simp)
 change Ac st K1 6 ((rowP p l).map Mass.dv) lv o1 at a1
 change Ac st K1 1 ((krs S 0 (rowP p l)).map DV.bool) kv o2 at a2
 rw [hkr] at a2
 have hrl:=rowP_len p l
 obtain ⟨t1,n1,tk1,nn1,rfl,b1,b2,b3⟩:=ac_len a1
 obtain ⟨t2,n2,tk2,nn2,rfl,c1,c2,c3⟩:=ac_len a2
 have hn1:rowP p l≠[]→n1=6:=fun h=>(b1 (by simpa using h)).1
 have hsol:solidP p l≤(rowP p l).length:=trimM_le _ _
 obtain ⟨fr2,hJ2⟩:=L223_2 (st:=st) (xs:=rowP p l) (t:=t1) (tk:=tk1) (nn:=nn1) (kv:=.list t2 n2 tk2 nn2 ((krP p 0 (rowP p l)).map DV.bool)) hrl hn1 (.cells .plain (paraCs p w u)::.cells .plain l.cs::.cells .plain [.list 0 0 .no false [],.list 0 0 .no false [],.int .i64 0,.int .i64 0,.int .i64 0,.int .i64 0]::.map (S.map eB)::J0) J1 K1 (dropV (dropB p) (capN p) l.f l.t (massL p)) (rowP p l).length (Nat.le_refl _)
 obtain ⟨fr3,hJ3⟩:=L223_3 (st:=st) (xs:=rowP p l) (t:=t1) (tk:=tk1) (nn:=nn1) (kv:=.list t2 n2 tk2 nn2 ((krP p 0 (rowP p l)).map DV.bool)) hrl hn1 (A:=.cells .plain (paraCs p w u)::.cells .plain l.cs::.cells .plain [.list 0 0 .no false [],.list 0 0 .no false [],.int .i64 0,.int .i64 0,.int .i64 0,.int .i64 0]::.map (S.map eB)::J0) (l:=l) (fun X=>rfl) J1 K1 (dropV (dropB p) (capN p) l.f l.t (massL p)) hsol (solidP p l) 0 (by omega) (by omega) (fun _=>rfl)
 change _=some (_,_,pst st (_++sRow _ _ 0 (solidP p l) _ _::_) _) at hJ2
 change _=some (_,_,pst st (_++sRow _ _ (aheadP p l) (solidP p l) _ _::_) _) at hJ3
 have hx1:∀ st',exportL st st' (.list t1 n1 tk1 nn1 ((rowP p l).map Mass.dv))=some (.list t1 n1 (exTk tk1) nn1 ((rowP p l).map Mass.dv)):=fun st'=>exl _ _ _ _ _ _ _
 have hx2:∀ st',exportL st st' (.list t2 n2 tk2 nn2 ((krP p 0 (rowP p l)).map DV.bool))=some (.list t2 n2 (exTk tk2) nn2 ((krP p 0 (rowP p l)).map DV.bool)):=fun st'=>exl _ _ _ _ _ _ _
 have hVl:((rowP p l).map Mass.dv).length=(rowP p l).length:=by simp
 have hVm:((massL p).map Mass.dv).length=(massL p).length:=by simp
 have hVi:((itemsL p).map It.dv).length=(itemsL p).length:=by simp
 have hl7:l.cs.length=7:=rfl
 have hl8:∀ x,x∈l.cs→x.scal=true:=by intro x hx;simp only [Ln.cs,List.mem_cons,List.not_mem_nil,or_false] at hx;rcases hx with rfl | rfl | rfl | rfl | rfl | rfl | rfl<;>rfl
 have hlh:l.cs[5]? = some (.bool l.h):=rfl
 refine ⟨.list t1 n1 (exTk tk1) nn1 ((rowP p l).map Mass.dv),.list t2 n2 (exTk tk2) nn2 ((krP p 0 (rowP p l)).map DV.bool),?_,.list _ _ _ _ b2 b3,.list _ _ _ _ c2 c3⟩
 simp only [R0] at hm hi
 have hdv:dropV (dropB p) (capN p) l.f l.t []=0:=by simp [dropV]
 rw [hdv] at hJ1
 simp only [sRow] at hJ2 hJ3
 have hrs:∀ Z:Int,setgP p l=⟨rowP p l,krP p 0 (rowP p l),aheadP p l,solidP p l,dropV (dropB p) (capN p) l.f l.t (massL p),if l.h then hyW (hszP p l) else 0⟩:=fun _=>rfl
 rw [hrs 0]
 simp only [Sg.cs]
 by_cases hh:l.h=true
 · have hzok:=hszP_ok h0 l
   have hwid:=fun st=>width45 (st:=st) hzok
   have hdl:((rowP p l).drop (solidP p l)).length≤4096:=by rw [List.length_drop];omega
   have hsl:=slice_l (n:=6) (en:=n1) (t:=t1) (tk:=tk1) (nn:=nn1) (xs:=(rowP p l).map Mass.dv) (k:=.i64) (lo:=solidP p l) b2 (by omega) (by rw [hVl];omega)
   have hdr:((rowP p l).map Mass.dv).drop ((solidP p l:Int)).toNat=((rowP p l).drop (solidP p l)).map Mass.dv:=by rw [List.map_drop];rfl
   rw [hdr,hVl,Int.toNat_natCast] at hsl
   obtain ⟨fr4,J4,hJ4⟩:=L223_4 (st:=st) (zs:=(rowP p l).drop (solidP p l)) (t:=t1) (n:=n1) (tk:=slTk tk1 (rowP p l).length (solidP p l) (rowP p l).length) (nn:=nn1) hdl (fun h=>hn1 (fun e=>h (by rw [e];simp))) (.ptr (st.heap.length+2) 0)
    (.ptr (st.heap.length+(HO.cells .plain (paraCs p w u)::.cells .plain l.cs::.cells .plain [.list 0 0 .no false [],.list 0 0 .no false [],.int .i64 0,.int .i64 0,.int .i64 0,.int .i64 0]::.map (S.map eB)::J0).length) 0) _ [] ((.cells .plain (paraCs p w u)::.cells .plain l.cs::.cells .plain [.list 0 0 .no false [],.list 0 0 .no false [],.int .i64 0,.int .i64 0,.int .i64 0,.int .i64 0]::.map (S.map eB)::J0)++sRow (.list t1 n1 tk1 nn1 ((rowP p l).map Mass.dv)) (.list t2 n2 tk2 nn2 ((krP p 0 (rowP p l)).map DV.bool)) (aheadP p l) (solidP p l) (dropV (dropB p) (capN p) l.f l.t (massL p)) 0::J1) K1 (if 0<solidP p l then ((rowP p l).getD (solidP p l-1) mz).s else p.pr.size) rfl
   simp only [sRow] at hJ4
   change _=some (_,_::_::(15,DV.int IntKind.i64 (hszP p l))::_,_) at hJ4
   have hh':l.h=true:=hh
   have hVd:(((rowP p l).drop (solidP p l)).map Mass.dv).length=((rowP p l).drop (solidP p l)).length:=by simp
   have hdl2:(((rowP p l).drop (solidP p l)).length:Int)=((rowP p l).length-solidP p l:Nat):=by rw [List.length_drop]
   rw [hdl2] at hJ4
   simp only [hh,if_true]
   by_cases hs0:0<solidP p l
   · have hlt:solidP p l-1<(rowP p l).length:=by omega
     have g0:=getMD (L:=rowP p l) hlt
     have l0:solidP p l-1<((rowP p l).map Mass.dv).length:=by rw [hVl];exact hlt
     have hw1:IntKind.i64.wrap ((solidP p l:Int)-1)=((solidP p l-1:Nat):Int):=by rw [i64w (by omega)];omega
     obtain rfl:=hn1 (fun e=>by rw [e] at hlt;simp at hlt)
     rw [if_pos hs0] at hJ4
     generalize (rowP p l).getD (solidP p l-1) mz=m at *
     generalize ((rowP p l).drop (solidP p l)).map Mass.dv=VD at *
     generalize (rowP p l).map Mass.dv=V at *
     have g0':V[solidP p l-1]'l0=m.dv:=by rw [List.getElem?_eq_getElem l0] at g0;exact Option.some.inj g0
     generalize (massL p).map Mass.dv=VM at *
     generalize (itemsL p).map It.dv=VI at *
     generalize (krP p 0 (rowP p l)).map DV.bool=VK at *
     generalize dropV (dropB p) (capN p) l.f l.t (massL p)=dd at *
     simp [-ex_list,Ln.cs,hh'] at hm hi hJ0 hJ1 hJ2 hJ3 hJ4 hsl
     simp [-ex_list,f223,hm,hi,hVi,hVm,hVl,hJ0,hJ1,hJ2,L223_3k,hJ3,hh',hx1,hx2,Ln.cs,hs0,hw1,l0,g0',g0,Mass.dv,Mass.cs,hsl,hVd,hJ4,hwid]
   · have hs0':solidP p l=0:=by omega
     rw [if_neg hs0] at hJ4
     generalize ((rowP p l).drop (solidP p l)).map Mass.dv=VD at *
     generalize (rowP p l).map Mass.dv=V at *
     generalize (massL p).map Mass.dv=VM at *
     generalize (itemsL p).map It.dv=VI at *
     generalize (krP p 0 (rowP p l)).map DV.bool=VK at *
     generalize dropV (dropB p) (capN p) l.f l.t (massL p)=dd at *
     simp [-ex_list,Ln.cs,hh',hs0'] at hm hi hJ0 hJ1 hJ2 hJ3 hJ4 hsl
     simp [-ex_list,f223,hm,hi,hVi,hVm,hVl,hJ0,hJ1,hJ2,L223_3k,hJ3,hh',hx1,hx2,Ln.cs,hs0',hsl,hVd,hJ4,hwid]
 · simp only [hh,if_false,Bool.false_eq_true]
   have hlh':l.cs[5]? = some (.bool false):=by rw [hlh];simp [hh]
   generalize (rowP p l).map Mass.dv=V at *
   generalize (massL p).map Mass.dv=VM at *
   generalize (itemsL p).map It.dv=VI at *
   generalize (krP p 0 (rowP p l)).map DV.bool=VK at *
   generalize dropV (dropB p) (capN p) l.f l.t (massL p)=dd at *
   have hh':l.h=false:=by simpa using hh
   simp [-ex_list,Ln.cs,hh'] at hm hi hJ0 hJ1 hJ2 hJ3
   simp [-ex_list,f223,hm,hi,hVi,hVm,hVl,hJ0,hJ1,hJ2,L223_3k,hJ3,hh',hx1,hx2,Ln.cs]
end
structure RowOk (R:List Mass):Prop where
 len:R.length≤4096
 ok:∀ i,i<R.length→0≤(R.getD i mz).w∧(R.getD i mz).w≤4095 ∧ -64≤(R.getD i mz).e∧(R.getD i mz).e≤0
 adj:∀ i,i+1<R.length→(R.getD (i+1) mz).e=0∨(shows (R.getD i mz).k=true∧shows (R.getD (i+1) mz).k=true∧0≤(R.getD i mz).w+(R.getD (i+1) mz).e)
def atW (p:Para) (R:List Mass) (i:Nat) (a:Int):Int:=if (decide (0<i) && !partB p (R.getD i mz).a)=true then a+(R.getD i mz).e else a
def wdW (R:List Mass) (ah i:Nat) (a:Int):Int:=if i<ah then 0 else if (R.getD i mz).k=4 then leapI a-a else (R.getD i mz).w
def posW (p:Para) (R:List Mass) (ah:Nat) (x:Int):Nat→Int
 | 0=>x
 | i+1=>atW p R i (posW p R ah x i)+wdW R ah i (atW p R i (posW p R ah x i))
theorem leapI_le {a:Int} (h:0≤a):a<leapI a∧leapI a≤a+48:=by unfold leapI;omega
theorem pos_ok {p:Para} {R:List Mass} (hR:RowOk R) {ah:Nat} (hah:∀ i,i<ah→(R.getD i mz).k=3) {x:Int} (hx:0≤x):∀ i,i≤R.length →
 (x≤posW p R ah x i∧posW p R ah x i≤x+4200*i∧(∀ j,i=j+1→shows (R.getD j mz).k=true→x≤posW p R ah x i-(R.getD j mz).w)) ∧
 (i<R.length→x≤atW p R i (posW p R ah x i)∧atW p R i (posW p R ah x i)≤posW p R ah x i)
 | 0,_=>by
   refine ⟨⟨by simp [posW],by simp [posW],by intro j h;omega⟩,fun h => ?_⟩
   simp [posW,atW]
 | i+1,h=>by
   have ih:=pos_ok (p:=p) hR hah hx i (by omega)
   have hi:=ih.2 (by omega)
   have hk:=hR.ok i (by omega)
   have hl:=leapI_le (a:=atW p R i (posW p R ah x i)) (by omega)
   have h1:x≤posW p R ah x (i+1)∧posW p R ah x (i+1)≤x+4200*((i+1:Nat):Int)∧(∀ j,i+1=j+1→shows (R.getD j mz).k=true→x≤posW p R ah x (i+1)-(R.getD j mz).w):=by
    simp only [posW]
    unfold wdW
    by_cases c1:i<ah
    · have h3:=hah i c1
      rw [if_pos c1]
      refine ⟨by omega,by omega,fun j hj hs => ?_⟩
      obtain rfl:i=j:=by omega
      rw [h3] at hs;simp [shows] at hs
    · rw [if_neg c1]
      by_cases c2:(R.getD i mz).k=4
      · rw [if_pos c2]
        refine ⟨by omega,by omega,fun j hj hs => ?_⟩
        obtain rfl:i=j:=by omega
        rw [c2] at hs;simp [shows] at hs
      · rw [if_neg c2]
        refine ⟨by omega,by omega,fun j hj hs => ?_⟩
        obtain rfl:i=j:=by omega
        omega
   refine ⟨h1,fun h2 => ?_⟩
   have hk2:=hR.ok (i+1) h2
   generalize posW p R ah x (i+1)=P at *
   unfold atW
   split
   · rcases hR.adj i h2 with e | ⟨e1,_,e2⟩
     · rw [e];omega
     · have:=h1.2.2 i rfl e1;omega
   · omega
section
variable {st:St}
theorem at253:tab 253=some (.code f253):=by kernel_rfl
theorem at224:tab 224=some (.code f224):=by kernel_rfl
theorem at225:tab 225=some (.code f225):=by kernel_rfl
theorem at226:tab 226=some (.code f226):=by kernel_rfl
theorem at227:tab 227=some (.code f227):=by kernel_rfl
theorem at228:tab 228=some (.code f228):=by kernel_rfl
theorem at229:tab 229=some (.code f229):=by kernel_rfl
theorem at254:tab 254=some (.code f254):=by kernel_rfl
theorem at255:tab 255=some (.code f255):=by kernel_rfl
theorem at256:tab 256=some (.code f256):=by kernel_rfl
theorem stop253 (x:Int) (hx:0≤x∧x≤1000000000):(E tab).F 253 [.int .i64 x] st=some (.int .i64 (leapI x),st):=by
 rw [F_run at253 rfl]
 have h:=fun st=>next139 x ⟨hx.1,by omega⟩ st
 by_cases c:x≤8190
 · simp only [c,if_true] at h
   simp [f253,h]
 · have w1:IntKind.i64.wrap (x.tdiv 48)=x/48:=by rw [Int.tdiv_eq_ediv_of_nonneg hx.1,i64w (by omega)]
   have w2:IntKind.i64.wrap (x/48+1)=x/48+1:=i64w (by omega)
   have w3:IntKind.i64.wrap ((x/48+1)*48)=leapI x:=by unfold leapI;exact i64w (by omega)
   simp only [c,if_false] at h
   simp [f253,h,w1,w2,w3]
theorem f225_run (a b c:DV):(E tab).F 225 [a,b,c] st=some (.tuple [],st):=by
 rw [F_run at225 rfl]
 simp [f225]
theorem krP_len (p:Para):∀ (l:List Mass) (k:Nat),(krP p k l).length=l.length
 | [],k=>rfl
 | m::l,k=>by simp [krP,krP_len p l (k+1)]
theorem krP_get (p:Para):∀ (l:List Mass) (k i:Nat),i<l.length→(krP p k l)[i]? = some (decide (0<k+i) && !partB p (l.getD i mz).a)
 | [],k,i,h=>by simp at h
 | m::l,k,0,h=>by simp [krP]
 | m::l,k,i+1,h=>by
   have:=krP_get p l (k+1) i (by simpa using h)
   rw [show k+1+i=k+(i+1) by omega] at this
   simp only [krP,List.getElem?_cons_succ,this,List.getD_cons_succ]
theorem walk_gen {p:Para} {s:Sg} {lv kv:DV} {t n:Nat} {tk:Tk} {nn:Bool} (hkv:kv=.list t n tk nn (s.kr.map DV.bool)) (hn1:s.kr≠[]→n=1)
 {ts ns:Nat} {tks:Tk} {nns:Bool} (hn6:s.l≠[]→ns=6) (hkr:s.kr=krP p 0 s.l) (hR:RowOk s.l) (hah:∀ i,i<s.ahead→(s.l.getD i mz).k=3) (hsol:s.solid≤s.l.length) {x:Int} (hx:0≤x∧x≤5000)
 (y:DV) (q:Nat) (P:Nat→List HO→List Nat→Prop) (hr:∀ i H K,P i H K→rowAt H q=some (.plain,s.cs lv kv))
 (step:∀ i (hi:i<s.solid) H K,P i H K→∃ H' K',(E tab).V y [.int .i64 i,.int .i64 (atW p s.l i (posW p s.l s.ahead x i)),.int .i64 (wdW s.l s.ahead i (atW p s.l i (posW p s.l s.ahead x i)))] (pst st (H++[.cells .plain (s.l.getD i mz).cs]) K)=some (.tuple [],pst st H' K')∧P (i+1) H' K') :
 ∀ k i H K,i+k=s.solid→P i H K→∃ H' K',P s.solid H' K'∧∃ fr,
   (E tab).C f224L0 [(2,y),(3,.ptr (st.heap.length+q) 0),(7,.int .i64 (posW p s.l s.ahead x i)),(16,.list ts ns tks nns ((s.l.take s.solid).map Mass.dv)),(17,.int .i64 s.solid),(18,.int .i64 i)] (pst st H K) =
    some (.exit 0,(2,y)::(3,.ptr (st.heap.length+q) 0)::(7,.int .i64 (posW p s.l s.ahead x s.solid))::fr,pst st H' K'):=by
 intro k
 induction k with
 | zero=>
   intro i H K hi hP
   obtain rfl:i=s.solid:=by omega
   refine ⟨H,K,hP,[(16,.list ts ns tks nns ((s.l.take s.solid).map Mass.dv)),(17,.int .i64 s.solid),(18,.int .i64 s.solid),(19,.bool false)],?_⟩
   rw [C_turn (L:=f224L0) rfl]
   simp [f224B0]
 | succ k ih=>
   intro i H K hik hP
   have hi:i<s.solid:=by omega
   have hil:i<s.l.length:=by omega
   have hRl:=hR.len
   obtain rfl:=hn6 (by intro e;rw [e] at hil;simp at hil)
   have hkl:s.kr.length=s.l.length:=by rw [hkr];exact krP_len p s.l 0
   obtain rfl:=hn1 (by intro e;rw [e] at hkl;simp at hkl;omega)
   have hpos:=pos_ok (p:=p) hR hah hx.1 i (by omega)
   have hat:=hpos.2 hil
   have hstop:=fun st=>stop253 (st:=st) (atW p s.l i (posW p s.l s.ahead x i)) (by omega)
   have hgR:=hR.ok i hil
   have g0:=getM hil
   have gT:((s.l.take s.solid).map Mass.dv)[i]? = some (s.l.getD i mz).dv:=by
    rw [List.getElem?_map,List.getElem?_take,if_pos hi,g0];rfl
   have lT:i<((s.l.take s.solid).map Mass.dv).length:=by simp;omega
   have gT':((s.l.take s.solid).map Mass.dv)[i]'lT=(s.l.getD i mz).dv:=by rw [List.getElem?_eq_getElem lT] at gT;exact Option.some.inj gT
   have lTl:((s.l.take s.solid).map Mass.dv).length=s.solid:=by simp;omega
   have lK:i<(s.kr.map DV.bool).length:=by simp;omega
   have gK:(s.kr.map DV.bool)[i]? = some (.bool (decide (0<i) && !partB p (s.l.getD i mz).a)):=by
    rw [hkr,List.getElem?_map,krP_get p s.l 0 i hil];simp
   have gK':(s.kr.map DV.bool)[i]'lK=.bool (decide (0<i) && !partB p (s.l.getD i mz).a):=by rw [List.getElem?_eq_getElem lK] at gK;exact Option.some.inj gK
   obtain ⟨H',K',hV,hP'⟩:=step i hi H K hP
   obtain ⟨H2,K2,hP2,fr,hJ⟩:=ih (i+1) H' K' (by omega) hP'
   refine ⟨H2,K2,hP2,fr,?_⟩
   have hrow:=row_at (hr _ _ _ hP) [.cells .plain (s.l.getD i mz).cs]
   have hw1:IntKind.i64.wrap ((i:Int)+1)=((i+1:Nat):Int):=by rw [i64w (by omega)];omega
   have hposS:posW p s.l s.ahead x (i+1)=atW p s.l i (posW p s.l s.ahead x i)+wdW s.l s.ahead i (atW p s.l i (posW p s.l s.ahead x i)):=rfl
   rw [hposS] at hJ
   have hle:=leapI_le (a:=atW p s.l i (posW p s.l s.ahead x i)) (by omega)
   have hw2:IntKind.i64.wrap (posW p s.l s.ahead x i+(s.l.getD i mz).e)=posW p s.l s.ahead x i+(s.l.getD i mz).e:=i64w (by omega)
   have hwd:0≤wdW s.l s.ahead i (atW p s.l i (posW p s.l s.ahead x i))∧wdW s.l s.ahead i (atW p s.l i (posW p s.l s.ahead x i))≤4095:=by
    unfold wdW
    split
    · omega
    · split<;>omega
   have hw3:IntKind.i64.wrap (atW p s.l i (posW p s.l s.ahead x i)+wdW s.l s.ahead i (atW p s.l i (posW p s.l s.ahead x i)))=atW p s.l i (posW p s.l s.ahead x i)+wdW s.l s.ahead i (atW p s.l i (posW p s.l s.ahead x i)):=i64w (by omega)
   have hw4:IntKind.i64.wrap (leapI (atW p s.l i (posW p s.l s.ahead x i))-atW p s.l i (posW p s.l s.ahead x i))=leapI (atW p s.l i (posW p s.l s.ahead x i))-atW p s.l i (posW p s.l s.ahead x i):=i64w (by omega)
   have hatw:atW p s.l i (posW p s.l s.ahead x i)=if (decide (0<i) && !partB p (s.l.getD i mz).a)=true then posW p s.l s.ahead x i+(s.l.getD i mz).e else posW p s.l s.ahead x i:=rfl
   have hwdw:wdW s.l s.ahead i (atW p s.l i (posW p s.l s.ahead x i))=if i<s.ahead then 0 else if (s.l.getD i mz).k=4 then leapI (atW p s.l i (posW p s.l s.ahead x i))-atW p s.l i (posW p s.l s.ahead x i) else (s.l.getD i mz).w:=rfl
   generalize atW p s.l i (posW p s.l s.ahead x i)=AT at *
   generalize wdW s.l s.ahead i AT=WD at *
   generalize posW p s.l s.ahead x i=PO at *
   generalize posW p s.l s.ahead x s.solid=PE at *
   generalize (decide (0<i) && !partB p (s.l.getD i mz).a)=KB at *
   generalize (s.l.take s.solid).map Mass.dv=VT at *
   generalize s.l.getD i mz=m at *
   generalize hKV:s.kr.map DV.bool=KV at *
   subst hkv
   rw [C_turn (L:=f224L0) rfl]
   simp only [Sg.cs] at hrow
   have hi':(i:Int)<s.solid:=by omega
   cases KB with
   | true=>
     simp only [if_true] at hatw
     by_cases c1:i<s.ahead
     · rw [if_pos c1] at hwdw
       simp [Mass.cs,Mass.dv,hwdw,hatw] at hV hJ hrow hw3 gT gT' ⊢
       simp [f224B0,hi,hi',gT,gT',lT,lTl,gK,gK',lK,hrow,hw2,c1,hw1,hw3,hV]
       exact hJ
     · rw [if_neg c1] at hwdw
       by_cases c2:m.k=4
       · rw [if_pos c2] at hwdw
         simp [Mass.cs,Mass.dv,hwdw,hatw,c2] at hV hJ hrow hw3 hw4 gT gT' hstop ⊢
         simp [f224B0,hi,hi',gT,gT',lT,lTl,gK,gK',lK,hrow,hw2,c1,c2,hw1,hw3,hw4,hstop,hV]
         exact hJ
       · rw [if_neg c2] at hwdw
         simp [Mass.cs,Mass.dv,hwdw,hatw] at hV hJ hrow hw3 gT gT' ⊢
         simp [f224B0,hi,hi',gT,gT',lT,lTl,gK,gK',lK,hrow,hw2,c1,c2,hw1,hw3,hV]
         exact hJ
   | false=>
     simp only [Bool.false_eq_true,if_false] at hatw
     by_cases c1:i<s.ahead
     · rw [if_pos c1] at hwdw
       simp [Mass.cs,Mass.dv,hwdw,hatw] at hV hJ hrow hw3 gT gT' ⊢
       simp [f224B0,hi,hi',gT,gT',lT,lTl,gK,gK',lK,hrow,c1,hw1,hw3,hV]
       exact hJ
     · rw [if_neg c1] at hwdw
       by_cases c2:m.k=4
       · rw [if_pos c2] at hwdw
         simp [Mass.cs,Mass.dv,hwdw,hatw,c2] at hV hJ hrow hw3 hw4 gT gT' hstop ⊢
         simp [f224B0,hi,hi',gT,gT',lT,lTl,gK,gK',lK,hrow,c1,c2,hw1,hw3,hw4,hstop,hV]
         exact hJ
       · rw [if_neg c2] at hwdw
         simp [Mass.cs,Mass.dv,hwdw,hatw] at hV hJ hrow hw3 gT gT' ⊢
         simp [f224B0,hi,hi',gT,gT',lT,lTl,gK,gK',lK,hrow,c1,c2,hw1,hw3,hV]
         exact hJ
theorem slice_take {n en t:Nat} {tk:Tk} {nn:Bool} {L:List Mass} {b:Nat} (hn:nn=true→en=n) (hb:b≤L.length) :
 sliceD false n (.list t en tk nn (L.map Mass.dv)) none (some (.int .i64 b)) none=some (.list t en (slTk tk L.length 0 b) nn ((L.take b).map Mass.dv)):=by
 rw [slice_u hn (by omega) (by simp;omega)]
 simp [List.map_take]
theorem walk_whole {p:Para} {s:Sg} {lv kv:DV} {t n:Nat} {tk:Tk} {nn:Bool} (hkv:kv=.list t n tk nn (s.kr.map DV.bool)) (hn1:s.kr≠[]→n=1)
 {ts ns:Nat} {tks:Tk} {nns:Bool} (hlv:lv=.list ts ns tks nns (s.l.map Mass.dv)) (hn6:s.l≠[]→ns=6) (hnn:nns=true→ns=6) (hkr:s.kr=krP p 0 s.l) (hR:RowOk s.l) (hah:∀ i,i<s.ahead→(s.l.getD i mz).k=3) (hsol:s.solid≤s.l.length) {x:Int} (hx:0≤x∧x≤5000)
 (y:DV) (P:Nat→List HO→List Nat→Prop) {H:List HO} {K:List Nat} (hr:∀ i H' K',P i H' K'→rowAt H' H.length=some (.plain,s.cs lv kv)) (h0:P 0 (H++[.cells .plain (s.cs lv kv)]) K)
 (step:∀ i (hi:i<s.solid) H K,P i H K→∃ H' K',(E tab).V y [.int .i64 i,.int .i64 (atW p s.l i (posW p s.l s.ahead x i)),.int .i64 (wdW s.l s.ahead i (atW p s.l i (posW p s.l s.ahead x i)))] (pst st (H++[.cells .plain (s.l.getD i mz).cs]) K)=some (.tuple [],pst st H' K')∧P (i+1) H' K') :
 ∃ H' K',P s.solid H' K'∧(E tab).F 224 [.agg (s.cs lv kv),.int .i64 x,y] (pst st H K)=some (.int .i64 (posW p s.l s.ahead x s.solid),pst st H' K'):=by
 obtain ⟨H',K',hP,fr,hJ⟩:=walk_gen (st:=st) (ts:=ts) (tks:=slTk tks s.l.length 0 s.solid) (nns:=nns) hkv hn1 hn6 hkr hR hah hsol hx y H.length P hr step s.solid 0 _ K (by omega) h0
 refine ⟨H',K',hP,?_⟩
 rw [F_go at224 rfl]
 have hsl:=slice_take (n:=6) (t:=ts) (tk:=tks) (L:=s.l) (b:=s.solid) hnn hsol
 have hVl:((s.l.take s.solid).map Mass.dv).length=s.solid:=by simp;omega
 subst hlv hkv
 generalize (s.l.take s.solid).map Mass.dv=VT at *
 generalize s.l.map Mass.dv=VL at *
 generalize s.kr.map DV.bool=VK at *
 simp only [Sg.cs] at hJ ⊢
 simp [posW] at hJ hsl
 simp [f224,hsl,hVl,hJ]
end
def blN:List Mass→Nat
 | []=>0
 | m::r=>(if m.k=3 then 1 else 0)+blN r
def blS:List Mass→Int
 | []=>0
 | m::r=>(if m.k=3 then m.w/3 else 0)+blS r
theorem blN_le:∀ l:List Mass,blN l≤l.length
 | []=>Nat.le_refl _
 | m::r=>by have:=blN_le r;simp only [blN,List.length_cons];split<;>omega
theorem blS_le:∀ l:List Mass,l.all okM=true→0≤blS l∧blS l≤1365*l.length
 | [],_=>by simp [blS]
 | m::r,h=>by
   simp only [List.all_cons,Bool.and_eq_true] at h
   have:=blS_le r h.2
   have hm:=okM_of h.1
   simp only [blS,List.length_cons];split<;>omega
theorem blN_app:∀ l r:List Mass,blN (l++r)=blN l+blN r
 | [],r=>by simp [blN]
 | m::l,r=>by simp only [List.cons_append,blN,blN_app l r];omega
theorem blS_app:∀ l r:List Mass,blS (l++r)=blS l+blS r
 | [],r=>by simp [blS]
 | m::l,r=>by simp only [List.cons_append,blS,blS_app l r];omega
def movedN (al ex:Int):Int:=if al=2 then max ex 0 else if al=3 then max ex 0/2 else 0
section
variable {st:St}
theorem L226_0 {zs:List Mass} (hl:zs.length≤4096) (hok:zs.all okM=true) {t n:Nat} {tk:Tk} {nn:Bool} (h6:zs≠[]→n=6) (K:List Nat):∀ (r d:List Mass) (H:List HO),zs=d++r→∃ fr J,
 (E tab).C f226L0 [(4,.int .i64 (blN d)),(5,.int .i64 (blS d)),(14,.list t n tk nn (zs.map Mass.dv)),(15,.int .i64 zs.length),(16,.int .i64 d.length)] (pst st H K) =
  some (.exit 0,(4,.int .i64 (blN zs))::(5,.int .i64 (blS zs))::fr,pst st (H++J) K):=by
 intro r
 induction r with
 | nil=>
   intro d H hd
   rw [List.append_nil] at hd
   subst hd
   refine ⟨[(14,.list t n tk nn (zs.map Mass.dv)),(15,.int .i64 zs.length),(16,.int .i64 zs.length),(17,.bool false)],[],?_⟩
   rw [C_turn (L:=f226L0) rfl]
   simp [f226B0]
 | cons m r ih=>
   intro d H hd
   have h0:d.length<zs.length:=by simp [hd]
   obtain rfl:=h6 (by rw [hd];simp)
   have hw:IntKind.i64.wrap ((d.length:Int)+1)=((d++[m]).length:Nat):=by rw [i64w (by omega)];simp
   have hg:zs[d.length]=m:=by simp [hd]
   obtain ⟨fr,J,hJ⟩:=ih (d++[m]) (H++[.cells .plain m.cs]) (by simp [hd])
   refine ⟨fr,.cells .plain m.cs::J,?_⟩
   have hmk:=List.all_eq_true.1 hok m (by rw [hd];simp)
   have hm:=okM_of hmk
   have hb1:=blN_le d
   have hb2:=blS_le d (by rw [hd,List.all_append,Bool.and_eq_true] at hok;exact hok.1)
   have w1:IntKind.i64.wrap ((blN d:Int)+1)=(blN d:Int)+1:=i64w (by omega)
   have w2:IntKind.i64.wrap (m.w.tdiv 3)=m.w/3:=by rw [Int.tdiv_eq_ediv_of_nonneg hm.1,i64w (by omega)]
   have w3:IntKind.i64.wrap (blS d+m.w/3)=blS d+m.w/3:=i64w (by omega)
   rw [C_turn (L:=f226L0) rfl]
   rw [blN_app,blS_app] at hJ
   by_cases h3:m.k=3
   · simp [h3,Mass.cs,blN,blS] at hJ ⊢
     simp [f226B0,h0,hw,hg,Mass.cs,Mass.dv,h3,w1,w2,w3]
     exact hJ
   · simp [h3,Mass.cs,blN,blS] at hJ ⊢
     simp [f226B0,h0,hw,hg,Mass.cs,Mass.dv,h3]
     exact hJ
theorem L227_0 {zs:List Mass} (hl:zs.length≤4096) {t n:Nat} {tk:Tk} {nn:Bool} (h6:zs≠[]→n=6) (K:List Nat):∀ (r d:List Mass) (H:List HO),zs=d++r→∃ fr J,
 (E tab).C f227L0 [(6,.list t n tk nn (zs.map Mass.dv)),(7,.int .i64 zs.length),(8,.int .i64 d.length)] (pst st H K) =
  some (if r.any (fun m=>decide (m.k=4)) then .ret else .exit 0,if r.any (fun m=>decide (m.k=4)) then [(2,.bool true)] else fr,pst st (H++J) K):=by
 intro r
 induction r with
 | nil=>
   intro d H hd
   rw [List.append_nil] at hd
   subst hd
   refine ⟨[(6,.list t n tk nn (zs.map Mass.dv)),(7,.int .i64 zs.length),(8,.int .i64 zs.length),(9,.bool false)],[],?_⟩
   rw [C_turn (L:=f227L0) rfl]
   simp [f227B0]
 | cons m r ih=>
   intro d H hd
   have h0:d.length<zs.length:=by simp [hd]
   obtain rfl:=h6 (by rw [hd];simp)
   have hw:IntKind.i64.wrap ((d.length:Int)+1)=((d++[m]).length:Nat):=by rw [i64w (by omega)];simp
   have hg:zs[d.length]=m:=by simp [hd]
   obtain ⟨fr,J,hJ⟩:=ih (d++[m]) (H++[.cells .plain m.cs]) (by simp [hd])
   by_cases h4:m.k=4
   · refine ⟨[],[.cells .plain m.cs],?_⟩
     rw [C_turn (L:=f227L0) rfl]
     simp [f227B0,h0,hw,hg,Mass.cs,Mass.dv,h4]
   · refine ⟨fr,.cells .plain m.cs::J,?_⟩
     rw [C_turn (L:=f227L0) rfl]
     simp only [List.any_cons,h4,decide_false,Bool.false_or]
     generalize r.any (fun m=>decide (m.k=4))=B at *
     simp [Mass.cs] at hJ ⊢
     simp [f227B0,h0,hw,hg,Mass.cs,Mass.dv,h4]
     exact hJ
theorem blanks226 {s:Sg} {ts ns:Nat} {tks:Tk} {nns:Bool} {kv:DV} (hn6:s.l≠[]→ns=6) (hnn:nns=true→ns=6) (hlen:s.l.length≤4096) (hok:s.l.all okM=true) (h1:s.ahead≤s.solid) (h2:s.solid≤s.l.length) (hkv:kv.leaves=[kv]) (hks:kv.scal=true) :
 (E tab).F 226 [.agg (s.cs (.list ts ns tks nns (s.l.map Mass.dv)) kv)] st=some (.tuple [.int .i64 (blN ((s.l.take s.solid).drop s.ahead)),.int .i64 (blS ((s.l.take s.solid).drop s.ahead))],st):=by
 rw [F_run at226 rfl]
 have hsl:sliceD false 6 (.list ts ns tks nns (s.l.map Mass.dv)) (some (.int .i64 s.ahead)) (some (.int .i64 s.solid)) none=some (.list ts ns (slTk tks s.l.length s.ahead s.solid) nns (((s.l.take s.solid).drop s.ahead).map Mass.dv)):=by
  rw [slice_ll hnn (by omega) (by omega) (by simp;omega)]
  simp [List.map_drop,List.map_take,List.drop_take]
 obtain ⟨fr,J,hJ⟩:=L226_0 (st:=st) (zs:=(s.l.take s.solid).drop s.ahead) (by simp;omega) (List.all_eq_true.2 fun m hm=>List.all_eq_true.1 hok m (List.mem_of_mem_take (List.mem_of_mem_drop hm))) (t:=ts) (n:=ns) (tk:=slTk tks s.l.length s.ahead s.solid) (nn:=nns) (fun h=>hn6 (by intro e;rw [e] at h;simp at h)) [] _ [] [.cells .plain (s.cs (.list ts ns tks nns (s.l.map Mass.dv)) kv)] rfl
 have hVl:(((s.l.take s.solid).drop s.ahead).map Mass.dv).length=((s.l.take s.solid).drop s.ahead).length:=by simp
 generalize hZ:(s.l.take s.solid).drop s.ahead=Z at *
 generalize Z.map Mass.dv=VZ at *
 generalize s.l.map Mass.dv=VL at *
 simp only [Sg.cs] at hJ ⊢
 simp [blN,blS] at hJ
 simp [f226,hsl,hVl,hJ,hkv,hks]
theorem tabs227 {s:Sg} {ts ns:Nat} {tks:Tk} {nns:Bool} {kv:DV} (hn6:s.l≠[]→ns=6) (hlen:s.l.length≤4096) (hkv:kv.leaves=[kv]) (hks:kv.scal=true) :
 (E tab).F 227 [.agg (s.cs (.list ts ns tks nns (s.l.map Mass.dv)) kv)] st=some (.bool (s.l.any fun m=>decide (m.k=4)),st):=by
 rw [F_run at227 rfl]
 obtain ⟨fr,J,hJ⟩:=L227_0 (st:=st) (zs:=s.l) hlen (t:=ts) (n:=ns) (tk:=tks) (nn:=nns) hn6 [] s.l [] [.cells .plain (s.cs (.list ts ns tks nns (s.l.map Mass.dv)) kv)] rfl
 have hVl:(s.l.map Mass.dv).length=s.l.length:=by simp
 generalize (s.l.any fun m=>decide (m.k=4))=B at *
 generalize s.l.map Mass.dv=VL at *
 simp only [Sg.cs] at hJ ⊢
 cases B with
 | true=>simp at hJ;simp [f227,hVl,hJ,hkv,hks]
 | false=>simp at hJ;simp [f227,hVl,hJ,hkv,hks]
theorem first228 {p:Para} {w u:LW} {s:Sg} {lv kv:DV} (hn:nextN p.text 0=0) (h1:lv.leaves=[lv]) (h2:lv.scal=true) (hkv:kv.leaves=[kv]) (hks:kv.scal=true) :
 (E tab).F 228 [.agg (s.cs lv kv),.agg (paraCs p w u)] st=some (.int .i64 (nextB p.text 0),st):=by
 rw [F_run at228 rfl]
 have h:=fun st=>next212 (st:=st) p.text 0
 rw [hn] at h
 simp only [Sg.cs]
 simp [f228,h,hkv,hks,h1,h2]
theorem moved229 (al ex:Int) (h:0≤al∧al≤3) (he:-1000000000000≤ex∧ex≤1000000000000):(E tab).F 229 [.int .i64 al,.int .i64 ex] st=some (.int .i64 (movedN al ex),st):=by
 rw [F_run at229 rfl]
 have h254:∀ st,(E tab).F 254 [.agg [.int .i64 ex]] st=some (.int .i64 0,st):=by
  intro st;rw [F_run at254 rfl];simp [f254]
 have hm:=maxI ex 0
 have h255:∀ st,(E tab).F 255 [.agg [.int .i64 ex]] st=some (.int .i64 (max ex 0),st):=by
  intro st;rw [F_run at255 rfl];simp [f255,hm]
 have w2:IntKind.i64.wrap ((max ex 0).tdiv 2)=max ex 0/2:=by rw [Int.tdiv_eq_ediv_of_nonneg (by omega),i64w (by omega)]
 have h256:∀ st,(E tab).F 256 [.agg [.int .i64 ex]] st=some (.int .i64 (max ex 0/2),st):=by
  intro st;rw [F_run at256 rfl];simp [f256,hm,w2]
 have hc:al=0∨al=1∨al=2∨al=3:=by omega
 rcases hc with rfl | rfl | rfl | rfl
 · simp [f229,V_fn,h254,movedN]
 · simp [f229,V_fn,h254,movedN]
 · simp [f229,V_fn,h255,movedN]
 · simp [f229,V_fn,h256,movedN]
end
structure Gl where
 f:Int
 t:Int
 x:Int
 w:Int
def Gl.cs (g:Gl):List DV:=[.int .i64 g.f,.int .i64 g.t,.int .i64 g.x,.int .i64 g.w]
def Gl.dv (g:Gl):DV:=.agg g.cs
theorem el_gl (g:Gl):IsEl 4 true g.dv:=⟨rfl,rfl,rfl⟩
def tkn (sp:Bool) (ex all k:Int):Int:=if sp then (ex*k).tdiv all else 0
def prt (neg:Bool) (m:Mass):Int:=if neg then m.w/3 else 1
theorem at230:tab 230=some (.code f230):=by kernel_rfl
theorem at231:tab 231=some (.code f231):=by kernel_rfl
theorem at232:tab 232=some (.code f232):=by kernel_rfl
theorem at233:tab 233=some (.code f233):=by kernel_rfl
def HC (A:List HO) (sp:Bool) (ov:DV) (add k all:Int) (pf tf:DV) (en:Int) (J:List HO):List HO:=
 A++.cells .plain [.bool sp]::.cells .plain [ov]::.cells .plain [.int .i64 add]::.cells .plain [.int .i64 k]::.cells .plain [.int .i64 all]::.cells .plain [pf]::.cells .plain [tf]::.cells .plain [.int .i64 en]::J
def fnP (neg:Bool):DV:=.fn (if neg then 231 else 230) [] []
def fnT (st:St) (A:List HO):DV:=.fn 232 [] [.ptr (st.heap.length+A.length) 0,.ptr (st.heap.length+3) 0,.ptr (st.heap.length+(A.length+3)) 0,.ptr (st.heap.length+(A.length+4)) 0]
theorem tdiv_abs (a b:Int):-a.natAbs≤a.tdiv b∧a.tdiv b≤a.natAbs:=by
 have h:=Int.natAbs_tdiv_le_natAbs a b
 omega
theorem tkn_le {sp:Bool} {ex all k:Int} (h1:-100000000≤ex∧ex≤100000000) (h2:0≤k∧k≤10000000):-1000000000000000≤tkn sp ex all k∧tkn sp ex all k≤1000000000000000 ∧ -1000000000000000≤ex*k∧ex*k≤1000000000000000:=by
 have h3:ex*k≤100000000*10000000:=by
  have:=Int.mul_le_mul_of_nonneg_right h1.2 h2.1
  have:=Int.mul_le_mul_of_nonneg_left h2.2 (show (0:Int)≤100000000 by omega)
  omega
 have h4:-100000000*10000000≤ex*k:=by
  have:=Int.mul_le_mul_of_nonneg_right h1.1 h2.1
  have:=Int.mul_le_mul_of_nonneg_left h2.2 (show (0:Int)≤100000000 by omega)
  omega
 have h5:=tdiv_abs (ex*k) all
 unfold tkn
 split<;>omega
section
variable {st:St}
theorem part_run (neg:Bool) (m:Mass) (hm:okM m=true):(E tab).V (fnP neg) [m.dv] st=some (.int .i64 (prt neg m),st):=by
 unfold fnP
 rw [V_fn]
 cases neg with
 | true=>
   have hw:=okM_of hm
   have h3:IntKind.i64.wrap (m.w.tdiv 3)=m.w/3:=by rw [Int.tdiv_eq_ediv_of_nonneg hw.1,i64w (by omega)]
   simp only [if_true,List.nil_append,List.append_nil]
   rw [F_run at231 rfl]
   simp [f231,Mass.dv,Mass.cs,h3,prt]
 | false=>
   simp only [Bool.false_eq_true,if_false,List.nil_append,List.append_nil]
   rw [F_run at230 rfl]
   simp [f230,Mass.dv,Mass.cs,prt]
theorem taken_run {A J:List HO} {K:List Nat} {sp:Bool} {ov pf tf:DV} {add k all en ex:Int} (hE:∀ X,rowAt (A++X) 3=some (.plain,[.int .i64 ex])) (h1:-100000000≤ex∧ex≤100000000) (h2:0≤k∧k≤10000000) (h3:sp=true→all≠0) :
 (E tab).V (fnT st A) [] (pst st (HC A sp ov add k all pf tf en J) K)=some (.int .i64 (tkn sp ex all k),pst st (HC A sp ov add k all pf tf en J) K):=by
 unfold fnT
 rw [V_fn]
 simp only [List.nil_append]
 rw [F_go at232 rfl]
 have hb:=tkn_le (sp:=sp) (all:=all) h1 h2
 cases sp with
 | true=>
   have w1:IntKind.i64.wrap (ex*k)=ex*k:=i64w (by omega)
   have hb':=hb
   simp only [tkn,if_true] at hb
   have w2:IntKind.i64.wrap ((ex*k).tdiv all)=(ex*k).tdiv all:=i64w (by omega)
   simp [f232,HC,hE,w1,w2,h3 rfl,tkn]
 | false=>simp [f232,HC,tkn]
def clOps (N:Nat):List ROper:=[
 ⟨some 21,.faddr 0 (.t 13),none⟩,
 ⟨some 22,.load 1 false (.t 21),none⟩,
 ⟨some 23,.faddr 1 (.t 13),none⟩,
 ⟨some 24,.load 1 false (.t 23),none⟩,
 ⟨some 25,.mv (.t 1),none⟩,
 ⟨some 26,.load 1 false (.t 4),none⟩,
 ⟨some 27,.bin .add (.t 25) (.t 26),none⟩,
 ⟨some 28,.load 1 false (.t 5),none⟩,
 ⟨some 29,.callv (.t 28) [],none⟩,
 ⟨some 30,.bin .add (.t 27) (.t 29),none⟩,
 ⟨some 31,.mv (.t 2),none⟩,
 ⟨some 32,.build [.int .i64 0,.int .i64 0,.int .i64 0,.int .i64 0] [(0,1,(.t 22)),(1,1,(.t 24)),(2,1,(.t 30)),(3,1,(.t 31))],none⟩,
 ⟨some 14,.got (.ptr N 0) [],none⟩,
 ⟨none,.store 4 (.t 14) (.t 32),none⟩]
theorem client_head {A J:List HO} {K:List Nat} {sp:Bool} {ov:DV} {add k all en ex:Int} {pf:DV} {i:Int} {s:Sg} {lv kv:DV} (m:Mass) (at_ w:Int)
 (hE:∀ X,rowAt (A++X) 3=some (.plain,[.int .i64 ex])) (h1:-100000000≤ex∧ex≤100000000) (h2:0≤k∧k≤10000000) (h3:sp=true→all≠0) (h4:0≤at_∧at_≤100000000) (h5:0≤add∧add≤100000000) :
 (E tab).C (.dregion f233r1 [12] [(1,[1]),(3,[1]),(5,[1])] [0,3,5,6,7,8,9,13,14]) [(0,.int .i64 i),(1,.int .i64 at_),(2,.int .i64 w),(3,.ptr (st.heap.length+2) 0),(4,.ptr (st.heap.length+(A.length+2)) 0),(5,.ptr (st.heap.length+(A.length+6)) 0),(6,.ptr (st.heap.length+(A.length+3)) 0),(7,.ptr (st.heap.length+(A.length+5)) 0),(8,.ptr (st.heap.length+(A.length+1)) 0),(9,.ptr (st.heap.length+(A.length+7)) 0),(13,.ptr (st.heap.length+(A.length+(J.length+8))) 0)]
  (pst st (HC A sp ov add k all pf (fnT st A) en (J++[.cells .plain m.cs])) K) =
  some (.normal,[(0,.int .i64 i),(3,.ptr (st.heap.length+2) 0),(5,.ptr (st.heap.length+(A.length+6)) 0),(6,.ptr (st.heap.length+(A.length+3)) 0),(7,.ptr (st.heap.length+(A.length+5)) 0),(8,.ptr (st.heap.length+(A.length+1)) 0),(9,.ptr (st.heap.length+(A.length+7)) 0),(13,.ptr (st.heap.length+(A.length+(J.length+8))) 0),(14,.ptr (st.heap.length+(A.length+(J.length+9))) 0)],
   pst st (HC A sp ov add k all pf (fnT st A) en (J++[.cells .plain m.cs,.cells .plain (Gl.cs ⟨m.a,m.b,at_+add+tkn sp ex all k,w⟩)])) K):=by
 have hp:prepH [(0,.int .i64 i),(1,.int .i64 at_),(2,.int .i64 w),(3,.ptr (st.heap.length+2) 0),(4,.ptr (st.heap.length+(A.length+2)) 0),(5,.ptr (st.heap.length+(A.length+6)) 0),(6,.ptr (st.heap.length+(A.length+3)) 0),(7,.ptr (st.heap.length+(A.length+5)) 0),(8,.ptr (st.heap.length+(A.length+1)) 0),(9,.ptr (st.heap.length+(A.length+7)) 0),(13,.ptr (st.heap.length+(A.length+(J.length+8))) 0)] [12]
  (pst st (HC A sp ov add k all pf (fnT st A) en (J++[.cells .plain m.cs])) K) f233r1=some (pst st (HC A sp ov add k all pf (fnT st A) en (J++[.cells .plain m.cs,.cells .plain [.int .i64 0,.int .i64 0,.int .i64 0,.int .i64 0]])) K,clOps (st.heap.length+(A.length+(J.length+9)))):=by
  simp [prepH,f233r1,qrun,isLoud,loudD,prep,freeD,gotX,clOps,HC,Mass.cs]
 rw [C_dregionP hp]
 have hb:=tkn_le (sp:=sp) (all:=all) h1 h2
 have htk:=taken_run (st:=st) (A:=A) (J:=J++[.cells .plain m.cs,.cells .plain [.int .i64 0,.int .i64 0,.int .i64 0,.int .i64 0]]) (K:=K) (sp:=sp) (ov:=ov) (pf:=pf) (tf:=fnT st A) (add:=add) (k:=k) (all:=all) (en:=en) hE h1 h2 h3
 have w1:IntKind.i64.wrap (at_+add)=at_+add:=i64w (by omega)
 have w2:IntKind.i64.wrap (at_+add+tkn sp ex all k)=at_+add+tkn sp ex all k:=i64w (by omega)
 generalize tkn sp ex all k=T at *
 simp only [HC,Mass.cs,Gl.cs] at htk ⊢
 generalize hF:fnT st A=FT at *
 have hFl:FT.leaves=[FT]∧FT.scal=true:=by subst hF;exact ⟨rfl,rfl⟩
 simp [S_cons,A_cons,K_cons,loudD,clOps,htk,w1,w2,hFl]
def kNext (s:Sg) (neg:Bool) (i:Nat) (k:Int):Int:=if (s.l.getD i mz).k=3∧s.ahead≤i then k+prt neg (s.l.getD i mz) else k
def glOf (s:Sg) (neg sp:Bool) (ex all add:Int) (i:Nat) (at_ w k:Int):Gl:=⟨(s.l.getD i mz).a,(s.l.getD i mz).b,at_+add+tkn sp ex all k,w+(tkn sp ex all (kNext s neg i k)-tkn sp ex all k)⟩
theorem client233 {A J:List HO} {K:List Nat} {sp neg:Bool} {ov:DV} {add k all en ex:Int} {s:Sg} {ts ns:Nat} {tks:Tk} {nns:Bool} {kv:DV} {gs:List Gl} (hn6:s.l≠[]→ns=6) (hok:s.l.all okM=true) {i:Nat} (hi:i<s.l.length) {at_ w:Int} (hlen:s.l.length≤4096)
 (hS:∀ X,rowAt (A++X) 2=some (.plain,s.cs (.list ts ns tks nns (s.l.map Mass.dv)) kv)) (hE:∀ X,rowAt (A++X) 3=some (.plain,[.int .i64 ex])) (h1:-100000000≤ex∧ex≤100000000) (h2:0≤k∧k≤9000000) (h3:sp=true→all≠0) (h4:0≤at_∧at_≤100000000) (h5:0≤add∧add≤100000000) (h6:0≤w∧w≤4095)
 (hA:Acc st K 4 (gs.map Gl.dv) ov) (hgs:gs.length≤10000) :
 ∃ ov' K',(E tab).F 233 [.int .i64 i,.int .i64 at_,.int .i64 w,.ptr (st.heap.length+2) 0,.ptr (st.heap.length+(A.length+2)) 0,.ptr (st.heap.length+(A.length+6)) 0,.ptr (st.heap.length+(A.length+3)) 0,.ptr (st.heap.length+(A.length+5)) 0,.ptr (st.heap.length+(A.length+1)) 0,.ptr (st.heap.length+(A.length+7)) 0] (pst st (HC A sp ov add k all (fnP neg) (fnT st A) en J) K) =
   some (.tuple [],pst st (HC A sp ov' add (kNext s neg i k) all (fnP neg) (fnT st A) ((glOf s neg sp ex all add i at_ w k).x+(glOf s neg sp ex all add i at_ w k).w) (J++[.cells .plain (s.l.getD i mz).cs,.cells .plain (glOf s neg sp ex all add i at_ w k).cs])) K') ∧
   Acc st K' 4 ((gs++[glOf s neg sp ex all add i at_ w k]).map Gl.dv) ov':=by
 obtain ⟨ov',K',hap,hA'⟩:=acc_app (H:=HC A sp ov add (kNext s neg i k) all (fnP neg) (fnT st A) en (J++[.cells .plain (s.l.getD i mz).cs,.cells .plain (glOf s neg sp ex all add i at_ w k).cs])) (by_:=32) (ag:=true) (tk:=.tight) (t:=st.cur) (ys:=[(glOf s neg sp ex all add i at_ w k).dv]) hA (by omega) (by simp) (by simp [el_gl]) (by simp [roomD];omega) (by simp [roomD];omega)
 refine ⟨ov',K',?_,by simpa using hA'⟩
 have g0:=getMD hi
 have l0:i<(s.l.map Mass.dv).length:=by simpa using hi
 have hmo:=List.all_eq_true.1 hok (s.l.getD i mz) (List.mem_of_getElem? (getM hi))
 have hmw:=okM_of hmo
 obtain rfl:=hn6 (by intro e;rw [e] at hi;simp at hi)
 have g0':(s.l.map Mass.dv)[i]'l0=(s.l.getD i mz).dv:=by rw [List.getElem?_eq_getElem l0] at g0;exact Option.some.inj g0
 have hk2:0≤kNext s neg i k∧kNext s neg i k≤10000000:=by
  unfold kNext prt
  split
  · split<;>omega
  · omega
 have hch:=fun at_ w h4=>client_head (st:=st) (A:=A) (J:=J) (K:=K) (sp:=sp) (ov:=ov) (add:=add) (k:=k) (all:=all) (en:=en) (ex:=ex) (pf:=fnP neg) (i:=(i:Int)) (s:=s) (lv:=ov) (kv:=ov) (s.l.getD i mz) at_ w hE h1 ⟨h2.1,by omega⟩ h3 h4 h5
 have hch:=hch at_ w h4
 have hpt:=fun st=>part_run (st:=st) neg (s.l.getD i mz) hmo
 have htk1:=taken_run (st:=st) (A:=A) (J:=J++[.cells .plain (s.l.getD i mz).cs,.cells .plain (Gl.cs ⟨(s.l.getD i mz).a,(s.l.getD i mz).b,at_+add+tkn sp ex all k,w⟩)]) (K:=K) (sp:=sp) (ov:=ov) (pf:=fnP neg) (tf:=fnT st A) (add:=add) (k:=k) (all:=all) (en:=en) hE h1 ⟨h2.1,by omega⟩ h3
 have htk2:=taken_run (st:=st) (A:=A) (J:=J++[.cells .plain (s.l.getD i mz).cs,.cells .plain (Gl.cs ⟨(s.l.getD i mz).a,(s.l.getD i mz).b,at_+add+tkn sp ex all k,w⟩)]) (K:=K) (sp:=sp) (ov:=ov) (pf:=fnP neg) (tf:=fnT st A) (add:=add) (k:=kNext s neg i k) (all:=all) (en:=en) hE h1 hk2 h3
 have hb1:=tkn_le (sp:=sp) (all:=all) h1 (k:=k) ⟨h2.1,by omega⟩
 have hb2:=tkn_le (sp:=sp) (all:=all) h1 hk2
 have hS2:∀ X,rowAt (A++X) 2=some (.plain,[.list ts 6 tks nns (s.l.map Mass.dv),kv,.int .i64 s.ahead,.int .i64 s.solid,.int .i64 s.drop,.int .i64 s.hyph]):=hS
 rw [F_go at233 rfl]
 unfold glOf at hap ⊢
 generalize hT1:tkn sp ex all k=T1 at *
 by_cases hc:(s.l.getD i mz).k=3∧s.ahead≤i
 · have hkn:kNext s neg i k=k+prt neg (s.l.getD i mz):=if_pos hc
   have wk:IntKind.i64.wrap (k+prt neg (s.l.getD i mz))=k+prt neg (s.l.getD i mz):=i64w (by omega)
   generalize hT2:tkn sp ex all (kNext s neg i k)=T2 at *
   have w5:IntKind.i64.wrap (T2-T1)=T2-T1:=i64w (by omega)
   have w6:IntKind.i64.wrap (w+(T2-T1))=w+(T2-T1):=i64w (by omega)
   have w7:IntKind.i64.wrap (at_+add+T1+(w+(T2-T1)))=at_+add+T1+(w+(T2-T1)):=i64w (by omega)
   have c1:=hc.1
   have c2:(s.ahead:Int)≤i:=by have:=hc.2;omega
   have hc2:=hc.2
   rw [hkn] at hap htk2 ⊢
   generalize hpm:prt neg (s.l.getD i mz)=pm at *
   obtain ⟨t0,n0,tk0,nn0,rfl⟩:=acc_len hA
   obtain ⟨t9,n9,tk9,nn9,rfl⟩:=acc_len hA'
   have hFP:(fnP neg).leaves=[fnP neg]∧(fnP neg).scal=true:=⟨rfl,rfl⟩
   have hFT:(fnT st A).leaves=[fnT st A]∧(fnT st A).scal=true:=⟨rfl,rfl⟩
   generalize fnP neg=FP at *
   generalize fnT st A=FT at *
   generalize s.l.getD i mz=m at *
   generalize s.l.map Mass.dv=VL at *
   generalize gs.map Gl.dv=VG at *
   simp only [HC,Mass.cs,Gl.cs,Gl.dv,Mass.dv,c1] at hap hch htk1 htk2 hpt ⊢
   simp [Mass.cs,Mass.dv,c1] at g0 g0' hch hap ⊢
   simp [f233,C_dregionN,S_cons,A_cons,K_cons,loudD,hS2,l0,g0,g0',Mass.cs,Mass.dv,c1,c2,hc2,hch,htk1,htk2,hpt,wk,w5,w6,w7,op_lit,repl,chunk,hap,hFP,hFT]
 · have hkn:kNext s neg i k=k:=if_neg hc
   rw [hkn] at hap ⊢
   rw [hT1] at hap ⊢
   have w0:w+(T1-T1)=w:=by omega
   rw [w0] at hap ⊢
   have w7:IntKind.i64.wrap (at_+add+T1+w)=at_+add+T1+w:=i64w (by omega)
   obtain ⟨t0,n0,tk0,nn0,rfl⟩:=acc_len hA
   obtain ⟨t9,n9,tk9,nn9,rfl⟩:=acc_len hA'
   have hFP:(fnP neg).leaves=[fnP neg]∧(fnP neg).scal=true:=⟨rfl,rfl⟩
   have hFT:(fnT st A).leaves=[fnT st A]∧(fnT st A).scal=true:=⟨rfl,rfl⟩
   generalize fnP neg=FP at *
   generalize fnT st A=FT at *
   generalize s.l.getD i mz=m at *
   generalize s.l.map Mass.dv=VL at *
   generalize gs.map Gl.dv=VG at *
   simp only [HC,Mass.cs,Gl.cs,Gl.dv,Mass.dv] at hap hch ⊢
   simp [Mass.cs,Mass.dv] at g0 g0' hch hap ⊢
   by_cases c1:m.k=3
   · have c2:¬ (s.ahead:Int)≤i:=fun h=>hc ⟨c1,by omega⟩
     have c3:¬ s.ahead≤i:=fun h=>hc ⟨c1,h⟩
     simp [c1] at hch hap ⊢
     simp [f233,hS2,l0,g0,g0',Mass.cs,Mass.dv,c1,c2,c3,hch,w7,op_lit,repl,chunk,hap,hFP,hFT]
   · simp [f233,hS2,l0,g0,g0',Mass.cs,Mass.dv,c1,hch,w7,op_lit,repl,chunk,hap,hFP,hFT]
end
theorem at210:tab 210=some (.code f210):=by kernel_rfl
theorem pure224:isPure tab 224=false:=by kernel_rfl
def kAt (s:Sg) (neg:Bool):Nat→Int
 | 0=>0
 | i+1=>kNext s neg i (kAt s neg i)
theorem kAt_le {s:Sg} {neg:Bool} (hok:s.l.all okM=true):∀ i,i≤s.l.length→0≤kAt s neg i∧kAt s neg i≤1365*i
 | 0,_=>by simp [kAt]
 | i+1,h=>by
   have ih:=kAt_le (neg:=neg) hok i (by omega)
   have hmw:=okM_of (List.all_eq_true.1 hok (s.l.getD i mz) (List.mem_of_getElem? (getM (by omega))))
   simp only [kAt]
   unfold kNext prt
   split
   · split<;>omega
   · omega
def exP (p:Para) (l:Ln):Int:=l.w-(posW p (setgP p l).l (setgP p l).ahead l.x (setgP p l).solid+(setgP p l).hyph-l.x)
def midL (s:Sg):List Mass:=(s.l.take s.solid).drop s.ahead
def spB (p:Para) (l:Ln) (last:Bool):Bool:=decide (p.pr.align=1) && !last && !((setgP p l).l.any fun m=>decide (m.k=4))&&decide (0<blN (midL (setgP p l)))&&(decide (0<exP p l)||(decide (exP p l<0)&&decide (-exP p l≤blS (midL (setgP p l)))))
def negP (p:Para) (l:Ln):Bool:=decide (exP p l<0)
def allP (p:Para) (l:Ln):Int:=if negP p l then blS (midL (setgP p l)) else blN (midL (setgP p l))
def addP (p:Para) (l:Ln):Int:=movedN p.pr.align (exP p l)
def glAt (p:Para) (l:Ln) (last:Bool) (i:Nat):Gl:=
 glOf (setgP p l) (negP p l) (spB p l last) (exP p l) (allP p l) (addP p l) i (atW p (setgP p l).l i (posW p (setgP p l).l (setgP p l).ahead l.x i)) (wdW (setgP p l).l (setgP p l).ahead i (atW p (setgP p l).l i (posW p (setgP p l).l (setgP p l).ahead l.x i))) (kAt (setgP p l) (negP p l) i)
def endAt (p:Para) (l:Ln) (last:Bool) (i:Nat):Int:=posW p (setgP p l).l (setgP p l).ahead l.x i+addP p l+tkn (spB p l last) (exP p l) (allP p l) (kAt (setgP p l) (negP p l) i)
def preP (p:Para) (l:Ln):List Gl:=if 0<(setgP p l).drop then [⟨0,nextB p.text 0,l.x-(setgP p l).drop,(setgP p l).drop-4⟩] else []
def tailP (p:Para) (l:Ln) (last:Bool):List Gl:=((setgP p l).l.drop (setgP p l).solid).map fun m=>⟨m.a,m.b,endAt p l last (setgP p l).solid,0⟩
def hyphP (p:Para) (l:Ln) (last:Bool):List Gl:=if l.h then [⟨l.t,l.t,endAt p l last (setgP p l).solid,(setgP p l).hyph⟩] else []
def glsP (p:Para) (l:Ln) (last:Bool):List Gl:=preP p l++(List.range (setgP p l).solid).map (glAt p l last)++tailP p l last++hyphP p l last
structure LnOk (p:Para) (l:Ln):Prop where
 row:RowOk (setgP p l).l
 ah:∀ i,i<(setgP p l).ahead→((setgP p l).l.getD i mz).k=3
 ahs:(setgP p l).ahead≤(setgP p l).solid
section
variable {st:St} {p:Para} {w u:LW} {l:Ln} {last:Bool}
def p7Ops (N:Nat):List ROper:=[
 ⟨some 35,.faddr 3 (.t 4),none⟩,
 ⟨some 36,.load 1 false (.t 35),none⟩,
 ⟨some 37,.load 6 true (.t 9),none⟩,
 ⟨some 38,.faddr 2 (.t 4),none⟩,
 ⟨some 39,.load 1 false (.t 38),none⟩,
 ⟨some 40,.call 224 [.t 37,.t 39,.f 225],none⟩,
 ⟨some 41,.faddr 5 (.t 9),none⟩,
 ⟨some 42,.load 1 false (.t 41),none⟩,
 ⟨some 43,.bin .add (.t 40) (.t 42),none⟩,
 ⟨some 44,.faddr 2 (.t 4),none⟩,
 ⟨some 45,.load 1 false (.t 44),none⟩,
 ⟨some 46,.bin .sub (.t 43) (.t 45),none⟩,
 ⟨some 47,.bin .sub (.t 36) (.t 46),none⟩,
 ⟨some 10,.got (.ptr N 0) [],none⟩,
 ⟨none,.store 1 (.t 10) (.t 47),none⟩]
theorem place_head (h0:checkN p=0) (hL:LnOk p l) (hm:mayL p.text l=true) {ts ns:Nat} {tks:Tk} {nns:Bool} {t n:Nat} {tk:Tk} {nn:Bool} (hn6:(setgP p l).l≠[]→ns=6) (hnn:nns=true→ns=6) (hn1:(setgP p l).kr≠[]→n=1) (P0:List DV) :
 ∃ J1,(E tab).C (.dregion f210r7 [13] [(1,[1]),(7,[0]),(10,[0])] [2,3,4,9,10]) [(2,.bool last),(3,.ptr st.heap.length 0),(4,.ptr (st.heap.length+1) 0),(9,.ptr (st.heap.length+2) 0)]
   (pst st [.cells .plain P0,.cells .plain l.cs,.cells .plain ((setgP p l).cs (.list ts ns tks nns ((setgP p l).l.map Mass.dv)) (.list t n tk nn ((setgP p l).kr.map DV.bool)))] []) =
   some (.normal,[(2,.bool last),(3,.ptr st.heap.length 0),(4,.ptr (st.heap.length+1) 0),(9,.ptr (st.heap.length+2) 0),(10,.ptr (st.heap.length+3) 0)],
    pst st (.cells .plain P0::.cells .plain l.cs::.cells .plain ((setgP p l).cs (.list ts ns tks nns ((setgP p l).l.map Mass.dv)) (.list t n tk nn ((setgP p l).kr.map DV.bool)))::.cells .plain [.int .i64 (exP p l)]::J1) []):=by
 have hm':=hm
 simp only [mayL,Bool.and_eq_true,decide_eq_true_eq] at hm'
 have hsol:(setgP p l).solid≤(setgP p l).l.length:=trimM_le _ _
 obtain ⟨H',K',⟨rfl,J1,rfl⟩,hF⟩:=walk_whole (st:=st) (p:=p) (s:=setgP p l) (lv:=.list ts ns tks nns ((setgP p l).l.map Mass.dv)) (kv:=.list t n tk nn ((setgP p l).kr.map DV.bool)) rfl hn1 rfl hn6 hnn rfl hL.row hL.ah hsol (x:=l.x) (by omega) (.fn 225 [] [])
  (fun i H K=>K=[]∧∃ J,H=[.cells .plain P0,.cells .plain l.cs,.cells .plain ((setgP p l).cs (.list ts ns tks nns ((setgP p l).l.map Mass.dv)) (.list t n tk nn ((setgP p l).kr.map DV.bool))),.cells .plain [.int .i64 0]]++.cells .plain ((setgP p l).cs (.list ts ns tks nns ((setgP p l).l.map Mass.dv)) (.list t n tk nn ((setgP p l).kr.map DV.bool)))::J)
  (H:=[.cells .plain P0,.cells .plain l.cs,.cells .plain ((setgP p l).cs (.list ts ns tks nns ((setgP p l).l.map Mass.dv)) (.list t n tk nn ((setgP p l).kr.map DV.bool))),.cells .plain [.int .i64 0]]) (K:=[])
  (by rintro i H' K' ⟨_,J,rfl⟩;rfl) ⟨rfl,[],rfl⟩
  (by
   rintro i hi H K ⟨rfl,J,rfl⟩
   refine ⟨_,_,by rw [V_fn];exact f225_run _ _ _,rfl,J++[.cells .plain (((setgP p l).l.getD i mz).cs)],by simp⟩)
 have hpos:=(pos_ok (p:=p) hL.row hL.ah (x:=l.x) (by omega) (setgP p l).solid hsol).1
 have hlen:=hL.row.len
 have hhy:0≤(setgP p l).hyph∧(setgP p l).hyph≤64:=by
  show 0≤(if l.h then hyW (hszP p l) else 0)∧(if l.h then hyW (hszP p l) else 0)≤64
  have:=wd_le 45 (hszP_ok h0 l).1 (hszP_ok h0 l).2
  unfold hyW
  split<;>omega
 have hp:prepH [(2,.bool last),(3,.ptr st.heap.length 0),(4,.ptr (st.heap.length+1) 0),(9,.ptr (st.heap.length+2) 0)] [13]
  (pst st [.cells .plain P0,.cells .plain l.cs,.cells .plain ((setgP p l).cs (.list ts ns tks nns ((setgP p l).l.map Mass.dv)) (.list t n tk nn ((setgP p l).kr.map DV.bool)))] []) f210r7 =
  some (pst st [.cells .plain P0,.cells .plain l.cs,.cells .plain ((setgP p l).cs (.list ts ns tks nns ((setgP p l).l.map Mass.dv)) (.list t n tk nn ((setgP p l).kr.map DV.bool))),.cells .plain [.int .i64 0]] [],p7Ops (st.heap.length+3)):=by
  generalize (setgP p l).l.map Mass.dv=VL at *
  generalize (setgP p l).kr.map DV.bool=VK at *
  simp [prepH,f210r7,qrun,isLoud,loudD,prep,freeD,gotX,p7Ops,Sg.cs,Ln.cs]
 refine ⟨.cells .plain ((setgP p l).cs (.list ts ns tks nns ((setgP p l).l.map Mass.dv)) (.list t n tk nn ((setgP p l).kr.map DV.bool)))::J1,?_⟩
 rw [C_dregionP hp]
 unfold exP
 generalize posW p (setgP p l).l (setgP p l).ahead l.x (setgP p l).solid=PO at *
 have w1:IntKind.i64.wrap (PO+(setgP p l).hyph)=PO+(setgP p l).hyph:=i64w (by omega)
 have w2:IntKind.i64.wrap (PO+(setgP p l).hyph-l.x)=PO+(setgP p l).hyph-l.x:=i64w (by omega)
 have w3:IntKind.i64.wrap (l.w-(PO+(setgP p l).hyph-l.x))=l.w-(PO+(setgP p l).hyph-l.x):=i64w (by omega)
 generalize (setgP p l).l.map Mass.dv=VL at *
 generalize (setgP p l).kr.map DV.bool=VK at *
 simp only [Sg.cs,Ln.cs] at hF ⊢
 simp at hF
 simp [S_cons,A_cons,K_cons,loudD,p7Ops,pure224,hF,w1,w2,w3]
theorem place_walk (h0:checkN p=0) (hL:LnOk p l) (hm:mayL p.text l=true) {ts ns:Nat} {tks:Tk} {nns:Bool} {t n:Nat} {tk:Tk} {nn:Bool} (hn6:(setgP p l).l≠[]→ns=6) (hnn:nns=true→ns=6) (hn1:(setgP p l).kr≠[]→n=1) {A:List HO}
 (hS:∀ X,rowAt (A++X) 2=some (.plain,(setgP p l).cs (.list ts ns tks nns ((setgP p l).l.map Mass.dv)) (.list t n tk nn ((setgP p l).kr.map DV.bool)))) (hE:∀ X,rowAt (A++X) 3=some (.plain,[.int .i64 (exP p l)])) {ov:DV} {K:List Nat} {gs:List Gl} (hA:Acc st K 4 (gs.map Gl.dv) ov) (hgs:gs.length≤100) :
 ∃ ov' K' J',(E tab).F 224 [.agg ((setgP p l).cs (.list ts ns tks nns ((setgP p l).l.map Mass.dv)) (.list t n tk nn ((setgP p l).kr.map DV.bool))),.int .i64 l.x,.fn 233 [] [.ptr (st.heap.length+2) 0,.ptr (st.heap.length+(A.length+2)) 0,.ptr (st.heap.length+(A.length+6)) 0,.ptr (st.heap.length+(A.length+3)) 0,.ptr (st.heap.length+(A.length+5)) 0,.ptr (st.heap.length+(A.length+1)) 0,.ptr (st.heap.length+(A.length+7)) 0]]
   (pst st (HC A (spB p l last) ov (addP p l) 0 (allP p l) (fnP (negP p l)) (fnT st A) (endAt p l last 0) []) K) =
   some (.int .i64 (posW p (setgP p l).l (setgP p l).ahead l.x (setgP p l).solid),pst st (HC A (spB p l last) ov' (addP p l) (kAt (setgP p l) (negP p l) (setgP p l).solid) (allP p l) (fnP (negP p l)) (fnT st A) (endAt p l last (setgP p l).solid) J') K') ∧
   Acc st K' 4 ((gs++(List.range (setgP p l).solid).map (glAt p l last)).map Gl.dv) ov':=by
 have hm':=hm
 simp only [mayL,Bool.and_eq_true,decide_eq_true_eq] at hm'
 have hsol:(setgP p l).solid≤(setgP p l).l.length:=trimM_le _ _
 have hlen:=hL.row.len
 have hok:(setgP p l).l.all okM=true:=List.all_eq_true.2 fun m hm=>List.all_eq_true.1 (massL_MOk p).ok m (rowP_sub hm)
 have hex:-100000000≤exP p l∧exP p l≤100000000:=by
  have hpos:=(pos_ok (p:=p) hL.row hL.ah (x:=l.x) (by omega) (setgP p l).solid hsol).1
  have hhy:0≤(setgP p l).hyph∧(setgP p l).hyph≤64:=by
   show 0≤(if l.h then hyW (hszP p l) else 0)∧(if l.h then hyW (hszP p l) else 0)≤64
   have:=wd_le 45 (hszP_ok h0 l).1 (hszP_ok h0 l).2
   unfold hyW
   split<;>omega
  unfold exP;omega
 have hadd:0≤addP p l∧addP p l≤100000000:=by
  unfold addP movedN
  split
  · omega
  · split<;>omega
 have hall:spB p l last=true→allP p l≠0:=by
  intro h
  simp only [spB,Bool.and_eq_true,Bool.or_eq_true,decide_eq_true_eq] at h
  unfold allP negP
  by_cases hn:exP p l<0
  · simp only [hn,decide_true,if_true];omega
  · simp only [hn,decide_false,Bool.false_eq_true,if_false];omega
 have hen:∀ i,(glAt p l last i).x+(glAt p l last i).w=endAt p l last (i+1):=by
  intro i
  simp only [glAt,glOf,endAt,posW,kAt];omega
 obtain ⟨H',K',⟨ov',J',rfl,hA'⟩,hF⟩:=walk_whole (st:=st) (p:=p) (s:=setgP p l) (lv:=.list ts ns tks nns ((setgP p l).l.map Mass.dv)) (kv:=.list t n tk nn ((setgP p l).kr.map DV.bool)) rfl hn1 rfl hn6 hnn rfl hL.row hL.ah hsol (x:=l.x) (by omega) (.fn 233 [] [.ptr (st.heap.length+2) 0,.ptr (st.heap.length+(A.length+2)) 0,.ptr (st.heap.length+(A.length+6)) 0,.ptr (st.heap.length+(A.length+3)) 0,.ptr (st.heap.length+(A.length+5)) 0,.ptr (st.heap.length+(A.length+1)) 0,.ptr (st.heap.length+(A.length+7)) 0])
  (fun i H K=>∃ ov J,H=HC A (spB p l last) ov (addP p l) (kAt (setgP p l) (negP p l) i) (allP p l) (fnP (negP p l)) (fnT st A) (endAt p l last i) (.cells .plain ((setgP p l).cs (.list ts ns tks nns ((setgP p l).l.map Mass.dv)) (.list t n tk nn ((setgP p l).kr.map DV.bool)))::J)∧Acc st K 4 ((gs++(List.range i).map (glAt p l last)).map Gl.dv) ov)
  (H:=HC A (spB p l last) ov (addP p l) 0 (allP p l) (fnP (negP p l)) (fnT st A) (endAt p l last 0) []) (K:=K)
  (by
   rintro i H' K' ⟨ov,J,rfl,_⟩
   simp [HC])
  ⟨ov,[],by simp [HC,kAt],by simpa using hA⟩
  (by
   rintro i hi H K ⟨ov,J,rfl,hA⟩
   have hpos:=(pos_ok (p:=p) hL.row hL.ah (x:=l.x) (by omega) i (by omega))
   have hat:=hpos.2 (by omega)
   have hk:=kAt_le (neg:=negP p l) hok i (by omega)
   have hwd:0≤wdW (setgP p l).l (setgP p l).ahead i (atW p (setgP p l).l i (posW p (setgP p l).l (setgP p l).ahead l.x i))∧wdW (setgP p l).l (setgP p l).ahead i (atW p (setgP p l).l i (posW p (setgP p l).l (setgP p l).ahead l.x i))≤4095:=by
    have hle:=leapI_le (a:=atW p (setgP p l).l i (posW p (setgP p l).l (setgP p l).ahead l.x i)) (by omega)
    have:=hL.row.ok i (by omega)
    unfold wdW
    split
    · omega
    · split<;>omega
   obtain ⟨ov',K',hc,hA'⟩:=client233 (st:=st) (A:=A) (J:=.cells .plain ((setgP p l).cs (.list ts ns tks nns ((setgP p l).l.map Mass.dv)) (.list t n tk nn ((setgP p l).kr.map DV.bool)))::(J++[.cells .plain (((setgP p l).l.getD i mz).cs)])) (K:=K) (sp:=spB p l last) (neg:=negP p l) (ov:=ov) (add:=addP p l) (k:=kAt (setgP p l) (negP p l) i) (all:=allP p l) (en:=endAt p l last i) (ex:=exP p l) (s:=setgP p l) (kv:=.list t n tk nn ((setgP p l).kr.map DV.bool)) hn6 hok (i:=i) (by omega) (at_:=atW p (setgP p l).l i (posW p (setgP p l).l (setgP p l).ahead l.x i)) (w:=wdW (setgP p l).l (setgP p l).ahead i (atW p (setgP p l).l i (posW p (setgP p l).l (setgP p l).ahead l.x i))) hlen hS hE hex (by omega) hall (by omega) hadd hwd hA (by simp;omega)
   refine ⟨_,K',?_,ov',J++[.cells .plain (((setgP p l).l.getD i mz).cs)]++[.cells .plain (((setgP p l).l.getD i mz).cs),.cells .plain (glAt p l last i).cs],rfl,?_⟩
   · rw [V_fn]
     have e:HC A (spB p l last) ov (addP p l) (kAt (setgP p l) (negP p l) i) (allP p l) (fnP (negP p l)) (fnT st A) (endAt p l last i) (.cells .plain ((setgP p l).cs (.list ts ns tks nns ((setgP p l).l.map Mass.dv)) (.list t n tk nn ((setgP p l).kr.map DV.bool)))::J)++[.cells .plain (((setgP p l).l.getD i mz).cs)] =
      HC A (spB p l last) ov (addP p l) (kAt (setgP p l) (negP p l) i) (allP p l) (fnP (negP p l)) (fnT st A) (endAt p l last i) (.cells .plain ((setgP p l).cs (.list ts ns tks nns ((setgP p l).l.map Mass.dv)) (.list t n tk nn ((setgP p l).kr.map DV.bool)))::(J++[.cells .plain (((setgP p l).l.getD i mz).cs)])):=by simp [HC]
     rw [e]
     simp only [List.nil_append,List.cons_append]
     rw [hc]
     have e1:(glOf (setgP p l) (negP p l) (spB p l last) (exP p l) (allP p l) (addP p l) i (atW p (setgP p l).l i (posW p (setgP p l).l (setgP p l).ahead l.x i)) (wdW (setgP p l).l (setgP p l).ahead i (atW p (setgP p l).l i (posW p (setgP p l).l (setgP p l).ahead l.x i))) (kAt (setgP p l) (negP p l) i)).x+(glOf (setgP p l) (negP p l) (spB p l last) (exP p l) (allP p l) (addP p l) i (atW p (setgP p l).l i (posW p (setgP p l).l (setgP p l).ahead l.x i)) (wdW (setgP p l).l (setgP p l).ahead i (atW p (setgP p l).l i (posW p (setgP p l).l (setgP p l).ahead l.x i))) (kAt (setgP p l) (negP p l) i)).w=endAt p l last (i+1):=hen i
     rw [e1]
     simp [kAt,glAt]
   · have e2:gs++(List.range (i+1)).map (glAt p l last)=gs++(List.range i).map (glAt p l last)++[glAt p l last i]:=by rw [List.range_succ];simp
     rw [e2];exact hA')
 exact ⟨ov',K',_,hF,hA'⟩
end
section
variable {st:St}
def tgl (en:Int) (m:Mass):Gl:=⟨m.a,m.b,en,0⟩
theorem L210_0 {A:List HO} {sp:Bool} {add k all en:Int} {pf tf:DV} {zs:List Mass} (hl:zs.length≤4096) {t n:Nat} {tk:Tk} {nn:Bool} (h6:zs≠[]→n=6) {gs:List Gl} (hgs:gs.length≤10000):∀ (r d:List Mass) (ov:DV) (K:List Nat) (J:List HO),zs=d++r→Acc st K 4 ((gs++d.map (tgl en)).map Gl.dv) ov →
 ∃ ov' K' J' fr,(E tab).C f210L0 [(4,.ptr (st.heap.length+1) 0),(9,.ptr (st.heap.length+2) 0),(14,.ptr (st.heap.length+(A.length+1)) 0),(20,.ptr (st.heap.length+(A.length+7)) 0),(125,.list t n tk nn (zs.map Mass.dv)),(126,.int .i64 zs.length),(127,.int .i64 d.length)] (pst st (HC A sp ov add k all pf tf en J) K) =
   some (.exit 0,(4,.ptr (st.heap.length+1) 0)::(9,.ptr (st.heap.length+2) 0)::(14,.ptr (st.heap.length+(A.length+1)) 0)::(20,.ptr (st.heap.length+(A.length+7)) 0)::fr,pst st (HC A sp ov' add k all pf tf en J') K')∧Acc st K' 4 ((gs++zs.map (tgl en)).map Gl.dv) ov':=by
 intro r
 induction r with
 | nil=>
   intro d ov K J hd hA
   rw [List.append_nil] at hd
   subst hd
   refine ⟨ov,K,J,[(125,.list t n tk nn (zs.map Mass.dv)),(126,.int .i64 zs.length),(127,.int .i64 zs.length),(128,.bool false)],?_,hA⟩
   rw [C_turn (L:=f210L0) rfl]
   simp [f210B0]
 | cons m r ih=>
   intro d ov K J hd hA
   have h0:d.length<zs.length:=by simp [hd]
   obtain rfl:=h6 (by rw [hd];simp)
   have hw:IntKind.i64.wrap ((d.length:Int)+1)=((d++[m]).length:Nat):=by rw [i64w (by omega)];simp
   have hg:zs[d.length]=m:=by simp [hd]
   obtain ⟨ov2,K2,hap,hA2⟩:=acc_app (H:=HC A sp ov add k all pf tf en (J++[.cells .plain m.cs])) (by_:=32) (ag:=true) (tk:=.tight) (t:=st.cur) (ys:=[(tgl en m).dv]) hA (by omega) (by simp) (by simp [el_gl]) (by simp [roomD];omega) (by simp [roomD];omega)
   obtain ⟨ov',K',J',fr,hJ,hR⟩:=ih (d++[m]) ov2 K2 (J++[.cells .plain m.cs]) (by simp [hd]) (by simpa using hA2)
   refine ⟨ov',K',J',fr,?_,hR⟩
   rw [C_turn (L:=f210L0) rfl]
   obtain ⟨t0,n0,tk0,nn0,rfl⟩:=acc_len hA
   obtain ⟨t9,n9,tk9,nn9,rfl⟩:=acc_len hA2
   generalize (gs++d.map (tgl en)).map Gl.dv=VG at *
   simp only [HC] at hap hJ ⊢
   simp [Mass.cs,Mass.dv,tgl,Gl.dv,Gl.cs] at hap hJ ⊢
   simp [f210B0,h0,hw,hg,Mass.cs,Mass.dv,op_lit,repl,chunk,hap]
   simpa using hJ
theorem mayL_text {s:List UInt8} {l:Ln} (h:mayL s l=true):wrongN s=0∧nextN s 0=0:=by
 simp only [mayL,Bool.and_eq_true,boundB,decide_eq_true_eq] at h
 refine ⟨h.1.1.1.1.1.2.1,?_⟩
 unfold nextN
 rw [if_neg (by simp [h.1.1.1.1.1.2.1]),if_neg (by omega)]
end
def placeE (p:Para) (l:Ln):Int:=if checkN p≠0 then checkN p else if mayL p.text l=true then 0 else 5
section
variable {st:St} {p:Para} {w u:LW} {l:Ln} {last:Bool} {ts ns:Nat} {tks:Tk} {nns:Bool} {t n:Nat} {tk:Tk} {nn:Bool}
structure PlA (p:Para) (w u:LW) (l:Ln) (lv kv:DV) (A:List HO):Prop where
 r0:∀ X,rowAt (A++X) 0=some (.plain,paraCs p w u)
 r1:∀ X,rowAt (A++X) 1=some (.plain,l.cs)
 r2:∀ X,rowAt (A++X) 2=some (.plain,(setgP p l).cs lv kv)
 r3:∀ X,rowAt (A++X) 3=some (.plain,[.int .i64 (exP p l)])
theorem row_nil {A:List HO} {k:Nat} {x:CK×List DV} (h:∀ X,rowAt (A++X) k=some x):rowAt A k=some x:=by have:=h [];rwa [List.append_nil] at this
theorem pcAlign:(paraCs p w u)[4]? = some (.int .i64 p.pr.align):=rfl
theorem place_r9 {A:List HO} (hA:PlA p w u l (.list ts ns tks nns ((setgP p l).l.map Mass.dv)) (.list t n tk nn ((setgP p l).kr.map DV.bool)) A) (hn6:(setgP p l).l≠[]→ns=6) (hlen:(setgP p l).l.length≤4096) (hex:-100000000≤exP p l∧exP p l≤100000000) :
 (E tab).C (.region f210r9 [3,4,9,10,11,12,13]) [(2,.bool last),(3,.ptr st.heap.length 0),(4,.ptr (st.heap.length+1) 0),(9,.ptr (st.heap.length+2) 0),(10,.ptr (st.heap.length+3) 0),(11,.int .i64 (blN (midL (setgP p l)))),(12,.int .i64 (blS (midL (setgP p l))))] (pst st A []) =
  some (.normal,[(3,.ptr st.heap.length 0),(4,.ptr (st.heap.length+1) 0),(9,.ptr (st.heap.length+2) 0),(10,.ptr (st.heap.length+3) 0),(11,.int .i64 (blN (midL (setgP p l)))),(12,.int .i64 (blS (midL (setgP p l)))),(13,.ptr (st.heap.length+A.length) 0)],pst st (A++[.cells .plain [.bool (spB p l last)]]) []):=by
 have ht:=fun st=>tabs227 (st:=st) (s:=setgP p l) (ts:=ts) (tks:=tks) (nns:=nns) (kv:=.list t n tk nn ((setgP p l).kr.map DV.bool)) hn6 hlen rfl rfl
 have r0:=row_nil hA.r0
 have r2:=row_nil hA.r2
 have r3:=row_nil hA.r3
 have wn:IntKind.i64.wrap (-exP p l) = -exP p l:=i64w (by omega)
 unfold spB
 generalize midL (setgP p l)=ML at *
 generalize ((setgP p l).l.any fun m=>decide (m.k=4))=TB at *
 generalize (setgP p l).l.map Mass.dv=VL at *
 generalize (setgP p l).kr.map DV.bool=VK at *
 simp only [Sg.cs] at r2 ht
 have pa:=pcAlign (p:=p) (w:=w) (u:=u)
 generalize exP p l=EX at *
 by_cases h1:p.pr.align=1
 rotate_left
 · simp [r0,r2,r3,pa,h1]
 cases last with
 | true=>simp [r0,r2,r3,pa,h1]
 | false=>
 cases TB with
 | true=>simp [r0,r2,r3,pa,h1,ht]
 | false=>
 by_cases h4:0<blN ML
 rotate_left
 · have h4':blN ML=0:=by omega
   simp [r0,r2,r3,pa,h1,ht,h4']
 have h4':(0:Int)<blN ML:=by omega
 by_cases h5:0<EX
 · simp [r0,r2,r3,pa,h1,ht,h4,h4',h5]
 by_cases h6:EX<0
 rotate_left
 · simp [r0,r2,r3,pa,h1,ht,h4,h4',h5,h6]
 by_cases h7:-EX≤blS ML
 · simp [r0,r2,r3,pa,h1,ht,h4,h4',h5,h6,wn,h7]
 · simp [r0,r2,r3,pa,h1,ht,h4,h4',h5,h6,wn,h7]
end
section
variable {st:St} {p:Para} {w u:LW} {l:Ln} {last:Bool} {ts ns:Nat} {tks:Tk} {nns:Bool} {t n:Nat} {tk:Tk} {nn:Bool}
theorem place_r12 {A:List HO} (hA:PlA p w u l (.list ts ns tks nns ((setgP p l).l.map Mass.dv)) (.list t n tk nn ((setgP p l).kr.map DV.bool)) A) (hn:nextN p.text 0=0) (hx:0≤l.x∧l.x≤4095) (hd:0<(setgP p l).drop∧(setgP p l).drop≤1000) (a2 a10 a11 a12 a86:DV) (sp:Bool):∃ ov K,
 (E tab).C (.dregion f210r12 [] [] [3,4,9,10,11,12,13,14]) [(3,.ptr st.heap.length 0),(4,.ptr (st.heap.length+1) 0),(9,.ptr (st.heap.length+2) 0),(10,a10),(11,a11),(12,a12),(13,a2),(14,.ptr (st.heap.length+(A.length+1)) 0),(86,a86)] (pst st (A++[.cells .plain [.bool sp],.cells .plain [.list 0 0 .no false []]]) []) =
  some (.normal,[(3,.ptr st.heap.length 0),(4,.ptr (st.heap.length+1) 0),(9,.ptr (st.heap.length+2) 0),(10,a10),(11,a11),(12,a12),(13,a2),(14,.ptr (st.heap.length+(A.length+1)) 0)],pst st (A++[.cells .plain [.bool sp],.cells .plain [ov]]) K)∧Acc st K 4 ((preP p l).map Gl.dv) ov:=by
 have hpre:preP p l=[⟨0,nextB p.text 0,l.x-(setgP p l).drop,(setgP p l).drop-4⟩]:=if_pos hd.1
 rw [hpre]
 obtain ⟨ov',K',hap,hA'⟩:=acc_app (st:=st) (H:=A++[.cells .plain [.bool sp],.cells .plain [.list 0 0 .no false []]]) (K:=[]) (xs:=[]) (v:=.list 0 0 .no false []) (n:=4) (by_:=32) (ag:=true) (tk:=.tight) (t:=st.cur) (ys:=[Gl.dv ⟨0,nextB p.text 0,l.x-(setgP p l).drop,(setgP p l).drop-4⟩]) (acc_nil _ _ _ _ _ _) (by omega) (by simp) (by simp [el_gl]) (by simp [roomD]) (by simp [roomD])
 refine ⟨ov',K',?_,by simpa using hA'⟩
 obtain ⟨t9,n9,tk9,nn9,rfl⟩:=acc_len hA'
 have h228:=fun st=>first228 (st:=st) (p:=p) (w:=w) (u:=u) (s:=setgP p l) (lv:=.list ts ns tks nns ((setgP p l).l.map Mass.dv)) (kv:=.list t n tk nn ((setgP p l).kr.map DV.bool)) hn rfl rfl rfl rfl
 have r0:=hA.r0
 have r1:=hA.r1
 have r2:=hA.r2
 have w1:IntKind.i64.wrap (l.x-(setgP p l).drop)=l.x-(setgP p l).drop:=i64w (by omega)
 have w2:IntKind.i64.wrap ((setgP p l).drop-4)=(setgP p l).drop-4:=i64w (by omega)
 generalize (setgP p l).l.map Mass.dv=VL at *
 generalize (setgP p l).kr.map DV.bool=VK at *
 simp only [Sg.cs,Ln.cs,Gl.dv,Gl.cs] at r1 r2 h228 hap ⊢
 simp [C_dregionN,S_cons,A_cons,K_cons,loudD,r0,r1,r2,h228,w1,w2,op_lit,repl,chunk,hap]
theorem place_r13 {A:List HO} (hA:PlA p w u l (.list ts ns tks nns ((setgP p l).l.map Mass.dv)) (.list t n tk nn ((setgP p l).kr.map DV.bool)) A) (h0:checkN p=0) (hex:-100000000≤exP p l∧exP p l≤100000000) (a12 a13 a14 ov:DV) (sp:Bool) (N:Int) (K:List Nat) (tl:Fr) :
 (E tab).C (.region f210r13 [4,9,10,12,13,14,15,16,17]) ((3,.ptr st.heap.length 0)::(4,.ptr (st.heap.length+1) 0)::(9,.ptr (st.heap.length+2) 0)::(10,.ptr (st.heap.length+3) 0)::(11,.int .i64 N)::(12,a12)::(13,a13)::(14,a14)::tl) (pst st (A++[.cells .plain [.bool sp],.cells .plain [ov]]) K) =
  some (.normal,[(4,.ptr (st.heap.length+1) 0),(9,.ptr (st.heap.length+2) 0),(10,.ptr (st.heap.length+3) 0),(12,a12),(13,a13),(14,a14),(15,.ptr (st.heap.length+(A.length+2)) 0),(16,.ptr (st.heap.length+(A.length+3)) 0),(17,.ptr (st.heap.length+(A.length+4)) 0)],pst st (A++[.cells .plain [.bool sp],.cells .plain [ov],.cells .plain [.int .i64 (addP p l)],.cells .plain [.int .i64 0],.cells .plain [.int .i64 N]]) K):=by
 have hc:=checkN_props h0
 have hmv:=fun st=>moved229 (st:=st) p.pr.align (exP p l) ⟨hc.2.2.2.2.1,hc.2.2.2.2.2.1⟩ ⟨by omega,by omega⟩
 have r0:=hA.r0
 have r3:=hA.r3
 have pa:=pcAlign (p:=p) (w:=w) (u:=u)
 unfold addP
 generalize exP p l=EX at *
 simp [r0,r3,pa,hmv]
end
section
variable {st:St} {p:Para} {w u:LW} {l:Ln} {last:Bool}
theorem endAt_zero:endAt p l last 0=l.x+addP p l:=by
 have:tkn (spB p l last) (exP p l) (allP p l) 0=0:=by unfold tkn;split<;>simp
 simp [endAt,posW,kAt,this]
theorem acc_lst {K:List Nat} {n:Nat} {xs:List DV} {v:DV} (h:Acc st K n xs v):∃ t n' tk nn,v=.list t n' tk nn xs∧(nn=true→n'=n)∧(nn=false→xs=[]):=by
 rcases h with ⟨rfl,t,n',tk,rfl⟩ | ⟨k,s,rfl,_⟩
 · exact ⟨_,_,_,_,rfl,(fun h=>by cases h),fun _=>rfl⟩
 · exact ⟨_,_,_,_,rfl,fun _=>rfl,(fun h=>by cases h)⟩
theorem setg_drop (p:Para) (l:Ln):0≤(setgP p l).drop∧(setgP p l).drop≤68:=by
 have:=capN_le p
 show 0≤dropV (dropB p) (capN p) l.f l.t (massL p)∧dropV (dropB p) (capN p) l.f l.t (massL p)≤68
 unfold dropV;split<;>omega
theorem ex_le (h0:checkN p=0) (hL:LnOk p l) (hm:mayL p.text l=true):-100000000≤exP p l∧exP p l≤100000000:=by
 have hm':=hm
 simp only [mayL,Bool.and_eq_true,decide_eq_true_eq] at hm'
 have hsol:(setgP p l).solid≤(setgP p l).l.length:=trimM_le _ _
 have hlen:=hL.row.len
 have hpos:=(pos_ok (p:=p) hL.row hL.ah (x:=l.x) (by omega) (setgP p l).solid hsol).1
 have hhy:0≤(setgP p l).hyph∧(setgP p l).hyph≤64:=by
  show 0≤(if l.h then hyW (hszP p l) else 0)∧(if l.h then hyW (hszP p l) else 0)≤64
  have:=wd_le 45 (hszP_ok h0 l).1 (hszP_ok h0 l).2
  unfold hyW
  split<;>omega
 unfold exP;omega
def r13c:RC:=(.seq (.region f210r13 [4,9,10,12,13,14,15,16,17]) (.seq (.region f210r14 [4,9,10,12,13,14,15,16,17,18]) (.seq (.seq (.region f210r15 [4,9,10,12,13,14,15,16,17,18,109]) (.cond (.t 109) (.region f210r16 [4,9,10,13,14,15,16,17,18]) .skip)) (.seq (.region f210r17 [4,9,14,15,16,18,19]) (.seq (.region f210r18 [4,9,14,15,16,18,19,20]) (.seq (.region f210r19 [4,9,14,20]) (.seq (.seq (.region f210r20 [4,9,14,20,125,126,127]) (.block 0 f210L0)) (.seq (.seq (.region f210r25 [4,9,14,20,142]) (.cond (.t 142) (.region f210r26 [14]) .skip)) (.seq (.region f210r27 [6,7]) .ret)))))))))
def r8c:RC:=(.seq (.region f210r8 [2,3,4,9,10,11,12]) (.seq (.region f210r9 [3,4,9,10,11,12,13]) (.seq (.region f210r10 [3,4,9,10,11,12,13,14]) (.seq (.seq (.region f210r11 [3,4,9,10,11,12,13,14,86]) (.cond (.t 86) (.dregion f210r12 [] [] [3,4,9,10,11,12,13,14]) .skip)) r13c))))
theorem f210c:f210=⟨[.t 6,.t 7],(.seq (.region f210r0 [2,3,4]) (.seq (.seq (.region f210r1 [2,3,4,8]) (.seq (.region f210r2 [2,3,4,8,26]) (.cond (.t 26) (.seq (.region f210r3 [6,7]) .ret) .skip))) (.seq (.seq (.region f210r4 [2,3,4,31]) (.cond (.t 31) (.seq (.region f210r5 [6,7]) .ret) .skip)) (.seq (.region f210r6 [2,3,4,9]) (.seq (.dregion f210r7 [13] [(1,[1]),(7,[0]),(10,[0])] [2,3,4,9,10]) r8c))))),true⟩:=rfl
theorem r13_run (h0:checkN p=0) (hL:LnOk p l) (hm:mayL p.text l=true) {ts ns:Nat} {tks:Tk} {nns:Bool} {t n:Nat} {tk:Tk} {nn:Bool} (hn6:(setgP p l).l≠[]→ns=6) (hnn:nns=true→ns=6) (hn1:(setgP p l).kr≠[]→n=1) {A:List HO}
 (hA:PlA p w u l (.list ts ns tks nns ((setgP p l).l.map Mass.dv)) (.list t n tk nn ((setgP p l).kr.map DV.bool)) A) {ov:DV} {K:List Nat} (hO:Acc st K 4 ((preP p l).map Gl.dv) ov) (tl:Fr) :
 ∃ v H' K',(E tab).C r13c ((3,.ptr st.heap.length 0)::(4,.ptr (st.heap.length+1) 0)::(9,.ptr (st.heap.length+2) 0)::(10,.ptr (st.heap.length+3) 0)::(11,.int .i64 (blN (midL (setgP p l))))::(12,.int .i64 (blS (midL (setgP p l))))::(13,.ptr (st.heap.length+A.length) 0)::(14,.ptr (st.heap.length+(A.length+1)) 0)::tl) (pst st (A++[.cells .plain [.bool (spB p l last)],.cells .plain [ov]]) K) =
   some (.ret,[(6,v),(7,.int .i64 0)],pst st H' K')∧Acc st K' 4 ((glsP p l last).map Gl.dv) v:=by
 have hm':=hm
 simp only [mayL,Bool.and_eq_true,decide_eq_true_eq] at hm'
 have hlen:=hL.row.len
 have hsol:(setgP p l).solid≤(setgP p l).l.length:=trimM_le _ _
 have hex:=ex_le h0 hL hm
 have hadd:0≤addP p l∧addP p l≤100000000:=by
  unfold addP movedN
  split
  · omega
  · split<;>omega
 have h13:=place_r13 (st:=st) hA h0 hex (.int .i64 (blS (midL (setgP p l)))) (.ptr (st.heap.length+A.length) 0) (.ptr (st.heap.length+(A.length+1)) 0) ov (spB p l last) (blN (midL (setgP p l))) K tl
 have hprl:(preP p l).length≤1:=by unfold preP;split<;>simp
 obtain ⟨ov1,K1,JJ1,hwk,hO1⟩:=place_walk (st:=st) (last:=last) h0 hL hm hn6 hnn hn1 (A:=A) hA.r2 hA.r3 hO (by omega)
 have hsl:=slice_l (n:=6) (en:=ns) (t:=ts) (tk:=tks) (nn:=nns) (xs:=(setgP p l).l.map Mass.dv) (k:=.i64) (lo:=(setgP p l).solid) hnn (by omega) (by simp;omega)
 have hdr:((setgP p l).l.map Mass.dv).drop ((setgP p l).solid:Int).toNat=((setgP p l).l.drop (setgP p l).solid).map Mass.dv:=by rw [List.map_drop];rfl
 have hVl:((setgP p l).l.map Mass.dv).length=(setgP p l).l.length:=by simp
 rw [hdr,hVl,Int.toNat_natCast] at hsl
 obtain ⟨ov2,K2,JJ2,fr2,hLo,hO2⟩:=L210_0 (st:=st) (A:=A) (sp:=spB p l last) (add:=addP p l) (k:=kAt (setgP p l) (negP p l) (setgP p l).solid) (all:=allP p l) (en:=endAt p l last (setgP p l).solid) (pf:=fnP (negP p l)) (tf:=fnT st A) (zs:=(setgP p l).l.drop (setgP p l).solid) (by rw [List.length_drop];omega) (t:=ts) (n:=ns) (tk:=slTk tks (setgP p l).l.length (setgP p l).solid (setgP p l).l.length) (nn:=nns) (fun h=>hn6 (fun e=>h (by rw [e];simp))) (gs:=preP p l++(List.range (setgP p l).solid).map (glAt p l last)) (by simp;omega) _ [] ov1 K1 JJ1 rfl (by simpa using hO1)
 have hVd:(((setgP p l).l.drop (setgP p l).solid).map Mass.dv).length=((setgP p l).l.drop (setgP p l).solid).length:=by simp
 have hen0:=endAt_zero (p:=p) (l:=l) (last:=last)
 rw [hen0] at hwk
 have w1:IntKind.i64.wrap (l.x+addP p l)=l.x+addP p l:=i64w (by omega)
 have r1:=hA.r1
 have r2:=hA.r2
 have r3:=hA.r3
 have hall:allP p l=if negP p l then blS (midL (setgP p l)) else blN (midL (setgP p l)):=rfl
 have hneg:negP p l=decide (exP p l<0):=rfl
 by_cases hh:l.h=true
 · have hg:glsP p l last=preP p l++(List.range (setgP p l).solid).map (glAt p l last)++tailP p l last++[⟨l.t,l.t,endAt p l last (setgP p l).solid,(setgP p l).hyph⟩]:=by simp [glsP,hyphP,hh]
   have htl:tailP p l last=((setgP p l).l.drop (setgP p l).solid).map (tgl (endAt p l last (setgP p l).solid)):=rfl
   rw [hg,htl]
   have htl2:((setgP p l).l.drop (setgP p l).solid).length≤4096:=by rw [List.length_drop];omega
   obtain ⟨ov3,K3,hap,hO3⟩:=acc_app (H:=HC A (spB p l last) ov2 (addP p l) (kAt (setgP p l) (negP p l) (setgP p l).solid) (allP p l) (fnP (negP p l)) (fnT st A) (endAt p l last (setgP p l).solid) JJ2) (by_:=32) (ag:=true) (tk:=.tight) (t:=st.cur) (ys:=[Gl.dv ⟨l.t,l.t,endAt p l last (setgP p l).solid,(setgP p l).hyph⟩]) hO2 (by omega) (by simp) (by simp [el_gl]) (by simp [roomD];omega) (by simp [roomD];omega)
   refine ⟨ov3,HC A (spB p l last) ov3 (addP p l) (kAt (setgP p l) (negP p l) (setgP p l).solid) (allP p l) (fnP (negP p l)) (fnT st A) (endAt p l last (setgP p l).solid) JJ2,K3,?_,by simpa using hO3⟩
   obtain ⟨u0,u1,u2,u3,rfl⟩:=acc_len hO
   obtain ⟨v0,v1,v2,v3,rfl⟩:=acc_len hO1
   obtain ⟨x0,x1,x2,x3,rfl⟩:=acc_len hO2
   obtain ⟨y0,y1,y2,y3,rfl⟩:=acc_len hO3
   have hh':l.h=true:=hh
   generalize (preP p l++(List.range (setgP p l).solid).map (glAt p l last)++((setgP p l).l.drop (setgP p l).solid).map (tgl (endAt p l last (setgP p l).solid))).map Gl.dv=VO2 at *
   generalize (preP p l++(List.range (setgP p l).solid).map (glAt p l last)).map Gl.dv=VO1 at *
   generalize (preP p l).map Gl.dv=VO at *
   generalize ((setgP p l).l.drop (setgP p l).solid).map Mass.dv=VD at *
   generalize (setgP p l).l.map Mass.dv=VL at *
   generalize (setgP p l).kr.map DV.bool=VK at *
   generalize endAt p l last (setgP p l).solid=EN at *
   generalize kAt (setgP p l) (negP p l) (setgP p l).solid=KN at *
   generalize spB p l last=SB at *
   generalize midL (setgP p l)=ML at *
   simp only [HC,Sg.cs,Ln.cs,Gl.dv,Gl.cs,fnT,fnP] at hwk hLo hap r1 r2 ⊢
   by_cases hx:exP p l<0
   · have hng:negP p l=true:=by rw [hneg];simp [hx]
     rw [hng,if_pos rfl] at hall
     rw [hng] at hwk hLo hap ⊢
     rw [hall] at hwk hLo hap ⊢
     generalize exP p l=EX at *
     simp at hwk hLo hsl hap
     unfold r13c
     rw [C_seq,h13]
     simp only
     simp [hx,r1,r2,r3,w1,hwk,hsl,hVd,hLo,hh',op_lit,repl,chunk,hap]
   · have hng:negP p l=false:=by rw [hneg];simp [hx]
     rw [hng,if_neg (by simp)] at hall
     rw [hng] at hwk hLo hap ⊢
     rw [hall] at hwk hLo hap ⊢
     generalize exP p l=EX at *
     simp at hwk hLo hsl hap
     unfold r13c
     rw [C_seq,h13]
     simp only
     simp [hx,r1,r2,r3,w1,hwk,hsl,hVd,hLo,hh',op_lit,repl,chunk,hap]
 · have hg:glsP p l last=preP p l++(List.range (setgP p l).solid).map (glAt p l last)++tailP p l last:=by simp [glsP,hyphP,hh]
   have htl:tailP p l last=((setgP p l).l.drop (setgP p l).solid).map (tgl (endAt p l last (setgP p l).solid)):=rfl
   rw [hg,htl]
   refine ⟨ov2,HC A (spB p l last) ov2 (addP p l) (kAt (setgP p l) (negP p l) (setgP p l).solid) (allP p l) (fnP (negP p l)) (fnT st A) (endAt p l last (setgP p l).solid) JJ2,K2,?_,hO2⟩
   obtain ⟨u0,u1,u2,u3,rfl⟩:=acc_len hO
   obtain ⟨v0,v1,v2,v3,rfl⟩:=acc_len hO1
   obtain ⟨x0,x1,x2,x3,rfl⟩:=acc_len hO2
   have hh':l.h=false:=by simpa using hh
   generalize (preP p l++(List.range (setgP p l).solid).map (glAt p l last)++((setgP p l).l.drop (setgP p l).solid).map (tgl (endAt p l last (setgP p l).solid))).map Gl.dv=VO2 at *
   generalize (preP p l++(List.range (setgP p l).solid).map (glAt p l last)).map Gl.dv=VO1 at *
   generalize (preP p l).map Gl.dv=VO at *
   generalize ((setgP p l).l.drop (setgP p l).solid).map Mass.dv=VD at *
   generalize (setgP p l).l.map Mass.dv=VL at *
   generalize (setgP p l).kr.map DV.bool=VK at *
   generalize endAt p l last (setgP p l).solid=EN at *
   generalize kAt (setgP p l) (negP p l) (setgP p l).solid=KN at *
   generalize spB p l last=SB at *
   generalize midL (setgP p l)=ML at *
   simp only [HC,Sg.cs,Ln.cs,fnT,fnP] at hwk hLo r1 r2 ⊢
   by_cases hx:exP p l<0
   · have hng:negP p l=true:=by rw [hneg];simp [hx]
     rw [hng,if_pos rfl] at hall
     rw [hng] at hwk hLo ⊢
     rw [hall] at hwk hLo ⊢
     generalize exP p l=EX at *
     simp at hwk hLo hsl
     unfold r13c
     rw [C_seq,h13]
     simp only
     simp [hx,r1,r2,r3,w1,hwk,hsl,hVd,hLo,hh']
   · have hng:negP p l=false:=by rw [hneg];simp [hx]
     rw [hng,if_neg (by simp)] at hall
     rw [hng] at hwk hLo ⊢
     rw [hall] at hwk hLo ⊢
     generalize exP p l=EX at *
     simp at hwk hLo hsl
     unfold r13c
     rw [C_seq,h13]
     simp only
     simp [hx,r1,r2,r3,w1,hwk,hsl,hVd,hLo,hh']
theorem r8_run (h0:checkN p=0) (hL:LnOk p l) (hm:mayL p.text l=true) {ts ns:Nat} {tks:Tk} {nns:Bool} {t n:Nat} {tk:Tk} {nn:Bool} (hn6:(setgP p l).l≠[]→ns=6) (hnn:nns=true→ns=6) (hn1:(setgP p l).kr≠[]→n=1) {A:List HO}
 (hA:PlA p w u l (.list ts ns tks nns ((setgP p l).l.map Mass.dv)) (.list t n tk nn ((setgP p l).kr.map DV.bool)) A) :
 ∃ v H' K',(E tab).C r8c [(2,.bool last),(3,.ptr st.heap.length 0),(4,.ptr (st.heap.length+1) 0),(9,.ptr (st.heap.length+2) 0),(10,.ptr (st.heap.length+3) 0)] (pst st A []) =
   some (.ret,[(6,v),(7,.int .i64 0)],pst st H' K')∧Acc st K' 4 ((glsP p l last).map Gl.dv) v:=by
 have hm':=hm
 simp only [mayL,Bool.and_eq_true,decide_eq_true_eq] at hm'
 have hnx:=(mayL_text hm).2
 have hlen:=hL.row.len
 have hok:(setgP p l).l.all okM=true:=List.all_eq_true.2 fun m hm=>List.all_eq_true.1 (massL_MOk p).ok m (rowP_sub hm)
 have hsol:(setgP p l).solid≤(setgP p l).l.length:=trimM_le _ _
 have hex:=ex_le h0 hL hm
 have hdr:=setg_drop p l
 have h226:=fun st=>blanks226 (st:=st) (s:=setgP p l) (ts:=ts) (tks:=tks) (kv:=.list t n tk nn ((setgP p l).kr.map DV.bool)) hn6 hnn hlen hok hL.ahs hsol rfl rfl
 have h9:=place_r9 (st:=st) (last:=last) hA hn6 hlen hex
 have r2:=row_nil hA.r2
 have r2':=hA.r2
 have hb:=blN_le (midL (setgP p l))
 rw [show ((setgP p l).l.take (setgP p l).solid).drop (setgP p l).ahead=midL (setgP p l) from rfl] at h226
 have h8:(E tab).C (.region f210r8 [2,3,4,9,10,11,12]) [(2,.bool last),(3,.ptr st.heap.length 0),(4,.ptr (st.heap.length+1) 0),(9,.ptr (st.heap.length+2) 0),(10,.ptr (st.heap.length+3) 0)] (pst st A []) =
  some (.normal,[(2,.bool last),(3,.ptr st.heap.length 0),(4,.ptr (st.heap.length+1) 0),(9,.ptr (st.heap.length+2) 0),(10,.ptr (st.heap.length+3) 0),(11,.int .i64 (blN (midL (setgP p l)))),(12,.int .i64 (blS (midL (setgP p l))))],pst st A []):=by
  generalize (setgP p l).l.map Mass.dv=VL at *
  generalize (setgP p l).kr.map DV.bool=VK at *
  generalize midL (setgP p l)=ML at *
  simp only [Sg.cs] at r2 h226
  simp [r2,h226]
 have h10:(E tab).C (.region f210r10 [3,4,9,10,11,12,13,14]) [(3,.ptr st.heap.length 0),(4,.ptr (st.heap.length+1) 0),(9,.ptr (st.heap.length+2) 0),(10,.ptr (st.heap.length+3) 0),(11,.int .i64 (blN (midL (setgP p l)))),(12,.int .i64 (blS (midL (setgP p l)))),(13,.ptr (st.heap.length+A.length) 0)] (pst st (A++[.cells .plain [.bool (spB p l last)]]) []) =
  some (.normal,[(3,.ptr st.heap.length 0),(4,.ptr (st.heap.length+1) 0),(9,.ptr (st.heap.length+2) 0),(10,.ptr (st.heap.length+3) 0),(11,.int .i64 (blN (midL (setgP p l)))),(12,.int .i64 (blS (midL (setgP p l)))),(13,.ptr (st.heap.length+A.length) 0),(14,.ptr (st.heap.length+(A.length+1)) 0)],pst st (A++[.cells .plain [.bool (spB p l last)],.cells .plain [.list 0 0 .no false []]]) []):=by
  simp
 unfold r8c
 rw [C_seq,h8]
 simp only
 rw [C_seq,h9]
 simp only
 rw [C_seq,h10]
 simp only
 have h11:(E tab).C (.region f210r11 [3,4,9,10,11,12,13,14,86]) [(3,.ptr st.heap.length 0),(4,.ptr (st.heap.length+1) 0),(9,.ptr (st.heap.length+2) 0),(10,.ptr (st.heap.length+3) 0),(11,.int .i64 (blN (midL (setgP p l)))),(12,.int .i64 (blS (midL (setgP p l)))),(13,.ptr (st.heap.length+A.length) 0),(14,.ptr (st.heap.length+(A.length+1)) 0)] (pst st (A++[.cells .plain [.bool (spB p l last)],.cells .plain [.list 0 0 .no false []]]) []) =
  some (.normal,[(3,.ptr st.heap.length 0),(4,.ptr (st.heap.length+1) 0),(9,.ptr (st.heap.length+2) 0),(10,.ptr (st.heap.length+3) 0),(11,.int .i64 (blN (midL (setgP p l)))),(12,.int .i64 (blS (midL (setgP p l)))),(13,.ptr (st.heap.length+A.length) 0),(14,.ptr (st.heap.length+(A.length+1)) 0),(86,.bool (decide (0<(setgP p l).drop)))],pst st (A++[.cells .plain [.bool (spB p l last)],.cells .plain [.list 0 0 .no false []]]) []):=by
  simp only [Sg.cs] at r2'
  simp [r2']
 by_cases hd:0<(setgP p l).drop
 · obtain ⟨ov,K,h12,hO⟩:=place_r12 (st:=st) hA hnx ⟨by omega,by omega⟩ ⟨hd,by omega⟩ (.ptr (st.heap.length+A.length) 0) (.ptr (st.heap.length+3) 0) (.int .i64 (blN (midL (setgP p l)))) (.int .i64 (blS (midL (setgP p l)))) (.bool true) (spB p l last)
   obtain ⟨v,H',K',hr,hR⟩:=r13_run (st:=st) (last:=last) h0 hL hm hn6 hnn hn1 hA hO []
   refine ⟨v,H',K',?_,hR⟩
   have h12':(E tab).C (.seq (.region f210r11 [3,4,9,10,11,12,13,14,86]) (.cond (.t 86) (.dregion f210r12 [] [] [3,4,9,10,11,12,13,14]) .skip)) [(3,.ptr st.heap.length 0),(4,.ptr (st.heap.length+1) 0),(9,.ptr (st.heap.length+2) 0),(10,.ptr (st.heap.length+3) 0),(11,.int .i64 (blN (midL (setgP p l)))),(12,.int .i64 (blS (midL (setgP p l)))),(13,.ptr (st.heap.length+A.length) 0),(14,.ptr (st.heap.length+(A.length+1)) 0)] (pst st (A++[.cells .plain [.bool (spB p l last)],.cells .plain [.list 0 0 .no false []]]) [])=some (.normal,[(3,.ptr st.heap.length 0),(4,.ptr (st.heap.length+1) 0),(9,.ptr (st.heap.length+2) 0),(10,.ptr (st.heap.length+3) 0),(11,.int .i64 (blN (midL (setgP p l)))),(12,.int .i64 (blS (midL (setgP p l)))),(13,.ptr (st.heap.length+A.length) 0),(14,.ptr (st.heap.length+(A.length+1)) 0)],pst st (A++[.cells .plain [.bool (spB p l last)],.cells .plain [ov]]) K):=by
    rw [C_seq,h11]
    simp only [hd,decide_true]
    rw [C_cond (v:=true) _ _ _ _ _ rfl,if_pos rfl]
    exact h12
   rw [C_seq,h12']
   simp only
   exact hr
 · have hO:Acc st [] 4 ((preP p l).map Gl.dv) (.list 0 0 .no false []):=by
    have:preP p l=[]:=if_neg hd
    rw [this];exact acc_nil _ _ _ _ _ _
   obtain ⟨v,H',K',hr,hR⟩:=r13_run (st:=st) (last:=last) h0 hL hm hn6 hnn hn1 hA hO [(86,.bool false)]
   refine ⟨v,H',K',?_,hR⟩
   have h12':(E tab).C (.seq (.region f210r11 [3,4,9,10,11,12,13,14,86]) (.cond (.t 86) (.dregion f210r12 [] [] [3,4,9,10,11,12,13,14]) .skip)) [(3,.ptr st.heap.length 0),(4,.ptr (st.heap.length+1) 0),(9,.ptr (st.heap.length+2) 0),(10,.ptr (st.heap.length+3) 0),(11,.int .i64 (blN (midL (setgP p l)))),(12,.int .i64 (blS (midL (setgP p l)))),(13,.ptr (st.heap.length+A.length) 0),(14,.ptr (st.heap.length+(A.length+1)) 0)] (pst st (A++[.cells .plain [.bool (spB p l last)],.cells .plain [.list 0 0 .no false []]]) [])=some (.normal,[(3,.ptr st.heap.length 0),(4,.ptr (st.heap.length+1) 0),(9,.ptr (st.heap.length+2) 0),(10,.ptr (st.heap.length+3) 0),(11,.int .i64 (blN (midL (setgP p l)))),(12,.int .i64 (blS (midL (setgP p l)))),(13,.ptr (st.heap.length+A.length) 0),(14,.ptr (st.heap.length+(A.length+1)) 0),(86,.bool false)],pst st (A++[.cells .plain [.bool (spB p l last)],.cells .plain [.list 0 0 .no false []]]) []):=by
    rw [C_seq,h11]
    simp only [hd,decide_false]
    rw [C_cond (v:=false) _ _ _ _ _ rfl,if_neg (by simp)]
    simp
   rw [C_seq,h12']
   simp only
   exact hr
theorem place210 (hp:p.small) (hw:w.ok 4 p.spans) (hu:u.ok 1 p.marks) (hLn:checkN p=0→mayL p.text l=true→LnOk p l) :
 ∃ v,(E tab).F 210 [.agg (paraCs p w u),.agg l.cs,.bool last] st=some (.tuple [v,.int .i64 (placeE p l)],st)∧Lw 4 ((if placeE p l=0 then glsP p l last else []).map Gl.dv) v:=by
 rw [F_run at210 rfl]
 have h13:=fun st=>check13 p hp w u hw hu st
 have h222:=fun st=>may222 (st:=st) (p:=p) (w:=w) (u:=u) l
 by_cases h0:checkN p=0
 rotate_left
 · have hE:placeE p l=checkN p:=if_pos h0
   rw [hE,if_neg h0]
   refine ⟨.list 0 0 .no false [],?_,.list _ _ _ _ (fun h=>by cases h) (fun _=>rfl)⟩
   simp only [Ln.cs] at h222 ⊢
   simp [f210,h13,h0]
 by_cases hm:mayL p.text l=true
 rotate_left
 · have hE:placeE p l=5:=by unfold placeE;rw [if_neg (by simp [h0]),if_neg hm]
   rw [hE]
   refine ⟨.list 0 0 .no false [],?_,.list _ _ _ _ (fun h=>by cases h) (fun _=>rfl)⟩
   simp only [Bool.not_eq_true] at hm
   rw [hm] at h222
   simp only [Ln.cs] at h222 ⊢
   simp [f210,h13,h0,h222]
 have hE:placeE p l=0:=by unfold placeE;rw [if_neg (by simp [h0]),if_pos hm]
 rw [hE,if_pos rfl]
 have hL:=hLn h0 hm
 have hm':=hm
 simp only [mayL,Bool.and_eq_true,decide_eq_true_eq] at hm'
 have hnx:=(mayL_text hm).2
 have hlen:=hL.row.len
 have hok:(setgP p l).l.all okM=true:=List.all_eq_true.2 fun m hm=>List.all_eq_true.1 (massL_MOk p).ok m (rowP_sub hm)
 have hsol:(setgP p l).solid≤(setgP p l).l.length:=trimM_le _ _
 have hex:=ex_le h0 hL hm
 have hadd:0≤addP p l∧addP p l≤100000000:=by
  unfold addP movedN
  split
  · omega
  · split<;>omega
 rw [hm] at h222
 obtain ⟨lv,kv,h223,hlv,hkv⟩:=prepare223 (st:=pst st [.cells .plain (paraCs p w u),.cells .plain l.cs] []) h0 hp hw hu l
 obtain ⟨ts,ns,tks,nns,rfl,hn6a,hnn,_⟩:=lw_len hlv
 obtain ⟨t,n,tk,nn,rfl,hn1a,_,_⟩:=lw_len hkv
 have hn6:(setgP p l).l≠[]→ns=6:=fun h=>hn6a (by simpa using h)
 have hn1:(setgP p l).kr≠[]→n=1:=fun h=>hn1a (by simpa using h)
 obtain ⟨J1,hhead⟩:=place_head (st:=st) (last:=last) h0 hL hm (ts:=ts) (tks:=tks) (t:=t) (tk:=tk) (nn:=nn) hn6 hnn hn1 (paraCs p w u)
 have hPA:PlA p w u l (.list ts ns tks nns ((setgP p l).l.map Mass.dv)) (.list t n tk nn ((setgP p l).kr.map DV.bool)) (.cells .plain (paraCs p w u)::.cells .plain l.cs::.cells .plain ((setgP p l).cs (.list ts ns tks nns ((setgP p l).l.map Mass.dv)) (.list t n tk nn ((setgP p l).kr.map DV.bool)))::.cells .plain [.int .i64 (exP p l)]::J1):=⟨fun _=>rfl,fun _=>rfl,fun _=>rfl,fun _=>rfl⟩
 obtain ⟨v,H',K',hr,hR⟩:=r8_run (st:=st) (last:=last) h0 hL hm hn6 hnn hn1 hPA
 obtain ⟨b0,b1,b2,b3,rfl,c1,c2⟩:=acc_lst hR
 refine ⟨.list b0 b1 (exTk b2) b3 ((glsP p l last).map Gl.dv),?_,.list _ _ _ _ c1 c2⟩
 rw [f210c]
 generalize (glsP p l last).map Gl.dv=VG at *
 generalize (setgP p l).l.map Mass.dv=VL at *
 generalize (setgP p l).kr.map DV.bool=VK at *
 simp only [Sg.cs,Ln.cs] at h222 h223 hhead hr ⊢
 simp [f210r7] at hhead
 simp [-ex_list,exl,h13,h0,h222,h223,hhead,hr]
end
def CChn:Nat→List Clu→Nat→Prop
 | i,[],e=>i=e
 | i,c::r,e=>c.a=i∧i<c.b∧CChn c.b r e
def Chn:Int→List Mass→Int→Prop
 | i,[],e=>i=e
 | i,m::r,e=>m.a=i∧i<m.b∧Chn m.b r e
theorem clusF_chn (s:List UInt8):∀ n i,s.length≤i+n→i≤s.length→CChn i (clusF s n i) s.length
 | 0,i,h1,h2=>by
   obtain rfl:i=s.length:=by omega
   simp [clusF,CChn]
 | n+1,i,h1,h2=>by
   have ht:=adv_le s (kdAt s i) 2 (i+1)
   by_cases hi:i<s.length
   · simp only [clusF,hi,if_true,CChn]
     exact ⟨trivial,by unfold cTo;omega,clusF_chn s n (cTo s i) (by unfold cTo;omega) (by unfold cTo;omega)⟩
   · obtain rfl:i=s.length:=by omega
     simp [clusF,CChn]
theorem massGo_chn (p:Para):∀ (l:List Clu) (i e:Nat) (kr:Bool) (bf:UInt8) (ps:Int) (mk:List (List UInt8)),CChn i l e→Chn i (massGo p kr bf ps mk l) e
 | [],i,e,_,_,_,_,h=>by simp only [CChn] at h;subst h;simp [massGo,Chn]
 | c::r,i,e,kr,bf,ps,mk,h=>by
   obtain ⟨h1,h2,h3⟩:=h
   simp only [massGo,Chn,massOf]
   exact ⟨by omega,by omega,massGo_chn p r c.b e _ _ _ _ h3⟩
theorem massL_chn {p:Para} (h0:checkN p=0):Chn 0 (massL p) p.text.length:=by
 have:=massGo_chn p (clus p.text) 0 p.text.length false 0 0 p.marks (clusF_chn p.text p.text.length 0 (by omega) (by omega))
 unfold massL masses
 rw [if_pos h0]
 exact this
theorem Chn.ge:∀ {L:List Mass} {i e:Int},Chn i L e→i≤e∧∀ m∈L,i≤m.a∧m.a<m.b∧m.b≤e
 | [],i,e,h=>by simp only [Chn] at h;subst h;simp
 | m::r,i,e,h=>by
   obtain ⟨h1,h2,h3⟩:=h
   have ih:=Chn.ge h3
   refine ⟨by omega,fun x hx => ?_⟩
   rcases List.mem_cons.1 hx with rfl | hx
   · omega
   · have:=ih.2 x hx;omega
def okN (m k:Mass):Prop:=k.e=0∨(shows m.k=true∧shows k.k=true∧0≤m.w+k.e)
def AdjL:List Mass→Prop
 | []=>True
 | m::r=>(∀ k r',r=k::r'→okN m k)∧AdjL r
theorem P10_em:(P10.all fun x=>decide (1≤em x.1.toNat))=true:=by decide +kernel
theorem P19_em:(P19.all fun x=>decide (1≤em x.1.toNat))=true:=by decide +kernel
theorem isP_em {l:List (UInt8×UInt8)} (hl:(l.all fun x=>decide (1≤em x.1.toNat))=true) {a b:UInt8} (h:isP l a b=true):1≤em a.toNat:=by
 unfold isP at h
 obtain ⟨x,hx,h2⟩:=List.any_eq_true.1 h
 have h3:=List.all_eq_true.1 hl x hx
 simp only [decide_eq_true_eq] at h3
 simp only [Bool.and_eq_true,beq_iff_eq] at h2
 rw [← h2.1] at *
 exact h3
theorem near_wd (a b:UInt8) {n:Int} (h1:1≤n) (h2:n≤64):0≤wd a n+nearV a b n:=by
 have hw:=wd_le a h1 h2
 unfold nearV
 split
 · rename_i h
   have he:=isP_em P10_em h
   have:n≤em a.toNat*n:=by
    have:=Int.mul_le_mul_of_nonneg_right he (show 0≤n by omega);omega
   omega
 · split
   · rename_i h
     have he:=isP_em P19_em h
     have:n≤em a.toNat*n:=by
      have:=Int.mul_le_mul_of_nonneg_right he (show 0≤n by omega);omega
     omega
   · omega
theorem massGo_adj (p:Para) (hpr:propsOk p.pr=true) (hSp:SpOk p.spans):∀ (l:List Clu) (kr:Bool) (bf:UInt8) (ps:Int) (mk:List (List UInt8)),AdjL (massGo p kr bf ps mk l)
 | [],_,_,_,_=>trivial
 | [c],_,_,_,_=>by simp [massGo,AdjL]
 | c::c2::r,kr,bf,ps,mk=>by
   have ih:=massGo_adj p hpr hSp (c2::r) (krOf p c) (bAt p.text c.a) (sizeOf p c.a) (mkOf mk c)
   rw [massGo]
   refine ⟨?_,ih⟩
   intro k r' hk
   simp only [massGo,List.cons.injEq] at hk
   obtain ⟨rfl,_⟩:=hk
   unfold okN
   simp only [massOf]
   unfold massE
   split
   · rename_i h
     right
     simp only [krOf,Bool.and_eq_true,beq_iff_eq] at h
     have hs:=sizeOf_in p hpr hSp c.a
     have hn:=near_wd (bAt p.text c.a) (bAt p.text c2.a) hs.1 hs.2.1
     have hwd:=wd_le (bAt p.text c.a) hs.1 hs.2.1
     refine ⟨h.1.2.1,h.1.1.1,?_⟩
     unfold massW
     rw [if_pos (by simp [h.1.2.1]),← h.2,i64w (by omega)]
     omega
   · exact .inl rfl
theorem massL_adj (p:Para):AdjL (massL p):=by
 unfold massL
 split
 · rename_i h0
   obtain ⟨_,_,hsp,hpr,_⟩:=checkN_zero h0
   have hS:SpOk p.spans:=by
    unfold spansOk at hsp
    cases e:spansL p.text.length p.spans with
    | none=>rw [e] at hsp;simp at hsp
    | some k=>exact (spansL_ok _ _ _ e).1
   exact massGo_adj p hpr hS _ _ _ _ _
 · trivial
theorem keepB_up {D:Bool} {f t:Int} {m k:Mass} (h0:0≤m.a) (h1:m.a<k.a) (hm:keepB D f t m=true) (hk:keepB D f t k=false):t≤k.a:=by
 simp only [keepB,inR,Bool.and_eq_true,decide_eq_true_eq,Bool.and_eq_false_iff,decide_eq_false_iff_not,Bool.not_eq_false'] at hm hk
 rcases hk with (hk | hk) | hk
 · omega
 · omega
 · omega
theorem filter_none {D:Bool} {f t:Int}:∀ {L:List Mass} {i e:Int},Chn i L e→t≤i→L.filter (keepB D f t)=[]
 | [],_,_,_,_=>rfl
 | m::r,i,e,h,ht=>by
   have hge:=h.ge
   rw [List.filter_eq_nil_iff]
   intro x hx
   have:=hge.2 x hx
   simp only [keepB,inR,Bool.and_eq_true,decide_eq_true_eq]
   omega
theorem filter_adj {D:Bool} {f t:Int}:∀ {L:List Mass} {i e:Int},0≤i→Chn i L e→AdjL L→AdjL (L.filter (keepB D f t))
 | [],_,_,_,_,_=>trivial
 | m::r,i,e,h0,hc,hA=>by
   obtain ⟨h1,h2,h3⟩:=hc
   have ih:=filter_adj (D:=D) (f:=f) (t:=t) (show 0≤m.b by omega) h3 hA.2
   by_cases hm:keepB D f t m=true
   · rw [List.filter_cons_of_pos hm]
     refine ⟨?_,ih⟩
     intro k r' hk
     cases r with
     | nil=>simp at hk
     | cons m2 r2=>
       obtain ⟨g1,g2,g3⟩:=h3
       by_cases hm2:keepB D f t m2=true
       · rw [List.filter_cons_of_pos hm2] at hk
         injection hk with hk _
         subst hk
         exact hA.1 m2 r2 rfl
       · exfalso
         simp only [Bool.not_eq_true] at hm2
         have:=keepB_up (by omega) (by omega) hm hm2
         rw [List.filter_cons_of_neg (by simp [hm2]),filter_none g3 (by omega)] at hk
         cases hk
   · rw [List.filter_cons_of_neg hm];exact ih
theorem adj_get:∀ {L:List Mass} (i:Nat),AdjL L→i+1<L.length→okN (L.getD i mz) (L.getD (i+1) mz)
 | [],i,_,h=>by simp at h
 | [m],i,_,h=>by simp at h
 | m::k::r,0,hA,h=>by simpa using hA.1 k r rfl
 | m::k::r,i+1,hA,h=>by
   have:=adj_get (L:=k::r) i hA.2 (by simpa using h)
   simpa using this
theorem rowOk {p:Para} (h0:checkN p=0) (l:Ln):RowOk (rowP p l):=by
 refine ⟨rowP_len p l,?_,?_⟩
 · intro i hi
   have hm:=List.all_eq_true.1 (massL_MOk p).ok _ (rowP_sub (List.mem_of_getElem? (getM hi)))
   simp only [okM,decide_eq_true_eq] at hm
   exact hm
 · intro i hi
   exact adj_get i (filter_adj (by omega) (massL_chn h0) (massL_adj p)) hi
theorem aheadM_ok (L:List Mass) (s:Nat):∀ n i,i≤s→(∀ j,j<i→(L.getD j mz).k=3)→(aheadM L s n i≤s∧∀ j,j<aheadM L s n i→(L.getD j mz).k=3)
 | 0,i,h,h2=>⟨h,h2⟩
 | n+1,i,h,h2=>by
   unfold aheadM
   by_cases hc:i<s∧(L.getD i mz).k=3
   · rw [if_pos hc]
     refine aheadM_ok L s n (i+1) (by omega) (fun j hj => ?_)
     by_cases e:j=i
     · rw [e];exact hc.2
     · exact h2 j (by omega)
   · rw [if_neg hc];exact ⟨h,h2⟩
theorem lnOk {p:Para} (h0:checkN p=0) (l:Ln):LnOk p l:=by
 have ha:=aheadM_ok (rowP p l) (solidP p l) (solidP p l) 0 (by omega) (by intro j hj;omega)
 refine ⟨rowOk h0 l,?_,?_⟩
 · show ∀ i,i<aheadP p l→_
   unfold aheadP
   split
   · exact ha.2
   · intro i hi;omega
 · show aheadP p l≤solidP p l
   unfold aheadP
   split
   · exact ha.1
   · omega
theorem at214:tab 214=some (.code f214):=by kernel_rfl
section
variable {st:St} {p:Para} {w u:LW} {l:Ln} {last:Bool}
theorem place_run (hp:p.small) (hw:w.ok 4 p.spans) (hu:u.ok 1 p.marks) (l:Ln) (last:Bool) :
 ∃ v,(E tab).F 210 [.agg (paraCs p w u),.agg l.cs,.bool last] st=some (.tuple [v,.int .i64 (placeE p l)],st)∧Lw 4 ((if placeE p l=0 then glsP p l last else []).map Gl.dv) v:=
 place210 hp hw hu (fun h _=>lnOk h l)
theorem placeE_zero (h:placeE p l=0):checkN p=0∧mayL p.text l=true:=by
 unfold placeE at h
 split at h
 · rename_i hc;exact absurd h hc
 · rename_i hc
   split at h
   · rename_i hm;exact ⟨by simpa using hc,hm⟩
   · simp at h
theorem hyph_le (h0:checkN p=0) (l:Ln):0≤(setgP p l).hyph∧(setgP p l).hyph≤64:=by
 show 0≤(if l.h then hyW (hszP p l) else 0)∧(if l.h then hyW (hszP p l) else 0)≤64
 have:=wd_le 45 (hszP_ok h0 l).1 (hszP_ok h0 l).2
 unfold hyW
 split<;>omega
theorem add_le (h0:checkN p=0) (hm:mayL p.text l=true):0≤addP p l∧addP p l≤100000000:=by
 have hex:=ex_le h0 (lnOk h0 l) hm
 unfold addP movedN
 split
 · omega
 · split<;>omega
theorem end_le (h0:checkN p=0) (hm:mayL p.text l=true) (i:Nat) (hi:i≤(setgP p l).l.length):-2000000000000000≤endAt p l last i∧endAt p l last i≤2000000000000000:=by
 have hL:=lnOk h0 l
 have hm':=hm
 simp only [mayL,Bool.and_eq_true,decide_eq_true_eq] at hm'
 have hpos:=(pos_ok (p:=p) hL.row hL.ah (x:=l.x) (by omega) i hi).1
 have hex:=ex_le h0 hL hm
 have hok:(setgP p l).l.all okM=true:=List.all_eq_true.2 fun m hm=>List.all_eq_true.1 (massL_MOk p).ok m (rowP_sub hm)
 have hk:=kAt_le (neg:=negP p l) hok i hi
 have hlen:=hL.row.len
 have ht:=tkn_le (sp:=spB p l last) (all:=allP p l) hex (k:=kAt (setgP p l) (negP p l) i) (by omega)
 have ha:=add_le h0 hm
 unfold endAt
 omega
theorem gl_bd (h0:checkN p=0) (hm:mayL p.text l=true):∀ g∈glsP p l last,-9000000000000000≤g.x∧g.x≤9000000000000000 ∧ -9000000000000000≤g.w∧g.w≤9000000000000000:=by
 have hL:=lnOk h0 l
 have hm':=hm
 simp only [mayL,Bool.and_eq_true,decide_eq_true_eq] at hm'
 have hsol:(setgP p l).solid≤(setgP p l).l.length:=trimM_le _ _
 have hen:=end_le (last:=last) h0 hm (setgP p l).solid hsol
 have hex:=ex_le h0 hL hm
 have hok:(setgP p l).l.all okM=true:=List.all_eq_true.2 fun m hm=>List.all_eq_true.1 (massL_MOk p).ok m (rowP_sub hm)
 have hlen:=hL.row.len
 have ha:=add_le h0 hm
 have hdr:=setg_drop p l
 have hhy:=hyph_le h0 l
 intro g hg
 unfold glsP at hg
 rcases List.mem_append.1 hg with hg | hg
 · rcases List.mem_append.1 hg with hg | hg
   · rcases List.mem_append.1 hg with hg | hg
     · unfold preP at hg
       split at hg
       · rw [List.mem_singleton] at hg;subst hg;simp only;omega
       · cases hg
     · obtain ⟨i,hi,rfl⟩:=List.mem_map.1 hg
       rw [List.mem_range] at hi
       have hpos:=pos_ok (p:=p) hL.row hL.ah (x:=l.x) (by omega) i (by omega)
       have hat:=hpos.2 (by omega)
       have hk:=kAt_le (neg:=negP p l) hok i (by omega)
       have hk2:=kAt_le (neg:=negP p l) hok (i+1) (by omega)
       have ht:=tkn_le (sp:=spB p l last) (all:=allP p l) hex (k:=kAt (setgP p l) (negP p l) i) (by omega)
       have ht2:=tkn_le (sp:=spB p l last) (all:=allP p l) hex (k:=kAt (setgP p l) (negP p l) (i+1)) (by omega)
       have hle:=leapI_le (a:=atW p (setgP p l).l i (posW p (setgP p l).l (setgP p l).ahead l.x i)) (by omega)
       have hr:=hL.row.ok i (by omega)
       have hwd:0≤wdW (setgP p l).l (setgP p l).ahead i (atW p (setgP p l).l i (posW p (setgP p l).l (setgP p l).ahead l.x i))∧wdW (setgP p l).l (setgP p l).ahead i (atW p (setgP p l).l i (posW p (setgP p l).l (setgP p l).ahead l.x i))≤4095:=by
        unfold wdW
        split
        · omega
        · split<;>omega
       simp only [kAt] at ht2
       simp only [glAt,glOf]
       omega
   · obtain ⟨m,_,rfl⟩:=List.mem_map.1 hg
     simp only;omega
 · unfold hyphP at hg
   split at hg
   · rw [List.mem_singleton] at hg;subst hg;simp only;omega
   · cases hg
theorem gls_len (p:Para) (l:Ln) (last:Bool):(glsP p l last).length≤4100:=by
 have h1:=rowP_len p l
 have hsol:(setgP p l).solid≤(setgP p l).l.length:=trimM_le _ _
 have e:(setgP p l).l.length=(rowP p l).length:=rfl
 have h2:(preP p l).length≤1:=by unfold preP;split<;>simp
 have h3:(hyphP p l last).length≤1:=by unfold hyphP;split<;>simp
 unfold glsP tailP
 simp only [List.length_append,List.length_map,List.length_range,List.length_drop]
 omega
def gz:Gl:=⟨0,0,0,0⟩
theorem getG {L:List Gl} {i:Nat} (h:i<L.length):L[i]? = some (L.getD i gz):=by rw [List.getD_eq_getElem?_getD,List.getElem?_eq_getElem h];rfl
theorem getGD {L:List Gl} {i:Nat} (h:i<L.length):(L.map Gl.dv)[i]? = some (L.getD i gz).dv:=by rw [List.getElem?_map,getG h];rfl
def lastG (x:Int) (L:List Gl):Int:=if L.length=0 then x else (L.getD (L.length-1) gz).x+(L.getD (L.length-1) gz).w
def endN (p:Para) (l:Ln) (last:Bool):Int:=if placeE p l=0 then lastG l.x (glsP p l last) else 0
theorem end214 (hp:p.small) (hw:w.ok 4 p.spans) (hu:u.ok 1 p.marks) (l:Ln) (last:Bool) :
 (E tab).F 214 [.agg (paraCs p w u),.agg l.cs,.bool last] st=some (.tuple [.int .i64 (endN p l last),.int .i64 (placeE p l)],st):=by
 rw [F_run at214 rfl]
 obtain ⟨v,hpl,hv⟩:=place_run (st:=pst st [.cells .plain (paraCs p w u),.cells .plain l.cs] []) hp hw hu l last
 obtain ⟨t,n,tk,nn,rfl,h4,_,_⟩:=lw_len hv
 unfold endN
 by_cases h0:placeE p l=0
 · simp only [h0,if_true] at hpl h4 ⊢
   obtain ⟨hc,hm⟩:=placeE_zero h0
   have hlen:=gls_len p l last
   have hbd:=gl_bd (last:=last) hc hm
   unfold lastG
   have hVl:((glsP p l last).map Gl.dv).length=(glsP p l last).length:=by simp
   by_cases hz:(glsP p l last).length=0
   · rw [if_pos hz]
     generalize (glsP p l last).map Gl.dv=VG at *
     simp only [Ln.cs] at hpl ⊢
     simp [f214,hpl,hVl,hz]
   · rw [if_neg hz]
     have hlt:(glsP p l last).length-1<(glsP p l last).length:=by omega
     have g0:=getGD hlt
     have hb:=hbd _ (List.mem_of_getElem? (getG hlt))
     obtain rfl:=h4 (by intro e;rw [List.map_eq_nil_iff] at e;exact hz (by rw [e];rfl))
     have l0:(glsP p l last).length-1<((glsP p l last).map Gl.dv).length:=by rw [hVl];exact hlt
     have w1:IntKind.i64.wrap (((glsP p l last).length:Int)-1)=(((glsP p l last).length-1:Nat):Int):=by rw [i64w (by omega)];omega
     generalize (glsP p l last).getD ((glsP p l last).length-1) gz=g at *
     have w2:IntKind.i64.wrap (g.x+g.w)=g.x+g.w:=i64w (by omega)
     generalize (glsP p l last).map Gl.dv=VG at *
     have g0':VG[(glsP p l last).length-1]'l0=g.dv:=by rw [List.getElem?_eq_getElem l0] at g0;exact Option.some.inj g0
     have hz':¬ ((glsP p l last).length:Int)=0:=by omega
     simp only [Ln.cs] at hpl ⊢
     have hnn:¬ glsP p l last=[]:=fun e=>hz (by rw [e];rfl)
     simp [f214,hpl,hVl,hz,hz',hnn,w1,w2,l0,g0,g0',Gl.dv,Gl.cs]
 · simp only [h0,if_false] at hpl ⊢
   simp only [Ln.cs] at hpl ⊢
   simp [f214,hpl,h0]
end
def Nd (i:Int) (L:List Mass) (x:Int):Prop:=x=i∨∃ m∈L,m.b=x
theorem Nd.ge {L:List Mass} {i e x:Int} (h:Chn i L e) (hx:Nd i L x):i≤x:=by
 rcases hx with rfl | ⟨m,hm,rfl⟩
 · exact Int.le_refl _
 · have:=h.ge.2 m hm;omega
theorem Nd.tail {m:Mass} {r:List Mass} {i x:Int} (h:Nd i (m::r) x) (hx:x≠i):Nd m.b r x:=by
 rcases h with h | ⟨k,hk,h⟩
 · exact absurd h hx
 · rcases List.mem_cons.1 hk with rfl | hk
   · exact .inl h.symm
   · exact .inr ⟨k,hk,h⟩
theorem keepF (f t:Int) (m:Mass):keepB false f t m=inR f t m:=by simp [keepB]
theorem inR_none {f t:Int} {L:List Mass} {i e:Int} (h:Chn i L e) (ht:t≤i):L.filter (inR f t)=[]:=by
 have:=filter_none (D:=false) (f:=f) h ht
 rwa [show keepB false f t=inR f t from funext (keepF f t)] at this
theorem inR_from {f g t:Int} {L:List Mass} {i e:Int} (h:Chn i L e) (hf:f≤i) (hg:g≤i):L.filter (inR f t)=L.filter (inR g t):=by
 apply List.filter_congr
 intro m hm
 have:=h.ge.2 m hm
 simp only [inR]
 rw [decide_eq_true (show f≤m.a by omega),decide_eq_true (show g≤m.a by omega)]
theorem chn_filter {t:Int}:∀ {L:List Mass} {i e f:Int},Chn i L e→f≤t→Nd i L f→Nd i L t→Chn f (L.filter (inR f t)) t
 | [],i,e,f,h,h1,h2,h3=>by
   rcases h2 with rfl | ⟨m,hm,_⟩
   · rcases h3 with rfl | ⟨m,hm,_⟩
     · simp [Chn]
     · cases hm
   · cases hm
 | m::r,i,e,f,h,h1,h2,h3=>by
   have hc:=h
   obtain ⟨g1,g2,g3⟩:=h
   by_cases hf:f=i
   · subst hf
     by_cases ht:t=f
     · subst ht
       rw [inR_none hc (Int.le_refl _)];simp [Chn]
     · have h3':=h3.tail ht
       have hge:=h3'.ge g3
       have hk:inR f t m=true:=by simp only [inR,Bool.and_eq_true,decide_eq_true_eq];omega
       rw [List.filter_cons_of_pos hk,inR_from (g:=m.b) g3 (by omega) (Int.le_refl _)]
       exact ⟨g1,g2,chn_filter g3 hge (.inl rfl) h3'⟩
   · have h2':=h2.tail hf
     have hge:=h2'.ge g3
     have hk:inR f t m=false:=by
      simp only [inR,Bool.and_eq_false_iff,decide_eq_false_iff_not];omega
     rw [List.filter_cons_of_neg (by simp [hk])]
     exact chn_filter g3 h1 h2' (h3.tail (by omega))
theorem massL_bs {p:Para} (h0:checkN p=0):(massL p).map (fun m=>(m.a,m.b))=(clus p.text).map fun c=>((c.a:Int),(c.b:Int)):=by
 have:=massGo_clu p (clus p.text) false 0 0 p.marks
 have h2:massL p=massGo p false 0 0 p.marks (clus p.text):=by unfold massL masses;rw [if_pos h0]
 rw [h2]
 have h3:=congrArg (List.map fun x:Int×Int×Int=>(x.1,x.2.1)) this
 simpa [List.map_map,Function.comp_def] using h3
theorem bound_nd {p:Para} (h0:checkN p=0) {t:Int} (h:boundB p.text t=true):Nd 0 (massL p) t:=by
 simp only [boundB,Bool.and_eq_true,Bool.or_eq_true,decide_eq_true_eq,List.any_eq_true] at h
 rcases h.2 with h | ⟨c,hc,h⟩
 · exact .inl h
 · have hm:((c.a:Int),(c.b:Int))∈(massL p).map (fun m=>(m.a,m.b)):=by rw [massL_bs h0];exact List.mem_map.2 ⟨c,hc,rfl⟩
   obtain ⟨m,hm,e⟩:=List.mem_map.1 hm
   exact .inr ⟨m,hm,by rw [← h];exact (Prod.mk.inj e).2⟩
def lineM (p:Para) (l:Ln):List Mass:=(massL p).filter (inR l.f l.t)
theorem lineM_chn {p:Para} {l:Ln} (h0:checkN p=0) (hm:mayL p.text l=true):Chn l.f (lineM p l) l.t:=by
 simp only [mayL,Bool.and_eq_true,decide_eq_true_eq] at hm
 exact chn_filter (massL_chn h0) hm.1.1.1.1.1.1 (bound_nd h0 hm.1.1.1.1.1.2) (bound_nd h0 hm.1.1.1.1.2)
theorem lineM_cases {p:Para} {l:Ln} (h0:checkN p=0) (hm:mayL p.text l=true) :
 ((setgP p l).drop=0∧rowP p l=lineM p l)∨(∃ m0,lineM p l=m0::rowP p l∧m0.a=0∧m0∈massL p∧l.f=0∧(setgP p l).drop=capN p∧4≤capN p∧dropB p=true):=by
 have hch:=massL_chn h0
 have hf:0≤l.f:=(bound_nd h0 (by simp only [mayL,Bool.and_eq_true,decide_eq_true_eq] at hm;exact hm.1.1.1.1.1.2)).ge hch
 have hd:(setgP p l).drop=dropV (dropB p) (capN p) l.f l.t (massL p):=rfl
 rw [hd]
 unfold rowP lineM rowOf dropV
 by_cases hD:dropB p=true
 · cases hL:massL p with
   | nil=>left;simp
   | cons m0 r=>
     rw [hL] at hch
     obtain ⟨g1,g2,g3⟩:=hch
     have hr:∀ m∈r,0<m.a:=fun m hm=>by have:=g3.ge.2 m hm;omega
     have hkr:r.filter (keepB true l.f l.t)=r.filter (inR l.f l.t):=by
      apply List.filter_congr
      intro m hm
      have:=hr m hm
      simp only [keepB]
      rw [decide_eq_false (show ¬ m.a=0 by omega)];simp
     have hk0:keepB true l.f l.t m0=false:=by simp [keepB,g1]
     have hany:(r.any fun m=>inR l.f l.t m&&decide (m.a=0))=false:=by
      rw [List.any_eq_false]
      intro m hm
      have:=hr m hm
      simp;omega
     rw [hD]
     by_cases hin:inR l.f l.t m0=true
     · right
       refine ⟨m0,?_,g1,by simp,?_,?_,(capN_le p).2.2 hD,rfl⟩
       · rw [List.filter_cons_of_pos hin,List.filter_cons_of_neg (by simp [hk0]),hkr]
       · simp only [inR,Bool.and_eq_true,decide_eq_true_eq] at hin;omega
       · simp [hin,g1]
     · left
       refine ⟨?_,?_⟩
       · simp only [List.any_cons,hany];simp [hin]
       · rw [List.filter_cons_of_neg hin,List.filter_cons_of_neg (by simp [hk0]),hkr]
 · left
   simp only [Bool.not_eq_true] at hD
   rw [hD]
   refine ⟨by simp,?_⟩
   rw [show keepB false l.f l.t=inR l.f l.t from funext (keepF l.f l.t)]
section
variable {p:Para} {l:Ln} {last:Bool}
theorem gl_end (i:Nat):(glAt p l last i).x+(glAt p l last i).w=endAt p l last (i+1):=by
 simp only [glAt,glOf,endAt,posW,kAt];omega
end
section
variable {st:St} {p:Para} {w u:LW} {l:Ln} {last:Bool}
def slackF (a z:Int) (r:List Mass):Int:=r.foldl (fun z m=>if m.a=a then m.e else z) z
end
section
variable {st:St} {p:Para} {w u:LW} {l:Ln} {last:Bool}
def apartB (d:Int) (l:Ln) (G:List Gl) (i:Nat):Bool:=decide (i=1)&&decide (0<d)&&decide (l.f=0)&&decide ((G.getD 0 gz).f=0)
def slackI (R:List Mass) (nN:Nat) (G:List Gl) (i:Nat):Int:=if i<nN then slackF (G.getD i gz).f 0 R else 0
structure GoodG (d:Int) (l:Ln) (R:List Mass) (nN:Nat) (G:List Gl):Prop where
 far:∀ i,1≤i→i<G.length→apartB d l G i=false→0≤(G.getD i gz).w∧(G.getD (i-1) gz).x+(G.getD (i-1) gz).w+slackI R nN G i≤(G.getD i gz).x
 near:∀ i,1≤i→i<G.length→apartB d l G i=true→(G.getD 0 gz).x=l.x-d∧(G.getD 0 gz).w=d-4
 bd:∀ i,i<G.length → -9000000000000000≤(G.getD i gz).x∧(G.getD i gz).x≤9000000000000000 ∧ -9000000000000000≤(G.getD i gz).w∧(G.getD i gz).w≤9000000000000000
 sl:∀ i,-1000≤slackI R nN G i∧slackI R nN G i≤1000
end
section
variable {p:Para} {l:Ln} {last:Bool}
def restG (p:Para) (l:Ln) (last:Bool):List Gl:=(List.range (setgP p l).solid).map (glAt p l last)++tailP p l last++hyphP p l last
theorem gls_rest:glsP p l last=preP p l++restG p l last:=by simp [glsP,restG]
theorem rest_solid {j:Nat} (hj:j<(setgP p l).solid):(restG p l last).getD j gz=glAt p l last j:=by
 unfold restG
 rw [List.getD_eq_getElem?_getD,List.append_assoc,List.getElem?_append_left (by simpa using hj)]
 simp [hj]
theorem rest_tail {j:Nat} (h1:(setgP p l).solid≤j) (h2:j<(setgP p l).l.length):(restG p l last).getD j gz=tgl (endAt p l last (setgP p l).solid) ((setgP p l).l.getD j mz):=by
 have hsol:(setgP p l).solid≤(setgP p l).l.length:=trimM_le _ _
 unfold restG tailP
 rw [List.getD_eq_getElem?_getD,List.append_assoc,List.getElem?_append_right (by simpa using h1),List.length_map,List.length_range,List.getElem?_append_left (by simp;omega)]
 rw [List.getElem?_map,List.getElem?_drop,show (setgP p l).solid+(j-(setgP p l).solid)=j by omega,getM h2]
 rfl
theorem rest_len:(restG p l last).length=(setgP p l).l.length+if l.h then 1 else 0:=by
 have hsol:(setgP p l).solid≤(setgP p l).l.length:=trimM_le _ _
 unfold restG tailP hyphP
 simp only [List.length_append,List.length_map,List.length_range,List.length_drop]
 split<;>simp<;>omega
theorem rest_hyph {j:Nat} (h1:(setgP p l).l.length≤j) (h2:j<(restG p l last).length):(restG p l last).getD j gz=⟨l.t,l.t,endAt p l last (setgP p l).solid,(setgP p l).hyph⟩:=by
 have hsol:(setgP p l).solid≤(setgP p l).l.length:=trimM_le _ _
 rw [rest_len] at h2
 have hh:l.h=true:=by
  cases hb:l.h with
  | true=>rfl
  | false=>rw [hb] at h2;simp at h2;omega
 rw [hh] at h2
 simp only [if_true] at h2
 obtain rfl:j=(setgP p l).l.length:=by omega
 unfold restG hyphP tailP
 rw [List.getD_eq_getElem?_getD,List.getElem?_append_right (by simp;omega)]
 simp [hh,hsol,show (setgP p l).l.length-((setgP p l).solid+((setgP p l).l.length-(setgP p l).solid))=0 by omega]
end
section
variable {st:St} {p:Para} {w u:LW} {l:Ln} {last:Bool}
end
theorem at9:tab 9=some (.code f9):=by kernel_rfl
theorem app_copy {st:St} {K:List Nat} {n by_:Nat} {ag:Bool} {xs:List DV} (w:LW) (hok:w.ok n xs) (hn:0<n) (he:∀ y∈xs,IsEl n ag y) (hr:xs.length*by_≤roomD) (hr2:xs.length≤roomD) :
 ∃ tk K',∀ H,appendD (pst st H K) n ag by_ (.list st.cur n .tight true []) (.list w.t w.n w.tk w.nn xs)=some (.list st.cur n tk true xs,pst st H K'):=by
 by_cases hx:xs=[]
 · subst hx
   refine ⟨.tight,K,fun H=>app_none ?_⟩
   unfold newsD
   cases e:w.nn with
   | false=>rfl
   | true=>simp [hok.1 e,flat]
 · have e:w.nn=true:=by
    cases e:w.nn with
    | true=>rfl
    | false=>exact absurd (hok.2 e) hx
   refine ⟨.own (st.toks.length+K.length) 0,K++[0],fun H => ?_⟩
   rw [e,hok.1 e]
   exact app_new (.inr ⟨rfl,rfl,rfl⟩) hn hx he (by simpa using hr) (by simpa using hr2)
theorem el_str (s:List UInt8):IsEl 1 false (.str s):=⟨rfl,rfl,rfl⟩
def LW.tied (w:LW):Prop:=∀ a b,w.tk≠.own a b
theorem exTk_tied (k:Tk) (a b:Nat):exTk k≠.own a b:=by cases k<;>simp [exTk]
theorem pcEx (st st':St) (p:Para) (w u:LW):exportLs st st' (paraCs p w u)=some (paraCs p ⟨w.t,w.n,exTk w.tk,w.nn⟩ ⟨u.t,u.n,exTk u.tk,u.nn⟩):=rfl
theorem pcS1 (p:Para) (w u:LW) (t n:Nat) (tk:Tk) (nn:Bool):splice (paraCs p w u) 1 [.list t n tk nn (p.spans.map Span.dv)]=paraCs p ⟨t,n,tk,nn⟩ u:=rfl
theorem pcS20 (p:Para) (w u:LW) (t n:Nat) (tk:Tk) (nn:Bool):splice (paraCs p w u) 20 [.list t n tk nn (p.marks.map .str)]=paraCs p w ⟨t,n,tk,nn⟩:=rfl
theorem pcS0 (Z:List DV) (h:Z.length=21) (p:Para) (w u:LW):splice Z 0 (paraCs p w u)=paraCs p w u:=by
 unfold splice
 rw [List.take_zero,List.nil_append,List.drop_eq_nil_of_le (by rw [h];exact Nat.le_refl 21),List.append_nil]
theorem copy9 (p:Para) (w u:LW) (hw:w.ok 4 p.spans) (hu:u.ok 1 p.marks) (h1:p.spans.length≤5000) (h2:p.marks.length≤5000) (st:St) :
 ∃ w' u':LW,(E tab).F 9 [.agg (paraCs p w u)] st=some (.agg (paraCs p w' u'),st)∧w'.ok 4 p.spans∧u'.ok 1 p.marks∧w'.tied∧u'.tied:=by
 obtain ⟨tk1,K1,e1⟩:=app_copy (st:=st) (K:=[]) (by_:=32) (ag:=true) w (xs:=p.spans.map Span.dv) ⟨hw.1,fun h=>by rw [hw.2 h];rfl⟩ (by omega) (fun y hy=>by
  obtain ⟨s,_,rfl⟩:=List.mem_map.1 hy;exact el_span s) (by simp [roomD];omega) (by simp [roomD];omega)
 obtain ⟨tk2,K2,e2⟩:=app_copy (st:=st) (K:=K1) (by_:=16) (ag:=false) u (xs:=p.marks.map .str) ⟨hu.1,fun h=>by rw [hu.2 h];rfl⟩ (by omega) (fun y hy=>by
  obtain ⟨s,_,rfl⟩:=List.mem_map.1 hy;exact el_str s) (by simp [roomD];omega) (by simp [roomD];omega)
 refine ⟨⟨st.cur,4,exTk tk1,true⟩,⟨st.cur,1,exTk tk2,true⟩,?_,⟨fun _=>rfl,fun h=>by cases h⟩,⟨fun _=>rfl,fun h=>by cases h⟩,?_,?_⟩
 · rw [F_run at9 rfl]
   simp [f9,op_lit,repl,chunk,e1,e2,pcEx,pcS0,pcS1,pcS20,-splice]
 · exact exTk_tied tk1
 · exact exTk_tied tk2
theorem kAt_all (s:Sg) (neg:Bool):∀ i,i≤s.l.length→kAt s neg i=if neg then blS ((s.l.take i).drop s.ahead) else (blN ((s.l.take i).drop s.ahead):Int)
 | 0,_=>by cases neg<;>simp [kAt,blS,blN]
 | i+1,h=>by
   have ih:=kAt_all s neg i (by omega)
   have ht:s.l.take (i+1)=s.l.take i++[s.l.getD i mz]:=by
    rw [List.take_add_one,getM (by omega)];rfl
   simp only [kAt,kNext]
   rw [ih,ht]
   by_cases hai:s.ahead≤i
   · rw [List.drop_append_of_le_length (by simp;omega),blS_app,blN_app]
     cases neg<;>by_cases hk:(s.l.getD i mz).k=3<;>simp [prt,blS,blN,hk,hai,-List.getD_eq_getElem?_getD]<;>omega
   · have e1:(s.l.take i).drop s.ahead=[]:=List.drop_eq_nil_of_le (by simp;omega)
     rw [if_neg (fun h=>hai h.2),e1,List.drop_eq_nil_of_le (by simp;omega)]
section
variable {p:Para} {l:Ln} {last:Bool}
theorem end_sum:endAt p l last (setgP p l).solid=posW p (setgP p l).l (setgP p l).ahead l.x (setgP p l).solid+addP p l+if spB p l last then exP p l else 0:=by
 have hsol:(setgP p l).solid≤(setgP p l).l.length:=trimM_le _ _
 have hk:=kAt_all (setgP p l) (negP p l) _ hsol
 have ha:kAt (setgP p l) (negP p l) (setgP p l).solid=allP p l:=by rw [hk];rfl
 unfold endAt
 rw [ha]
 unfold tkn
 cases hs:spB p l last with
 | false=>simp
 | true=>
   have hs':=hs
   simp only [spB,Bool.and_eq_true,Bool.or_eq_true,decide_eq_true_eq] at hs'
   have hne:allP p l≠0:=by
    unfold allP negP
    by_cases hx:exP p l<0
    · simp only [hx,decide_true,if_true];omega
    · simp only [hx,decide_false,Bool.false_eq_true,if_false];omega
   simp only [if_true]
   rw [Int.mul_tdiv_cancel _ hne]
theorem drop_none (h0:checkN p=0) (hm:mayL p.text l=true) (hc:capN p=0):preP p l=[]∧rowP p l=lineM p l:=by
 rcases lineM_cases h0 hm with ⟨c1,c2⟩ | ⟨m0,c1,c2,c3,c4,c5,c6,c7⟩
 · exact ⟨by unfold preP;rw [if_neg (by omega)],c2⟩
 · omega
theorem end_at (h0:checkN p=0) (hm:mayL p.text l=true) (hc:capN p=0) (hne:l.f≠l.t∨l.h=true) :
 lastG l.x (glsP p l last)=endAt p l last (setgP p l).solid+if l.h then (setgP p l).hyph else 0:=by
 obtain ⟨hpre,hrow⟩:=drop_none h0 hm hc
 have hG:glsP p l last=restG p l last:=by rw [gls_rest,hpre];rfl
 have hsol:(setgP p l).solid≤(setgP p l).l.length:=trimM_le _ _
 have hlen:=rest_len (p:=p) (l:=l) (last:=last)
 rw [hG]
 unfold lastG
 cases hh:l.h with
 | true=>
   rw [hh] at hlen
   simp only [if_true] at hlen
   rw [if_neg (by omega),rest_hyph (by omega) (by omega)];simp
 | false=>
   rw [hh] at hlen
   simp only [Bool.false_eq_true,if_false,Nat.add_zero] at hlen
   have hR:0<(setgP p l).l.length:=by
    apply Nat.pos_of_ne_zero
    intro e
    have hch:=lineM_chn h0 hm
    rw [← hrow] at hch
    have e':rowP p l=[]:=List.length_eq_zero_iff.1 e
    rw [e'] at hch
    rcases hne with h | h
    · exact h hch
    · rw [hh] at h;cases h
   rw [if_neg (by omega),hlen]
   simp only [Bool.false_eq_true,if_false,Int.add_zero]
   by_cases h1:(setgP p l).l.length-1<(setgP p l).solid
   · rw [rest_solid h1,gl_end,show (setgP p l).l.length-1+1=(setgP p l).solid by omega]
   · rw [rest_tail (by omega) (by omega)]
     simp [tgl]
def bareP (p:Para):Para:={ p with pr:={ p.pr with align:=0 } }
theorem bare_mass (p:Para):∀ (c:List Clu) (kr:Bool) (bf:UInt8) (ps:Int) (mk:List (List UInt8)),massGo (bareP p) kr bf ps mk c=massGo p kr bf ps mk c
 | [],_,_,_,_=>rfl
 | c::r,kr,bf,ps,mk=>by
   simp only [massGo,bare_mass p r]
   rfl
theorem bare_check (h0:checkN p=0):checkN (bareP p)=0:=by
 have h:=checkN_zero h0
 have e:propsOk (bareP p).pr=propsOk p.pr:=by
  have h1:=h.2.2.2.1
  rw [h1]
  simp only [propsOk,Bool.and_eq_true] at h1 ⊢
  refine ⟨?_,h1.2⟩
  simp only [bareP]
  simp only [h1.1,and_self,and_true,true_and]
  rfl
 have e2:checkN (bareP p)=checkN p:=by
  unfold checkN
  rw [e]
  rfl
 rw [e2,h0]
theorem bare_massL (h0:checkN p=0):massL (bareP p)=massL p:=by
 unfold massL
 rw [if_pos h0,if_pos (bare_check h0)]
 exact bare_mass p _ _ _ _ _
theorem bare_drop (h0:checkN p=0):dropB (bareP p)=dropB p:=by
 unfold dropB
 rw [bare_massL h0];rfl
theorem bare_items (h0:checkN p=0):itemsL (bareP p)=itemsL p:=by
 unfold itemsL bodyL
 rw [bare_massL h0,bare_drop h0];rfl
theorem bare_part (h0:checkN p=0) (a:Int):partB (bareP p) a=partB p a:=by unfold partB;rw [bare_items h0]
theorem bare_kr (h0:checkN p=0):∀ (L:List Mass) (k:Nat),krP (bareP p) k L=krP p k L
 | [],_=>rfl
 | m::r,k=>by simp only [krP,bare_kr h0 r,bare_part h0]
theorem bare_row (h0:checkN p=0):rowP (bareP p) l=rowP p l:=by
 unfold rowP
 rw [bare_massL h0,bare_drop h0]
theorem bare_cap (h0:checkN p=0):capN (bareP p)=capN p:=by
 unfold capN
 rw [bare_drop h0];rfl
theorem bare_solid (h0:checkN p=0):solidP (bareP p) l=solidP p l:=by unfold solidP;rw [bare_row h0]
theorem bare_set (h0:checkN p=0):setgP (bareP p) l=setgP p l:=by
 unfold setgP aheadP hszP
 rw [bare_row h0,bare_solid h0,bare_drop h0,bare_massL h0,bare_cap h0,bare_kr h0];rfl
theorem bare_atW (h0:checkN p=0) (R:List Mass) (i:Nat) (a:Int):atW (bareP p) R i a=atW p R i a:=by
 unfold atW;rw [bare_part h0]
theorem bare_pos (h0:checkN p=0) (R:List Mass) (ah:Nat) (x:Int):∀ i,posW (bareP p) R ah x i=posW p R ah x i
 | 0=>rfl
 | i+1=>by simp only [posW,bare_pos h0 R ah x i,bare_atW h0]
theorem bare_end (h0:checkN p=0):endAt (bareP p) l last (setgP (bareP p) l).solid=posW p (setgP p l).l (setgP p l).ahead l.x (setgP p l).solid:=by
 rw [end_sum,bare_set h0,bare_pos h0]
 have h1:addP (bareP p) l=0:=by unfold addP movedN;rfl
 have h2:spB (bareP p) l last=false:=by unfold spB;rfl
 rw [h1,h2];simp
theorem hyph_none (h:l.h=false):(setgP p l).hyph=0:=by unfold setgP;rw [h];rfl
theorem end_two (h0:checkN p=0) (hm:mayL p.text l=true) (hc:capN p=0) (hne:l.f≠l.t∨l.h=true) :
 lastG l.x (glsP (bareP p) l last)=l.x+l.w-exP p l∧lastG l.x (glsP p l last)=l.x+l.w-exP p l+addP p l+if spB p l last then exP p l else 0:=by
 have a:=end_at (last:=last) h0 hm hc hne
 have b:=end_at (last:=last) (bare_check h0) (p:=bareP p) hm (by rw [bare_cap h0,hc]) hne
 have hs:=end_sum (p:=p) (l:=l) (last:=last)
 have hb:=bare_end (l:=l) (last:=last) h0
 have hy:(if l.h=true then (setgP p l).hyph else 0)=(setgP p l).hyph:=by
  cases hh:l.h with
  | true=>rfl
  | false=>rw [hyph_none hh];rfl
 rw [bare_set h0] at b hb
 rw [hb,hy] at b
 rw [hs,hy] at a
 rw [a,b]
 have hx:exP p l=l.w-(posW p (setgP p l).l (setgP p l).ahead l.x (setgP p l).solid+(setgP p l).hyph-l.x):=rfl
 constructor<;>omega
end
theorem kd3a:((List.range 256).all fun c=>(kd c==3)==(c==32))=true:=by decide +kernel
theorem kd4a:((List.range 256).all fun c=>(kd c==4)==(c==9))=true:=by decide +kernel
theorem kd5a:((List.range 256).all fun c=>(kd c==5)==(c==31))=true:=by decide +kernel
theorem kd_of {n:Nat} {k:Int} (hn:n<256) (h:((List.range 256).all fun c=>(kd c==k)==(c==n))=true) (c:UInt8):kd c.toNat=k↔c=UInt8.ofNat n:=by
 have:=List.all_eq_true.1 h c.toNat (List.mem_range.2 c.toNat_lt)
 rw [beq_iff_eq,Bool.eq_iff_iff,beq_iff_eq,beq_iff_eq] at this
 rw [this]
 constructor
 · intro h;apply UInt8.toNat_inj.1;rw [h,UInt8.toNat_ofNat_of_lt' (by simpa using hn)]
 · intro h;rw [h,UInt8.toNat_ofNat_of_lt' (by simpa using hn)]
theorem kd_b (c:UInt8):kd c.toNat=3↔c=32:=kd_of (n:=32) (by omega) kd3a c
theorem kd_t (c:UInt8):kd c.toNat=4↔c=9:=kd_of (n:=9) (by omega) kd4a c
theorem kd_s (c:UInt8):kd c.toNat=5↔c=31:=kd_of (n:=31) (by omega) kd5a c
theorem acc_no {c:UInt8} (h:isAcc c.toNat=true):c≠32∧c≠9∧c≠31:=by
 refine ⟨?_,?_,?_⟩<;>rintro rfl<;>revert h<;>decide
theorem adv_in (s:List UInt8) (k:Int):∀ n t j,t≤j→j<adv s k n t→isAcc (s.getD j 0).toNat=true
 | 0,t,j,h1,h2=>by simp only [adv] at h2;omega
 | n+1,t,j,h1,h2=>by
   unfold adv at h2
   split at h2
   · rename_i h
     by_cases e:j=t
     · rw [e];exact h.2.2
     · exact adv_in s k n (t+1) j (by omega) h2
   · omega
theorem adv_one (s:List UInt8) {k:Int} (hk:k≠1) (n t:Nat):adv s k n t=t:=by
 cases n with
 | zero=>rfl
 | succ n=>unfold adv;rw [if_neg fun h=>hk h.1]
theorem clusF_by (s:List UInt8):∀ n i,∀ c∈clusF s n i,c.k=kdAt s c.a∧(c.k≠1→c.b=c.a+1)∧∀ j,c.a<j→j<c.b→isAcc (s.getD j 0).toNat=true
 | 0,_,c,h=>by simp [clusF] at h
 | n+1,i,c,h=>by
   unfold clusF at h
   split at h
   · rcases List.mem_cons.1 h with rfl | h
     · exact ⟨rfl,fun hk=>adv_one s hk 2 (i+1),fun j h1 h2=>adv_in s _ 2 (i+1) j h1 h2⟩
     · exact clusF_by s n _ c h
   · cases h
section
variable {p:Para} {l:Ln} {last:Bool}
theorem massL_bytes (h0:checkN p=0) {m:Mass} (hm:m∈massL p):∃ a b:Nat,m.a=a∧m.b=b∧m.k=kd (p.text.getD a 0).toNat∧(m.k≠1→b=a+1)∧∀ j,a<j→j<b→isAcc (p.text.getD j 0).toNat=true:=by
 have h1:=massGo_clu p (clus p.text) false 0 0 p.marks
 have h2:massL p=massGo p false 0 0 p.marks (clus p.text):=by unfold massL masses;rw [if_pos h0]
 rw [h2] at hm
 have h3:(m.a,m.b,m.k)∈(clus p.text).map fun c=>((c.a:Int),(c.b:Int),c.k):=by rw [← h1];exact List.mem_map.2 ⟨m,hm,rfl⟩
 obtain ⟨c,hc,e⟩:=List.mem_map.1 h3
 simp only [Prod.mk.injEq] at e
 have:=clusF_by p.text _ _ c hc
 rw [e.2.2] at this
 exact ⟨c.a,c.b,e.1.symm,e.2.1.symm,this.1,this.2.1,this.2.2⟩
theorem Chn.cover:∀ {L:List Mass} {i e:Int},Chn i L e→∀ {x:Int},i≤x→x<e→∃ j,j<L.length∧(L.getD j mz).a≤x∧x<(L.getD j mz).b
 | [],i,e,h,x,h1,h2=>by simp only [Chn] at h;omega
 | m::r,i,e,h,x,h1,h2=>by
   obtain ⟨g1,g2,g3⟩:=h
   by_cases hx:x<m.b
   · exact ⟨0,by simp,by simp only [List.getD_cons_zero];omega,by simpa using hx⟩
   · obtain ⟨j,h3,h4,h5⟩:=g3.cover (x:=x) (by omega) h2
     exact ⟨j+1,by simp;omega,by simpa using h4,by simpa using h5⟩
theorem getD_mem {L:List Mass} {j:Nat} (h:j<L.length):L.getD j mz∈L:=List.mem_of_getElem? (getM h)
theorem Chn.lt:∀ {L:List Mass} {i e:Int},Chn i L e→∀ {j k:Nat},j<k→k<L.length→(L.getD j mz).b≤(L.getD k mz).a
 | [],_,_,_,j,k,_,h=>by simp at h
 | m::r,i,e,h,j,0,h1,h2=>by omega
 | m::r,i,e,h,0,k+1,h1,h2=>by
   obtain ⟨g1,g2,g3⟩:=h
   have hk:k<r.length:=by simpa using h2
   have:=g3.ge.2 _ (getD_mem hk)
   simp only [List.getD_cons_zero,List.getD_cons_succ];omega
 | m::r,i,e,h,j+1,k+1,h1,h2=>by
   obtain ⟨g1,g2,g3⟩:=h
   simp only [List.getD_cons_succ]
   exact g3.lt (by omega) (by simpa using h2)
theorem trim_no (L:List Mass):∀ n,0<trimM L n→blankB (L.getD (trimM L n-1) mz)=false
 | 0,h=>by simp [trimM] at h
 | n+1,h=>by
   unfold trimM at h ⊢
   split
   · rename_i hb
     rw [if_pos hb] at h
     exact trim_no L n h
   · rename_i hb
     simpa using hb
theorem trim_yes (L:List Mass):∀ n j,trimM L n≤j→j<n→blankB (L.getD j mz)=true
 | 0,j,_,h=>by omega
 | n+1,j,h1,h2=>by
   unfold trimM at h1
   split at h1
   · rename_i hb
     by_cases e:j=n
     · rw [e];exact hb
     · exact trim_yes L n j h1 (by omega)
   · omega
theorem ahead_no (L:List Mass) (s:Nat):∀ n i,s≤i+n→aheadM L s n i<s→(L.getD (aheadM L s n i) mz).k≠3
 | 0,i,h,h2=>by simp only [aheadM] at h2;omega
 | n+1,i,h,h2=>by
   unfold aheadM at h2 ⊢
   split
   · rename_i hc
     rw [if_pos hc] at h2
     exact ahead_no L s n (i+1) (by omega) h2
   · rename_i hc
     rw [if_neg hc] at h2
     intro e;exact hc ⟨h2,e⟩
theorem blN_pos:∀ L:List Mass,0<blN L↔∃ m∈L,m.k=3
 | []=>by simp [blN]
 | m::r=>by
   have:=blN_pos r
   simp only [blN,List.mem_cons,exists_eq_or_imp,← this]
   split<;>rename_i h
   · simp [h];omega
   · simp [h]
theorem mid_mem {L:List Mass} {a s:Nat} (hs:s≤L.length) {P:Mass→Prop}:(∃ m∈(L.take s).drop a,P m)↔∃ j,a≤j∧j<s∧P (L.getD j mz):=by
 constructor
 · rintro ⟨m,hm,hP⟩
   obtain ⟨i,hi,rfl⟩:=List.getElem_of_mem hm
   simp only [List.length_drop,List.length_take] at hi
   refine ⟨a+i,by omega,by omega,?_⟩
   have:L.getD (a+i) mz=((L.take s).drop a)[i]:=by
    rw [List.getD_eq_getElem?_getD,List.getElem?_eq_getElem (by omega)];simp
   rw [this];exact hP
 · rintro ⟨j,h1,h2,hP⟩
   refine ⟨L.getD j mz,?_,hP⟩
   apply List.mem_of_getElem? (i:=j-a)
   rw [List.getElem?_drop,show a+(j-a)=j by omega,List.getElem?_take,if_pos h2,getM (by omega)]
structure FirstOk (p:Para) (l:Ln) (fi:Nat):Prop where
 ge:l.f≤fi
 le:(fi:Int)≤l.t
 far:l.f≠0→l.f=fi
 lead:l.f=0→∀ x,x<fi→p.text.getD x 0=32
 stop:l.f=0→(fi:Int)<l.t→p.text.getD fi 0≠32
theorem row_at2 (h0:checkN p=0) (hm:mayL p.text l=true) (hc:capN p=0) {j:Nat} (hj:j<(rowP p l).length):∃ a b:Nat,((rowP p l).getD j mz).a=a∧((rowP p l).getD j mz).b=b∧l.f≤a∧a<b∧(b:Int)≤l.t∧((rowP p l).getD j mz).k=kd (p.text.getD a 0).toNat∧(((rowP p l).getD j mz).k≠1→b=a+1)∧∀ j,a<j→j<b→isAcc (p.text.getD j 0).toNat=true:=by
 obtain ⟨_,hrow⟩:=drop_none h0 hm hc
 have hch:=lineM_chn h0 hm
 rw [← hrow] at hch
 have hmem:=getD_mem hj
 obtain ⟨a,b,e1,e2,e3,e4,e5⟩:=massL_bytes h0 (rowP_sub hmem)
 have:=hch.ge.2 _ hmem
 exact ⟨a,b,e1,e2,by omega,by omega,by omega,e3,e4,e5⟩
theorem row_cover (h0:checkN p=0) (hm:mayL p.text l=true) (hc:capN p=0) {x:Nat} (h1:l.f≤x) (h2:(x:Int)<l.t):∃ j,j<(rowP p l).length∧((rowP p l).getD j mz).a≤x∧x<((rowP p l).getD j mz).b:=by
 obtain ⟨_,hrow⟩:=drop_none h0 hm hc
 have hch:=lineM_chn h0 hm
 rw [← hrow] at hch
 exact hch.cover h1 h2
theorem row_lt (h0:checkN p=0) (hm:mayL p.text l=true) (hc:capN p=0) {j k:Nat} (h1:j<k) (h2:k<(rowP p l).length):((rowP p l).getD j mz).b≤((rowP p l).getD k mz).a:=by
 obtain ⟨_,hrow⟩:=drop_none h0 hm hc
 have hch:=lineM_chn h0 hm
 rw [← hrow] at hch
 exact hch.lt h1 h2
theorem tabs_iff (h0:checkN p=0) (hm:mayL p.text l=true) (hc:capN p=0) {fi:Nat} (hf:FirstOk p l fi):((rowP p l).any fun m=>decide (m.k=4))=true↔∃ x:Nat,fi≤x∧(x:Int)<l.t∧p.text.getD x 0=9:=by
 rw [List.any_eq_true]
 constructor
 · rintro ⟨m,hmem,hk⟩
   rw [decide_eq_true_eq] at hk
   obtain ⟨j,hj,rfl⟩:=List.getElem_of_mem hmem
   have eg:(rowP p l).getD j mz=(rowP p l)[j]:=by rw [List.getD_eq_getElem?_getD,List.getElem?_eq_getElem hj];rfl
   obtain ⟨a,b,e1,e2,e3,e4,e5,e6,e7,e8⟩:=row_at2 h0 hm hc hj
   rw [eg,hk] at e6
   have ht:=(kd_t _).1 e6.symm
   refine ⟨a,?_,by omega,ht⟩
   by_cases hz:l.f=0
   · apply Nat.le_of_not_lt
     intro h
     rw [hf.lead hz a h] at ht
     revert ht;decide
   · have:=hf.far hz;omega
 · rintro ⟨x,h1,h2,h3⟩
   have:=hf.ge
   obtain ⟨j,hj,g1,g2⟩:=row_cover h0 hm hc (x:=x) (by omega) h2
   obtain ⟨a,b,e1,e2,e3,e4,e5,e6,e7,e8⟩:=row_at2 h0 hm hc hj
   refine ⟨_,getD_mem hj,?_⟩
   rw [decide_eq_true_eq,e6]
   by_cases e:a=x
   · rw [e];exact (kd_t _).2 h3
   · exact absurd h3 (acc_no (e8 x (by omega) (by omega))).2.1
theorem blank_iff (h0:checkN p=0) (hm:mayL p.text l=true) (hc:capN p=0) {fi:Nat} (hf:FirstOk p l fi):0<blN (midL (setgP p l))↔∃ x y:Nat,fi≤x∧x<y∧(y:Int)<l.t∧p.text.getD x 0=32∧p.text.getD y 0≠32∧p.text.getD y 0≠31:=by
 have hsol:solidP p l≤(rowP p l).length:=trimM_le _ _
 have hge:=hf.ge
 rw [blN_pos]
 have hmid:(∃ m∈midL (setgP p l),m.k=3)↔∃ j,aheadP p l≤j∧j<solidP p l∧((rowP p l).getD j mz).k=3:=mid_mem (L:=rowP p l) hsol
 rw [hmid]
 have hah:l.f=0→(∀ j,j<aheadP p l→((rowP p l).getD j mz).k=3)∧(aheadP p l<solidP p l→((rowP p l).getD (aheadP p l) mz).k≠3):=by
  intro hz
  unfold aheadP
  rw [if_pos hz]
  exact ⟨(aheadM_ok _ _ _ 0 (by omega) (by intro j hj;omega)).2,ahead_no _ _ _ 0 (by omega)⟩
 have hah0:l.f≠0→aheadP p l=0:=by intro hz;unfold aheadP;rw [if_neg hz]
 have hle:∀ {j k:Nat},j≤k→k<(rowP p l).length→((rowP p l).getD j mz).a≤((rowP p l).getD k mz).a:=by
  intro j k h1 h2
  by_cases e:j=k
  · rw [e];exact Int.le_refl _
  · have:=row_lt h0 hm hc (j:=j) (k:=k) (by omega) h2
    obtain ⟨a,b,e1,e2,e3,e4,e5,e6,e7,e8⟩:=row_at2 h0 hm hc (j:=j) (by omega)
    omega
 constructor
 · rintro ⟨j,h1,h2,h3⟩
   have hno:blankB ((rowP p l).getD (solidP p l-1) mz)=false:=trim_no (rowP p l) (rowP p l).length (by show 0<solidP p l;omega)
   have hj:j<solidP p l-1:=by
    apply Nat.lt_of_le_of_ne (by omega)
    intro e
    rw [← e] at hno
    simp [blankB,h3,-List.getD_eq_getElem?_getD] at hno
   obtain ⟨a,b,e1,e2,e3,e4,e5,e6,e7,e8⟩:=row_at2 h0 hm hc (j:=j) (by omega)
   obtain ⟨a',b',u1,u2,u3,u4,u5,u6,u7,u8⟩:=row_at2 h0 hm hc (j:=solidP p l-1) (by omega)
   have hlt:=row_lt h0 hm hc hj (by omega)
   refine ⟨a,a',?_,by omega,by omega,(kd_b _).1 (by rw [← e6,h3]),?_,?_⟩
   · by_cases hz:l.f=0
     · have hne:=(hah hz).2 (by omega)
       obtain ⟨c,d,k1,k2,k3,k4,k5,k6,k7,k8⟩:=row_at2 h0 hm hc (j:=aheadP p l) (by omega)
       have h4:(c:Int)≤a:=by rw [← k1,← e1];exact hle h1 (by omega)
       have h5:fi≤c:=by
        apply Nat.le_of_not_lt
        intro h
        rw [k6] at hne
        exact hne ((kd_b _).2 (hf.lead hz c h))
       omega
     · have:=hf.far hz;omega
   · intro h
     have:=(kd_b _).2 h
     rw [← u6] at this
     simp [blankB,this,-List.getD_eq_getElem?_getD] at hno
   · intro h
     have:=(kd_s _).2 h
     rw [← u6] at this
     simp [blankB,this,-List.getD_eq_getElem?_getD] at hno
 · rintro ⟨x,y,h1,h2,h3,h4,h5,h6⟩
   obtain ⟨j,hj,g1,g2⟩:=row_cover h0 hm hc (x:=x) (by omega) (by omega)
   obtain ⟨a,b,e1,e2,e3,e4,e5,e6,e7,e8⟩:=row_at2 h0 hm hc hj
   have ha:a=x:=by
    apply Classical.byContradiction
    intro e
    exact (acc_no (e8 x (by omega) (by omega))).1 h4
   subst ha
   have hk3:((rowP p l).getD j mz).k=3:=by rw [e6];exact (kd_b _).2 h4
   have hb:b=a+1:=e7 (by rw [hk3];decide)
   obtain ⟨j2,hj2,g3,g4⟩:=row_cover h0 hm hc (x:=y) (by omega) h3
   obtain ⟨a',b',u1,u2,u3,u4,u5,u6,u7,u8⟩:=row_at2 h0 hm hc hj2
   have hnb:blankB ((rowP p l).getD j2 mz)=false:=by
    by_cases hk1:((rowP p l).getD j2 mz).k=1
    · unfold blankB;rw [hk1];rfl
    · have:=u7 hk1
      have ha':a'=y:=by omega
      subst ha'
      unfold blankB
      rw [u6]
      simp only [Bool.or_eq_false_iff,beq_eq_false_iff_ne]
      exact ⟨fun h=>h5 ((kd_b _).1 h),fun h=>h6 ((kd_s _).1 h)⟩
   have hjj:j<j2:=by
    rcases Nat.lt_trichotomy j j2 with h | h | h
    · exact h
    · subst h;omega
    · have:=row_lt h0 hm hc h hj;omega
   have hs2:j2<solidP p l:=by
    apply Nat.lt_of_not_le
    intro h
    rw [trim_yes (rowP p l) (rowP p l).length j2 h hj2] at hnb;cases hnb
   refine ⟨j,?_,by omega,hk3⟩
   by_cases hz:l.f=0
   · apply Nat.le_of_not_lt
     intro hja
     have hst:=hf.stop hz (by omega)
     obtain ⟨j3,hj3,g5,g6⟩:=row_cover h0 hm hc (x:=fi) (by omega) (by omega)
     have h33:j3≤j:=by
      apply Nat.le_of_not_lt
      intro h
      have:=row_lt h0 hm hc h hj3;omega
     obtain ⟨c,d,k1,k2,k3,k4,k5,k6,k7,k8⟩:=row_at2 h0 hm hc hj3
     have hk:=(hah hz).1 j3 (by omega)
     have hd:=k7 (by rw [hk];decide)
     have hcf:c=fi:=by omega
     rw [hk,hcf] at k6
     exact hst ((kd_b _).1 k6.symm)
   · rw [hah0 hz];omega
def tbN (s:List UInt8) (t:Nat):Nat→Nat
 | 0=>0
 | n+1=>tbN s t n+if s.getD (t-1-n) 0=9 then 1 else 0
def seenN (s:List UInt8) (t:Nat):Nat→Bool
 | 0=>false
 | n+1=>seenN s t n||(s.getD (t-1-n) 0 != 32&&s.getD (t-1-n) 0 != 31)
def bkN (s:List UInt8) (t:Nat):Nat→Nat
 | 0=>0
 | n+1=>bkN s t n+if s.getD (t-1-n) 0=32∧seenN s t n=true then 1 else 0
theorem tbN_le (s:List UInt8) (t:Nat):∀ n,tbN s t n≤n
 | 0=>Nat.le_refl _
 | n+1=>by have:=tbN_le s t n;simp only [tbN];split<;>omega
theorem bkN_le (s:List UInt8) (t:Nat):∀ n,bkN s t n≤n
 | 0=>Nat.le_refl _
 | n+1=>by have:=bkN_le s t n;simp only [bkN];split<;>omega
theorem tbN_zero (s:List UInt8) (t:Nat):∀ n,n≤t→(tbN s t n=0↔¬ ∃ x,t-n≤x∧x<t∧s.getD x 0=9)
 | 0,h=>by simp only [tbN,true_iff];rintro ⟨x,h1,h2,_⟩;omega
 | n+1,h=>by
   have ih:=tbN_zero s t n (by omega)
   simp only [tbN]
   constructor
   · rintro e ⟨x,h1,h2,h3⟩
     have e1:tbN s t n=0:=by omega
     by_cases hx:x=t-1-n
     · rw [← hx,if_pos h3] at e;omega
     · exact ih.1 e1 ⟨x,by omega,h2,h3⟩
   · intro hno
     rw [ih.2 fun ⟨x,h1,h2,h3⟩=>hno ⟨x,by omega,h2,h3⟩,if_neg fun h3=>hno ⟨t-1-n,by omega,by omega,h3⟩]
theorem seenN_iff (s:List UInt8) (t:Nat):∀ n,n≤t→(seenN s t n=true↔∃ x,t-n≤x∧x<t∧s.getD x 0≠32∧s.getD x 0≠31)
 | 0,h=>by simp only [seenN,Bool.false_eq_true,false_iff];rintro ⟨x,h1,h2,_⟩;omega
 | n+1,h=>by
   have ih:=seenN_iff s t n (by omega)
   simp only [seenN,Bool.or_eq_true,ih,Bool.and_eq_true,bne_iff_ne]
   constructor
   · rintro (⟨x,h1,h2,h3⟩ | h)
     · exact ⟨x,by omega,h2,h3⟩
     · exact ⟨t-1-n,by omega,by omega,h⟩
   · rintro ⟨x,h1,h2,h3⟩
     by_cases hx:x=t-1-n
     · rw [← hx];exact .inr h3
     · exact .inl ⟨x,by omega,h2,h3⟩
theorem bkN_iff (s:List UInt8) (t:Nat):∀ n,n≤t→(0<bkN s t n↔∃ x y,t-n≤x∧x<y∧y<t∧s.getD x 0=32∧s.getD y 0≠32∧s.getD y 0≠31)
 | 0,h=>by simp only [bkN,Nat.lt_irrefl,false_iff];rintro ⟨x,y,h1,h2,h3,_⟩;omega
 | n+1,h=>by
   have ih:=bkN_iff s t n (by omega)
   have hs:=seenN_iff s t n (by omega)
   simp only [bkN]
   constructor
   · intro e
     by_cases h1:0<bkN s t n
     · obtain ⟨x,y,g1,g2,g3,g4⟩:=ih.1 h1
       exact ⟨x,y,by omega,g2,g3,g4⟩
     · by_cases h2:s.getD (t-1-n) 0=32∧seenN s t n=true
       · obtain ⟨y,g1,g2,g3⟩:=hs.1 h2.2
         exact ⟨t-1-n,y,by omega,by omega,g2,h2.1,g3⟩
       · rw [if_neg h2] at e;omega
   · rintro ⟨x,y,g1,g2,g3,g4,g5⟩
     by_cases hx:x=t-1-n
     · rw [← hx,if_pos ⟨g4,hs.2 ⟨y,by omega,g3,g5⟩⟩];omega
     · have:=ih.2 ⟨x,y,by omega,g2,g3,g4,g5⟩;omega
end
theorem at205:tab 205=some (.code f205):=by kernel_rfl
def fstF (s:List UInt8) (t:Int):Nat→Nat→Nat
 | 0,i=>i
 | n+1,i=>if (i:Int)<t∧s.getD i 0=32 then fstF s t n (i+1) else i
theorem fstF_ok (s:List UInt8) (t:Int):∀ n i:Nat,t≤(i:Int)+n→(i:Int)≤t→(∀ x:Nat,x<i→s.getD x 0=32)→i≤fstF s t n i∧(fstF s t n i:Int)≤t∧(∀ x:Nat,x<fstF s t n i→s.getD x 0=32)∧((fstF s t n i:Int)<t→s.getD (fstF s t n i) 0≠32)
 | 0,i,h1,h2,h3=>⟨Nat.le_refl _,h2,h3,fun h=>by simp only [fstF] at h;omega⟩
 | n+1,i,h1,h2,h3=>by
   unfold fstF
   by_cases hc:(i:Int)<t∧s.getD i 0=32
   · rw [if_pos hc]
     have:=fstF_ok s t n (i+1) (by omega) (by omega) (fun x hx=>by
      by_cases e:x=i
      · rw [e];exact hc.2
      · exact h3 x (by omega))
     exact ⟨by omega,this.2⟩
   · rw [if_neg hc]
     exact ⟨Nat.le_refl _,h2,h3,fun h e=>hc ⟨h,e⟩⟩
section
variable {st:St} {p:Para} {w u:LW} {l:Ln} {last:Bool}
theorem ln_in (h0:checkN p=0) (hm:mayL p.text l=true):0≤l.f∧l.f≤l.t∧l.t≤p.text.length∧p.text.length≤4096:=by
 have hm':=hm
 simp only [mayL,Bool.and_eq_true,decide_eq_true_eq] at hm'
 have hch:=massL_chn h0
 have h1:=(bound_nd h0 hm'.1.1.1.1.1.2).ge hch
 have h2:l.t≤p.text.length:=by
  rcases bound_nd h0 hm'.1.1.1.1.2 with h | ⟨m,hm,h⟩
  · rw [h];exact hch.ge.1
  · rw [← h];exact (hch.ge.2 m hm).2.2
 have:=(checkN_props h0).2.2.2.2.2.2
 exact ⟨h1,hm'.1.1.1.1.1.1,h2,this⟩
theorem L205_0 (h0:checkN p=0) (hm:mayL p.text l=true) (hz:l.f=0) (X:HO) (K:List Nat) (c2 c7 c8 c13 c15 c16 c17 c18:DV):∀ (n i:Nat),l.t≤(i:Int)+n→(i:Int)≤l.t→∃ fr,
 (E tab).C f205L0 [(2,c2),(3,.ptr st.heap.length 0),(4,.ptr (st.heap.length+1) 0),(7,c7),(8,c8),(13,c13),(15,c15),(16,c16),(17,c17),(18,c18),(19,.int .i64 i)] (pst st [.cells .plain (paraCs p w u),.cells .plain l.cs,X] K) =
  some (.exit 0,(2,c2)::(3,.ptr st.heap.length 0)::(4,.ptr (st.heap.length+1) 0)::(7,c7)::(8,c8)::(13,c13)::(15,c15)::(16,c16)::(17,c17)::(18,c18)::(19,.int .i64 (fstF p.text l.t n i))::fr,pst st [.cells .plain (paraCs p w u),.cells .plain l.cs,X] K):=by
 have hin:=ln_in h0 hm
 intro n
 induction n with
 | zero=>
   intro i h1 h2
   have hi:¬ (i:Int)<l.t:=by omega
   refine ⟨[(112,.bool false)],?_⟩
   rw [C_turn (L:=f205L0) rfl]
   simp only [Ln.cs,hz]
   simp [f205B0,hi,fstF,pcText]
 | succ n ih=>
   intro i h1 h2
   by_cases hi:(i:Int)<l.t
   rotate_left
   · refine ⟨[(112,.bool false)],?_⟩
     have e:fstF p.text l.t (n+1) i=i:=if_neg fun h=>hi h.1
     rw [e,C_turn (L:=f205L0) rfl]
     simp only [Ln.cs,hz]
     simp [f205B0,hi,pcText]
   have hil:i<p.text.length:=by omega
   obtain ⟨c,hcD⟩:∃ c,p.text.getD i 0=c:=⟨_,rfl⟩
   have gb:p.text[i]'hil=c:=by rw [← hcD,List.getD_eq_getElem?_getD,List.getElem?_eq_getElem hil];rfl
   by_cases hc:c=32
   · have e:fstF p.text l.t (n+1) i=fstF p.text l.t n (i+1):=if_pos ⟨hi,by rw [hcD,hc]⟩
     obtain ⟨fr,hJ⟩:=ih (i+1) (by omega) (by omega)
     have hw:IntKind.i64.wrap ((i:Int)+1)=((i+1:Nat):Int):=by rw [i64w (by omega)];simp
     refine ⟨fr,?_⟩
     rw [e,C_turn (L:=f205L0) rfl]
     subst hc
     simp only [Ln.cs,hz] at hJ ⊢
     generalize fstF p.text l.t n (i+1)=FF at *
     simp [f205B0,hi,pcText,gb,hil,hw]
     simpa using hJ
   · have e:fstF p.text l.t (n+1) i=i:=if_neg fun h=>hc (by rw [← hcD];exact h.2)
     refine ⟨[(112,.bool false)],?_⟩
     rw [e,C_turn (L:=f205L0) rfl]
     have hc':¬ (c.toNat:Int)=32:=by
      intro h;apply hc;apply UInt8.toNat_inj.1;simp;omega
     simp only [Ln.cs,hz]
     simp [f205B0,hi,pcText,gb,hil,hc']
theorem L205_1 (h0:checkN p=0) (hm:mayL p.text l=true) (X:HO) (K:List Nat) (c2 c7 c8 c13 c15:DV) {t fi:Nat} (ht:l.t=t) (hf:fi≤t):∀ k n,n+k=t-fi→∃ fr,
 (E tab).C f205L1 [(2,c2),(3,.ptr st.heap.length 0),(4,.ptr (st.heap.length+1) 0),(7,c7),(8,c8),(13,c13),(15,c15),(16,.int .i64 (bkN p.text t n)),(17,.int .i64 (tbN p.text t n)),(18,.bool (seenN p.text t n)),(19,.int .i64 fi),(20,.int .i64 (t-1-n))] (pst st [.cells .plain (paraCs p w u),.cells .plain l.cs,X] K) =
  some (.exit 2,(2,c2)::(3,.ptr st.heap.length 0)::(4,.ptr (st.heap.length+1) 0)::(7,c7)::(8,c8)::(13,c13)::(15,c15)::(16,.int .i64 (bkN p.text t (t-fi)))::(17,.int .i64 (tbN p.text t (t-fi)))::fr,pst st [.cells .plain (paraCs p w u),.cells .plain l.cs,X] K):=by
 have hin:=ln_in h0 hm
 intro k
 induction k with
 | zero=>
   intro n hn
   obtain rfl:n=t-fi:=by omega
   have h:¬ (fi:Int)≤(t:Int)-1-(t-fi:Nat):=by omega
   refine ⟨[(18,.bool (seenN p.text t (t-fi))),(19,.int .i64 fi),(20,.int .i64 (t-1-(t-fi:Nat))),(120,.bool false)],?_⟩
   rw [C_turn (L:=f205L1) rfl]
   simp [f205B1,h]
 | succ k ih=>
   intro n hn
   have h:(fi:Int)≤(t:Int)-1-n:=by omega
   have hnt:(t:Int)-1-n=(t-1-n:Nat):=by omega
   have hil:t-1-n<p.text.length:=by omega
   obtain ⟨c,hcD⟩:∃ c,p.text.getD (t-1-n) 0=c:=⟨_,rfl⟩
   have gb:p.text[t-1-n]'hil=c:=by rw [← hcD,List.getD_eq_getElem?_getD,List.getElem?_eq_getElem hil];rfl
   obtain ⟨fr,hJ⟩:=ih (n+1) (by omega)
   have hw:IntKind.i64.wrap (((t-1-n:Nat):Int)-1)=(t:Int)-1-((n+1:Nat):Int):=by rw [i64w (by omega)];omega
   have h1:=tbN_le p.text t n
   have h2:=bkN_le p.text t n
   have hw1:IntKind.i64.wrap (((tbN p.text t n:Nat):Int)+1)=(tbN p.text t n:Int)+1:=i64w (by omega)
   have hw2:IntKind.i64.wrap (((bkN p.text t n:Nat):Int)+1)=(bkN p.text t n:Int)+1:=i64w (by omega)
   refine ⟨fr,?_⟩
   rw [C_turn (L:=f205L1) rfl]
   simp only [tbN,bkN,seenN] at hJ
   rw [hnt] at h ⊢
   rw [hcD] at hJ
   generalize t-1-n=j at *
   have he:∀ k:Nat,k<256→(c.toNat:Int)=k→c=UInt8.ofNat k:=by
    intro k hk e;apply UInt8.toNat_inj.1;rw [UInt8.toNat_ofNat_of_lt' (by simpa using hk)];omega
   by_cases c32:c=32
   · subst c32
     cases hs:seenN p.text t n with
     | false=>
       rw [hs] at hJ
       simp at hJ
       simp [f205B1,h,gb,hil,hw,pcText]
       simpa using hJ
     | true=>
       rw [hs] at hJ
       simp at hJ
       simp [f205B1,h,gb,hil,hw,hw2,pcText]
       simpa using hJ
   · by_cases c9:c=9
     · subst c9
       simp at hJ
       simp [f205B1,h,gb,hil,hw,hw1,pcText]
       simpa using hJ
     · by_cases c31:c=31
       · subst c31
         simp at hJ
         simp [f205B1,h,gb,hil,hw,pcText]
         simpa using hJ
       · have d32:¬ (c.toNat:Int)=32:=fun e=>c32 (he 32 (by omega) e)
         have d9:¬ (c.toNat:Int)=9:=fun e=>c9 (he 9 (by omega) e)
         have d31:¬ (c.toNat:Int)=31:=fun e=>c31 (he 31 (by omega) e)
         have hcc:(c != 32&&c != 31)=true:=by simp [c32,c31]
         rw [hcc] at hJ
         simp [c32,c9,c31] at hJ
         simp [f205B1,h,gb,hil,hw,pcText,d32,d9,d31]
         simpa using hJ
end
section
variable {st:St} {p:Para} {w u:LW} {l:Ln} {last:Bool}
theorem ends_plain (h0:checkN p=0) (hm:mayL p.text l=true) (hc:capN p=0) (hne:l.f≠l.t∨l.h=true) {fi t:Nat} (hf:FirstOk p l fi) (ht:l.t=t) {E N:Int} (hE:E=lastG l.x (glsP p l last)) (hN:N=lastG l.x (glsP (bareP p) l last)) :
 N=l.x+l.w-exP p l∧(0≤exP p l→E≤l.x+l.w)∧(p.pr.align=2→(exP p l<0∧E=N)∨(0≤exP p l∧E=l.x+l.w))∧(p.pr.align=3→(exP p l<0∧E=N)∨(0≤exP p l∧E=N+exP p l/2)) ∧
 (p.pr.align=1→last=false→tbN p.text t (t-fi)=0→0<bkN p.text t (t-fi)→0≤exP p l→E=l.x+l.w) ∧
 (p.pr.align=1→¬ (last=false∧tbN p.text t (t-fi)=0∧0<bkN p.text t (t-fi)∧0≤exP p l)→E≤N)∧(p.pr.align=0→E=N):=by
 obtain ⟨e1,e2⟩:=end_two (last:=last) h0 hm hc hne
 have hle:=hf.le
 have htab:=tabs_iff h0 hm hc hf
 have hbl:=blank_iff h0 hm hc hf
 have ht0:=tbN_zero p.text t (t-fi) (by omega)
 have hb0:=bkN_iff p.text t (t-fi) (by omega)
 rw [show t-(t-fi)=fi by omega] at ht0 hb0
 have hT:((rowP p l).any fun m=>decide (m.k=4))=true↔tbN p.text t (t-fi)≠0:=by
  rw [htab,Ne,ht0,Classical.not_not]
  constructor
  · rintro ⟨x,h1,h2,h3⟩;exact ⟨x,h1,by omega,h3⟩
  · rintro ⟨x,h1,h2,h3⟩;exact ⟨x,h1,by omega,h3⟩
 have hB:0<blN (midL (setgP p l))↔0<bkN p.text t (t-fi):=by
  rw [hbl,hb0]
  constructor
  · rintro ⟨x,y,h1,h2,h3,h4⟩;exact ⟨x,y,h1,h2,by omega,h4⟩
  · rintro ⟨x,y,h1,h2,h3,h4⟩;exact ⟨x,y,h1,h2,by omega,h4⟩
 rw [← hE] at e2
 rw [← hN] at e1
 have hsp:spB p l last=true↔p.pr.align=1∧last=false∧tbN p.text t (t-fi)=0∧0<bkN p.text t (t-fi)∧(0<exP p l∨(exP p l<0 ∧ -exP p l≤blS (midL (setgP p l)))):=by
  have hT':((setgP p l).l.any fun m=>decide (m.k=4))=((rowP p l).any fun m=>decide (m.k=4)):=rfl
  unfold spB
  rw [hT']
  simp only [Bool.and_eq_true,Bool.or_eq_true,decide_eq_true_eq,Bool.not_eq_true',hB]
  have:((rowP p l).any fun m=>decide (m.k=4))=false↔tbN p.text t (t-fi)=0:=by
   rw [← Bool.not_eq_true,hT,Classical.not_not]
  rw [this]
  simp only [and_assoc]
 have hadd2:addP p l=if p.pr.align=2 then max (exP p l) 0 else if p.pr.align=3 then max (exP p l) 0/2 else 0:=rfl
 generalize tbN p.text t (t-fi)=TB at *
 generalize bkN p.text t (t-fi)=BK at *
 generalize exP p l=EX at *
 rw [hadd2] at e2
 refine ⟨by omega,?_,?_,?_,?_,?_,?_⟩
 · intro hx
   by_cases hs:spB p l last=true
   · have ha:=(hsp.1 hs).1
     rw [if_pos hs,if_neg (by omega),if_neg (by omega)] at e2;omega
   · rw [if_neg hs] at e2
     by_cases a2:p.pr.align=2
     · rw [if_pos a2] at e2;omega
     · rw [if_neg a2] at e2
       split at e2<;>omega
 · intro ha
   rw [if_pos ha,if_neg (fun hs=>by have:=(hsp.1 hs).1;omega)] at e2
   omega
 · intro ha
   rw [if_neg (by omega),if_pos ha,if_neg (fun hs=>by have:=(hsp.1 hs).1;omega)] at e2
   omega
 · intro ha h1 h2 h3 h4
   rw [if_neg (by omega),if_neg (by omega)] at e2
   by_cases hx:0<EX
   · rw [if_pos (hsp.2 ⟨ha,h1,h2,h3,.inl hx⟩)] at e2;omega
   · split at e2<;>omega
 · intro ha hno
   rw [if_neg (by omega),if_neg (by omega)] at e2
   by_cases hs:spB p l last=true
   · rw [if_pos hs] at e2
     obtain ⟨_,g1,g2,g3,g4⟩:=hsp.1 hs
     rcases g4 with g4 | g4
     · exact absurd ⟨g1,g2,g3,by omega⟩ hno
     · omega
   · rw [if_neg hs] at e2;omega
 · intro ha
   rw [if_neg (by omega),if_neg (by omega),if_neg (fun hs=>by have:=(hsp.1 hs).1;omega)] at e2
   omega
end
section
variable {st:St} {p:Para} {w u:LW} {l:Ln} {last:Bool}
theorem bare_place (h0:checkN p=0) (hm:mayL p.text l=true):placeE (bareP p) l=0:=by
 unfold placeE
 rw [if_neg (by rw [bare_check h0];simp)]
 exact if_pos hm
theorem spans_small (h0:checkN p=0):p.spans.length≤5000∧p.marks.length≤5000:=by
 obtain ⟨h1,h2,h3,h4,h5,h6,h7⟩:=checkN_zero h0
 have:=(checkN_props h0).2.2.2.2.2.2
 have hc:=List.count_le_length (l:=p.text) (a:=(2:UInt8))
 obtain ⟨hS,hsum⟩:=spansL_ok p.spans p.text.length 0 (by simpa [spansOk] using h3)
 have hge:=sumN_ge hS
 omega
theorem pcS4 (p:Para) (w u:LW):splice (paraCs p w u) 4 [.int .i64 0]=paraCs (bareP p) w u:=rfl
theorem first_run (h0:checkN p=0) (hm:mayL p.text l=true) (X:HO) (K:List Nat) (c2 c7 c8 c13 c15 c16 c17 c18:DV):∃ (fi:Nat) (fr:Fr),FirstOk p l fi ∧
 (E tab).C f205L0 [(2,c2),(3,.ptr st.heap.length 0),(4,.ptr (st.heap.length+1) 0),(7,c7),(8,c8),(13,c13),(15,c15),(16,c16),(17,c17),(18,c18),(19,.int .i64 l.f)] (pst st [.cells .plain (paraCs p w u),.cells .plain l.cs,X] K) =
  some (.exit 0,(2,c2)::(3,.ptr st.heap.length 0)::(4,.ptr (st.heap.length+1) 0)::(7,c7)::(8,c8)::(13,c13)::(15,c15)::(16,c16)::(17,c17)::(18,c18)::(19,.int .i64 fi)::fr,pst st [.cells .plain (paraCs p w u),.cells .plain l.cs,X] K):=by
 have hin:=ln_in h0 hm
 by_cases hz:l.f=0
 · obtain ⟨fr,h⟩:=L205_0 (st:=st) (w:=w) (u:=u) h0 hm hz X K c2 c7 c8 c13 c15 c16 c17 c18 l.t.toNat 0 (by omega) (by omega)
   have hf:=fstF_ok p.text l.t l.t.toNat 0 (by omega) (by omega) (by intro x hx;omega)
   refine ⟨_,fr,⟨by omega,hf.2.1,fun h=>absurd hz h,fun _=>hf.2.2.1,fun _=>hf.2.2.2⟩,?_⟩
   rw [hz];exact h
 · refine ⟨l.f.toNat,[(112,.bool false)],⟨by omega,by omega,fun _=>by omega,fun h=>absurd h hz,fun h=>absurd h hz⟩,?_⟩
   rw [show ((l.f.toNat:Nat):Int)=l.f by omega,C_turn (L:=f205L0) rfl]
   simp only [Ln.cs]
   by_cases hl:l.f<l.t
   · simp [f205B0,hl,hz]
   · simp [f205B0,hl]
def e29c:RC:=(.seq (.seq (.region f205r29 [2,4,7,8,13,15,16,17,146]) (.block 4 (.seq (.region f205r30 [2,4,7,8,13,15,16,17,146,147]) (.cond (.t 147) (.seq (.region f205r31 [6]) .ret) (.seq (.region f205r32 [2,4,7,8,13,15,16,17,146,172]) (.cond (.t 172) (.seq (.region f205r33 [6]) .ret) (.seq (.region f205r34 [2,4,7,8,13,15,16,17,196]) (.cond (.t 196) (.seq (.seq (.region f205r35 [4,7,8,13,211]) (.cond (.t 211) (.seq (.region f205r36 [6]) .ret) .skip)) (.seq (.region f205r37 [6]) .ret)) .skip)))))))) (.seq (.region f205r38 [6]) .ret))
def e6c:RC:=(.seq (.region f205r6 [2,3,4,7,8,12]) (.seq (.region f205r7 [2,3,4,7,8,12]) (.seq (.region f205r8 [2,3,4,7,8,13,14]) (.seq (.seq (.region f205r9 [2,3,4,7,8,13,76]) (.cond (.t 76) (.seq (.region f205r10 [6]) .ret) .skip)) (.seq (.region f205r11 [2,3,4,7,8,13,15]) (.seq (.seq (.region f205r12 [2,3,4,7,8,13,15,94]) (.cond (.t 94) (.seq (.region f205r13 [6]) .ret) .skip)) (.seq (.region f205r14 [2,3,4,7,8,13,15,16,17]) (.seq (.region f205r15 [2,3,4,7,8,13,15,16,17,18]) (.seq (.region f205r16 [2,3,4,7,8,13,15,16,17,18,19]) (.seq (.block 0 f205L0) (.seq (.seq (.region f205r19 [2,3,4,7,8,13,15,16,17,18,19,20]) (.block 2 f205L1)) e29c)))))))))))
theorem f205c:f205=⟨[.t 6],(.seq (.region f205r0 [2,3,4]) (.seq (.region f205r1 [2,3,4,7]) (.seq (.region f205r2 [2,3,4,7,8,9]) (.seq (.region f205r3 [2,3,4,7,8,9,10,11]) (.seq (.seq (.region f205r4 [2,3,4,7,8,62]) (.cond (.t 62) (.seq (.region f205r5 [6]) .ret) .skip)) e6c))))),true⟩:=rfl
theorem e29_run {EN NA EX:Int} {BK TB:Nat} {X:HO} {K:List Nat} (hal:p.pr.align=0∨p.pr.align=1∨p.pr.align=2∨p.pr.align=3) (hx:0≤l.x∧l.x≤4095) (hw:0≤l.w∧l.w≤4095) (hex:-100000000≤EX∧EX≤100000000)
 (q1:NA=l.x+l.w-EX) (q3:p.pr.align=2→(EX<0∧EN=NA)∨(0≤EX∧EN=l.x+l.w)) (q4:p.pr.align=3→(EX<0∧EN=NA)∨(0≤EX∧EN=NA+EX/2))
 (q5:p.pr.align=1→last=false→TB=0→0<BK→0≤EX→EN=l.x+l.w) (q6:p.pr.align=1→¬ (last=false∧TB=0∧0<BK∧0≤EX)→EN≤NA) (q7:p.pr.align=0→EN=NA) (fr:Fr):∃ fr',
 (E tab).C e29c ((2,.bool last)::(3,.ptr st.heap.length 0)::(4,.ptr (st.heap.length+1) 0)::(7,.bool true)::(8,.int .i64 EN)::(13,.int .i64 NA)::(15,.int .i64 EX)::(16,.int .i64 BK)::(17,.int .i64 TB)::fr) (pst st [.cells .plain (paraCs p w u),.cells .plain l.cs,X] K) =
  some (.ret,(6,.bool true)::fr',pst st [.cells .plain (paraCs p w u),.cells .plain l.cs,X] K):=by
 refine ⟨[],?_⟩
 have w1:IntKind.i64.wrap (l.x+l.w)=l.x+l.w:=i64w (by omega)
 unfold e29c
 simp only [Ln.cs]
 have hp2:(paraCs p w u)[4]? = some (.int .i64 p.pr.align):=rfl
 rcases hal with h | h | h | h
 · have e:=q7 h
   simp [hp2,h,e]
 · cases last with
   | true=>
     have e:=q6 h (by simp)
     simp [hp2,h,e]
   | false=>
     by_cases hT:TB=0
     · by_cases hB:BK=0
       · have e:=q6 h (by omega)
         simp [hp2,h,e,hT,hB]
       · have hB':0<BK:=by omega
         by_cases hE:0≤EX
         · have e:=q5 h rfl hT hB' hE
           simp [hp2,h,e,hT,hB',hE,w1]
         · have e:=q6 h (fun hh=>hE hh.2.2.2)
           simp [hp2,h,e,hT,hB',hE]
     · have e:=q6 h (fun hh=>hT hh.2.1)
       simp [hp2,h,e,hT]
 · rcases q3 h with ⟨h1,h2⟩ | ⟨h1,h2⟩
   · simp [hp2,h,h1,h2]
   · have:¬ EX<0:=by omega
     simp [hp2,h,h1,h2,w1,this]
 · rcases q4 h with ⟨h1,h2⟩ | ⟨h1,h2⟩
   · simp [hp2,h,h1,h2]
   · have:¬ EX<0:=by omega
     have w4:IntKind.i64.wrap (EX.tdiv 2)=EX/2:=by rw [Int.tdiv_eq_ediv_of_nonneg h1,i64w (by omega)]
     have w5:IntKind.i64.wrap (NA+EX/2)=NA+EX/2:=i64w (by omega)
     simp [hp2,h,h1,h2,w4,w5,this]
theorem ends205 (hp:p.small) (hw:w.ok 4 p.spans) (hu:u.ok 1 p.marks) (l:Ln) (last:Bool):(E tab).F 205 [.agg (paraCs p w u),.agg l.cs,.bool last] st=some (.bool true,st):=by
 rw [F_run at205 rfl]
 have he:=end214 (st:=pst st [.cells .plain (paraCs p w u),.cells .plain l.cs] []) hp hw hu l last
 have hd:=drop211 (st:=pst st [.cells .plain (paraCs p w u),.cells .plain l.cs] []) hp hw hu
 have hkn:=fun st=>sknown_run st
 by_cases h0:placeE p l=0
 rotate_left
 · simp only [Ln.cs] at he hd ⊢
   simp [f205,hkn,he,hd,h0]
 obtain ⟨hc,hm⟩:=placeE_zero h0
 rw [h0] at he
 rw [hc] at hd
 by_cases hcap:capN p=0
 rotate_left
 · have hcp:=capN_le p
   have hpos:(0:Int)<capN p:=by omega
   simp only [Ln.cs] at he hd ⊢
   simp [f205,hkn,he,hd,hpos]
 rw [hcap] at hd
 by_cases h400:(400:Int)<p.text.length
 · simp only [Ln.cs] at he hd ⊢
   simp [f205,hkn,he,hd,h400,pcText]
 by_cases hne:l.f≠l.t∨l.h=true
 rotate_left
 · have hft:l.f=l.t:=by
    apply Classical.byContradiction
    intro h;exact hne (.inl h)
   have hh:l.h=false:=by
    cases hb:l.h with
    | false=>rfl
    | true=>exact absurd (.inr hb) hne
   simp only [Ln.cs,hft,hh] at he hd ⊢
   simp [f205,hkn,he,hd,h400,pcText]
 obtain ⟨hs1,hs2⟩:=spans_small hc
 obtain ⟨w',u',h9,hw',hu',_,_⟩:=copy9 p w u hw hu hs1 hs2 (pst st [.cells .plain (paraCs p w u),.cells .plain l.cs] [])
 have hb:=end214 (st:=pst st [.cells .plain (paraCs p w u),.cells .plain l.cs,.cells .plain (paraCs (bareP p) w' u')] []) (p:=bareP p) hp hw' hu' l last
 rw [bare_place hc hm] at hb
 have hL:=lnOk hc l
 have hex:=ex_le hc hL hm
 have hin:=ln_in hc hm
 have hm':=hm
 simp only [mayL,Bool.and_eq_true,decide_eq_true_eq] at hm'
 obtain ⟨t,ht⟩:∃ t:Nat,l.t=t:=⟨l.t.toNat,by omega⟩
 have hEn:endN p l last=lastG l.x (glsP p l last):=by unfold endN;rw [if_pos h0]
 have hNn:endN (bareP p) l last=lastG l.x (glsP (bareP p) l last):=by unfold endN;rw [if_pos (bare_place hc hm)]
 generalize endN p l last=EN at *
 generalize endN (bareP p) l last=NA at *
 obtain ⟨fi,fr,hfo,hL0⟩:=first_run (st:=st) (w:=w) (u:=u) hc hm (.cells .plain (paraCs (bareP p) w' u')) [] (.bool last) (.bool true) (.int .i64 EN) (.int .i64 NA) (.int .i64 (exP p l)) (.int .i64 0) (.int .i64 0) (.bool false)
 have hfl:=hfo.le
 obtain ⟨fr1,hL1⟩:=L205_1 (st:=st) (w:=w) (u:=u) hc hm (.cells .plain (paraCs (bareP p) w' u')) [] (.bool last) (.bool true) (.int .i64 EN) (.int .i64 NA) (.int .i64 (exP p l)) ht (fi:=fi) (by omega) (t-fi) 0 (by omega)
 obtain ⟨q1,q2,q3,q4,q5,q6,q7⟩:=ends_plain (last:=last) hc hm hcap hne hfo ht hEn hNn
 have w1:IntKind.i64.wrap (l.x+l.w)=l.x+l.w:=i64w (by omega)
 have w2:IntKind.i64.wrap (l.x+l.w-NA)=exP p l:=by rw [i64w (by omega)];omega
 have w3:IntKind.i64.wrap (l.t-1)=(t:Int)-1:=by rw [i64w (by omega),ht]
 generalize exP p l=EX at *
 generalize bkN p.text t (t-fi)=BK at *
 generalize tbN p.text t (t-fi)=TB at *
 have hpr:=(checkN_props hc)
 simp only [Ln.cs] at he hd h9 hb hL0 hL1 ⊢
 simp [bkN,tbN,seenN] at hL1
 have hal:p.pr.align=0∨p.pr.align=1∨p.pr.align=2∨p.pr.align=3:=by omega
 obtain ⟨fr2,h29⟩:=e29_run (st:=st) (p:=p) (w:=w) (u:=u) (l:=l) (last:=last) (X:=.cells .plain (paraCs (bareP p) w' u')) (K:=[]) hal ⟨hm'.1.1.1.2,hm'.1.1.2⟩ ⟨hm'.1.2,hm'.2⟩ hex q1 q3 q4 q5 q6 q7 fr1
 simp only [Ln.cs] at h29
 have h6:(E tab).C e6c [(2,.bool last),(3,.ptr st.heap.length 0),(4,.ptr (st.heap.length+1) 0),(7,.bool true),(8,.int .i64 EN),(62,.bool false)] (pst st [.cells .plain (paraCs p w u),.cells .plain [.int .i64 l.f,.int .i64 l.t,.int .i64 l.x,.int .i64 l.w,.int .i64 l.n,.bool l.h,.int .i64 l.g]] [])=some (.ret,(6,.bool true)::fr2,pst st [.cells .plain (paraCs p w u),.cells .plain [.int .i64 l.f,.int .i64 l.t,.int .i64 l.x,.int .i64 l.w,.int .i64 l.n,.bool l.h,.int .i64 l.g],.cells .plain (paraCs (bareP p) w' u')] []):=by
  unfold e6c
  by_cases hroom:0≤EX
  · have hEle:=q2 hroom
    have c2:¬ l.x+l.w<EN:=by omega
    simp [h9,pcS0,pcS4,-splice,hb,w1,w2,w3,hL0,hL1,hroom,c2,h29]
  · simp [h9,pcS0,pcS4,-splice,hb,w1,w2,w3,hL0,hL1,hroom,h29]
 rw [f205c]
 by_cases hft:l.f=l.t
 · have hh:l.h=true:=by
    rcases hne with h | h
    · exact absurd hft h
    · exact h
   rw [hft,hh] at h6 he hd ⊢
   simp [hkn,he,hd,h400,pcText,h6]
 · simp [hkn,he,hd,h400,pcText,hft,h6]
end
def shLine:List Sh:=[.int .i64,.int .i64,.int .i64,.int .i64,.int .i64,.bool,.int .i64]
theorem fit_line {vs:List DV} (h:Fits shLine vs):∃ l:Ln,vs=l.cs:=by
 obtain ⟨_,_,rfl,⟨a,rfl,_⟩,_,_,rfl,⟨b,rfl,_⟩,_,_,rfl,⟨c,rfl,_⟩,_,_,rfl,⟨d,rfl,_⟩,_,_,rfl,⟨e,rfl,_⟩,_,_,rfl,⟨f,rfl⟩,_,_,rfl,⟨g,rfl,_⟩,rfl⟩:=h
 exact ⟨⟨a,b,c,d,e,f,g⟩,rfl⟩
def lawSh:List (Bool×List Sh):=[(true,shPara),(true,shLine),(false,[.bool])]
theorem law_run (us:List DV) (hf:FitAll lawSh us):∃ st',(E tab).F 205 us st0=some (.bool true,st'):=by
 obtain ⟨_,_,rfl,hp,_,_,rfl,hl,_,_,rfl,⟨_,_,rfl,⟨b,rfl⟩,rfl⟩,rfl⟩:=hf
 obtain ⟨p,w,u,rfl,hs,hw,hu⟩:=fit_para hp
 obtain ⟨l,rfl⟩:=fit_line hl
 refine ⟨st0,?_⟩
 simp only [elemOf,List.headD_cons,Bool.false_eq_true,if_false,if_true]
 exact ends205 hs hw hu l b
end Go.D.Tab
end
section
namespace Go.D
open Go.RowKit
variable {P:Program}
theorem laid_mem {w:World}:∀ (l:List (String×DataW Unit)) (ps:List MemPlace),DataW.LaidVars P w l ps→∀ x∈l,∃ g t cs fuel p,P.globalNamed x.1=some g∧(P.globals[g]?).map (·.type)=some t∧w.var? P x.1=some cs ∧
 DataW.trod (fun _=>()) P w 0 (fun _=>true) false fuel t cs.toList=some (x.2,p)
 | [],_,_,x,hx=>by simp at hx
 | y::l,ps,h,x,hx=>by
   obtain ⟨g,t,cs,fuel,p,q,h1,h2,h3,h4,h5,h6⟩:=h
   rcases List.mem_cons.1 hx with rfl | hx
   · exact ⟨g,t,cs,fuel,p,h1,h2,h3,h4⟩
   · exact laid_mem l _ h5 x hx
theorem envIn_laid {l:List (Nat×FuncId)} {laid:List (String×DataW Unit)} {w:World} {name:String} {tab:List Nat} {g n:Nat} {t e:TypeId} (hg:P.globalNamed name=some g) (hty:(P.globals[g]?).map (·.type)=some t) (ht:P.underlying t=some (.array n e))
 (he:P.underlying e=some (.int .u8)) (hce:P.cellsOf e=1) (hct:P.cellsOf t=n) (hx:(name,Lib.tabData .u8 (tab.map Int.ofNat))∈laid) (h:laidMet P laid w):EnvIn (fmOf l [(g,tab)]) w:=by
 obtain ⟨ps,h1,_⟩:=h
 obtain ⟨g',t',cs,fuel,p,hg',ht',hvar,hd⟩:=laid_mem laid ps h1 _ hx
 obtain rfl:=Option.some.inj (hg.symm.trans hg')
 obtain rfl:=Option.some.inj (hty.symm.trans ht')
 have hcs:=Lib.cells_of_tab ht he hce hct hd
 refine envIn_one fun i hi => ?_
 rw [World.var?_cell hg hvar i,← Array.getElem?_toList,hcs]
 simp [hi]
end Go.D
end
