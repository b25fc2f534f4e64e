import Derived.ChangeArms
import Derived.DataReads
import Derived.OpenShut
import Derived.SizedLaws
import Derived.Below
import Derived.WideKeyArgs
import Derived.IntWalk
import Derived.KernelRfl
import Derived.Test.YtmoococmjkapbaaGreatDoorM2
/-! Texts 3 of this claim, joined. -/
section
namespace Go.D
theorem fM {β:Type} (b:Bool) (k:Option β):ifK b k=if b=true then k else none:=by cases b<;>rfl
theorem HE (op:BinOp) (st:St) (k k':IntKind) (a b:Int):(KI.rec (motive:=fun _=>Out) (fun f=>f st k k' a b) (JD op))=(oI op (.int k a) (.int k' b)).map fun v=>(v,st):=by
 cases op<;>simp only [JD,lp,oI,jV,uK,yM,uy,Bj,Na,vS,HH,Ks,Li,yN,EB,uj,tH,fM]<;>by_cases h:k=k'<;>simp [h]<;>first | rfl | (cases h:(a==b)<;>simp_all [bne])
theorem JB (op:BinOp) (x y:DV) (st:St) (f:Fe) (hf:∀ k k' a b,f st k k' a b=(oI op (.int k a) (.int k' b)).map fun v=>(v,st)) :
 acg f op x y st=(oI op x y).map fun v=>(v,st):=by
 cases x<;>try (first | rfl | (cases y<;>rfl))
 · cases y<;>first | rfl | exact hf _ _ _ _
 · exact tH _ _
theorem Cy (st:St) (b:Nat) (k:CK→List DV→Out):s4 st b k=match st.cells b with | some (g,vs)=>k g vs | none=>none:=by
 unfold s4 St.cells
 rw [gA]
 cases st.heap[b]? with
 | none=>rfl
 | some o=>cases o<;>rfl
theorem ny (vs:List DV) (off n:Nat) (ag:Bool) (st:St):pc vs off n ag st=(takeN vs off n ag).map fun v=>(v,st):=by
 unfold pc takeN
 cases ag
 · simp only [gA,oJ]
   show _=Option.map _ (vs[off]?)
   cases vs[off]? <;> rfl
 · simp only [fM,vQ,pV,fU,Nat.ble_eq,if_true]
   show (if off+n≤vs.length then _ else none)=_
   split<;>rfl
theorem xg (n:Nat) (ag:Bool) (v:DV) (st:St):Db n ag v st=(cF st n ag v).map fun v=>(v,st):=by
 cases v<;>try rfl
 · rename_i b off
   show s4 st b _=_
   rw [Cy]
   simp only [cF]
   cases st.cells b with
   | none=>rfl
   | some p=>exact ny _ _ _ _ _
 · exact ny _ _ _ _ _
theorem lF {β:Type} (v:DV) (k:List DV→β):ma v k=k v.leaves:=by cases v<;>rfl
theorem px (vs:List DV):oW vs=vs.all DV.bg:=by
 induction vs with
 | nil=>rfl
 | cons v t ih=>show j6 v.bg (oW t)=_;rw [iy,ih];simp
theorem xJ {α:Type} (vs:List DV) (off:Nat) (news:List DV) (k:List DV→α):tS vs off news k=k (bV vs off news):=by
 unfold tS bV
 rw [vQ,jR,jR,pV,fU,List.append_assoc];rfl
theorem C0 (n:Nat) (p v:DV) (st:St):Dt n p v st=(lJ st n p v).map fun s=>(.undef,s):=by
 cases p<;>try rfl
 rename_i b off
 obtain ⟨h,tk,cur,base,tb⟩:=st
 simp only [lJ,St.lG,St.cells]
 show (Option.rec none _ (lA h b):Out)=_
 rw [gA]
 cases h[b]? with
 | none=>rfl
 | some o=>
   cases o<;>try rfl
   rename_i g vs
   show ma v _=_
   rw [lF,fM,xJ,Az]
   simp only [iy,Bool.and_eq_true,Nat.ble_eq,Nat.beq_eq,fU,px]
   by_cases hw:g.wr=true
   · rw [if_pos hw]
     show (if g.wr=true∧base≤b∧v.leaves.length=n∧off+n≤vs.length∧v.leaves.all DV.bg=true then _ else none)=_
     by_cases hc:base≤b∧v.leaves.length=n∧off+n≤vs.length∧v.leaves.all DV.bg=true
     · rw [if_pos ⟨hw,hc⟩]
       simp only
       rw [if_pos hc];rfl
     · rw [if_neg (fun h=>hc h.2)]
       simp only
       rw [if_neg hc];rfl
   · rw [if_neg hw,if_neg (fun h=>hw h.1)];rfl
theorem qp (st:St) (o:HO) (k:Nat→St→Out):zS st o k=k st.heap.length (st.push o):=by
 obtain ⟨h,tk,cur,base,tb⟩:=st
 refine (lr (gl h) fun n=>o6 h [o] fun h'=>k n ⟨h',tk,cur,base,tb⟩).trans ?_
 rw [jR,fU];rfl
theorem ng (i:Int):tT i=i.toNat:=by cases i<;>rfl
theorem HK {β:Type} (xs:List β) (st:St):Lb xs st=some (.int .i64 xs.length,st):=by
 unfold Lb;rw [lr,fU];rfl
theorem CI (n:Nat) (x i:X) (fr:Fr) (st:St):Gk n (x.ev fr) (i.ev fr) st=al st fr (.aK n x i):=by
 simp only [al]
 cases i.ev fr<;>try (cases x.ev fr<;>rfl)
 rename_i k j
 show ifK (iLe (.ofNat 0) j) _=_
 rw [fM,uj]
 cases x.ev fr<;>try (show (if _ then none else none)=_;split<;>rfl)
 · rename_i tag n' tk nn xs
   show (if _ then ifK (Nat.beq n' n) _ else none)=_
   simp only [fM,Nat.beq_eq,gA,ng,decide_eq_true_eq,Int.ofNat_eq_natCast,Int.natCast_zero]
   by_cases h1:0≤j<;>by_cases h2:n'=n<;>simp only [h1,h2,if_true,if_false,and_true,and_false]
   cases xs[j.toNat]? with
   | none=>rfl
   | some v=>exact lF _ _
 · rename_i n' ag b off len cap
   show (if _ then ifK (Nat.beq n' n) _ else none)=_
   simp only [fM,Nat.beq_eq,ng,decide_eq_true_eq,Int.ofNat_eq_natCast,Int.natCast_zero,EB,lr]
   by_cases h1:0≤j<;>by_cases h2:n'=n<;>simp only [h1,h2,if_true,if_false,true_and,and_false,false_and]
   rfl
theorem Ec (n m:Nat) (ag:Bool) (bytes:Nat) (news:List DV) (tag n':Nat) (tk:Tk) (nn:Bool) (xs:List DV) (y:DV) (st:St) (h:cw st n y=some (m,news)) :
 MV n m ag bytes news tag n' tk nn xs st=bt st n ag bytes (.list tag n' tk nn xs) y:=by
 simp only [bt,h]
 obtain ⟨hp,tks,cur,base,tb⟩:=st
 cases m with
 | zero=>rfl
 | succ m=>
   rw [if_neg (by omega)]
   show (if _ then none else _)=_
   split
   · rfl
   · rw [YX,jR]
     have hfresh:∀ (zs:List DV),fN (gl tks) (fun l=>o6 tks [0] fun tks'=>(some (DV.list cur n (.own l 0) true zs,(⟨hp,tks',cur,base,tb⟩:St)):Out))=some (.list cur n (.own tks.length 0) true zs,⟨hp,tks++[0],cur,base,tb⟩):=by
      intro zs;rw [lr,jR,fU]
     cases nn
     · exact hfresh _
     · cases tk with
       | no=>rfl
       | tight=>exact hfresh _
       | own t s=>
         show (if tb≤t∧tks[t]? = some s then _ else none)=if tb≤t∧tks[t]? = some s then _ else none
         split
         · rw [lr,Az]
         · rfl
theorem xT (n:Nat) (ag:Bool) (bytes:Nat) (x y:DV) (st:St):Ak n ag bytes x y st=bt st n ag bytes x y:=by
 cases x<;>try (simp only [bt];cases cw st n y<;>rfl)
 · rename_i tag n' tk nn xs
   show (Option.rec none _ (cw st n y):Out)=_
   cases h:cw st n y with
   | none=>simp only [bt,h]
   | some p=>
     obtain ⟨m,news⟩:=p
     exact Ec _ _ _ _ _ _ _ _ _ _ _ _ h
 · exact (ez _ _).trans (ez _ _)
theorem xP (fr:Fr) (parts:List (Nat×Nat×X)) (k:List (Nat×Nat×DV)→Out):uz fr parts k=k (parts.map fun (o,n,x)=>(o,n,x.ev fr)):=by
 induction parts generalizing k with
 | nil=>rfl
 | cons p r ih=>
   refine (aN fr p.2.2 fun v=>uz fr r fun t=>k ((p.1,p.2.1,v)::t)).trans ?_
   exact ih _
def Jt:ROp→Bool
 | .call .. | .bC .. | .dt .. => true
 | _=>false
def amR (op:ROp):KF→Prop
 | .mk f=>(∀ fr st,f fr st=al st fr op)∧Jt op=false
 | .call g args=>op=.call g args
 | .bC g args=>op=.bC g args
 | .dt g args=>op=.dt g args
theorem Gt (op:ROp):amR op (b5 op):=by
 cases op
 case call=>rfl
 case bC=>rfl
 case dt=>rfl
 case mv x=>exact ⟨fun fr st=>aN _ _ _,rfl⟩
 case pick c a b=>
  refine ⟨fun fr st=>(aN _ _ _).trans ?_,rfl⟩
  simp only [al]
  cases c.ev fr<;>try rfl
  rename_i t
  cases t
  · exact aN _ _ _
  · exact aN _ _ _
 case alloc zs=>exact ⟨fun fr st=>qp _ _ _,rfl⟩
 case load n ag x=>exact ⟨fun fr st=>(aN _ _ _).trans (xg _ _ _ _),rfl⟩
 case store n x v=>exact ⟨fun fr st=>(aN _ _ _).trans ((aN _ _ _).trans (C0 _ _ _ _)),rfl⟩
 case bin op x y=>
  have h:=fun st k k' a b=>HE op st k k' a b
  unfold b5
  dsimp only
  revert h
  generalize JD op=ki
  cases ki with
  | mk f=>exact fun h=>⟨fun fr st=>(aN _ _ _).trans ((aN _ _ _).trans (JB _ _ _ _ _ fun k k' a b=>h st k k' a b)),rfl⟩
 case i2i k x=>
  refine ⟨fun fr st=>(aN _ _ _).trans ?_,rfl⟩
  simp only [al]
  cases x.ev fr<;>try rfl
  show yM _ _ _=_
  unfold yM;rw [Na,vS]
 case un op x=>
  cases op
  case not=>
   refine ⟨fun fr st=>(aN _ _ _).trans ?_,rfl⟩
   simp only [al]
   cases x.ev fr<;>try rfl
   show rn _ _=_
   rw [uy,Bj];rfl
  all_goals exact ⟨fun fr st=>z8 _,rfl⟩
 case fy off x=>
  refine ⟨fun fr st=>(aN _ _ _).trans ?_,rfl⟩
  simp only [al]
  cases x.ev fr<;>try rfl
  · rename_i b o
    exact lr (Nat.add o off) fun o=>(some (DV.ptr b o,st):Out)
  · show ifK _ _=_
    rw [fM,pV,fU];simp only [Nat.ble_eq]
 case aK n x i=>exact ⟨fun fr st=>(aN _ _ _).trans ((aN _ _ _).trans (CI _ _ _ _ _)),rfl⟩
 case index x i=>
  refine ⟨fun fr st=>(aN _ _ _).trans ((aN _ _ _).trans ?_),rfl⟩
  simp only [al]
  cases x.ev fr<;>try (cases i.ev fr<;>rfl)
  cases i.ev fr<;>try rfl
  show ifK _ _=_
  rw [fM,uj,gA,ng]
  simp only [decide_eq_true_eq]
  show (if (0:Int)≤_ then _ else none)=_
  split
  · rename_i s _ j _
    cases s[j.toNat]? with
    | none=>rfl
    | some b=>exact lr _ _
  · rfl
 case extract x i=>
  refine ⟨fun fr st=>(aN _ _ _).trans ?_,rfl⟩
  simp only [al]
  cases x.ev fr<;>try rfl
  rename_i vs
  show oJ st (lA vs i)=_
  rw [gA]
  show oJ st vs[i]? = Option.map _ vs[i]?
  cases vs[i]? <;> rfl
 case iface t x=>exact ⟨fun fr st=>aN _ _ _,rfl⟩
 case gL g a b=>exact ⟨fun fr st=>(mj _ _ _).trans (mj _ _ _),rfl⟩
 case len k x=>
  cases k
  case map=>
   refine ⟨fun fr st=>(tH _ _).trans ?_,rfl⟩
   cases h:x.ev fr<;>simp only [al,h,Option.map_none,Option.map_some]
   rename_i b
   cases st.heap[b]? with
   | none=>rfl
   | some o=>cases o<;>rfl
  all_goals
   refine ⟨fun fr st=>(aN _ _ _).trans ?_,rfl⟩
   simp only [al]
   cases x.ev fr<;>first | rfl | exact HK _ _
 case fT ty bytes x y=>exact ⟨fun fr st=>(aN _ _ _).trans ((aN _ _ _).trans ((ez _ _).trans (ez _ _))),rfl⟩
 case re ty x l=>exact ⟨fun fr st=>(aN _ _ _).trans ((aN _ _ _).trans (l9 _ _)),rfl⟩
 case iO x=>exact ⟨fun fr st=>(aN _ _ _).trans (l9 _ _),rfl⟩
 case conv ty n x=>exact ⟨fun fr st=>(aN _ _ _).trans (l9 _ _),rfl⟩
 case iS ty zs=>exact ⟨fun fr st=>qp _ _ _,rfl⟩
 case fR n ag bytes x y=>exact ⟨fun fr st=>(aN _ _ _).trans ((aN _ _ _).trans ((ez _ _).trans (ez _ _))),rfl⟩
 case append n ag bytes x y=>exact ⟨fun fr st=>(aN _ _ _).trans ((aN _ _ _).trans (xT _ _ _ _ _ _)),rfl⟩
 case eq k neg x y=>
  refine ⟨fun fr st=>(aN _ _ _).trans ((aN _ _ _).trans ?_),rfl⟩
  simp only [al]
  cases eqD k (x.ev fr) (y.ev fr) with
  | none=>rfl
  | some b=>exact uy _ _
 case field n ag off x=>
  refine ⟨fun fr st=>(aN _ _ _).trans ?_,rfl⟩
  simp only [al]
  cases x.ev fr<;>try rfl
  exact ny _ _ _ _ _
 case slice str n x lo hi mx=>exact ⟨fun fr st=>(aN _ _ _).trans ((zC _ _ _).trans ((zC _ _ _).trans ((zC _ _ _).trans (l9 _ _)))),rfl⟩
 case build zs parts=>exact ⟨fun fr st=>(xP _ _ _).trans ((l9 _ _).trans (Option.map_map ..)),rfl⟩
 case lookup ks zero x i ok=>
  refine ⟨fun fr st=>(aN _ _ _).trans ((aN _ _ _).trans ?_),rfl⟩
  rw [fM,yU];rfl
 case copy n x y=>exact ⟨fun fr st=>(aN _ _ _).trans ((aN _ _ _).trans (ez _ _)),rfl⟩
 case clear n zs x=>exact ⟨fun fr st=>(aN _ _ _).trans (ez _ _),rfl⟩
 case box n x=>
  refine ⟨fun fr st=>(aN _ _ _).trans ?_,rfl⟩
  rw [lF,fM,qp]
  simp only [iy,Bool.and_eq_true,Nat.beq_eq,fU,px,al]
 case gQ ks m k v=>
  refine ⟨fun fr st=>(aN _ _ _).trans ((aN _ _ _).trans ((aN _ _ _).trans ?_)),rfl⟩
  rw [fM,ez];rfl
 case aT x=>
  refine ⟨fun fr st=>(aN _ _ _).trans ?_,rfl⟩
  simp only [al]
  cases x.ev fr<;>rfl
 case s2b x=>
  refine ⟨fun fr st=>(aN _ _ _).trans ?_,rfl⟩
  simp only [al]
  cases x.ev fr<;>try rfl
  exact Da (vD MY) _ _
 case b8 n ag bytes zs len cap=>exact ⟨fun fr st=>ez _ _,rfl⟩
 case s2h x=>exact ⟨fun fr st=>ez _ _,rfl⟩
 case oO n ag zs len parts=>exact ⟨fun fr st=>(BS _ _ _ _).trans (ez _ _),rfl⟩
 all_goals exact ⟨fun fr st=>z8 _,rfl⟩
theorem pU {β:Type} (r:Out) (k:DV→St→Option β):so r k=match r with | some (v,st)=>k v st | none=>none:=by
 rcases r with _ | ⟨v,st⟩<;>rfl
theorem Cw (T:Tab) (R:Rec) (v:DV) (as_:List DV) (st:St) :
 D9 T R v as_ st=match v with | .fn g first captured=>if ak T g then R.F g (first++as_++captured) st else none | _=>none:=by
 cases v<;>try rfl
 show ifK _ (o6 _ _ _)=_
 rw [fM,jR,jR,← List.append_assoc]
theorem C5 (T:Tab) (R:Rec) (op:ROp) (fr:Fr) (st:St):opK T R op fr st =
 match op with
  | .call g args=>R.F g (args.map (X.ev fr)) st
  | .bC f args=>R.V (f.ev fr) (args.map (X.ev fr)) st
  | .dt f args=>
    match f.ev fr with
    | .fn g first captured=>if ak T g then R.F g (first++args.map (X.ev fr)++captured) st else none
    | _=>none
  | op=>al st fr op:=by
 have h:=Gt op
 unfold opK
 revert h
 generalize b5 op=kf
 cases kf with
 | mk f=>
   intro h
   obtain ⟨h1,h2⟩:=h
   show f fr st=_
   rw [h1]
   cases op<;>first | rfl | cases h2
 | call g args=>
   intro h;cases h
   exact mj _ _ _
 | bC g args=>
   intro h;cases h
   exact (mj _ _ _).trans (aN _ _ _)
 | dt g args=>
   intro h;cases h
   exact (mj _ _ _).trans ((aN _ _ _).trans (Cw _ _ _ _ _))
theorem ye (T:Tab) (R:Rec):sZ T R=ey T R:=by
 funext o fr st
 obtain ⟨d,op,g⟩:=o
 cases g with
 | none=>
   refine (C5 T R op fr st).trans ?_
   cases op<;>rfl
 | some g=>
   unfold sZ ey
   dsimp only
   cases eu fr (some g) with
   | none=>rfl
   | some b=>
     cases b
     · rfl
     · refine (C5 T R op fr st).trans ?_
       cases op<;>rfl
theorem xY (T:Tab) (R:Rec):AT R=jC T R:=by
 funext ops fr st
 cases ops with
 | nil=>rfl
 | cons o r=>
   show so (R.N o fr st) (fun v st'=>Gu fr o.dst v fun fr'=>R.O r fr' st')=_
   rw [pU]
   simp only [jC,zZ]
   cases R.N o fr st<;>rfl
theorem u7 (T:Tab) (R:Rec):wb T R=gg T R:=by
 funext ops fr st sts
 cases ops with
 | nil=>rfl
 | cons o r=>
   show so (R.N o fr st) (fun v st'=>Gu fr o.dst v fun fr'=>Bool.rec (R.S r fr' st sts) (R.S r fr' st' (st'::sts)) (aH (ak T) o.op))=_
   rw [pU]
   simp only [gg,zZ]
   cases aH (ak T) o.op<;>simp<;>cases R.N o fr st<;>rfl
theorem vR (r:j5) (k:Fr→St→j5):EY r k=match r with | some (.normal,fr,st)=>k fr st | r=>r:=by
 rcases r with _ | ⟨e,fr,st⟩
 · rfl
 · cases e<;>rfl
theorem xL (R:Rec) (ops:List aj) (live:List Nat) (fr:Fr) (st:St):uU R ops live fr st=match R.O ops fr st with | some (fr',st')=>some (.normal,fr'.bq live,st') | none=>none:=by
 unfold uU
 cases R.O ops fr st with
 | none=>rfl
 | some p=>exact qm _ _ _
theorem my (R:Rec) (ops:List aj) (chk:List (Nat×List Nat)) (live:List Nat) (fr:Fr) (st:St):jg R ops chk live fr st =
 match R.S ops fr st [st] with
  | some (fr',sts)=>if R.A fr' ops sts.reverse chk then (match sts with | st'::_=>some (.normal,fr'.bq live,st') | []=>none) else none
  | none=>none:=by
 unfold jg
 cases R.S ops fr st [st] with
 | none=>rfl
 | some p=>
   obtain ⟨fr',sts⟩:=p
   show ifK _ _=_
   rw [fM]
   cases sts with
   | nil=>rfl
   | cons s r=>
     have:(List.rec (motive:=fun _=>j5) none (fun st' _ _=>sF fr' live fun fr'=>some (.normal,fr',st')) (s::r))=some (.normal,fr'.bq live,s):=qm _ _ _
     rw [this]
theorem wP (R:Rec) (ops:List aj) (hs:List Nat) (chk:List (Nat×List Nat)) (live:List Nat) (fr:Fr) (st:St):wR R ops hs chk live fr st =
 match il fr hs st ops with
  | some (st1,ops2)=>
    match R.S ops2 fr st1 [st1] with
    | some (fr',sts)=>if R.A fr' ops2 sts.reverse chk then (match sts with | st'::_=>some (.normal,fr'.bq live,st') | []=>none) else none
    | none=>none
  | none=>none:=by
 cases hs with
 | nil=>exact my R ops chk live fr st
 | cons h t=>
   show (Option.rec none _ (il fr (h::t) st ops):j5)=_
   cases il fr (h::t) st ops with
   | none=>rfl
   | some p=>
     obtain ⟨⟨hp,tks,cur,base,tb⟩,ops2⟩:=p
     refine (MR hp fun h=>jg R ops2 chk live fr ⟨h,tks,cur,base,tb⟩).trans ?_
     exact my _ _ _ _ _ _
theorem Cv (R:Rec) (id:Nat) (a:RC) (fr:Fr) (st:St):zc R id a fr st =
 match R.C a fr st with
  | some (.exit id',fr',st')=>if id'=id then some (.normal,fr',st') else some (.exit id',fr',st')
  | r=>r:=by
 unfold zc
 cases R.C a fr st with
 | none=>rfl
 | some p=>
   obtain ⟨e,fr',st'⟩:=p
   cases e with
   | normal=>rfl
   | ret=>rfl
   | exit id'=>
     show (Bool.rec (some (.exit id',fr',st')) (some (.normal,fr',st')) (Nat.beq id' id):j5)=if id'=id then _ else _
     by_cases h:id'=id
     · rw [if_pos h,h,show Nat.beq id id=true from Nat.beq_refl id]
     · rw [if_neg h,show Nat.beq id' id=false from by cases e:Nat.beq id' id with | false=>rfl | true=>exact absurd (Nat.eq_of_beq_eq_true e) h]
theorem D2 (T:Tab) (R:Rec):MK T R=cT T R:=by
 funext c fr st
 cases c with
 | skip=>rfl
 | region ops live=>exact xL R ops live fr st
 | au ops hs chk live=>exact wP R ops hs chk live fr st
 | seq a b=>
   refine (vR _ _).trans ?_
   simp only [cT]
   rfl
 | cond x a b=>
   refine (aN _ _ _).trans ?_
   simp only [cT]
   cases x.ev fr<;>try rfl
   rename_i t;cases t<;>rfl
 | block id a=>exact Cv R id a fr st
 | loop live a=>
   refine (qm _ _ _).trans ((vR _ _).trans ?_)
   simp only [cT]
   rfl
 | exit id=>rfl
 | ret=>rfl
 | stuck=>rfl
 | eY f params assign body live=>rfl
theorem yY {α:Type} (as_:List DV) (i:Nat) (k:Fr→α):tr as_ i k=k (bl as_ i):=by
 induction as_ generalizing i k with
 | nil=>rfl
 | cons v t ih=>
   refine (lr i fun i=>tr t (Nat.succ i) fun t=>k ((i,v)::t)).trans ?_
   exact ih _ _
theorem xZ (st:St) (fr:Fr) (r:fv) (k:DV→Out):A2 st fr r k=match gu st fr r with | some v=>k v | none=>none:=by
 cases r with
 | t n=>exact mR _ _ _
 | cell a n ag=>
   refine (mR _ _ _).trans ((pU _ _).trans ?_)
   rw [xg]
   simp only [gu]
   cases cF st n ag (fr.get a)<;>rfl
theorem zJ (st:St) (fr:Fr) (rs:List fv) (k:List DV→Out):ur st fr rs k=match dQ st fr rs with | some vs=>k vs | none=>none:=by
 induction rs generalizing k with
 | nil=>rfl
 | cons r rs ih=>
   refine (xZ st fr r fun v=>ur st fr rs fun t=>k (v::t)).trans ?_
   simp only [dQ]
   cases gu st fr r with
   | none=>rfl
   | some v=>
     refine (ih _).trans ?_
     cases dQ st fr rs<;>rfl
theorem z3 (st:St) (fr:Fr) (rs:List fv) (k:DV→Out):aaI st fr rs k=match eX st fr rs with | some v=>k v | none=>none:=by
 refine (zJ _ _ _ _).trans ?_
 unfold eX
 cases dQ st fr rs with
 | none=>rfl
 | some vs=>
   cases vs with
   | nil=>rfl
   | cons v t=>cases t<;>rfl
theorem wD (R:Rec) (f:ai) (args:List DV) (st:St) (k:Fr→St→Out):Fy R f args st k =
 match R.C f.body (bl args 0) st with
  | some (.exit _,_,_)=>none
  | some (_,fr,st')=>k fr st'
  | none=>none:=by
 refine (yY _ _ _).trans ?_
 cases R.C f.body (bl args 0) st with
 | none=>rfl
 | some p=>obtain ⟨e,fr,st'⟩:=p;cases e<;>rfl
theorem CN (st:St) (k:St→Out):DY st k=k st.enter:=by
 obtain ⟨h,tks,cur,base,tb⟩:=st
 refine (lr (gl h) fun b=>fN (gl tks) fun tb=>k ⟨h,tks,cur,b,tb⟩).trans ((lr (gl tks) fun tb=>k ⟨h,tks,cur,gl h,tb⟩).trans ?_)
 rw [fU,fU];rfl
theorem BV (T:Tab) (R:Rec):yn T R=dy T R:=by
 funext g args st
 unfold yn
 simp only [dy]
 cases T g with
 | none=>rfl
 | some d=>
   cases d with
   | jA p=>rfl
   | dN p=>
     show (Option.rec none _ (p args):Out)=Option.map _ (p args)
     cases p args<;>simp
   | code f=>
     obtain ⟨results,body,dn⟩:=f
     cases dn
     · refine (wD _ _ _ _ _).trans ?_
       dsimp only
       rw [if_neg (by simp)]
       simp only [z3]
       rcases R.C body (bl args 0) st with _ | ⟨e,fr,st'⟩
       · rfl
       · cases e<;>first | rfl | (simp only;cases eX st' fr results<;>rfl)
     · refine (CN _ _).trans ((wD _ _ _ _ _).trans ?_)
       dsimp only
       rw [if_pos rfl]
       simp only [z3]
       rcases R.C body (bl args 0) st.enter with _ | ⟨e,fr,st'⟩
       · rfl
       · have key:∀ (v:DV),(Hb st st' v fun v=>some (v,st))=(bD st st' v).map fun v'=>(v',st):=by
          intro v;rw [Ic];cases bD st st' v<;>rfl
         cases e<;>first | rfl | (simp only [key]<;>cases eX st' fr results<;>rfl)
theorem zk (T:Tab) (R:Rec):As R=jT T R:=by
 funext fr o sts vs
 cases vs with
 | nil=>rfl
 | cons j r=>
   show j6 (Option.rec false _ (lA sts j)) (R.K fr o sts r)=_
   rw [iy,gA]
   simp only [jT]
   cases sts[j]? with
   | none=>rfl
   | some st=>
     simp only
     cases R.N o fr st with
     | none=>rfl
     | some p=>
       obtain ⟨v,s'⟩:=p
       obtain ⟨d,op,g⟩:=o
       cases d with
       | none=>rfl
       | some d=>
         show (u3 fr d (fun u=>Rm v u)&&_)=_
         rw [mR,KR]
theorem yI (T:Tab) (R:Rec):z5 R=jL T R:=by
 funext fr ops sts chk
 cases chk with
 | nil=>rfl
 | cons p r=>
   obtain ⟨i,vs⟩:=p
   show j6 (Option.rec false _ (lA ops i)) (R.A fr ops sts r)=_
   rw [iy,gA]
   simp only [jL]
   cases ops[i]? <;> rfl
theorem BQ (T:Tab) (R:Rec):x5 T R=dO T R:=by
 unfold x5 dO
 rw [D2,xY,u7,ye,BV,yI T R,zk T R]
theorem wa (T:Tab):∀ n,Gz T n=dx T n
 | 0=>rfl
 | n+1=>(BQ T (Gz T n)).trans (by rw [wa T n];rfl)
theorem wU {T:Tab} {n g:Nat} {args:List DV} {st:St} {v:DV} (h:jW T n g args st v=true):∃ st',eQ T n g args st=some (v,st'):=by
 unfold jW at h
 rw [wa] at h
 cases hr:(dx T n).F g args st with
 | none=>rw [hr] at h;cases h
 | some p=>
   obtain ⟨u,st'⟩:=p
   rw [hr] at h
   have:=DV.beq_eq u v h
   subst this
   exact ⟨st',p5 hr⟩
end Go.D
end
section
namespace Go.D
open Go.RowKit
variable {P:Program} {fm:FM}
mutual
def DV.free:DV→Bool
 | .bool _ | .int _ _ | .str _ | .cm | .br | .bK | .bc=>true
 | .bT cs=>DV.kI cs
 | .list _ _ tk _ xs=>(match tk with | .own _ _=>false | _=>true)&&DV.kI xs
 | .fn _ a b=>DV.kI a&&DV.kI b
 | .iface _ v=>DV.free v
 | .agg vs | .tuple vs=>DV.kI vs
 | _=>false
def DV.kI:List DV→Bool
 | []=>true
 | v::r=>DV.free v&&DV.kI r
end
theorem dE:∀ {vs:List DV},DV.kI vs=true→∀ i (h:i<vs.length),(vs[i]).free=true
 | [],_,i,h=>by simp at h
 | v::r,hf,i,h=>by
   simp only [DV.kI,Bool.and_eq_true] at hf
   cases i with
   | zero=>exact hf.1
   | succ i=>exact dE hf.2 i (by simpa using h)
theorem tg {v:DV} (h:v.free=true):∀ x∈v.leaves,x.free=true:=by
 intro x hx
 cases v<;>simp only [DV.leaves,List.mem_singleton] at hx<;>try (subst hx;exact h)
 rename_i vs
 simp only [DV.free] at h
 obtain ⟨i,hi,rfl⟩:=List.getElem_of_mem hx
 exact dE h i hi
theorem yi {xs:List DV} (h:DV.kI xs=true) (i:Nat) (hi:i<(flat xs).length):((flat xs)[i]).free=true:=by
 have hm:=List.getElem_mem hi
 unfold flat at hm
 obtain ⟨v,hv,hm⟩:=List.mem_flatMap.1 hm
 obtain ⟨j,hj,rfl⟩:=List.getElem_of_mem hv
 exact tg (dE h j hj) _ hm
theorem Rel.Fc {G G':Gh} (hro:∀ r i v,G.ro r i=some v→G'.ro r i=some v) {v:DV} {x:Value} (k:Rel fm G v x) (h:v.free=true):Rel fm G' v x:=by
 induction k with
 | undef x=>cases h
 | bool b=>exact .bool b
 | int k n=>exact .int k n
 | str l s hh=>exact .str l s hh
 | ptr b off r hh=>cases h
 | cm=>exact .cm
 | bT cs r off f hr _ hp ih=>
   simp only [DV.free] at h
   exact .bT cs r off f (fun i hi=>(hr i hi).imp (hro _ _ _) id) (fun i hi=>ih i hi (dE h i hi)) hp
 | gC tag n tk=>exact .gC tag n tk
 | list tag n tk xs r off cap f hr _ hp hk hl hn ih=>
   simp only [DV.free,Bool.and_eq_true] at h
   refine .list tag n tk xs r off cap f (fun i hi=>hro _ _ _ (hr i hi)) (fun i hi=>ih i hi (yi h.2 i hi)) hp ?_ hl hn
   cases tk with
   | no=>trivial
   | tight=>exact hk
   | own a b=>simp at h
 | hsl n ag b off len cap r c hh hc=>cases h
 | map b r hh=>cases h
 | br=>exact .br
 | fn g first captured f fs cs hh h1 h2 _ _ ih1 ih2=>
   simp only [DV.free,Bool.and_eq_true] at h
   exact .fn g first captured f fs cs hh h1 h2 (fun i hi=>ih1 i hi (dE h.1 i hi)) (fun i hi=>ih2 i hi (dE h.2 i hi))
 | yield l r hh=>cases h
 | bK=>exact .bK
 | iface t v x _ ih=>exact .iface t v x (ih h)
 | bc=>exact .bc
 | agg vs cs hl _ ih=>
   simp only [DV.free] at h
   exact .agg vs cs hl (fun i hi=>ih i hi (dE h i hi))
 | tuple vs cs hl _ ih=>
   simp only [DV.free] at h
   exact .tuple vs cs hl (fun i hi=>ih i hi (dE h i hi))
def Gh.bare (G:Gh) (w:World):Gh:={ gh0 w with ro:=G.ro }
theorem Sim.bare {CR CR':Nat→RC→Code→Prop} {G:Gh} {w0 w:World} {st:St} (h:Sim fm CR G w0 st w):Sim fm CR' (G.bare w) w st0 w where
 bS:=fun b r h=>by cases h
 bN:=fun b b' o o' r h=>by simp [st0] at h
 obj:=fun b o h=>by simp [st0] at h
 ro:=h.ro
 dp:=fun r i v b o _ h=>by simp [st0] at h
 tok:=fun t s h=>by simp [st0] at h
 bz:=fun t t' s s' x x' h=>by simp [st0] at h
 bw:=fun t s x h=>by cases h
 dfr:=fun r h=>h.elim
 lps:=fun r h=>h.elim
 aE:=Nat.le_refl _
 below:=Below.refl _ w
 base:=rfl
 aU:=rfl
 bB:=Nat.zero_le _
 bm:=fun b o h=>by cases h
 env:=h.sg
def rR (l:List (List DV×DV)) (as_:List DV):Option DV:=
 match l with
 | []=>none
 | (a,v)::r=>if DV.mq a as_ then some v else rR r as_
def Ran (T:Tab) (g:Nat) (as_:List DV) (v:DV):Prop:=DV.kI as_=true∧v.free=true∧∃ n st',eQ T n g as_ st0=some (v,st')
theorem FZ {T:Tab} {n g:Nat} {as_:List DV} {v:DV} (h1:DV.kI as_=true) (h2:v.free=true) (h:jW T n g as_ st0 v=true):Ran T g as_ v:=by
 obtain ⟨st',h⟩:=wU h
 exact ⟨h1,h2,n,st',h⟩
theorem Hx {T T2:Tab} (hT:dR P fm T) (hm:P.follows .mixedOrders=true) {g:Nat} {f:FuncId} (hf:fm g=some f):∀ (l:List (List DV×DV)),(∀ p∈l,Ran T g p.1 p.2)→fc P fm T2 (.dN (rR l)) f:=by
 intro l hl
 show ix P fm T2 _ f
 intro G w0 st w args args' v st' hs ha hp
 simp only [Option.map_eq_some_iff] at hp
 obtain ⟨u,hu,hp⟩:=hp
 cases hp
 have key:∃ p∈l,args=p.1∧v=p.2:=by
  clear hl
  induction l with
  | nil=>simp [rR] at hu
  | cons p r ih=>
    obtain ⟨a,x⟩:=p
    simp only [rR] at hu
    split at hu
    · rename_i hb
      injection hu with hu
      exact ⟨(a,x),by simp,(DV.jy _ _ hb).symm,hu.symm⟩
    · obtain ⟨p,h1,h2⟩:=ih hu
      exact ⟨p,by simp [h1],h2⟩
 obtain ⟨p,hpl,rfl,rfl⟩:=key
 obtain ⟨h1,h2,n,st',hrun⟩:=hl p hpl
 have hs0:bU P fm T (G.bare w) w st0 w:=hs.bare
 have ha0:cS fm (G.bare w) p.1 args':=by
  refine ⟨ha.1,fun i hi => ?_⟩
  have hr:Rel fm G (p.1[i]) (args'.getD i undef):=ha.2 i hi
  exact Rel.Fc (G:=G) (G':=G.bare w) (fun _ _ _ h=>h) hr (dE h1 i hi)
 have hfin:∀ x w',(∃ G',(G.bare w).le G'∧bU P fm T G' w st' w'∧Rel fm G' p.2 x)→∃ G',G.le G'∧bU P fm T2 G' w0 st w'∧Rel fm G' p.2 x:=by
  rintro x w' ⟨G1,g1,g2,g3⟩
  have hb:Below w.heap.size w w':=by
   have:=g2.below
   rw [g1.floor] at this
   exact this
  refine ⟨G.shut w w',Gh.k8 hs w',hs.shut hb,g3.Fc (fun r i u hu => ?_) h2⟩
  show (if _ then _ else _)=_
  by_cases e:r<w.heap.size
  · rw [if_pos e]
    have:=g1.fq r i e
    rw [this] at hu;exact hu
  · rw [if_neg e]
    obtain ⟨cs,t,fz,e1,e2⟩:=g2.ro r i u hu
    rw [e1];exact e2
 have hfn:=((pH hT hm n).fn hf hrun hs0 ha0).1
 rcases hfn with ⟨f',q1,q2⟩ | ⟨x,w',q1,q2⟩
 · refine .inl ⟨f',q1,Go.CallsIn.mono q2 ?_⟩
   rintro e w' ⟨x,rfl,hx⟩
   exact ⟨x,rfl,hfin x w' hx⟩
 · exact .inr ⟨x,w',q1,hfin x w' q2⟩
end Go.D
end
section
namespace Go.D
def Ev (p:Nat→Prop):Prop:=∃ n,∀ m,n≤m→p m
theorem Ev.all {p:Nat→Prop} (h:∀ m,p m):Ev p:=⟨0,fun m _=>h m⟩
theorem Ev.two {p q:Nat→Prop} (h:Ev p) (k:Ev q):Ev fun m=>p m∧q m:=by
 obtain ⟨a,ha⟩:=h;obtain ⟨b,hb⟩:=k
 exact ⟨max a b,fun m hm=>⟨ha m (by omega),hb m (by omega)⟩⟩
theorem Ev.mono {p q:Nat→Prop} (h:Ev p) (k:∀ m,p m→q m):Ev q:=by
 obtain ⟨a,ha⟩:=h
 exact ⟨a,fun m hm=>k m (ha m hm)⟩
structure Conv (ch:Nat→Rec) (L:Rec):Prop where
 C:∀ c fr st r,L.C c fr st=some r→Ev fun m=>(ch m).C c fr st=some r
 O:∀ a fr st r,L.O a fr st=some r→Ev fun m=>(ch m).O a fr st=some r
 S:∀ a fr st b r,L.S a fr st b=some r→Ev fun m=>(ch m).S a fr st b=some r
 N:∀ a fr st r,L.N a fr st=some r→Ev fun m=>(ch m).N a fr st=some r
 A:∀ a b c d,L.A a b c d=true→Ev fun m=>(ch m).A a b c d=true
 K:∀ a b c d,L.K a b c d=true→Ev fun m=>(ch m).K a b c d=true
 F:∀ a b c r,L.F a b c=some r→Ev fun m=>(ch m).F a b c=some r
 V:∀ a b c r,L.V a b c=some r→Ev fun m=>(ch m).V a b c=some r
theorem We {T:Tab} {ch:Nat→Rec} {L:Rec} (hc:Conv ch L) (c:RC) (fr:Fr) (st:St) (r:Ex×Fr×St) (h:cT T L c fr st=some r):Ev fun m=>cT T (ch m) c fr st=some r:=by
 cases c with
 | skip=>exact .all fun m=>h
 | exit id=>exact .all fun m=>h
 | ret=>exact .all fun m=>h
 | stuck=>simp [cT] at h
 | region ops live=>
   simp only [cT] at h ⊢
   cases e:L.O ops fr st with
   | none=>rw [e] at h;cases h
   | some p=>
     rw [e] at h
     exact (hc.O _ _ _ _ e).mono fun m k=>by rw [k];exact h
 | au ops hs chk live=>
   simp only [cT] at h ⊢
   cases e0:il fr hs st ops with
   | none=>rw [e0] at h;cases h
   | some q=>
     obtain ⟨st1,ops2⟩:=q
     rw [e0] at h
     simp only at h ⊢
     cases e:L.S ops2 fr st1 [st1] with
     | none=>rw [e] at h;cases h
     | some p=>
       obtain ⟨fr',sts⟩:=p
       rw [e] at h
       simp only at h
       split at h
       · rename_i ha
         refine ((hc.S _ _ _ _ _ e).two (hc.A _ _ _ _ ha)).mono fun m k => ?_
         rw [k.1]
         simp only [k.2,if_true]
         exact h
       · cases h
 | seq a b=>
   simp only [cT] at h ⊢
   cases e:L.C a fr st with
   | none=>rw [e] at h;cases h
   | some p=>
     obtain ⟨ex,fr',st'⟩:=p
     rw [e] at h
     cases ex with
     | normal=>exact ((hc.C _ _ _ _ e).two (hc.C _ _ _ _ h)).mono fun m k=>by rw [k.1];exact k.2
     | exit id=>exact (hc.C _ _ _ _ e).mono fun m k=>by rw [k];exact h
     | ret=>exact (hc.C _ _ _ _ e).mono fun m k=>by rw [k];exact h
 | cond x a b=>
   simp only [cT] at h ⊢
   generalize x.ev fr=y at h ⊢
   cases y<;>try (cases h;done)
   rename_i v
   cases v with
   | true=>exact hc.C _ _ _ _ h
   | false=>exact hc.C _ _ _ _ h
 | block id a=>
   simp only [cT] at h ⊢
   cases e:L.C a fr st with
   | none=>rw [e] at h;cases h
   | some p=>rw [e] at h;exact (hc.C _ _ _ _ e).mono fun m k=>by rw [k];exact h
 | loop live a=>
   simp only [cT] at h ⊢
   cases e:L.C a (fr.bq live) st with
   | none=>rw [e] at h;cases h
   | some p=>
     obtain ⟨ex,fr',st'⟩:=p
     rw [e] at h
     cases ex with
     | normal=>exact ((hc.C _ _ _ _ e).two (hc.C _ _ _ _ h)).mono fun m k=>by rw [k.1];exact k.2
     | exit id=>exact (hc.C _ _ _ _ e).mono fun m k=>by rw [k];exact h
     | ret=>exact (hc.C _ _ _ _ e).mono fun m k=>by rw [k];exact h
 | eY f params assign body live=>
   simp only [cT] at h ⊢
   cases e:f.ev (fr.bq live)<;>rw [e] at h<;>simp only at h<;>try (cases h;done)
   rename_i g first captured
   by_cases hi:eA T g=true
   · simp only [hi,if_true] at h ⊢
     cases e2:L.F g (first++[.yield st.heap.length]++captured) (st.push (.loop ⟨fr.bq live,params,assign,body,0,none⟩)) with
     | none=>rw [e2] at h;cases h
     | some p=>rw [e2] at h;exact (hc.F _ _ _ _ e2).mono fun m k=>by rw [k];exact h
   · simp [hi] at h
theorem NG {T:Tab} {ch:Nat→Rec} {L:Rec} (hc:Conv ch L) (g:Nat) (as_:List DV) (st:St) (r:DV×St) (h:dy T L g as_ st=some r):Ev fun m=>dy T (ch m) g as_ st=some r:=by
 simp only [dy] at h ⊢
 cases e:T g with
 | none=>rw [e] at h;cases h
 | some d=>
   rw [e] at h
   cases d with
   | jA p=>exact .all fun m=>h
   | dN p=>exact .all fun m=>h
   | code f=>
     simp only at h ⊢
     by_cases hp:f.dn=true
     · simp only [hp,if_true] at h ⊢
       cases e2:L.C f.body (bl as_ 0) st.enter with
       | none=>rw [e2] at h;cases h
       | some p=>rw [e2] at h;exact (hc.C _ _ _ _ e2).mono fun m k=>by rw [k];exact h
     · simp only [hp] at h ⊢
       cases e2:L.C f.body (bl as_ 0) st with
       | none=>rw [e2] at h;cases h
       | some p=>rw [e2] at h;exact (hc.C _ _ _ _ e2).mono fun m k=>by rw [k];exact h
theorem ND (T:Tab) {ch:Nat→Rec} {L:Rec} (hc:Conv ch L) (f:DV) (as_:List DV) (st:St) (r:DV×St) (h:jz T L f as_ st=some r):Ev fun m=>jz T (ch m) f as_ st=some r:=by
 cases f<;>simp only [jz] at h ⊢ <;> try (cases h;done)
 · exact hc.F _ _ _ _ h
 · rename_i l
   cases e:st.heap[l]? with
   | none=>rw [e] at h;cases h
   | some o=>
     rw [e] at h
     cases o<;>simp only at h ⊢ <;> try (cases h;done)
     rename_i lo
     split at h
     · rename_i hb
       simp only [hb,and_self,if_true]
       cases e1:L.C lo.assign (da lo.fr lo.params as_) st with
       | none=>rw [e1] at h;cases h
       | some p=>
         obtain ⟨ex,fr1,st1⟩:=p
         rw [e1] at h
         cases ex<;>simp only at h<;>try (cases h;done)
         cases e2:st1.heap[l]? with
         | none=>rw [e2] at h;cases h
         | some o2=>
           rw [e2] at h
           cases o2<;>simp only at h<;>try (cases h;done)
           rename_i lo1
           split at h
           · rename_i h0
             cases e3:L.C lo.body fr1 { st1 with heap:=st1.heap.set l (.loop { lo1 with state:=1 }) } with
             | none=>rw [e3] at h;cases h
             | some q=>
               rw [e3] at h
               refine ((hc.C _ _ _ _ e1).two (hc.C _ _ _ _ e3)).mono fun m k => ?_
               rw [k.1]
               simp only [e2,h0,if_true]
               rw [k.2]
               exact h
           · cases h
     · cases h
theorem dG {T:Tab} {ch:Nat→Rec} {L:Rec} (hc:Conv ch L):Conv (fun m=>dO T (ch m)) (dO T L) where
 C:=We hc
 F:=NG hc
 V:=ND T hc
 O:=by
   intro a fr st r h
   cases a with
   | nil=>exact .all fun m=>h
   | cons o l=>
     simp only [dO,jC] at h ⊢
     cases e:L.N o fr st with
     | none=>rw [e] at h;cases h
     | some p=>rw [e] at h;exact ((hc.N _ _ _ _ e).two (hc.O _ _ _ _ h)).mono fun m k=>by rw [k.1];exact k.2
 S:=by
   intro a fr st b r h
   cases a with
   | nil=>exact .all fun m=>h
   | cons o l=>
     simp only [dO,gg] at h ⊢
     cases e:L.N o fr st with
     | none=>rw [e] at h;cases h
     | some p=>
       obtain ⟨v,st'⟩:=p
       rw [e] at h
       simp only at h
       split at h
       · rename_i hl
         exact ((hc.N _ _ _ _ e).two (hc.S _ _ _ _ _ h)).mono fun m k=>by rw [k.1];simp only [hl,if_true];exact k.2
       · rename_i hl
         exact ((hc.N _ _ _ _ e).two (hc.S _ _ _ _ _ h)).mono fun m k=>by rw [k.1];simp only [hl];exact k.2
 N:=by
   intro o fr st r h
   simp only [dO,ey] at h ⊢
   cases e:eu fr o.guard with
   | none=>rw [e] at h;cases h
   | some b=>
     rw [e] at h
     cases b with
     | false=>exact .all fun m=>h
     | true=>
       simp only at h ⊢
       cases e2:o.op<;>rw [e2] at h<;>simp only at h ⊢ <;> try exact .all fun m=>h
       · exact hc.F _ _ _ _ h
       · exact hc.V _ _ _ _ h
       · rename_i f args
         cases e3:f.ev fr<;>rw [e3] at h<;>simp only at h ⊢ <;> try (cases h;done)
         rename_i g first captured
         by_cases hp:ak T g=true
         · simp only [hp,if_true] at h ⊢
           exact hc.F _ _ _ _ h
         · simp only [hp] at h;cases h
 A:=by
   intro a b c d h
   cases d with
   | nil=>exact .all fun m=>h
   | cons p r=>
     obtain ⟨i,vs⟩:=p
     simp only [dO,jL,Bool.and_eq_true] at h ⊢
     cases e:b[i]? with
     | none=>rw [e] at h;cases h.1
     | some o=>rw [e] at h;exact (hc.K _ _ _ _ h.1).two (hc.A _ _ _ _ h.2)
 K:=by
   intro a b c d h
   cases d with
   | nil=>exact .all fun m=>h
   | cons j r=>
     simp only [dO,jT,Bool.and_eq_true] at h ⊢
     cases e:c[j]? with
     | none=>rw [e] at h;cases h.1
     | some st=>
       rw [e] at h
       simp only at h ⊢
       cases e2:L.N b a st with
       | none=>rw [e2] at h;cases h.1
       | some p=>rw [e2] at h;exact ((hc.N _ _ _ _ e2).two (hc.K _ _ _ _ h.2)).mono fun m k=>⟨by rw [k.1];exact h.1,k.2⟩
def Rec.le (R R':Rec):Prop:=Conv (fun _=>R') R
theorem Rec.le.step {T:Tab} {R R':Rec} (h:R.le R'):(dO T R).le (dO T R'):=dG h
theorem wu (R:Rec):vf.le R where
 C:=fun _ _ _ _ h=>by cases h
 O:=fun _ _ _ _ h=>by cases h
 S:=fun _ _ _ _ _ h=>by cases h
 N:=fun _ _ _ _ h=>by cases h
 A:=fun _ _ _ _ h=>by cases h
 K:=fun _ _ _ _ h=>by cases h
 F:=fun _ _ _ _ h=>by cases h
 V:=fun _ _ _ _ h=>by cases h
theorem aB {p:Prop} (h:Ev fun _=>p):p:=by obtain ⟨n,h⟩:=h;exact h n (Nat.le_refl _)
theorem Rec.le.refl (R:Rec):R.le R where
 C:=fun _ _ _ _ h=>.all fun _=>h
 O:=fun _ _ _ _ h=>.all fun _=>h
 S:=fun _ _ _ _ _ h=>.all fun _=>h
 N:=fun _ _ _ _ h=>.all fun _=>h
 A:=fun _ _ _ _ h=>.all fun _=>h
 K:=fun _ _ _ _ h=>.all fun _=>h
 F:=fun _ _ _ _ h=>.all fun _=>h
 V:=fun _ _ _ _ h=>.all fun _=>h
theorem Rec.le.trans {A B C:Rec} (h:A.le B) (k:B.le C):A.le C where
 C:=fun _ _ _ _ x=>k.C _ _ _ _ (aB (h.C _ _ _ _ x))
 O:=fun _ _ _ _ x=>k.O _ _ _ _ (aB (h.O _ _ _ _ x))
 S:=fun _ _ _ _ _ x=>k.S _ _ _ _ _ (aB (h.S _ _ _ _ _ x))
 N:=fun _ _ _ _ x=>k.N _ _ _ _ (aB (h.N _ _ _ _ x))
 A:=fun _ _ _ _ x=>k.A _ _ _ _ (aB (h.A _ _ _ _ x))
 K:=fun _ _ _ _ x=>k.K _ _ _ _ (aB (h.K _ _ _ _ x))
 F:=fun _ _ _ _ x=>k.F _ _ _ _ (aB (h.F _ _ _ _ x))
 V:=fun _ _ _ _ x=>k.V _ _ _ _ (aB (h.V _ _ _ _ x))
theorem lZ (T:Tab):∀ n,(dx T n).le (dx T (n+1))
 | 0=>wu _
 | n+1=>(lZ T n).step
theorem b9 (T:Tab) (n:Nat):∀ m,n≤m→(dx T n).le (dx T m):=by
 intro m h
 induction m with
 | zero=>obtain rfl:n=0:=by omega
         exact .refl _
 | succ m ih=>
   by_cases e:n=m+1
   · subst e;exact .refl _
   · exact (ih (by omega)).trans (lZ T m)
open Classical in
noncomputable def lim {β:Type} (f:Nat→Option β):Option β:=if h:∃ r n,f n=some r then some (Classical.choose h) else none
open Classical in
noncomputable def LH (f:Nat→Bool):Bool:=decide (∃ n,f n=true)
theorem l3 {f:Nat→Bool}:LH f=true↔∃ n,f n=true:=by
 unfold LH
 exact ⟨fun h=>by classical exact of_decide_eq_true h,fun h=>by classical exact decide_eq_true h⟩
theorem gp {β:Type} {f:Nat→Option β} (hm:∀ n r,f n=some r→∀ m,n≤m→f m=some r) {r:β}:lim f=some r↔∃ n,f n=some r:=by
 unfold lim
 constructor
 · intro h
   split at h
   · rename_i hh
     injection h with h
     subst h
     exact Classical.choose_spec hh
   · cases h
 · rintro ⟨n,h⟩
   have hh:∃ r n,f n=some r:=⟨r,n,h⟩
   rw [dif_pos hh]
   obtain ⟨n',h'⟩:=Classical.choose_spec hh
   have a:=hm n r h (max n n') (by omega)
   have b:=hm n' _ h' (max n n') (by omega)
   rw [a] at b
   exact congrArg some (Option.some.inj b).symm
noncomputable def E (T:Tab):Rec where
 C:=fun c fr st=>lim fun n=>(dx T n).C c fr st
 O:=fun a fr st=>lim fun n=>(dx T n).O a fr st
 S:=fun a fr st b=>lim fun n=>(dx T n).S a fr st b
 N:=fun a fr st=>lim fun n=>(dx T n).N a fr st
 A:=fun a b c d=>LH fun n=>(dx T n).A a b c d
 K:=fun a b c d=>LH fun n=>(dx T n).K a b c d
 F:=fun a b c=>lim fun n=>(dx T n).F a b c
 V:=fun a b c=>lim fun n=>(dx T n).V a b c
theorem df (T:Tab):Conv (dx T) (E T) where
 C:=fun c fr st r h=>by
   obtain ⟨n,h⟩:=(gp (fun n _ h m hm=>aB ((b9 T n m hm).C _ _ _ _ h))).1 h
   exact ⟨n,fun m hm=>aB ((b9 T n m hm).C _ _ _ _ h)⟩
 O:=fun c fr st r h=>by
   obtain ⟨n,h⟩:=(gp (fun n _ h m hm=>aB ((b9 T n m hm).O _ _ _ _ h))).1 h
   exact ⟨n,fun m hm=>aB ((b9 T n m hm).O _ _ _ _ h)⟩
 S:=fun c fr st b r h=>by
   obtain ⟨n,h⟩:=(gp (fun n _ h m hm=>aB ((b9 T n m hm).S _ _ _ _ _ h))).1 h
   exact ⟨n,fun m hm=>aB ((b9 T n m hm).S _ _ _ _ _ h)⟩
 N:=fun c fr st r h=>by
   obtain ⟨n,h⟩:=(gp (fun n _ h m hm=>aB ((b9 T n m hm).N _ _ _ _ h))).1 h
   exact ⟨n,fun m hm=>aB ((b9 T n m hm).N _ _ _ _ h)⟩
 A:=fun a b c d h=>by
   obtain ⟨n,h⟩:=l3.1 h
   exact ⟨n,fun m hm=>aB ((b9 T n m hm).A _ _ _ _ h)⟩
 K:=fun a b c d h=>by
   obtain ⟨n,h⟩:=l3.1 h
   exact ⟨n,fun m hm=>aB ((b9 T n m hm).K _ _ _ _ h)⟩
 F:=fun c fr st r h=>by
   obtain ⟨n,h⟩:=(gp (fun n _ h m hm=>aB ((b9 T n m hm).F _ _ _ _ h))).1 h
   exact ⟨n,fun m hm=>aB ((b9 T n m hm).F _ _ _ _ h)⟩
 V:=fun c fr st r h=>by
   obtain ⟨n,h⟩:=(gp (fun n _ h m hm=>aB ((b9 T n m hm).V _ _ _ _ h))).1 h
   exact ⟨n,fun m hm=>aB ((b9 T n m hm).V _ _ _ _ h)⟩
theorem dz (T:Tab) (n:Nat):(dx T n).le (E T) where
 C:=fun _ _ _ _ h=>.all fun _=>(gp (fun n _ h m hm=>aB ((b9 T n m hm).C _ _ _ _ h))).2 ⟨n,h⟩
 O:=fun _ _ _ _ h=>.all fun _=>(gp (fun n _ h m hm=>aB ((b9 T n m hm).O _ _ _ _ h))).2 ⟨n,h⟩
 S:=fun _ _ _ _ _ h=>.all fun _=>(gp (fun n _ h m hm=>aB ((b9 T n m hm).S _ _ _ _ _ h))).2 ⟨n,h⟩
 N:=fun _ _ _ _ h=>.all fun _=>(gp (fun n _ h m hm=>aB ((b9 T n m hm).N _ _ _ _ h))).2 ⟨n,h⟩
 A:=fun _ _ _ _ h=>.all fun _=>l3.2 ⟨n,h⟩
 K:=fun _ _ _ _ h=>.all fun _=>l3.2 ⟨n,h⟩
 F:=fun _ _ _ _ h=>.all fun _=>(gp (fun n _ h m hm=>aB ((b9 T n m hm).F _ _ _ _ h))).2 ⟨n,h⟩
 V:=fun _ _ _ _ h=>.all fun _=>(gp (fun n _ h m hm=>aB ((b9 T n m hm).V _ _ _ _ h))).2 ⟨n,h⟩
theorem eL (T:Tab):(dO T (E T)).le (E T) where
 C:=fun _ _ _ _ h=>by obtain ⟨n,h⟩:=(dG (T:=T) (df T)).C _ _ _ _ h;exact (dz T (n+1)).C _ _ _ _ (h n (Nat.le_refl _))
 O:=fun _ _ _ _ h=>by obtain ⟨n,h⟩:=(dG (T:=T) (df T)).O _ _ _ _ h;exact (dz T (n+1)).O _ _ _ _ (h n (Nat.le_refl _))
 S:=fun _ _ _ _ _ h=>by obtain ⟨n,h⟩:=(dG (T:=T) (df T)).S _ _ _ _ _ h;exact (dz T (n+1)).S _ _ _ _ _ (h n (Nat.le_refl _))
 N:=fun _ _ _ _ h=>by obtain ⟨n,h⟩:=(dG (T:=T) (df T)).N _ _ _ _ h;exact (dz T (n+1)).N _ _ _ _ (h n (Nat.le_refl _))
 A:=fun _ _ _ _ h=>by obtain ⟨n,h⟩:=(dG (T:=T) (df T)).A _ _ _ _ h;exact (dz T (n+1)).A _ _ _ _ (h n (Nat.le_refl _))
 K:=fun _ _ _ _ h=>by obtain ⟨n,h⟩:=(dG (T:=T) (df T)).K _ _ _ _ h;exact (dz T (n+1)).K _ _ _ _ (h n (Nat.le_refl _))
 F:=fun _ _ _ _ h=>by obtain ⟨n,h⟩:=(dG (T:=T) (df T)).F _ _ _ _ h;exact (dz T (n+1)).F _ _ _ _ (h n (Nat.le_refl _))
 V:=fun _ _ _ _ h=>by obtain ⟨n,h⟩:=(dG (T:=T) (df T)).V _ _ _ _ h;exact (dz T (n+1)).V _ _ _ _ (h n (Nat.le_refl _))
theorem eT (T:Tab):(E T).le (dO T (E T)) where
 C:=fun _ _ _ _ h=>by obtain ⟨n,h⟩:=(df T).C _ _ _ _ h;exact ((dz T n).step (T:=T)).C _ _ _ _ (h (n+1) (by omega))
 O:=fun _ _ _ _ h=>by obtain ⟨n,h⟩:=(df T).O _ _ _ _ h;exact ((dz T n).step (T:=T)).O _ _ _ _ (h (n+1) (by omega))
 S:=fun _ _ _ _ _ h=>by obtain ⟨n,h⟩:=(df T).S _ _ _ _ _ h;exact ((dz T n).step (T:=T)).S _ _ _ _ _ (h (n+1) (by omega))
 N:=fun _ _ _ _ h=>by obtain ⟨n,h⟩:=(df T).N _ _ _ _ h;exact ((dz T n).step (T:=T)).N _ _ _ _ (h (n+1) (by omega))
 A:=fun _ _ _ _ h=>by obtain ⟨n,h⟩:=(df T).A _ _ _ _ h;exact ((dz T n).step (T:=T)).A _ _ _ _ (h (n+1) (by omega))
 K:=fun _ _ _ _ h=>by obtain ⟨n,h⟩:=(df T).K _ _ _ _ h;exact ((dz T n).step (T:=T)).K _ _ _ _ (h (n+1) (by omega))
 F:=fun _ _ _ _ h=>by obtain ⟨n,h⟩:=(df T).F _ _ _ _ h;exact ((dz T n).step (T:=T)).F _ _ _ _ (h (n+1) (by omega))
 V:=fun _ _ _ _ h=>by obtain ⟨n,h⟩:=(df T).V _ _ _ _ h;exact ((dz T n).step (T:=T)).V _ _ _ _ (h (n+1) (by omega))
theorem kY {β:Type} {a b:Option β} (h:∀ r,a=some r→b=some r) (k:∀ r,b=some r→a=some r):a=b:=by
 cases a with
 | none=>cases b with
   | none=>rfl
   | some r=>exact absurd (k r rfl) (by simp)
 | some r=>exact (h r rfl).symm
theorem EC (T:Tab) (c:RC) (fr:Fr) (st:St):(E T).C c fr st=cT T (E T) c fr st:=
 kY (fun r h=>aB ((eT T).C _ _ _ r h)) (fun r h=>aB ((eL T).C _ _ _ r h))
theorem EO (T:Tab) (a:List aj) (fr:Fr) (st:St):(E T).O a fr st=jC T (E T) a fr st:=
 kY (fun r h=>aB ((eT T).O _ _ _ r h)) (fun r h=>aB ((eL T).O _ _ _ r h))
theorem ES (T:Tab) (a:List aj) (fr:Fr) (st:St) (b:List St):(E T).S a fr st b=gg T (E T) a fr st b:=
 kY (fun r h=>aB ((eT T).S _ _ _ _ r h)) (fun r h=>aB ((eL T).S _ _ _ _ r h))
theorem EN (T:Tab) (a:aj) (fr:Fr) (st:St):(E T).N a fr st=ey T (E T) a fr st:=
 kY (fun r h=>aB ((eT T).N _ _ _ r h)) (fun r h=>aB ((eL T).N _ _ _ r h))
theorem EF (T:Tab) (g:Nat) (as_:List DV) (st:St):(E T).F g as_ st=dy T (E T) g as_ st:=
 kY (fun r h=>aB ((eT T).F _ _ _ r h)) (fun r h=>aB ((eL T).F _ _ _ r h))
theorem EV (T:Tab) (f:DV) (as_:List DV) (st:St):(E T).V f as_ st=jz T (E T) f as_ st:=
 kY (fun r h=>aB ((eT T).V _ _ _ r h)) (fun r h=>aB ((eL T).V _ _ _ r h))
theorem EA (T:Tab) (fr:Fr) (ops:List aj) (sts:List St) (l:List (Nat×List Nat)):(E T).A fr ops sts l=jL T (E T) fr ops sts l:=
 Bool.eq_iff_iff.2 ⟨fun h=>aB ((eT T).A _ _ _ _ h),fun h=>aB ((eL T).A _ _ _ _ h)⟩
theorem EK (T:Tab) (fr:Fr) (o:aj) (sts:List St) (l:List Nat):(E T).K fr o sts l=jT T (E T) fr o sts l:=
 Bool.eq_iff_iff.2 ⟨fun h=>aB ((eT T).K _ _ _ _ h),fun h=>aB ((eL T).K _ _ _ _ h)⟩
theorem KO {T:Tab} {g:Nat} {as_:List DV} {st:St} {r:DV×St} (h:(E T).F g as_ st=some r):∃ n,eQ T n g as_ st=some r:=by
 obtain ⟨n,h⟩:=(df T).F _ _ _ _ h
 exact ⟨n,p5 (h n (Nat.le_refl _))⟩
end Go.D
end
section
namespace Go.D
variable {T:Tab}
@[simp] theorem aov (fr:Fr) (st:St):(E T).C .skip fr st=some (.normal,fr,st):=EC _ _ _ _
@[simp] theorem akW (fr:Fr) (st:St):(E T).C .ret fr st=some (.ret,fr,st):=EC _ _ _ _
@[simp] theorem anQ (i:Nat) (fr:Fr) (st:St):(E T).C (.exit i) fr st=some (.exit i,fr,st):=EC _ _ _ _
@[simp] theorem DN (ops:List aj) (live:List Nat) (fr:Fr) (st:St) :
 (E T).C (.region ops live) fr st=match (E T).O ops fr st with | some (fr',st')=>some (.normal,fr'.bq live,st') | none=>none:=EC _ _ _ _
@[simp] theorem cg (a b:RC) (fr:Fr) (st:St) :
 (E T).C (.seq a b) fr st=match (E T).C a fr st with
  | some (.normal,fr',st')=>(E T).C b fr' st'
  | some (.exit i,fr',st')=>some (.exit i,fr',st')
  | some (.ret,fr',st')=>some (.ret,fr',st')
  | none=>none:=by
 rw [EC]
 simp only [cT]
 rcases (E T).C a fr st with _ | ⟨e,fr',st'⟩
 · rfl
 · cases e<;>rfl
@[simp] theorem la (id:Nat) (a:RC) (fr:Fr) (st:St) :
 (E T).C (.block id a) fr st=match (E T).C a fr st with
  | some (.normal,fr',st')=>some (.normal,fr',st')
  | some (.exit i,fr',st')=>if i=id then some (.normal,fr',st') else some (.exit i,fr',st')
  | some (.ret,fr',st')=>some (.ret,fr',st')
  | none=>none:=by
 rw [EC]
 simp only [cT]
 rcases (E T).C a fr st with _ | ⟨e,fr',st'⟩
 · rfl
 · cases e<;>rfl
theorem zo (live:List Nat) (a:RC) (fr:Fr) (st:St) :
 (E T).C (.loop live a) fr st=match (E T).C a (fr.bq live) st with
  | some (.normal,fr',st')=>(E T).C (.loop live a) fr' st'
  | some (.exit i,fr',st')=>some (.exit i,fr',st')
  | some (.ret,fr',st')=>some (.ret,fr',st')
  | none=>none:=by
 rw [EC]
 simp only [cT]
 rcases (E T).C a (fr.bq live) st with _ | ⟨e,fr',st'⟩
 · rfl
 · cases e<;>rfl
@[simp] theorem QV (x:X) (a b:RC) (fr:Fr) (st:St) (v:Bool) (h:x.ev fr=.bool v) :
 (E T).C (.cond x a b) fr st=if v=true then (E T).C a fr st else (E T).C b fr st:=by
 rw [EC]
 simp only [cT]
 rw [h]
 cases v<;>rfl
@[simp] theorem aoy (fr:Fr) (st:St):(E T).O [] fr st=some (fr,st):=EO _ _ _ _
@[simp] theorem Xb (o:aj) (r:List aj) (fr:Fr) (st:St) :
 (E T).O (o::r) fr st=match (E T).N o fr st with | some (v,st')=>(E T).O r (fr.put o.dst v) st' | none=>none:=EO _ _ _ _
noncomputable def opE (T:Tab) (op:ROp) (fr:Fr) (st:St):Option (DV×St):=
 match op with
 | .call g args=>(E T).F g (args.map (X.ev fr)) st
 | .bC f args=>(E T).V (f.ev fr) (args.map (X.ev fr)) st
 | .dt f args=>
   match f.ev fr with
   | .fn g first captured=>if ak T g then (E T).F g (first++args.map (X.ev fr)++captured) st else none
   | _=>none
 | op=>al st fr op
@[simp] theorem am8 (d:Option Nat) (op:ROp) (fr:Fr) (st:St):(E T).N ⟨d,op,none⟩ fr st=opE T op fr st:=by
  rw [EN]
  simp only [ey,eu]
  cases op<;>rfl
@[simp] theorem amr (d:Option Nat) (op:ROp) (t:Nat) (w b:Bool) (fr:Fr) (st:St) (h:fr.get t=.bool b) :
 (E T).N ⟨d,op,some (t,w)⟩ fr st=if b=w then opE T op fr st else some (.tuple [],st):=by
 rw [EN]
 simp only [ey,eu]
 rw [h]
 cases b<;>cases w<;>first | rfl | (cases op<;>rfl)
@[simp] theorem amT (d:Option Nat) (op:ROp) (t:Nat) (w:Bool) (fr:Fr) (st:St) (h:fr.get t=.tuple []) :
 (E T).N ⟨d,op,some (t,w)⟩ fr st=some (.tuple [],st):=by
 rw [EN]
 simp only [ey,eu]
 rw [h]
@[simp] theorem al3 (g:Nat) (args:List X) (fr:Fr) (st:St):opE T (.call g args) fr st=(E T).F g (args.map (X.ev fr)) st:=rfl
@[simp] theorem aoE (x:X) (fr:Fr) (st:St):opE T (.mv x) fr st=some (x.ev fr,st):=rfl
@[simp] theorem aol (op:BinOp) (x y:X) (fr:Fr) (st:St):opE T (.bin op x y) fr st=(oI op (x.ev fr) (y.ev fr)).map fun v=>(v,st):=rfl
@[simp] theorem aoA (op:UnOp) (x:X) (fr:Fr) (st:St):opE T (.un op x) fr st=(unD op (x.ev fr)).map fun v=>(v,st):=rfl
@[simp] theorem amd (c a b:X) (fr:Fr) (st:St):opE T (.pick c a b) fr st=al st fr (.pick c a b):=rfl
@[simp] theorem alm (zs:List DV) (fr:Fr) (st:St):opE T (.alloc zs) fr st=al st fr (.alloc zs):=rfl
@[simp] theorem anY (n:Nat) (x:X) (fr:Fr) (st:St):opE T (.box n x) fr st=al st fr (.box n x):=rfl
@[simp] theorem adW (zs:List DV) (parts:List (Nat×Nat×X)) (fr:Fr) (st:St):opE T (.build zs parts) fr st=al st fr (.build zs parts):=rfl
theorem aD (n:Nat) (ag:Bool) (zs:List DV) (len:Nat) (parts:List (Nat×X)) (fr:Fr) (st:St):opE T (.lit n ag zs len parts) fr st=al st fr (.lit n ag zs len parts):=rfl
theorem Mr (n:Nat) (ag:Bool) (zs:List DV) (len:Nat) (parts:List (Nat×X)) (fr:Fr) (st:St):opE T (.oO n ag zs len parts) fr st=al st fr (.oO n ag zs len parts):=rfl
@[simp] theorem amm (n:Nat) (ag:Bool) (x:X) (fr:Fr) (st:St):opE T (.load n ag x) fr st=al st fr (.load n ag x):=rfl
@[simp] theorem agc (n:Nat) (x v:X) (fr:Fr) (st:St):opE T (.store n x v) fr st=al st fr (.store n x v):=rfl
@[simp] theorem aca (x:X) (fr:Fr) (st:St):opE T (.aT x) fr st=al st fr (.aT x):=rfl
@[simp] theorem aox (k:EqK) (neg:Bool) (x y:X) (fr:Fr) (st:St):opE T (.eq k neg x y) fr st=al st fr (.eq k neg x y):=rfl
@[simp] theorem anH (k:IntKind) (x:X) (fr:Fr) (st:St):opE T (.i2i k x) fr st=al st fr (.i2i k x):=rfl
@[simp] theorem amX (x:X) (fr:Fr) (st:St):opE T (.i2s x) fr st=al st fr (.i2s x):=rfl
@[simp] theorem aou (x:X) (fr:Fr) (st:St):opE T (.s2b x) fr st=al st fr (.s2b x):=rfl
@[simp] theorem an3 (x:X) (fr:Fr) (st:St):opE T (.s2h x) fr st=al st fr (.s2h x):=rfl
theorem RX (x:X) (fr:Fr) (st:St):opE T (.b2s x) fr st=al st fr (.b2s x):=rfl
@[simp] theorem ame (x:X) (fr:Fr) (st:St):opE T (.same x) fr st=al st fr (.same x):=rfl
@[simp] theorem al9 (g:Nat) (first captured:List X) (fr:Fr) (st:St):opE T (.gL g first captured) fr st=al st fr (.gL g first captured):=rfl
@[simp] theorem ajs  (fr:Fr) (st:St):opE T (.j3 ) fr st=al st fr (.j3 ):=rfl
@[simp] theorem XB (n:Nat) (ag:Bool) (bytes:Nat) (zs:List DV) (len cap:X) (fr:Fr) (st:St):opE T (.b8 n ag bytes zs len cap) fr st=al st fr (.b8 n ag bytes zs len cap):=rfl
@[simp] theorem abX (n:Nat) (bytes:Nat) (len cap:X) (fr:Fr) (st:St):opE T (.kE n bytes len cap) fr st=al st fr (.kE n bytes len cap):=rfl
@[simp] theorem aiL (str:Bool) (n:Nat) (x:X) (lo hi mx:Option X) (fr:Fr) (st:St):opE T (.slice str n x lo hi mx) fr st=al st fr (.slice str n x lo hi mx):=rfl
def kg (st:St) (off:Nat):DV→Option (DV×St)
 | .ptr b o=>some (.ptr b (o+off),st)
 | .bT cs=>if off≤cs.length then some (.bT (cs.drop off),st) else none
 | _=>none
def gZ (st:St) (n:Nat):DV→DV→Option (DV×St)
 | .list _ n' _ _ xs,.int _ j=>if 0≤j∧n'=n then (match xs[j.toNat]? with | some v=>some (.bT v.leaves,st) | none=>none) else none
 | .hsl n' _ b off len _,.int _ j=>if n'=n∧0≤j∧j<len then some (.ptr b (off+j.toNat*n),st) else none
 | _,_=>none
def o7 (st:St):xC→DV→Option (DV×St)
 | .str,.str s=>some (.int .i64 s.length,st)
 | .slice,.list _ _ _ _ xs=>some (.int .i64 xs.length,st)
 | .slice,.hsl _ _ _ _ len _=>some (.int .i64 len,st)
 | .map,.br=>some (.int .i64 0,st)
 | .map,.map b=>match st.heap[b]? with | some (.map es)=>some (.int .i64 es.length,st) | _=>none
 | _,_=>none
def afc (st:St):DV→Option (DV×St)
 | .list _ _ .tight true xs=>some (.int .i64 xs.length,st)
 | .list _ _ _ false _=>some (.int .i64 0,st)
 | .hsl _ _ _ _ _ (some c)=>some (.int .i64 c,st)
 | _=>none
@[simp] theorem VF (st:St) (off b o:Nat):kg st off (.ptr b o)=some (.ptr b (o+off),st):=rfl
@[simp] theorem M1 (st:St) (off:Nat) (cs:List DV):kg st off (.bT cs)=if off≤cs.length then some (.bT (cs.drop off),st) else none:=rfl
@[simp] theorem M5 (st:St) (n t n':Nat) (tk:Tk) (nn:Bool) (xs:List DV) (k:IntKind) (j:Int) :
 gZ st n (.list t n' tk nn xs) (.int k j)=if 0≤j∧n'=n then (match xs[j.toNat]? with | some v=>some (.bT v.leaves,st) | none=>none) else none:=rfl
@[simp] theorem OZ (st:St) (n n':Nat) (ag:Bool) (b off len:Nat) (c:Option Nat) (k:IntKind) (j:Int) :
 gZ st n (.hsl n' ag b off len c) (.int k j)=if n'=n∧0≤j∧j<len then some (.ptr b (off+j.toNat*n),st) else none:=rfl
@[simp] theorem ahy (st:St) (s:List UInt8):o7 st .str (.str s)=some (.int .i64 s.length,st):=rfl
@[simp] theorem abQ (st:St) (t n:Nat) (tk:Tk) (nn:Bool) (xs:List DV):o7 st .slice (.list t n tk nn xs)=some (.int .i64 xs.length,st):=rfl
@[simp] theorem aiF (st:St) (n:Nat) (ag:Bool) (b off len:Nat) (c:Option Nat):o7 st .slice (.hsl n ag b off len c)=some (.int .i64 len,st):=rfl
@[simp] theorem MJ (st:St):o7 st .map .br=some (.int .i64 0,st):=rfl
@[simp] theorem adn (st:St) (b:Nat):o7 st .map (.map b)=match st.heap[b]? with | some (.map es)=>some (.int .i64 es.length,st) | _=>none:=rfl
@[simp] theorem Ww (st:St) (t n:Nat) (xs:List DV):afc st (.list t n .tight true xs)=some (.int .i64 xs.length,st):=rfl
@[simp] theorem aeD (st:St) (n:Nat) (ag:Bool) (b off len c:Nat):afc st (.hsl n ag b off len (some c))=some (.int .i64 c,st):=rfl
@[simp] theorem ad8 (off:Nat) (x:X) (fr:Fr) (st:St):opE T (.fy off x) fr st=kg st off (x.ev fr):=by
  simp only [opE,al];cases x.ev fr<;>rfl
@[simp] theorem acX (n:Nat) (ag:Bool) (off:Nat) (x:X) (fr:Fr) (st:St):opE T (.field n ag off x) fr st=al st fr (.field n ag off x):=rfl
@[simp] theorem alk (n:Nat) (x i:X) (fr:Fr) (st:St):opE T (.aK n x i) fr st=gZ st n (x.ev fr) (i.ev fr):=by
  simp only [opE,al];cases x.ev fr<;>cases i.ev fr<;>rfl
@[simp] theorem abV (n len:Nat) (x i:X) (fr:Fr) (st:St):opE T (.j8 n len x i) fr st=al st fr (.j8 n len x i):=rfl
@[simp] theorem ai1 (x i:X) (fr:Fr) (st:St):opE T (.index x i) fr st=al st fr (.index x i):=rfl
@[simp] theorem ab6 (n:Nat) (ag:Bool) (len:Nat) (x i:X) (fr:Fr) (st:St):opE T (.jN n ag len x i) fr st=al st fr (.jN n ag len x i):=rfl
@[simp] theorem abW (ks:List LK) (zero:DV) (x i:X) (ok:Bool) (fr:Fr) (st:St):opE T (.lookup ks zero x i ok) fr st=al st fr (.lookup ks zero x i ok):=rfl
@[simp] theorem abP (ks:List LK) (m k v:X) (fr:Fr) (st:St):opE T (.gQ ks m k v) fr st=al st fr (.gQ ks m k v):=rfl
@[simp] theorem Qj (x:X) (i:Nat) (fr:Fr) (st:St):opE T (.extract x i) fr st=al st fr (.extract x i):=rfl
@[simp] theorem afv (t:Nat) (x:X) (fr:Fr) (st:St):opE T (.iface t x) fr st=al st fr (.iface t x):=rfl
@[simp] theorem amw (k:xC) (x:X) (fr:Fr) (st:St):opE T (.len k x) fr st=o7 st k (x.ev fr):=by
  simp only [opE,al];cases k<;>cases x.ev fr<;>rfl
@[simp] theorem al6 (n:Nat) (fr:Fr) (st:St):opE T (.vp n) fr st=al st fr (.vp n):=rfl
@[simp] theorem abT (n:Nat) (ag:Bool) (bytes:Nat) (x y:X) (fr:Fr) (st:St):opE T (.append n ag bytes x y) fr st=al st fr (.append n ag bytes x y):=rfl
@[simp] theorem aml (n:Nat) (x y:X) (fr:Fr) (st:St):opE T (.copy n x y) fr st=al st fr (.copy n x y):=rfl
@[simp] theorem anU (args:List X) (fr:Fr) (st:St):opE T (.max args) fr st=al st fr (.max args):=rfl
@[simp] theorem ann (args:List X) (fr:Fr) (st:St):opE T (.min args) fr st=al st fr (.min args):=rfl
@[simp] theorem Qz (n:Nat) (ag:Bool) (bytes:Nat) (x y:X) (fr:Fr) (st:St):opE T (.fR n ag bytes x y) fr st=al st fr (.fR n ag bytes x y):=rfl
@[simp] theorem afg (n:Nat) (zs:List DV) (x:X) (fr:Fr) (st:St):opE T (.clear n zs x) fr st=al st fr (.clear n zs x):=rfl
@[simp] theorem ab0 (ty:Nat) (zs:List DV) (fr:Fr) (st:St):opE T (.iS ty zs) fr st=al st fr (.iS ty zs):=rfl
@[simp] theorem amg (ty n:Nat) (x:X) (fr:Fr) (st:St):opE T (.conv ty n x) fr st=al st fr (.conv ty n x):=rfl
@[simp] theorem To (ty bytes:Nat) (x y:X) (fr:Fr) (st:St):opE T (.fT ty bytes x y) fr st=al st fr (.fT ty bytes x y):=rfl
@[simp] theorem abU (x:X) (fr:Fr) (st:St):opE T (.iO x) fr st=al st fr (.iO x):=rfl
@[simp] theorem al5 (ty:Nat) (x l:X) (fr:Fr) (st:St):opE T (.re ty x l) fr st=al st fr (.re ty x l):=rfl
@[simp] theorem acb (n:Nat) (ag:Bool) (len:Nat) (x:X) (lo hi mx:Option X) (fr:Fr) (st:St):opE T (.sliceB n ag len x lo hi mx) fr st=al st fr (.sliceB n ag len x lo hi mx):=rfl
@[simp] theorem abS (n:Nat) (ag:Bool) (len:Nat) (x:X) (fr:Fr) (st:St):opE T (.jB n ag len x) fr st=al st fr (.jB n ag len x):=rfl
@[simp] theorem anJ (v:DV) (xs:List (X×DV)) (fr:Fr) (st:St):opE T (.got v xs) fr st=al st fr (.got v xs):=rfl
@[simp] theorem al7  (fr:Fr) (st:St):opE T (.fail ) fr st=al st fr (.fail ):=rfl
theorem gj {g:Nat} {f:ai} (args:List DV) (st:St) (h:T g=some (.code f)) (hp:f.dn=true) {e:Ex} {fr:Fr} {st':St} {v v':DV}
 (hr:(E T).C f.body (bl args 0) st.enter=some (e,fr,st')) (he:e=.ret∨e=.normal) (hv:eX st' fr f.results=some v) (hx:bD st st' v=some v'):(E T).F g args st=some (v',st):=by
 rw [EF]
 simp only [dy,h,hp,if_true,hr]
 rcases he with rfl | rfl<;>simp only [hv,hx,Option.map_some]
theorem uA {g:Nat} {p:List DV→Option DV} {args:List DV} {st:St} {v:DV} (h:T g=some (.dN p)) (hv:p args=some v):(E T).F g args st=some (v,st):=by
 rw [EF]
 simp only [dy,h,hv,Option.map_some]
attribute [simp] al jV takeN unD lT
@[simp] theorem abR (st:St) (n:Nat) (ag:Bool) (b off:Nat):cF st n ag (.ptr b off)=match st.cells b with | some (_,vs)=>takeN vs off n ag | none=>none:=rfl
@[simp] theorem RP (st:St) (n:Nat) (ag:Bool) (cs:List DV):cF st n ag (.bT cs)=takeN cs 0 n ag:=rfl
@[simp] theorem OA (k:IntKind) (n:Int):(DV.int k n).leaves=[.int k n]:=rfl
@[simp] theorem Xk (l:List UInt8):(DV.str l).leaves=[.str l]:=rfl
@[simp] theorem Nc (b:Bool):(DV.bool b).leaves=[.bool b]:=rfl
@[simp] theorem SB (vs:List DV):(DV.agg vs).leaves=vs:=rfl
@[simp] theorem MT (tag n:Nat) (tk:Tk) (nn:Bool) (xs:List DV):(DV.list tag n tk nn xs).leaves=[.list tag n tk nn xs]:=rfl
@[simp] theorem aoG (fr:Fr) (n:Nat):X.ev fr (.t n)=fr.get n:=rfl
@[simp] theorem aoH (fr:Fr) (v:DV):X.ev fr (.c v)=v:=rfl
@[simp] theorem aoJ (fr:Fr) (g:Nat):X.ev fr (.f g)=.fn g [] []:=rfl
@[simp] theorem ED (u:Nat) (v:DV) (r:Fr) (t:Nat):Fr.get ((u,v)::r) t=if u=t then v else Fr.get r t:=rfl
@[simp] theorem aik (fr:Fr) (t:Nat) (v:DV):fr.put (some t) v=(t,v)::fr:=rfl
@[simp] theorem adZ (fr:Fr) (v:DV):fr.put none v=fr:=rfl
@[simp] theorem ajy (fr:Fr):fr.bq []=[]:=rfl
@[simp] theorem CC (fr:Fr) (t:Nat) (l:List Nat):fr.bq (t::l)=(t,fr.get t)::fr.bq l:=rfl
@[simp] theorem Yu (i:Nat):bl [] i=[]:=rfl
@[simp] theorem MX (v:DV) (r:List DV) (i:Nat):bl (v::r) i=(i,v)::bl r (i+1):=rfl
@[simp] theorem amk (op:BinOp) (k:IntKind) (a b:Int) (h:op≠.shl) (h':op≠.shr):oI op (.int k a) (.int k b)=jV op k a b:=by
  cases op<;>simp [oI] at h h' ⊢
@[simp] theorem amc (op:BinOp) (a b:List UInt8):oI op (.str a) (.str b)=lT op a b:=rfl
end Go.D
end
section
namespace Go.D
open Go.RowKit
variable {P:Program} {fm:FM}
theorem DH {T T2:Tab} (hT:dR P fm T) (hm:P.follows .mixedOrders=true) {g:Nat} {f:FuncId} (hf:fm g=some f) (q:List DV→Option DV) (hq:∀ as_ v,q as_=some v→Ran T g as_ v):fc P fm T2 (.dN q) f:=by
 intro G w0 st w args args' v st' hs ha hp
 simp only [Option.map_eq_some_iff] at hp
 obtain ⟨u,hu,hp⟩:=hp
 cases hp
 have hl:∀ p∈[(args,v)],Ran T g p.1 p.2:=by
  intro p hp
  obtain rfl:p=(args,v):=by simpa using hp
  exact hq _ _ hu
 have hm2:rR [(args,v)] args=some v:=by
  unfold rR
  rw [if_pos (DV.iU args)]
 exact Hx (T2:=T2) hT hm hf _ hl G w0 st w args args' v st hs ha (by simp [hm2])
theorem ot.congr {T T':Tab} (h:ak T=ak T') {rs:List aj} {chk:List (Nat×List Nat)} {ops:Array Oper} {anc:Nat→List Nat} (k:ot T rs chk ops anc):ot T' rs chk ops anc where
 Cx:=k.Cx
 sh:=k.sh
 jc:=k.jc
 uR:=h ▸ k.uR
 gB:=k.gB
 kR:=k.kR
 cover:=h ▸ k.cover
theorem A5 {T T':Tab} (h:ak T=ak T') {N:Nat}:∀ {c:RC} {x:Code},ir P fm T N c x→ir P fm T' N c x:=by
 intro c
 induction c with
 | skip=>intro x k;exact k
 | region ops live=>intro x k;exact k
 | au ops hs chk live=>
   intro x k
   obtain ⟨id,oops,anc,e,k⟩:=k
   exact ⟨id,oops,anc,e,⟨k.rel,k.free,k.rest.congr h⟩⟩
 | seq a b iha ihb=>
   intro x k
   obtain ⟨u,v,e,k1,k2⟩:=k
   exact ⟨u,v,e,iha k1,ihb k2⟩
 | cond y a b iha ihb=>
   intro x k
   obtain ⟨o,u,v,e,k0,k1,k2⟩:=k
   exact ⟨o,u,v,e,k0,iha k1,ihb k2⟩
 | block id a ih=>
   intro x k
   obtain ⟨u,e,k⟩:=k
   exact ⟨u,e,ih k⟩
 | loop live a ih=>
   intro x k
   obtain ⟨u,e,k⟩:=k
   exact ⟨u,e,ih k⟩
 | exit id=>intro x k;exact k
 | ret=>intro x k;exact k
 | stuck=>intro x k;exact k
 | eY f ps as_ bo live iha ihb=>
   intro x k
   obtain ⟨o,qs,u,v,e,k0,k1,k2,k3,k4⟩:=k
   exact ⟨o,qs,u,v,e,k0,k1,k2,iha k3,ihb k4⟩
theorem uZ {T T':Tab} (h:ak T=ak T'):ir P fm T=ir P fm T':=by
 funext N c x
 exact propext ⟨A5 h,A5 h.symm⟩
theorem sw {T T':Tab} (h:ak T=ak T') {d:Def} {f:FuncId} (k:fc P fm T d f):fc P fm T' d f:=by
 cases d<;>simp only [fc,ix,bU,uZ (P:=P) (fm:=fm) h] at k ⊢ <;> exact k
def over (T:Tab):List (Nat×(List DV→Option DV))→Tab
 | [],g=>T g
 | (h,p)::r,g=>bif Nat.beq g h then some (.dN p) else over T r g
theorem r9 (T:Tab):∀ l:List (Nat×(List DV→Option DV)),(∀ x∈l,ak T x.1=true)→ak T=ak (over T l)
 | [],_=>rfl
 | (h,p)::r,hl=>by
   funext g
   have ih:=congrFun (r9 T r fun x hx=>hl x (List.mem_cons_of_mem _ hx)) g
   show ak T g=match over T ((h,p)::r) g with | some (.code f)=>f.dn | some (.dN _)=>true | _=>false
   simp only [over]
   cases hb:Nat.beq g h with
   | true=>
     have:=Nat.eq_of_beq_eq_true hb
     subst this
     exact hl (g,p) (List.mem_cons_self ..)
   | false=>exact ih
theorem vi (T:Tab):∀ (l:List (Nat×(List DV→Option DV))) (g:Nat) (d:Def),over T l g=some d→T g=some d∨∃ x∈l,x.1=g∧d=.dN x.2
 | [],g,d,h=>.inl h
 | (h0,p)::r,g,d,h=>by
   simp only [over] at h
   cases hb:Nat.beq g h0 with
   | true=>
     rw [hb] at h
     have:=Nat.eq_of_beq_eq_true hb
     subst this
     simp only [cond_true,Option.some.injEq] at h
     exact .inr ⟨(g,p),List.mem_cons_self ..,rfl,h.symm⟩
   | false=>
     rw [hb] at h
     rcases vi T r g d h with h | ⟨x,hx,h⟩
     · exact .inl h
     · exact .inr ⟨x,List.mem_cons_of_mem _ hx,h⟩
theorem Mq {T:Tab} (hT:dR P fm T) (hm:P.follows .mixedOrders=true) (l:List (Nat×(List DV→Option DV))) (hp:∀ x∈l,ak T x.1=true) (hr:∀ x∈l,∀ as_ v,x.2 as_=some v→Ran T x.1 as_ v):dR P fm (over T l):=by
 intro g d f hd hf
 rcases vi T l g d hd with h | ⟨x,hx,rfl,rfl⟩
 · exact sw (r9 T l hp) (hT g d f h hf)
 · exact DH hT hm hf x.2 (hr x hx)
end Go.D
end
section
namespace Go.D
open Go.RowKit
variable {P:Program} {fm:FM}
def ghA (w:World):Gh:={ gh0 w with ro:=fun r i=>match w.heap[r]? with | some (.cells cs _ _)=>cs[i]? | _=>none }
theorem aaR {w:World} {r i:Nat} {v:Value} (h:(ghA w).ro r i=some v):∃ cs t fz,w.heap[r]? = some (.cells cs t fz)∧cs[i]? = some v:=by
 simp only [ghA] at h
 split at h
 · rename_i cs t fz e;exact ⟨cs,t,fz,e,h⟩
 · cases h
theorem am7 (CR:Nat→RC→Code→Prop) (w:World) (he:pB fm w):Sim fm CR (ghA w) w st0 w where
 bS:=fun b r h=>by cases h
 bN:=fun b b' o o' r h=>by simp [st0] at h
 obj:=fun b o h=>by simp [st0] at h
 ro:=fun r i v h=>aaR h
 dp:=fun r i v b o _ h=>by simp [st0] at h
 tok:=fun t s h=>by simp [st0] at h
 bz:=fun t t' s s' x x' h=>by simp [st0] at h
 bw:=fun t s x h=>by cases h
 dfr:=fun r h=>h.elim
 lps:=fun r h=>h.elim
 aE:=Nat.le_refl _
 below:=Below.refl _ w
 base:=rfl
 aU:=rfl
 bB:=Nat.zero_le _
 bm:=fun b o h=>by cases h
 env:=he
theorem tz {T:Tab} (hT:dR P fm T) (hm:P.follows .mixedOrders=true) {g:Nat} {f:FuncId} {F:ai} {st':St} {args:List DV} {args':Array Value} (hg:T g=some (.code F)) (hf:fm g=some f)
 (hrun:(E T).F g args st0=some (.bool true,st')) (w:World) (he:pB fm w) (ha:cS fm (ghA w) args args') :
 Calls P f args' w (fun e w'=>e=.returned (.bool true)∧Below w.heap.size w w'):=by
 obtain ⟨n,h⟩:=KO hrun
 have hc:eA T g=true:=by unfold eA;rw [hg]
 have h:=qF hT hm hf h (am7 (fm:=fm) (ir P fm T) w he) ha hc (DJ (hT g _ f hg hf))
 refine h.mono ?_
 rintro e w' ⟨x,rfl,G',hle,hs,hx⟩
 cases hx
 have:=hs.below
 rw [hle.floor] at this
 exact ⟨rfl,this⟩
theorem JI {w:World} {a:Addr} {v:Value} (h:w.cell? a=some v):a.spot=none∧(ghA w).ro a.block a.off=some v:=by
 unfold World.cell? at h
 split at h
 · rename_i c t fz e
   split at h
   · cases h
   · rename_i hs
     refine ⟨by simpa using hs,?_⟩
     simp only [ghA]
     rw [e];exact h
 · cases h
inductive Sh where
 | bool
 | int (k:IntKind)
 | str
 | list (ag:Bool) (z:Nat) (e:List Sh)
def Sh.flat:Sh→Bool
 | .list _ _ _=>false
 | _=>true
def elemOf (ag:Bool) (vs:List DV):DV:=if ag then .agg vs else vs.headD .undef
def Fi:Sh→DV→Prop
 | .bool,v=>∃ b,v=.bool b
 | .int k,v=>∃ n,v=.int k n∧(Lit.int k n).wf=true
 | .str,v=>∃ s,v=.str s∧s.length≤reachBytes
 | .list _ _ _,_=>False
def jX:List Sh→List DV→Prop
 | [],vs=>vs=[]
 | s::ss,vs=>∃ v r,vs=v::r∧Fi s v∧jX ss r
def Fit:Sh→DV→Prop
 | .list ag z e,v=>∃ nn xs,v=.list 0 e.length .no nn xs∧(nn=false→xs=[])∧(xs.length:Int)≤maxLen∧xs.length*z≤reachBytes∧∀ x∈xs,∃ vs,jX e vs∧x=elemOf ag vs
 | s,v=>Fi s v
def Fits:List Sh→List DV→Prop
 | [],vs=>vs=[]
 | s::ss,vs=>∃ v r,vs=v::r∧Fit s v∧Fits ss r
def qg:Nat→List (Nat×Nat×List Sh)→Option (List Sh)
 | _,[]=>some []
 | k,(off,c,s)::r=>if off=k∧s.length=c then (qg (k+c) r).map (s ++ ·) else none
def eD (P:Program) (t:TypeId):Bool:=match P.underlying t with | some (.struct _) | some (.array _ _)=>true | _=>false
def uN (P:Program):Nat→Bool→TypeId→Option (List Sh)
 | 0,_,_=>none
 | n+1,top,t=>
   match P.underlying t with
   | some .bool=>some [.bool]
   | some (.int k)=>some [.int k]
   | some .string=>some [.str]
   | some (.slice e)=>
     match top,uN P n false e with
     | true,some s=>if s.length=P.cellsOf e∧0<s.length∧s.all Sh.flat=true∧(eD P e=true∨s.length=1) then some [.list (eD P e) (P.bytesOf e) s] else none
     | _,_=>none
   | some (.struct fs)=>
     match fs.toList.mapM (fun f=>(uN P n top f.type).map fun s=>(f.offset,P.cellsOf f.type,s)) with
     | some l=>match qg 0 l with | some s=>if s.length=P.cellsOf t then some s else none | none=>none
     | none=>none
   | some (.array m e)=>
     match uN P n top e with
     | some s=>match qg 0 ((List.range m).map fun i=>(i*P.cellsOf e,P.cellsOf e,s)) with | some s=>if s.length=P.cellsOf t then some s else none | none=>none
     | none=>none
   | _=>none
theorem Fits.append:∀ {a b:List Sh} {vs us:List DV},Fits a vs→Fits b us→Fits (a++b) (vs++us)
 | [],b,vs,us,h,k=>by cases h;exact k
 | s::ss,b,vs,us,h,k=>by
   obtain ⟨v,r,rfl,h1,h2⟩:=h
   exact ⟨v,r++us,rfl,h1,h2.append k⟩
theorem Fits.length:∀ {a:List Sh} {vs:List DV},Fits a vs→vs.length=a.length
 | [],vs,h=>by cases h;rfl
 | s::ss,vs,h=>by
   obtain ⟨v,r,rfl,_,h2⟩:=h
   simp [h2.length]
theorem jX.length:∀ {a:List Sh} {vs:List DV},jX a vs→vs.length=a.length
 | [],vs,h=>by cases h;rfl
 | s::ss,vs,h=>by
   obtain ⟨v,r,rfl,_,h2⟩:=h
   simp [h2.length]
theorem Fits.toF:∀ {a:List Sh} {vs:List DV},a.all Sh.flat=true→Fits a vs→jX a vs
 | [],vs,_,h=>h
 | s::ss,vs,hf,h=>by
   rw [List.all_cons,Bool.and_eq_true] at hf
   obtain ⟨v,r,rfl,h1,h2⟩:=h
   refine ⟨v,r,rfl,?_,h2.toF hf.2⟩
   cases s<;>first | exact h1 | (simp [Sh.flat] at hf)
theorem Fi.leaf {s:Sh} {v:DV} (h:Fi s v):v.leaves=[v]∧v.pure=true:=by
 cases s<;>simp only [Fi] at h
 · obtain ⟨b,rfl⟩:=h;exact ⟨rfl,rfl⟩
 · obtain ⟨n,rfl,_⟩:=h;exact ⟨rfl,rfl⟩
 · obtain ⟨n,rfl,_⟩:=h;exact ⟨rfl,rfl⟩
theorem jX.pure:∀ {a:List Sh} {vs:List DV},jX a vs→vs.all DV.pure=true
 | [],vs,h=>by cases h;rfl
 | s::ss,vs,h=>by
   obtain ⟨v,r,rfl,h1,h2⟩:=h
   simp [h1.leaf.2,h2.pure]
theorem rE {ag:Bool} {e:List Sh} {vs:List DV} (h:jX e vs) (ha:ag=true∨e.length=1):(elemOf ag vs).leaves=vs:=by
 cases ag with
 | true=>rfl
 | false=>
   have hl:e.length=1:=by simpa using ha
   match e,vs,h,hl with
   | [s],_,⟨v,r,rfl,h1,h2⟩,_=>
     cases h2
     exact h1.leaf.1
def Reads (fm:FM) (w:World) (vs:List DV) (cs:List Value):Prop:=cs.length=vs.length∧∀ i (h:i<vs.length),Rel fm (ghA w) (vs[i]) (cs.getD i undef)
theorem Reads.append {w:World} {vs us:List DV} {cs ds:List Value} (h:Reads fm w vs cs) (k:Reads fm w us ds):Reads fm w (vs++us) (cs++ds):=by
 refine ⟨by simp [h.1,k.1],fun i hi => ?_⟩
 by_cases hv:i<vs.length
 · have e1:(vs++us)[i]=vs[i]:=List.getElem_append_left hv
   have e2:(cs++ds).getD i undef=cs.getD i undef:=by
    rw [List.getD_eq_getElem?_getD,List.getD_eq_getElem?_getD,List.getElem?_append_left (by rw [h.1];exact hv)]
   rw [e1,e2];exact h.2 i hv
 · have hu:i-vs.length<us.length:=by simp at hi;omega
   have e1:(vs++us)[i]=us[i-vs.length]:=List.getElem_append_right (by omega)
   have e2:(cs++ds).getD i undef=ds.getD (i-vs.length) undef:=by
    rw [List.getD_eq_getElem?_getD,List.getD_eq_getElem?_getD,List.getElem?_append_right (by rw [h.1];omega),h.1]
   rw [e1,e2];exact k.2 _ hu
theorem sP {c:Nat} (g:Nat→List DV) (ag:Bool) (hg:∀ i,(elemOf ag (g i)).leaves=g i):∀ (len:Nat),(∀ i,i<len→(g i).length=c) →
 (flat ((List.range len).map fun i=>elemOf ag (g i))).length=len*c∧∀ i k,i<len→k<c→(flat ((List.range len).map fun i=>elemOf ag (g i)))[i*c+k]? = (g i)[k]?
 | 0,_=>by simp [flat]
 | len+1,h=>by
   obtain ⟨h1,h2⟩:=sP g ag hg len fun i hi=>h i (by omega)
   have e:flat ((List.range (len+1)).map fun i=>elemOf ag (g i))=flat ((List.range len).map fun i=>elemOf ag (g i))++g len:=by
    rw [List.range_succ]
    simp [flat,hg]
   rw [e]
   refine ⟨by simp [h1,h len (by omega),Nat.succ_mul],fun i k hi hk => ?_⟩
   by_cases hl:i<len
   · have:i*c+k<len*c:=by
      have:(i+1)*c≤len*c:=Nat.mul_le_mul_right _ hl
      rw [Nat.succ_mul] at this
      omega
     rw [List.getElem?_append_left (by rw [h1];exact this)]
     exact h2 i k hl hk
   · obtain rfl:i=len:=by omega
     rw [List.getElem?_append_right (by rw [h1];omega),h1]
     congr 1
     omega
section
variable {H:Type} {enc:TypeId×Value→H} {w:World} {base:Nat} {sp:Nat→Bool} {held:Bool}
def Dm (cs:List Value):Prop:=∀ a len cap,Value.slice (some a) len cap∈cs→a.spot=none
theorem kl:∀ (l:List (Nat×Nat×List Sh)) (k:Nat) (s:List Sh) (cs:List Value),qg k l=some s→k+s.length=cs.length →
 (∀ (off c:Nat) (s:List Sh),(off,c,s)∈l→∃ vs,Fits s vs∧Reads fm w vs ((cs.drop off).take c))→∃ vs,Fits s vs∧Reads fm w vs (cs.drop k)
 | [],k,s,cs,h,hl,_=>by
   cases h
   refine ⟨[],rfl,?_,fun i hi=>by simp at hi⟩
   simp at hl ⊢
   omega
 | (off,c,s0)::r,k,s,cs,h,hl,hr=>by
   simp only [qg] at h
   split at h
   · rename_i hc
     obtain ⟨rfl,rfl⟩:=hc
     simp only [Option.map_eq_some_iff] at h
     obtain ⟨s1,h1,rfl⟩:=h
     rw [List.length_append] at hl
     obtain ⟨us,hu1,hu2⟩:=kl r _ s1 cs h1 (by omega) fun off c s hm=>hr off c s (List.mem_cons_of_mem _ hm)
     obtain ⟨vs,hv1,hv2⟩:=hr off s0.length s0 (List.mem_cons_self ..)
     refine ⟨vs++us,hv1.append hu1,?_⟩
     have e:cs.drop off=(cs.drop off).take s0.length++cs.drop (off+s0.length):=by
      rw [← List.drop_drop,List.take_append_drop]
     rw [e]
     exact hv2.append hu2
   · cases h
theorem wV {α β:Type} {f:α→Option β}:∀ {l:List α} {r:List β},l.mapM f=some r→∀ y∈r,∃ (i:Nat) (x:α),l[i]? = some x∧f x=some y
 | [],r,h,y,hy=>by
   have:r=[]:=by simpa using h.symm
   subst this;cases hy
 | a::l,r,h,y,hy=>by
   simp only [List.mapM_cons,Option.bind_eq_bind,Option.bind_eq_some_iff,Option.pure_def,Option.some.injEq] at h
   obtain ⟨b,hb,r',hr',rfl⟩:=h
   rcases List.mem_cons.1 hy with rfl | hy
   · exact ⟨0,a,rfl,hb⟩
   · obtain ⟨i,x,h1,h2⟩:=wV hr' y hy
     exact ⟨i+1,x,h1,h2⟩
theorem g9 {e:TypeId}:∀ {l:List (DataW H)} {d:DataW H} {k:Nat},d∈l→k∈d.weights P e→k∈DataW.weightsAll P e l
 | a::r,d,k,h,hk=>by
   simp only [DataW.weightsAll,List.mem_append]
   rcases List.mem_cons.1 h with rfl | h
   · exact .inl hk
   · exact .inr (g9 h hk)
theorem J0:∀ (n:Nat) (top:Bool) (t:TypeId) (ss:List Sh),uN P n top t=some ss→∀ (fuel:Nat) (cs:List Value) (x:DataW H×List MemPlace),
 DataW.trod enc P w base sp held fuel t cs=some x→(∀ k∈DataW.weights P t x.1,k≤reachBytes)→(top=true→Dm cs)→∃ vs,Fits ss vs∧Reads fm w vs cs:=by
 intro n
 induction n with
 | zero=>intro top t ss h;cases h
 | succ n ih=>
   intro top t ss h fuel cs x hx hwt hsp
   simp only [uN] at h
   split at h
   · rename_i hu
     cases h
     obtain ⟨b,rfl,_⟩:=DataW.trod_bool hu hx
     exact ⟨[.bool b],⟨_,_,rfl,⟨b,rfl⟩,rfl⟩,rfl,fun i hi=>by
      have:i=0:=by simpa using hi
      subst this;exact .bool b⟩
   · rename_i k hu
     cases h
     obtain ⟨m,rfl,_,hw⟩:=DataW.trod_int hu hx
     exact ⟨[.int k m],⟨_,_,rfl,⟨m,rfl,hw⟩,rfl⟩,rfl,fun i hi=>by
      have:i=0:=by simpa using hi
      subst this;exact .int k m⟩
   · rename_i hu
     cases h
     obtain ⟨s,rfl,rfl,hw⟩:=DataW.trod_string hu hx
     exact ⟨[.str s.data.toList],⟨_,_,rfl,⟨_,rfl,hwt _ (by simp [DataW.weights])⟩,rfl⟩,rfl,fun i hi=>by
      have:i=0:=by simpa using hi
      subst this;exact .str _ s rfl⟩
   · rename_i e hu
     split at h
     · rename_i s hs
       split at h
       · rename_i hc
         obtain ⟨hc1,hc2,hc3,hc4⟩:=hc
         cases h
         rcases DataW.trod_slice hu hx with ⟨rfl,_⟩ | ⟨a,len,cap,elems,rest,m,_,rfl,hxe,_,hl,hcap,hel,heach,_⟩
         · exact ⟨[.list 0 s.length .no false []],⟨_,_,rfl,⟨false,[],rfl,fun _=>rfl,by simp [maxLen],by simp,fun x hx=>by cases hx⟩,rfl⟩,rfl,fun i hi=>by
            have:i=0:=by simpa using hi
            subst this;exact .gC 0 s.length .no⟩
         · have each:∀ i,i<len→∃ vs cs',jX s vs∧Reads fm w vs cs'∧w.cells? base (a.add (i*P.cellsOf e)) (P.cellsOf e)=some cs':=by
            intro i hi
            have:=heach i hi
            rw [List.getElem?_eq_getElem (by omega)] at this
            obtain ⟨cs',h1,h2⟩:=Option.bind_eq_some_iff.1 this
            obtain ⟨vs,h3,h4⟩:=ih false e s hs m cs' _ h2 (fun k hk=>hwt k (by
             rw [hxe]
             simp only [DataW.weights,hu,List.mem_cons,List.mem_append]
             exact .inr (.inl (g9 (List.mem_map.2 ⟨_,List.getElem_mem _,rfl⟩) hk)))) (fun h=>by cases h)
            exact ⟨vs,cs',h3.toF hc3,h4,h1⟩
           have ⟨g,hg⟩:∃ g:Nat→List DV,∀ i,jX s (g i)∧(i<len→∃ cs',Reads fm w (g i) cs'∧w.cells? base (a.add (i*P.cellsOf e)) (P.cellsOf e)=some cs'):=by
            have dflt:∃ vs,jX s vs:=by
             clear hc1 hc2 hc4 each hs
             induction s with
             | nil=>exact ⟨[],rfl⟩
             | cons s r ihs=>
               rw [List.all_cons,Bool.and_eq_true] at hc3
               obtain ⟨vs,hvs⟩:=ihs hc3.2
               cases s with
               | bool=>exact ⟨.bool true::vs,_,_,rfl,⟨_,rfl⟩,hvs⟩
               | int k=>exact ⟨.int k (k.wrap 0)::vs,_,_,rfl,⟨_,rfl,wf_wrap k 0⟩,hvs⟩
               | str=>exact ⟨.str []::vs,_,_,rfl,⟨_,rfl,by simp [reachBytes]⟩,hvs⟩
               | list a b c=>simp [Sh.flat] at hc3
            classical
            refine ⟨fun i=>if h:i<len then Classical.choose (each i h) else Classical.choose dflt,fun i => ?_⟩
            by_cases h:i<len
            · obtain ⟨cs',h1,h2,h3⟩:=Classical.choose_spec (each i h)
              simp only [h,dif_pos]
              exact ⟨h1,fun _=>⟨cs',h2,h3⟩⟩
            · simp only [h,dif_neg,not_false_iff]
              exact ⟨Classical.choose_spec dflt,fun h'=>absurd h' (by first | exact h | simp)⟩
           have hleaf:∀ i,(elemOf (eD P e) (g i)).leaves=g i:=fun i=>rE (hg i).1 hc4
           obtain ⟨f1,f2⟩:=sP (c:=s.length) g (eD P e) hleaf len fun i _=>(hg i).1.length
           have hspot:a.spot=none:=hsp rfl a len cap (by simp)
           have key:∀ j,j<len*s.length→∃ v,(ghA w).ro a.block (a.off+j)=some v∧∃ u,(flat ((List.range len).map fun i=>elemOf (eD P e) (g i)))[j]? = some u∧Rel fm (ghA w) u v:=by
            intro j hj
            have hi:j/s.length<len:=(Nat.div_lt_iff_lt_mul hc2).2 hj
            have hk:j%s.length<s.length:=Nat.mod_lt _ hc2
            have hj2:j/s.length*s.length+j%s.length=j:=by rw [Nat.mul_comm];exact Nat.div_add_mod _ _
            obtain ⟨cs',r1,r2⟩:=(hg (j/s.length)).2 hi
            obtain ⟨_,r3,r4⟩:=World.cells?_some r2
            have hlen:(g (j/s.length)).length=s.length:=(hg _).1.length
            have r5:=r4 (j%s.length) (by rw [← hc1];exact hk)
            rw [List.getElem?_eq_getElem (by rw [r1.1,hlen];exact hk)] at r5
            obtain ⟨_,r6⟩:=JI r5
            have hadd:((a.add (j/s.length*P.cellsOf e)).add (j%s.length)).block=a.block∧((a.add (j/s.length*P.cellsOf e)).add (j%s.length)).off=a.off+j:=by
             rw [← hc1]
             unfold Addr.add
             constructor<;>(repeat' split)<;>simp_all<;>omega
            rw [hadd.1,hadd.2] at r6
            refine ⟨_,r6,(g (j/s.length))[j%s.length]'(by rw [hlen];exact hk),?_,?_⟩
            · rw [← List.getElem?_eq_getElem,← f2 _ _ hi hk,hj2]
            · have:=r1.2 (j%s.length) (by rw [hlen];exact hk)
              rw [List.getD_eq_getElem?_getD,List.getElem?_eq_getElem (by rw [r1.1,hlen];exact hk)] at this
              exact this
           refine ⟨[.list 0 s.length .no true ((List.range len).map fun i=>elemOf (eD P e) (g i))],⟨_,_,rfl,⟨true,_,rfl,(fun h=>by cases h),?_,?_,?_⟩,rfl⟩,rfl,fun i hi => ?_⟩
           · simp only [List.length_map,List.length_range];exact_mod_cast Nat.le_trans hl hcap
           · simp only [List.length_map,List.length_range]
             refine Nat.le_trans ?_ (hwt ((elems.length+rest.length)*P.bytesOf e) (by rw [hxe];simp [DataW.weights,hu]))
             exact Nat.mul_le_mul_right _ (by omega)
           · intro x hx
             obtain ⟨i,_,rfl⟩:=List.mem_map.1 hx
             exact ⟨g i,(hg i).1,rfl⟩
           · have:i=0:=by simpa using hi
             subst this
             obtain ⟨r,off,spot⟩:=a
             simp only at hspot
             subst hspot
             have:=Rel.list (fm:=fm) (G:=ghA w) 0 s.length .no ((List.range len).map fun i=>elemOf (eD P e) (g i)) r off cap (fun j=>((ghA w).ro r (off+j)).getD undef) ?_ ?_ ?_ trivial (by simpa using hl) ?_
             · simp only [List.length_map,List.length_range] at this
               exact this
             · intro j hj
               rw [f1] at hj
               obtain ⟨v,k1,_⟩:=key j hj
               simp only at k1
               rw [k1];rfl
             · intro j hj
               have hj':=hj
               rw [f1] at hj'
               obtain ⟨v,k1,u,k2,k3⟩:=key j hj'
               simp only at k1
               rw [List.getElem?_eq_getElem hj] at k2
               injection k2 with k2
               rw [k2,k1];exact k3
             · rw [List.all_eq_true]
               intro u hu
               unfold flat at hu
               obtain ⟨y,hy,hu⟩:=List.mem_flatMap.1 hu
               obtain ⟨i,_,rfl⟩:=List.mem_map.1 hy
               rw [hleaf] at hu
               exact List.all_eq_true.1 (hg i).1.pure _ hu
             · intro y hy
               obtain ⟨i,_,rfl⟩:=List.mem_map.1 hy
               rw [hleaf]
               exact (hg i).1.length
       · cases h
     · cases h
   · rename_i fs hu
     split at h
     · rename_i l hl
       split at h
       · rename_i s hs
         split at h
         · rename_i hlen
           cases h
           obtain ⟨xs,m,_,hxe,h1,h2,h3⟩:=DataW.trod_struct hu hx
           have:=kl (fm:=fm) (w:=w) l 0 ss cs hs (by rw [h1,hlen];omega) ?_
           · simpa using this
           · intro off c s0 hm
             obtain ⟨i,f,hi,hf⟩:=wV hl _ hm
             simp only [Option.map_eq_some_iff,Prod.mk.injEq] at hf
             obtain ⟨s1,e1,rfl,rfl,rfl⟩:=hf
             have hi2:fs[i]? = some f:=by simpa using hi
             have:=h3 i f hi2
             have hlt:i<xs.length:=by
              rw [h2]
              exact (Array.getElem?_eq_some_iff.1 hi2).1
             rw [List.getElem?_eq_getElem hlt] at this
             refine ih top f.type s1 e1 m _ _ this (fun k hk=>hwt k (by
              rw [hxe]
              simp only [DataW.weights,hu]
              exact DataW.weights_mem_each (j:=i) (t:=f.type) (by simp [hi2]) (by rw [List.getElem?_map,List.getElem?_eq_getElem hlt];rfl) k hk)) fun ht a len cap hmem=>hsp ht a len cap ?_
             exact List.mem_of_mem_drop (List.mem_of_mem_take hmem)
         · cases h
       · cases h
     · cases h
   · rename_i m e hu
     split at h
     · rename_i s0 hs0
       split at h
       · rename_i s hs
         split at h
         · rename_i hlen
           cases h
           obtain ⟨xs,k,_,hxe,h1,h2,h3⟩:=DataW.trod_array hu hx
           have:=kl (fm:=fm) (w:=w) _ 0 ss cs hs (by rw [h1,hlen];omega) ?_
           · simpa using this
           · intro off c s1 hm
             obtain ⟨i,hi,e1⟩:=List.mem_map.1 hm
             cases e1
             have:=h3 i (List.mem_range.1 hi)
             rw [List.getElem?_eq_getElem (by rw [h2];exact List.mem_range.1 hi)] at this
             refine ih top e s0 hs0 k _ _ this (fun q hq=>hwt q (by
              rw [hxe]
              simp only [DataW.weights,hu]
              exact g9 (List.mem_map.2 ⟨_,List.getElem_mem _,rfl⟩) hq)) fun ht a len cap hmem=>hsp ht a len cap ?_
             exact List.mem_of_mem_drop (List.mem_of_mem_take hmem)
         · cases h
       · cases h
     · cases h
   · cases h
end
end Go.D
end
section
namespace Go.D
open Go.RowKit
variable {P:Program} {fm:FM}
theorem jD {w:World} {base:Nat} {t:TypeId} {a:Addr} {len cap:Nat} (h:Cell.okWide P w .any base t (.slice (some a) len cap)):a.spot=none:=by
 unfold Cell.okWide at h
 split at h<;>try (rename_i e1 e2;cases e2;done)
 unfold Cell.ok at h
 split at h<;>rename_i e1 e2<;>first | (cases e2;done) | skip
 · cases e2
   exact h.2.2.2.1
 · cases h
theorem rD {w:World} {base:Nat} {t:TypeId} {v:Value} (h:Value.okWide P w .any base t v):Dm v.cells.toList:=by
 intro a len cap hm
 unfold Value.okWide at h
 split at h
 · obtain ⟨cs,rfl,_,ts,_,_,hc⟩:=h
   obtain ⟨i,hi⟩:=List.mem_iff_getElem?.1 hm
   obtain ⟨u,_,hu⟩:=hc i _ (by simpa [Value.cells] using hi)
   exact jD hu
 · obtain ⟨cs,rfl,_,ts,_,_,hc⟩:=h
   obtain ⟨i,hi⟩:=List.mem_iff_getElem?.1 hm
   obtain ⟨u,_,hu⟩:=hc i _ (by simpa [Value.cells] using hi)
   exact jD hu
 · cases v
   case agg cs=>
    exfalso
    unfold Cell.okWide at h
    split at h<;>try (rename_i e1 e2;cases e2;done)
    unfold Cell.ok at h
    split at h<;>rename_i e1 e2<;>first | (cases e2;done) | (cases h;done)
   all_goals
    simp [Value.cells] at hm
   obtain ⟨rfl,rfl,rfl⟩:=hm
   exact jD h
theorem J5 {w:World} {base:Nat} {t:TypeId} {cs:Array Value} (ht:eD P t=false) (h:Value.okWide P w .any base t (.agg cs)):False:=by
 unfold Value.okWide at h
 unfold eD at ht
 split at h
 · rename_i e;rw [e] at ht;cases ht
 · rename_i e;rw [e] at ht;cases ht
 · unfold Cell.okWide at h
   split at h<;>try (rename_i e1 e2;cases e2;done)
   unfold Cell.ok at h
   split at h<;>rename_i e1 e2<;>first | (cases e2;done) | (cases h;done)
theorem DU {n:Nat} {top:Bool} {t:TypeId} {ss:List Sh} (h:uN P n top t=some ss) (ht:eD P t=false):ss.length=1:=by
 cases n with
 | zero=>cases h
 | succ n=>
   unfold eD at ht
   simp only [uN] at h
   split at h<;>rename_i e<;>try (rw [e] at ht)
   · cases h;rfl
   · cases h;rfl
   · cases h;rfl
   · split at h
     · split at h
       · cases h;rfl
       · cases h
     · cases h
   · cases ht
   · cases ht
   · cases h
theorem R4 {H:Type} {enc:TypeId×Value→H} {w:World} {base base':Nat} {sp:Nat→Bool} {held:Bool} {n:Nat} {t:TypeId} {ss:List Sh} {b:Bool} {v:Value} {d:DataW H} {p:List MemPlace}
 (hsh:uN P n true t=some ss) (hb:eD P t=b) (hval:Value.okWide P w .any base' t v) (h:DataW.Trod enc P w base sp held t v d p) (hwt:∀ k∈DataW.weights P t d,k≤reachBytes) :
 ∃ vs,Fits ss vs∧Rel fm (ghA w) (elemOf b vs) v:=by
 obtain ⟨fuel,h⟩:=h
 obtain ⟨vs,h1,h2⟩:=J0 (fm:=fm) n true t ss hsh fuel _ _ h hwt fun _=>rD hval
 refine ⟨vs,h1,?_⟩
 cases b with
 | true=>
   have:∃ cs,v=.agg cs:=by
    unfold eD at hb
    unfold Value.okWide at hval
    split at hval
    · obtain ⟨cs,rfl,_⟩:=hval;exact ⟨cs,rfl⟩
    · obtain ⟨cs,rfl,_⟩:=hval;exact ⟨cs,rfl⟩
    · rename_i k1 k2
      split at hb<;>rename_i e
      · exact absurd e (k1 _)
      · exact absurd e (k2 _ _)
      · cases hb
   obtain ⟨cs,rfl⟩:=this
   refine .agg vs cs (by simpa [Value.cells] using h2.1) fun i hi => ?_
   have:=h2.2 i hi
   simpa [Value.cells,Array.getD_eq_getD_getElem?,List.getD_eq_getElem?_getD] using this
 | false=>
   have hl:=h1.length
   rw [DU hsh hb] at hl
   match vs,hl with
   | [x],_=>
     have:=h2.2 0 (by simp)
     have hv:v.cells = #[v]:=by
      cases v<;>first | rfl | exact (J5 hb hval).elim
     rw [hv] at this
     exact this
def tt:List (Bool×List Sh)→List DV→Prop
 | [],us=>us=[]
 | (b,ss)::r,us=>∃ vs us',us=elemOf b vs::us'∧Fits ss vs∧tt r us'
def ux (P:Program):List TypeId→Option (List (Bool×List Sh))
 | []=>some []
 | t::ts=>match uN P 9 true t,ux P ts with | some s,some r=>some ((eD P t,s)::r) | _,_=>none
theorem Av {H:Type} {enc:TypeId×Value→H} {w:World} {base base':Nat} {sp:Nat→Bool} {held:Bool}:∀ (ts:List TypeId) (shs:List (Bool×List Sh)) (vs:List Value) (ds:List (DataW H)) (ps:List MemPlace),
 ux P ts=some shs→(∀ (j:Nat) t v,ts[j]? = some t→vs[j]? = some v→Value.okWide P w .any base' t v)→DataW.TrodAll enc P w base sp held ts vs ds ps→(∀ k∈DataW.weightsEach P ts ds,k≤reachBytes) →
 ∃ us:List DV,tt shs us∧vs.length=us.length∧∀ i (h:i<us.length),Rel fm (ghA w) (us[i]) (vs.getD i undef)
 | [],shs,vs,ds,ps,h,hv,ht,hwt=>by
   cases h
   cases vs<;>cases ds<;>simp [DataW.TrodAll] at ht
   exact ⟨[],rfl,rfl,fun i hi=>by simp at hi⟩
 | t::ts,shs,vs,ds,ps,h,hv,ht,hwt=>by
   simp only [ux] at h
   split at h
   · rename_i s r e1 e2
     cases h
     obtain ⟨v,vs',d,ds',p,q,rfl,rfl,rfl,h1,h2⟩:=Go.ChangeShapes.trodAll_cons ht
     obtain ⟨u,f1,f2⟩:=R4 (fm:=fm) e1 rfl (hv 0 t v rfl rfl) h1 fun k hk=>hwt k (by simp only [DataW.weightsEach,List.mem_append];exact .inl hk)
     obtain ⟨us,f3,f4,f5⟩:=Av ts r vs' ds' q e2 (fun j t' v' k1 k2=>hv (j+1) t' v' (by simpa using k1) (by simpa using k2)) h2 fun k hk=>hwt k (by simp only [DataW.weightsEach,List.mem_append];exact .inr hk)
     refine ⟨elemOf (eD P t) u::us,⟨u,us,rfl,f1,f3⟩,by simp [f4],fun i hi => ?_⟩
     cases i with
     | zero=>exact f2
     | succ i=>simpa using f5 i (by simpa using hi)
   · cases h
theorem ln {H:Type} {enc:TypeId×Value→H} {W W':World} {sp':Nat→Bool} (hl:laidOutB P=true):∀ (ts:List TypeId) (vs:List Value) (ds:List (DataW H)) (ps:List MemPlace),
 (ts.all fun t=>P.readableRec t&&decide (t<P.types.size))=true→DataW.TrodAll enc P W 0 (fun _=>true) true ts vs ds ps→(∀ p∈ps,W.sameAt W' p)→(∀ p∈ps,sp' p.block=true) →
 DataW.TrodAll enc P W' 0 sp' true ts vs ds ps
 | [],vs,ds,ps,_,h,_,_=>by
   cases vs<;>cases ds<;>simp [DataW.TrodAll] at h ⊢
   exact h
 | t::ts,vs,ds,ps,hr,h,hs,hp=>by
   rw [List.all_cons,Bool.and_eq_true,Bool.and_eq_true] at hr
   obtain ⟨v,vs',d,ds',p,q,rfl,rfl,rfl,h1,h2⟩:=Go.ChangeShapes.trodAll_cons h
   exact ⟨p,q,WideElems.Trod_stays hl hr.1.1 (of_decide_eq_true hr.1.2) h1 (fun x hx=>hs x (List.mem_append_left _ hx)) (fun x hx=>hp x (List.mem_append_left _ hx)),
    ln hl ts vs' ds' q hr.2 h2 (fun x hx=>hs x (List.mem_append_right _ hx)) (fun x hx=>hp x (List.mem_append_right _ hx)),rfl⟩
theorem rk {H:Type} {enc:TypeId×Value→H} {T:Tab} (hT:dR P fm T) (hm:P.follows .mixedOrders=true) {g:Nat} {f:FuncId} {F:ai} {args:Array Value} {ts:List TypeId} {shs:List (Bool×List Sh)} {ds:List (DataW H)} {ps:List MemPlace} {sp:Nat→Bool} {held:Bool}
 (hg:T g=some (.code F)) (hf:fm g=some f) (hsh:ux P ts=some shs) (w:World) {base base':Nat} (hv:∀ (j:Nat) t v,ts[j]? = some t→args.toList[j]? = some v→Value.okWide P w .any base' t v)
 (ht:DataW.TrodAll enc P w base sp held ts args.toList ds ps) (hwt:(DataW.weightsEach P ts ds).all (· ≤ reachBytes)=true) (hrun:∀ us,tt shs us→∃ st',(E T).F g us st0=some (.bool true,st')) (he:pB fm w) :
 Calls P f args w (fun e w'=>e=.returned (.bool true)∧Below w.heap.size w w'):=by
 obtain ⟨us,h1,h2,h3⟩:=Av (fm:=fm) ts shs _ ds ps hsh hv ht fun k hk=>by simpa using List.all_eq_true.1 hwt k hk
 obtain ⟨st',hr⟩:=hrun us h1
 refine tz hT hm hg hf hr w he ⟨by simpa using h2,fun i hi => ?_⟩
 have:=h3 i hi
 simpa [Array.getD_eq_getD_getElem?,List.getD_eq_getElem?_getD] using this
end Go.D
end
section
namespace Go.D
open Go.RowKit
variable {P:Program} {fm:FM}
def DV.dW:DV→Bool
 | .bool _ | .int _ _ | .str _ | .cm | .br | .bK | .bc=>true
 | _=>false
theorem Rel.tM {G G':Gh} {v:DV} {x:Value} (k:Rel fm G v x) (h:v.dW=true):Rel fm G' v x:=by
 cases k<;>first | (cases h;done) | skip
 · exact .bool _
 · exact .int _ _
 · exact .str _ _ (by assumption)
 · exact .cm
 · exact .br
 · exact .bK
 · exact .bc
theorem rC {v:DV} (h:v.dW=true):v.bg=true:=by cases v<;>first | rfl | cases h
section
variable {CR CR':Nat→RC→Code→Prop} {G G1:Gh} {w0 w w':World} {st st2:St}
def Gh.B8 (G:Gh) (w w':World) (b r z:Nat):Gh:=
 { G.shut w w' with ro:=fun r' i=>if r'=r then none else (G.shut w w').ro r' i,mu:=fun b'=>if b'=b then some r else G.mu b',gsz:=fun b'=>if b'=b then z else G.gsz b' }
theorem wT (hs:Sim fm CR G w0 st w) (hb:Below w.heap.size w w') {r:Nat} (hr:w.heap.size≤r) {ob:Obj} (hw:w'.heap[r]? = some ob) {z:Nat} {hob:HO} (hgn:hob.cf=false)
 (hrel:∀ G':Gh,G'.gsz st.heap.length=z→cQ fm CR G' st.heap.length hob ob) :
 G.le (G.B8 w w' st.heap.length r z)∧Sim fm CR (G.B8 w w' st.heap.length r z) w0 (st.push hob) w':=by
 have hsh:=hs.shut hb
 have hle:=Gh.k8 hs w'
 have hmu:∀ b x,G.mu b=some x→b≠st.heap.length:=fun b x h=>by have:=hs.bS b x h;omega
 have hsub:G.sub (G.B8 w w' st.heap.length r z):=by
  refine ⟨fun r' i v h => ?_,fun b x h => ?_,fun _ _ _ h=>h,fun b x h => ?_⟩
  · have:=hs.A4 h
    show (if r'=r then none else _)=_
    rw [if_neg (by omega)]
    exact hle.toSub.ro _ _ _ h
  · show (if b=_ then _ else _)=_
    rw [if_neg (hmu b x h)];exact h
  · show (if b=_ then _ else _)=_
    rw [if_neg (hmu b x h)]
 have hold:∀ b o,(st.push hob).heap[b]? = some o→(b<st.heap.length∧st.heap[b]? = some o)∨(b=st.heap.length∧o=hob):=by
  intro b o h
  simp only [St.push] at h
  by_cases e:b<st.heap.length
  · rw [List.getElem?_append_left e] at h;exact .inl ⟨e,h⟩
  · have:b=st.heap.length:=by
     have:=(List.getElem?_eq_some_iff.1 h).1
     simp at this;omega
    subst this
    simp at h
    exact .inr ⟨rfl,h.symm⟩
 have rowOld:∀ b o x,b<st.heap.length→st.heap[b]? = some o→o.cf=false→(G.B8 w w' st.heap.length r z).mu b=some x→G.mu b=some x∧x<w.heap.size:=by
  intro b o x hlt ho hg hm
  have hm':G.mu b=some x:=by
   change (if b=_ then _ else _)=_ at hm
   rwa [if_neg (by omega)] at hm
  obtain ⟨r',ob,h1,h2,_⟩:=hs.obj b o ho hg (hs.np hm')
  rw [hm'] at h1;cases h1
  exact ⟨hm',get?_lt h2⟩
 refine ⟨⟨hsub,fun _ h=>h,fun _ h=>h,rfl,fun r' i hf => ?_,rfl,rfl,rfl⟩,?_⟩
 · have:=hs.aE
   show (if r'=r then none else _)=_
   rw [if_neg (by omega)]
   exact hle.fq r' i hf
 · refine { bS:=?_,bN:=?_,obj:=?_,ro:=?_,dp:=?_,tok:=?_,bz:=hs.bz,bw:=hs.bw,dfr:=hsh.dfr,lps:=hsh.lps,aE:=hsh.aE,below:=hsh.below,base:=hs.base,aU:=hs.aU,bB:=?_,bm:=?_,env:=hs.env }
   · intro b x h
     change (if b=_ then _ else _)=_ at h
     simp only [St.push,List.length_append,List.length_singleton]
     split at h
     · omega
     · have:=hs.bS b x h;omega
   · intro b b' o o' x ho ho' hg hg' hm hm'
     rcases hold b o ho with ⟨l1,h1⟩ | ⟨rfl,rfl⟩<;>rcases hold b' o' ho' with ⟨l2,h2⟩ | ⟨rfl,rfl⟩
     · exact hs.bN b b' o o' x h1 h2 hg hg' (rowOld b o x l1 h1 hg hm).1 (rowOld b' o' x l2 h2 hg' hm').1
     · have:=(rowOld b o x l1 h1 hg hm).2
       change (if st.heap.length=_ then _ else _)=_ at hm'
       rw [if_pos rfl] at hm';cases hm';omega
     · have:=(rowOld b' o' x l2 h2 hg' hm').2
       change (if st.heap.length=_ then _ else _)=_ at hm
       rw [if_pos rfl] at hm;cases hm;omega
     · rfl
   · intro b o ho hg hpd
     rcases hold b o ho with ⟨l1,h1⟩ | ⟨rfl,rfl⟩
     · obtain ⟨r',ob,h2,h3,h4,h5⟩:=hs.obj b o h1 hg hpd
       exact ⟨r',ob,hsub.mu _ _ h2,(hb.block r' (get?_lt h3)).trans h3,h4.sub hsub h2,h5⟩
     · refine ⟨r,_,by show (if _ then _ else _)=_;rw [if_pos rfl],hw,hrel _ (by show (if _ then _ else _)=_;rw [if_pos rfl]),fun _=>Nat.le_trans hs.aE hr⟩
   · intro r' i v h
     change (if r'=r then none else _)=_ at h
     split at h
     · cases h
     · exact hsh.ro r' i v h
   · intro r' i v b o h ho hg hm
     change (if r'=r then none else _)=_ at h
     split at h
     · cases h
     · rename_i hne
       rcases hold b o ho with ⟨l1,h1⟩ | ⟨rfl,rfl⟩
       · exact hsh.dp r' i v b o h h1 hg (rowOld b o r' l1 h1 hg hm).1
       · change (if st.heap.length=_ then _ else _)=_ at hm
         rw [if_pos rfl] at hm;cases hm;exact hne rfl
   · intro t s ht
     obtain ⟨r',len,cap,n,cs',ty',h1,h2,h3,h4,h5,h6,h7,h8⟩:=hs.tok t s ht
     have hlt:=get?_lt h4
     obtain ⟨r'',len',cap',n',cs'',ty'',g1,g2,g3,g4,g5,g6,g7,g8⟩:=hsh.tok t s ht
     have g1':G.bw t s=some (r'',len',cap',n'):=g1
     rw [h1] at g1';cases g1'
     refine ⟨r',len,cap,n,cs'',ty'',h1,h2,h3,g4,g5,fun i hi => ?_,fun b o ho hg => ?_,h8⟩
     · show (if r'=r then none else _)=_
       split
       · rfl
       · exact g6 i hi
     · rcases hold b o ho with ⟨l1,h1'⟩ | ⟨rfl,rfl⟩
       · intro hm
         exact h7 b o h1' hg (rowOld b o r' l1 h1' hg hm).1
       · show (if _ then _ else _)≠_
         rw [if_pos rfl]
         intro e;cases e;omega
   · have:=hs.bB
     simp only [St.push,List.length_append,List.length_singleton]
     omega
   · intro b o hp
     obtain ⟨h1,h2⟩:=hs.bm b o hp
     have hlt:=(List.getElem?_eq_some_iff.1 h1).1
     refine ⟨by simp only [St.push];rw [List.getElem?_append_left hlt];exact h1,?_⟩
     show (if _ then _ else _)=_
     rw [if_neg (by omega)];exact h2
theorem DT (hs:Sim fm CR G w0 st w) (hb:Below w.heap.size w w') {r:Nat} (hr:w.heap.size≤r) {cs:Array Value} {ty:TypeId} (hw:w'.heap[r]? = some (.cells cs ty (0,0))) {vs:List DV} (hl:vs.length≤cs.size)
 (hrel:∀ (G':Gh) i (h:i<vs.length),Rel fm G' (vs[i]) (cs.getD i undef)) (hsc:vs.all DV.bg=true) :
 G.le (G.B8 w w' st.heap.length r cs.size)∧Sim fm CR (G.B8 w w' st.heap.length r cs.size) w0 (st.push (.cells .grown vs)) w':=
 wT hs hb hr hw rfl fun G' hz=>⟨cs,ty,(0,0),rfl,hl,hz.symm,fun i h=>hrel _ i h,fun i _ h=>by simp at h,hsc⟩
structure pS (T T2:Tab):Prop where
 get:∀ g d,T g=some d→T2 g=some d
 pure:ak T=ak T2
theorem FU {T T2:Tab} (hx:pS T T2) (R:Rec):(dO T R).le (dO T2 R) where
 C:=fun c fr st r h=>by
   refine .all fun _ => ?_
   cases c<;>try exact h
   rename_i f params assign body live
   simp only [dO,cT] at h ⊢
   split at h
   · rename_i g first captured e
     by_cases hc:eA T g=true
     · have hc2:eA T2 g=true:=by
        unfold eA at hc ⊢
        split at hc
        · rename_i F e;rw [hx.get _ _ e]
        · cases hc
       simp only [hc,if_true] at h
       simp only [hc2,if_true]
       exact h
     · simp [hc] at h
   · cases h
 O:=fun a fr st r h=>.all fun _=>by cases a<;>exact h
 S:=fun a fr st b r h=>.all fun _=>by
   cases a with
   | nil=>exact h
   | cons o l=>
     simp only [dO,gg] at h ⊢
     rw [← hx.pure];exact h
 N:=fun o fr st r h=>.all fun _=>by
   simp only [dO,ey] at h ⊢
   rw [← hx.pure];exact h
 A:=fun a b c d h=>.all fun _=>h
 K:=fun a b c d h=>.all fun _=>h
 F:=fun g as_ st r h=>.all fun _=>by
   simp only [dO,dy] at h ⊢
   cases e:T g with
   | none=>rw [e] at h;cases h
   | some d=>rw [e] at h;rw [hx.get g d e];exact h
 V:=fun a b c r h=>.all fun _=>by cases a<;>exact h
theorem wE {T T2:Tab} (hx:pS T T2):∀ n,(dx T n).le (dx T2 n)
 | 0=>wu _
 | n+1=>(FU hx (dx T n)).trans (wE hx n).step
theorem mO {T T2:Tab} (hx:pS T T2) {g:Nat} {as_:List DV} {st:St} {r:DV×St} (h:(E T).F g as_ st=some r):(E T2).F g as_ st=some r:=by
 obtain ⟨n,h⟩:=(df T).F _ _ _ _ h
 exact aB ((dz T2 n).F _ _ _ _ (aB ((wE hx n).F _ _ _ _ (h n (Nat.le_refl _)))))
def oe (ag:Bool) (st st2:St):DV→Option (DV×St)
 | .list _ n (.own t s) true xs=>if st2.aQ[t]? = some s∧st.aQ.length≤t∧(flat xs).all DV.dW=true then some (.hsl n ag st.heap.length 0 xs.length none,st.push (.cells .grown (flat xs))) else none
 | .list tag n tk false []=>some (.list tag n tk false [],st)
 | .hsl n _ b 0 len (some c)=>
   match st2.heap[b]? with
   | some (.cells .plain vs)=>if vs.all DV.dW=true∧c*n=vs.length∧len≤c∧st.heap.length≤b then some (.hsl n ag st.heap.length 0 len (some c),st.push (.cells .plain vs)) else none
   | _=>none
 | v=>if v.dW=true then some (v,st) else none
def kF (ag:Bool) (st st2:St):DV→Option (DV×St)
 | .tuple (v::r)=>if r.all DV.dW=true then (oe ag st st2 v).map fun p=>(.tuple (p.1::r),p.2) else none
 | v=>oe ag st st2 v
theorem E2 (h1:(G.enter st w).le G1) (h2:Sim fm CR G1 w st2 w'):Below w.heap.size w w':=by
 have:=h2.below
 rw [h1.floor] at this
 exact this
theorem sK {ag:Bool} (hs:Sim fm CR G w0 st w) (h1:(G.enter st w).le G1) (h2:Sim fm CR' G1 w st2 w') {v v':DV} {x:Value} {st':St} (hv:Rel fm G1 v x) (he:oe ag st st2 v=some (v',st')) :
 ∃ G',G.le G'∧Sim fm CR G' w0 st' w'∧Rel fm G' v' x:=by
 have hb:=E2 h1 h2
 have f1:G1.floor=w.heap.size:=h1.floor
 unfold oe at he
 split at he
 · rename_i tag n t s xs
   split at he
   · rename_i hc
     obtain ⟨hk,ht,hbl⟩:=hc
     simp only [Option.some.injEq,Prod.mk.injEq] at he
     obtain ⟨rfl,rfl⟩:=he
     cases hv with
     | list _ _ _ _ r off cap f hr hcc hp hkk hl hn=>
       obtain ⟨rfl,hh⟩:=hkk
       obtain ⟨r',len',cap',n',cs,ty,g1,g2,g3,g4,g5,g6,g7,g8⟩:=h2.tok t s hk
       rw [hh] at g1;cases g1
       have hfl:=eO xs n hn
       have hrs:w.heap.size≤r:=by
        have e1:st2.aU=st.aQ.length:=by rw [h2.aU,h1.aU];rfl
        have:=g8 (by omega)
        rwa [f1] at this
       have hle:xs.length*n≤cap*n:=Nat.mul_le_mul_right _ hl
       have key:=DT (fm:=fm) (CR:=CR) hs hb hrs g4 (vs:=flat xs) (by omega) (fun G' i hi=>by
        have h3:=hcc i hi
        have h4:=hr i hi
        obtain ⟨cs',t',fz',e1,e2⟩:=h2.ro _ _ _ h4
        rw [g4] at e1;cases e1
        rw [Nat.zero_add] at e2
        rw [Array.getD_eq_getD_getElem?,e2]
        exact h3.tM (List.all_eq_true.1 hbl _ (List.getElem_mem hi))) (List.all_eq_true.2 fun v hv=>rC (List.all_eq_true.1 hbl v hv))
       refine ⟨_,key.1,key.2,.hsl n ag st.heap.length 0 xs.length none r cap (by show (if _ then _ else _)=_;rw [if_pos rfl]) ⟨hl,?_⟩⟩
       show 0+cap*n≤(if _ then _ else _)
       rw [if_pos rfl];omega
   · cases he
 · rename_i tag n tk
   simp only [Option.some.injEq,Prod.mk.injEq] at he
   obtain ⟨rfl,rfl⟩:=he
   cases hv
   exact ⟨_,Gh.k8 hs w',hs.shut hb,.gC _ _ _⟩
 · rename_i n ag' b len c
   split at he
   · rename_i vs hrow
     split at he
     · rename_i hc
       obtain ⟨hbl,hcl,hlc,hbn⟩:=hc
       simp only [Option.some.injEq,Prod.mk.injEq] at he
       obtain ⟨rfl,rfl⟩:=he
       cases hv with
       | hsl _ _ _ _ _ _ r cap hmu hcap=>
         obtain ⟨rfl,_⟩:=hcap
         obtain ⟨r',ob,g1,g2,g3,g4⟩:=h2.obj b _ hrow rfl (h2.np hmu)
         rw [hmu] at g1;cases g1
         obtain ⟨cs,t,fz,rfl,e1,e2,e3,e4⟩:=g3
         have hrs:w.heap.size≤r:=by
          have e1:st2.base=st.heap.length:=by rw [h2.base,h1.base];rfl
          have:=g4 (by omega)
          rwa [f1] at this
         have key:=wT (fm:=fm) (CR:=CR) hs hb hrs g2 (z:=0) (hob:=.cells .plain vs) rfl fun G' _=>⟨cs,t,fz,rfl,e1,fun i hi=>(e2 i hi).tM (List.all_eq_true.1 hbl _ (List.getElem_mem hi)),e3,e4⟩
         exact ⟨_,key.1,key.2,.hsl n ag st.heap.length 0 len (some cap) r cap (by show (if _ then _ else _)=_;rw [if_pos rfl]) ⟨rfl,hlc⟩⟩
     · cases he
   · cases he
 · split at he
   · rename_i hbl
     simp only [Option.some.injEq,Prod.mk.injEq] at he
     obtain ⟨rfl,rfl⟩:=he
     exact ⟨_,Gh.k8 hs w',hs.shut hb,hv.tM hbl⟩
   · cases he
theorem CT {ag:Bool} (hs:Sim fm CR G w0 st w) (h1:(G.enter st w).le G1) (h2:Sim fm CR' G1 w st2 w') {v v':DV} {x:Value} {st':St} (hv:Rel fm G1 v x) (he:kF ag st st2 v=some (v',st')) :
 ∃ G',G.le G'∧Sim fm CR G' w0 st' w'∧Rel fm G' v' x:=by
 unfold kF at he
 split at he
 · rename_i u r
   split at he
   · rename_i hbl
     simp only [Option.map_eq_some_iff,Prod.mk.injEq,Prod.exists] at he
     obtain ⟨a,b,he,rfl,rfl⟩:=he
     cases hv with
     | tuple _ cs hl hc=>
       obtain ⟨G',k1,k2,k3⟩:=sK hs h1 h2 (hc 0 (by simp)) he
       refine ⟨G',k1,k2,.tuple _ cs hl fun i hi => ?_⟩
       cases i with
       | zero=>exact k3
       | succ i=>
         have hi':i<r.length:=by simpa using hi
         have:=hc (i+1) (by simpa using hi)
         exact Rel.tM (by simpa using this) (List.all_eq_true.1 hbl _ (List.getElem_mem hi'))
   · cases he
 · exact sK hs h1 h2 hv he
noncomputable def km (T:Tab) (g:Nat) (ag:Bool) (args:List DV) (st:St):Option (DV×St):=
 match T g with
 | some (.code F)=>
   if F.dn=true then
    match (E T).C F.body (bl args 0) st.enter with
    | some (.ret,fr,st2)=>match eX st2 fr F.results with | some v=>kF ag st st2 v | none=>none
    | some (.normal,fr,st2)=>match eX st2 fr F.results with | some v=>kF ag st st2 v | none=>none
    | _=>none
   else none
 | _=>none
theorem H9 {T T2:Tab} (hT:dR P fm T) (hm:P.follows .mixedOrders=true) (hpp:ak T=ak T2) {g:Nat} {f:FuncId} (hf:fm g=some f) (ag:Bool):fc P fm T2 (.jA (km T g ag)) f:=by
 show ix P fm T2 _ f
 intro G w0 st w args args' v st' hs ha hp
 have hs1:bU P fm T G w0 st w:=by unfold bU at hs ⊢;rw [uZ hpp];exact hs
 have back:∀ G' st' w',bU P fm T G' w0 st' w'→bU P fm T2 G' w0 st' w':=by
  intro G' st' w' h;unfold bU at h ⊢;rw [← uZ hpp];exact h
 unfold km at hp
 split at hp
 · rename_i F hg
   split at hp
   · have fin:∀ (e:Ex) (fr:Fr) (st2:St) (u:DV),(∀ id,e≠.exit id)→(E T).C F.body (bl args 0) st.enter=some (e,fr,st2)→eX st2 fr F.results=some u→kF ag st st2 u=some (v,st') →
      BU P f args' w fun x w'=>∃ G',G.le G'∧bU P fm T2 G' w0 st' w'∧Rel fm G' v x:=by
      intro e fr st2 u hne hr hres hth
      obtain ⟨n,hn⟩:=(df T).C _ _ _ _ hr
      have hrun:dV T n F.body (bl args 0) st.enter=some (e,fr,st2):=by
       have this:(dx T n).C F.body (bl args 0) st.enter=some (e,fr,st2):=hn n (Nat.le_refl _)
       rw [th] at this
       exact this
      have ha0:cS fm (G.enter st w) args args':=⟨ha.1,fun i hi=>(ha.2 i hi).sub (Gh.nG G st w)⟩
      obtain ⟨f',q1,q2⟩:=na (pH hT hm n) (hT g _ f hg hf) hrun hne hres hs1.enter ha0
      refine .inl ⟨f',q1,Go.CallsIn.mono q2 ?_⟩
      rintro e' w' ⟨x,rfl,G1,g1,g2,g3⟩
      obtain ⟨G',k1,k2,k3⟩:=CT hs1 g1 g2 g3 hth
      exact ⟨x,rfl,G',k1,back _ _ _ k2,k3⟩
     split at hp
     · rename_i fr st2 hr
       split at hp
       · rename_i u hres
         exact fin _ _ _ _ (fun id h=>by cases h) hr hres hp
       · cases hp
     · rename_i fr st2 hr
       split at hp
       · rename_i u hres
         exact fin _ _ _ _ (fun id h=>by cases h) hr hres hp
       · cases hp
     · cases hp
   · cases hp
 · cases hp
noncomputable def gY (T:Tab):List (Nat×Nat×Bool)→Tab
 | []=>T
 | (g',g,ag)::r=>fun h=>bif Nat.beq h g' then some (.jA (km T g ag)) else gY T r h
theorem fV {T:Tab}:∀ {l:List (Nat×Nat×Bool)} {h:Nat},(∀ x∈l,x.1≠h)→gY T l h=T h
 | [],_,_=>rfl
 | (g',g,ag)::r,h,hn=>by
   show (bif Nat.beq h g' then _ else _)=_
   have:Nat.beq h g'=false:=by
    have:=hn _ (List.mem_cons_self ..)
    simp only at this
    cases e:Nat.beq h g' with
    | false=>rfl
    | true=>exact absurd (Nat.eq_of_beq_eq_true e).symm this
   rw [this]
   exact fV fun x hx=>hn x (List.mem_cons_of_mem _ hx)
theorem jt {T:Tab}:∀ (l:List (Nat×Nat×Bool)) {h:Nat} {d:Def},gY T l h=some d→T h=some d∨∃ x∈l,x.1=h∧d=.jA (km T x.2.1 x.2.2)
 | [],_,_,e=>.inl e
 | (g',g,ag)::r,h,d,e=>by
   change (bif Nat.beq h g' then _ else _)=_ at e
   cases hb:Nat.beq h g' with
   | true=>
     rw [hb] at e
     have:=Nat.eq_of_beq_eq_true hb
     subst this
     cases e
     exact .inr ⟨(h,g,ag),List.mem_cons_self ..,rfl,rfl⟩
   | false=>
     rw [hb] at e
     rcases jt r e with k | ⟨x,hx,k⟩
     · exact .inl k
     · exact .inr ⟨x,List.mem_cons_of_mem _ hx,k⟩
theorem jE {T:Tab} (l:List (Nat×Nat×Bool)) (hn:∀ x∈l,T x.1=none):pS T (gY T l) where
 get:=fun g d h=>by
  rw [fV fun x hx e => ?_]
  · exact h
  · have:=hn x hx;rw [e,h] at this;cases this
 pure:=by
  funext g
  unfold ak
  by_cases hx:∃ x∈l,x.1=g
  · obtain ⟨x,hx,rfl⟩:=hx
    rw [hn x hx]
    cases e:gY T l x.1 with
    | none=>rfl
    | some d=>
      rcases jt l e with k | ⟨y,_,_,rfl⟩
      · rw [hn x hx] at k;cases k
      · rfl
  · rw [fV fun x hx' e=>hx ⟨x,hx',e⟩]
theorem u9 {T:Tab} (hT:dR P fm T) (hm:P.follows .mixedOrders=true) (l:List (Nat×Nat×Bool)) (hn:∀ x∈l,T x.1=none) (hf:∀ x∈l,∀ f,fm x.1=some f→fm x.2.1=some f):dR P fm (gY T l):=by
 intro g d f hd hfg
 rcases jt l hd with h | ⟨x,hx,rfl,rfl⟩
 · exact sw (jE l hn).pure (hT g d f h hfg)
 · exact H9 hT hm (jE l hn).pure (hf x hx f hfg) x.2.2
end
end Go.D
end
section
namespace Go.D
variable {T:Tab}
def pst (st:St) (H:List HO) (K:List Nat):St:=⟨st.heap++H,st.aQ++K,st.cur,st.heap.length,st.aQ.length⟩
theorem rK (st:St):st.enter=pst st [] []:=by
 simp [St.enter,pst]
def fin (st:St) (rs:List fv):Option (Ex×Fr×St)→Option (DV×St)
 | some (.exit _,_,_)=>none
 | some (.ret,fr,st')=>match eX st' fr rs with | some v=>(bD st st' v).map fun v'=>(v',st) | none=>none
 | some (.normal,fr,st')=>match eX st' fr rs with | some v=>(bD st st' v).map fun v'=>(v',st) | none=>none
 | none=>none
def vF (rs:List fv):Option (Ex×Fr×St)→Option (DV×St)
 | some (.exit _,_,_)=>none
 | some (.ret,fr,st')=>(eX st' fr rs).map fun v=>(v,st')
 | some (.normal,fr,st')=>(eX st' fr rs).map fun v=>(v,st')
 | none=>none
theorem av {g:Nat} {f:ai} (h:T g=some (.code f)) (hp:f.dn=true) (args:List DV) (st:St) :
 (E T).F g args st=fin st f.results ((E T).C f.body (bl args 0) (pst st [] [])):=by
 rw [EF]
 simp only [dy,h,hp,if_true,rK]
 rcases (E T).C f.body (bl args 0) (pst st [] []) with _ | ⟨e,fr,st'⟩
 · rfl
 · cases e<;>rfl
theorem gm {g:Nat} {f:ai} (h:T g=some (.code f)) (hp:f.dn=false) (args:List DV) (st:St) :
 (E T).F g args st=vF f.results ((E T).C f.body (bl args 0) st):=by
 rw [EF]
 simp only [dy,h,hp]
 rcases (E T).C f.body (bl args 0) st with _ | ⟨e,fr,st'⟩
 · rfl
 · cases e<;>rfl
@[simp] theorem ama (st:St) (rs:List fv) (fr:Fr) (st':St):fin st rs (some (.ret,fr,st'))=match eX st' fr rs with | some v=>(bD st st' v).map fun v'=>(v',st) | none=>none:=rfl
@[simp] theorem N0 (st:St) (rs:List fv) (fr:Fr) (st':St):fin st rs (some (.normal,fr,st'))=match eX st' fr rs with | some v=>(bD st st' v).map fun v'=>(v',st) | none=>none:=rfl
@[simp] theorem ahl (rs:List fv) (fr:Fr) (st':St):vF rs (some (.ret,fr,st'))=(eX st' fr rs).map fun v=>(v,st'):=rfl
@[simp] theorem M0 (rs:List fv) (fr:Fr) (st':St):vF rs (some (.normal,fr,st'))=(eX st' fr rs).map fun v=>(v,st'):=rfl
attribute [simp] eX dQ gu
@[simp] theorem ana (st st':St) (k:IntKind) (n:Int):aX st st' (.int k n)=some (.int k n):=rfl
@[simp] theorem al0 (st st':St) (b:Bool):aX st st' (.bool b)=some (.bool b):=rfl
@[simp] theorem aoa (st st':St) (s:List UInt8):aX st st' (.str s)=some (.str s):=rfl
@[simp] theorem al1 (st st':St):aX st st' .cm=some .cm:=rfl
@[simp] theorem abN (st st':St):aX st st' .br=some .br:=rfl
@[simp] theorem aep (st st':St):aX st st' .bK=some .bK:=rfl
@[simp] theorem alZ (st st':St) (cs:List DV):aX st st' (.bT cs)=some (.bT cs):=rfl
@[simp] theorem dJ (st st':St) (tag n:Nat) (tk:Tk) (nn:Bool) (xs:List DV):aX st st' (.list tag n tk nn xs)=some (.list tag n (match tk with | .own _ _=>.no | k=>k) nn xs):=rfl
@[simp] theorem ajU (st st':St):cK st st' []=some []:=rfl
@[simp] theorem ab3 (st st':St) (v:DV) (r:List DV):cK st st' (v::r)=match aX st st' v,cK st st' r with | some a,some b=>some (a::b) | _,_=>none:=rfl
@[simp] theorem alU (st st':St):dc st st' []=some []:=rfl
@[simp] theorem ab2 (st st':St) (v:DV) (r:List DV):dc st st' (v::r)=match bZ st st' v,dc st st' r with | some a,some b=>some (a::b) | _,_=>none:=rfl
@[simp] theorem ab8 (st st':St) (vs:List DV):bD st st' (.tuple vs)=(dc st st' vs).map .tuple:=rfl
@[simp] theorem amf (st st':St) (vs:List DV):bZ st st' (.agg vs)=(cK st st' vs).map .agg:=rfl
@[simp] theorem ami (st st':St) (k:IntKind) (n:Int):bZ st st' (.int k n)=some (.int k n):=rfl
@[simp] theorem aed (st st':St) (b:Bool):bZ st st' (.bool b)=some (.bool b):=rfl
@[simp] theorem al4 (st st':St) (s:List UInt8):bZ st st' (.str s)=some (.str s):=rfl
@[simp] theorem aj0 (st st':St):bZ st st' .cm=some .cm:=rfl
@[simp] theorem aex (st st':St) (tag n:Nat) (tk:Tk) (nn:Bool) (xs:List DV):bZ st st' (.list tag n tk nn xs)=aX st st' (.list tag n tk nn xs):=rfl
@[simp] theorem amb (st st':St) (n:Nat) (ag:Bool) (b off len:Nat) (cap:Option Nat):bZ st st' (.hsl n ag b off len cap)=aX st st' (.hsl n ag b off len cap):=rfl
@[simp] theorem al8 (st st':St) (k:IntKind) (n:Int):bD st st' (.int k n)=some (.int k n):=rfl
@[simp] theorem ali (st st':St) (b:Bool):bD st st' (.bool b)=some (.bool b):=rfl
@[simp] theorem amj (st st':St) (s:List UInt8):bD st st' (.str s)=some (.str s):=rfl
@[simp] theorem aeF (st st':St):bD st st' .cm=some .cm:=rfl
@[simp] theorem al2 (st st':St) (vs:List DV):bD st st' (.agg vs)=(cK st st' vs).map .agg:=rfl
@[simp] theorem ads (st st':St) (tag n:Nat) (tk:Tk) (nn:Bool) (xs:List DV):bD st st' (.list tag n tk nn xs)=aX st st' (.list tag n tk nn xs):=rfl
@[simp] theorem amo (st st':St) (n:Nat) (ag:Bool) (b off len:Nat) (cap:Option Nat):bD st st' (.hsl n ag b off len cap)=aX st st' (.hsl n ag b off len cap):=rfl
@[simp] theorem aef (st:St) (H:List HO) (K:List Nat) (o:HO):(pst st H K).push o=pst st (H++[o]) K:=by simp [pst,St.push]
@[simp] theorem amn (st:St) (H:List HO) (K:List Nat):(pst st H K).heap.length=st.heap.length+H.length:=by simp [pst]
@[simp] theorem amp (st:St) (H:List HO) (K:List Nat):(pst st H K).cur=st.cur:=rfl
@[simp] theorem xu (st:St) (H:List HO) (K:List Nat):(pst st H K).base=st.heap.length:=rfl
@[simp] theorem abM (st:St) (H:List HO) (K:List Nat):(pst st H K).aU=st.aQ.length:=rfl
theorem ua {α:Type} (J H:List α) (k:Nat):(J++H)[J.length+k]? = H[k]?:=by
 rw [List.getElem?_append_right (Nat.le_add_right _ _),Nat.add_sub_cancel_left]
@[simp high] theorem gO (st:St) (H:List HO) (K:List Nat) (k:Nat):(pst st H K).heap[st.heap.length+k]? = H[k]?:=ua _ _ _
@[simp high] theorem JV (st:St) (H:List HO) (K:List Nat) (k:Nat):(pst st H K).aQ[st.aQ.length+k]? = K[k]?:=ua _ _ _
def rowAt (H:List HO) (k:Nat):Option (CK×List DV):=match H[k]? with | some (.cells g vs)=>some (g,vs) | _=>none
@[simp] theorem PB (g:CK) (vs:List DV) (H:List HO):rowAt (.cells g vs::H) 0=some (g,vs):=rfl
@[simp] theorem Qn (o:HO) (H:List HO) (k:Nat):rowAt (o::H) (k+1)=rowAt H k:=rfl
@[simp] theorem abK (g:CK) (vs:List DV) (J H:List HO):rowAt (J++.cells g vs::H) J.length=some (g,vs):=by simp [rowAt]
@[simp] theorem YB (o:HO) (J H:List HO) (k:Nat):rowAt (J++o::H) (J.length+(k+1))=rowAt H k:=by
  unfold rowAt
  rw [ua]
  rfl
@[simp] theorem sm (st:St) (H:List HO) (K:List Nat) (k:Nat):(pst st H K).cells (st.heap.length+k)=rowAt H k:=by
  unfold St.cells rowAt
  rw [gO]
  rfl
@[simp] theorem QJ (st:St) (H:List HO) (K:List Nat):(pst st H K).cells st.heap.length=rowAt H 0:=by simpa using sm st H K 0
@[simp] theorem B4 (st:St) (H:List HO) (K:List Nat) (k n off:Nat) (v:DV):lJ (pst st H K) n (.ptr (st.heap.length+k) off) v =
 match rowAt H k with
 | some (g,vs)=>if g.wr=true∧v.leaves.length=n∧off+n≤vs.length∧v.leaves.all DV.bg=true then some (pst st (H.set k (.cells g (bV vs off v.leaves))) K) else none
 | none=>none:=by
 unfold lJ St.lG
 simp only [sm,xu]
 cases h:rowAt H k with
 | none=>rfl
 | some p=>
   obtain ⟨g,vs⟩:=p
   have hk:k<H.length:=by
    unfold rowAt at h
    split at h
    · rename_i e;exact (List.getElem?_eq_some_iff.1 e).1
    · cases h
   cases hw:g.wr
   · simp [hw]
   · simp only [hw,if_true,true_and,Nat.le_add_right]
     split
     · rename_i hc
       simp [pst,List.set_append_right]
     · rfl
@[simp] theorem UK (st:St) (H:List HO) (K:List Nat) (n off:Nat) (v:DV):lJ (pst st H K) n (.ptr st.heap.length off) v =
 match rowAt H 0 with
 | some (g,vs)=>if g.wr=true∧v.leaves.length=n∧off+n≤vs.length∧v.leaves.all DV.bg=true then some (pst st (H.set 0 (.cells g (bV vs off v.leaves))) K) else none
 | none=>none:=B4 st H K 0 n off v
attribute [simp] bV CK.wr jb
@[simp] theorem agt (k:IntKind) (n:Int):(DV.int k n).bg=true:=rfl
@[simp] theorem ab9 (b:Bool):(DV.bool b).bg=true:=rfl
@[simp] theorem ajz (s:List UInt8):(DV.str s).bg=true:=rfl
@[simp] theorem ah1 (b o:Nat):(DV.ptr b o).bg=true:=rfl
@[simp] theorem ab7:DV.cm.bg=true:=rfl
@[simp] theorem ab5 (cs:List DV):(DV.bT cs).bg=true:=rfl
@[simp] theorem ab4 (t n:Nat) (tk:Tk) (nn:Bool) (xs:List DV):(DV.list t n tk nn xs).bg=true:=rfl
@[simp] theorem af8 (n:Nat) (ag:Bool) (b off len:Nat) (cap:Option Nat):(DV.hsl n ag b off len cap).bg=true:=rfl
@[simp] theorem afM (b:Nat):(DV.map b).bg=true:=rfl
@[simp] theorem MP:DV.br.bg=true:=rfl
@[simp] theorem alY (g:Nat) (a c:List DV):(DV.fn g a c).bg=true:=rfl
@[simp] theorem QO:DV.bK.bg=true:=rfl
@[simp] theorem VN (l:Nat):(DV.yield l).bg=true:=rfl
@[simp] theorem YA (b o:Nat):(DV.ptr b o).leaves=[.ptr b o]:=rfl
@[simp] theorem MW:DV.cm.leaves=[.cm]:=rfl
@[simp] theorem ZJ (n:Nat) (ag:Bool) (b off len:Nat) (cap:Option Nat):(DV.hsl n ag b off len cap).leaves=[.hsl n ag b off len cap]:=rfl
@[simp] theorem RZ (b:Nat):(DV.map b).leaves=[.map b]:=rfl
@[simp] theorem GX:DV.br.leaves=[.br]:=rfl
@[simp] theorem abY (g:Nat) (a c:List DV):(DV.fn g a c).leaves=[.fn g a c]:=rfl
@[simp] theorem Hh:DV.bK.leaves=[.bK]:=rfl
theorem DX (fr:Fr) (l:List Nat) (t:Nat):(fr.bq l).get t=if t∈l then fr.get t else .undef:=by
 induction l with
 | nil=>rfl
 | cons a l ih=>
   rw [CC]
   simp only [ED,List.mem_cons,ih]
   by_cases h:a=t
   · subst h;simp
   · have:t≠a:=fun e=>h e.symm
     simp [h,this]
theorem CP (fr:Fr) (l:List Nat):(fr.bq l).bq l=fr.bq l:=by
 unfold Fr.bq
 apply List.map_congr_left
 intro t ht
 have:=DX fr l t
 rw [if_pos ht] at this
 exact Prod.ext rfl this
theorem ka (live:List Nat) (a:RC) (fr:Fr) (st:St):(E T).C (.loop live a) fr st=(E T).C (.loop live a) (fr.bq live) st:=by
 rw [zo,zo live a (fr.bq live),CP]
theorem ab {L:RC} {live:List Nat} {a:RC} (h:L=.loop live a) (fr:Fr) (st:St) :
 (E T).C L fr st=match (E T).C a (fr.bq live) st with
  | some (.normal,fr',st')=>(E T).C L fr' st'
  | some (.exit i,fr',st')=>some (.exit i,fr',st')
  | some (.ret,fr',st')=>some (.ret,fr',st')
  | none=>none:=by
 subst h
 exact zo live a fr st
theorem IA {o:aj} {fr:Fr} {st st':St} {v:DV} (hq:aH (ak T) o.op=false) (h:(E T).N o fr st=some (v,st')):st'=st:=by
 have hF:∀ (g:Nat) (as_:List DV),ak T g=true→(E T).F g as_ st=some (v,st')→st'=st:=by
  intro g as_ hg h
  rw [EF] at h
  simp only [dy] at h
  unfold ak at hg
  split at h
  · cases h
  · rename_i e;rw [e] at hg;cases hg
  · simp only [Option.map_eq_some_iff,Prod.mk.injEq] at h
    obtain ⟨_,_,_,h⟩:=h
    exact h.symm
  · rename_i f e
    rw [e] at hg
    simp only at hg
    simp only [hg,if_true] at h
    split at h
    · cases h
    · split at h
      · simp only [Option.map_eq_some_iff,Prod.mk.injEq] at h
        obtain ⟨_,_,_,h⟩:=h
        exact h.symm
      · cases h
    · cases h
 rw [EN] at h
 simp only [ey] at h
 split at h
 · cases h
 · cases h;rfl
 · split at h
   · rename_i g args e
     rw [e] at hq
     exact hF g _ (by simpa [aH] using hq) h
   · rename_i e;rw [e] at hq;cases hq
   · rename_i f args e
     split at h
     · split at h
       · rename_i hg;exact hF _ _ hg h
       · cases h
     · cases h
   · exact ou hq h
@[simp] theorem aoC (fr:Fr) (st:St) (sts:List St):(E T).S [] fr st sts=some (fr,sts):=ES _ _ _ _ _
theorem bL (o:aj) (r:List aj) (fr:Fr) (st:St) (sts:List St) :
 (E T).S (o::r) fr st sts=match (E T).N o fr st with
  | some (v,st')=>if aH (ak T) o.op then (E T).S r (fr.put o.dst v) st' (st'::sts) else (E T).S r (fr.put o.dst v) st sts
  | none=>none:=ES _ _ _ _ _
theorem S_O:∀ (ops:List aj) (fr:Fr) (st:St) (sts:List St),((E T).S ops fr st (st::sts)).bind (fun p=>p.2.head?.map fun st'=>(p.1,st'))=(E T).O ops fr st
 | [],fr,st,sts=>by simp
 | o::r,fr,st,sts=>by
   rw [bL,Xb]
   cases e:(E T).N o fr st with
   | none=>rfl
   | some p=>
     obtain ⟨v,st'⟩:=p
     simp only
     cases hl:aH (ak T) o.op with
     | true=>simp only [if_true];exact S_O r _ st' (st::sts)
     | false=>
       obtain rfl:=IA hl e
       simp only [Bool.false_eq_true,if_false]
       exact S_O r _ st' sts
@[simp] theorem Ra (ops:List aj) (live:List Nat) (fr:Fr) (st:St):(E T).C (.au ops [] [] live) fr st=(E T).C (.region ops live) fr st:=by
  rw [DN,← S_O ops fr st [],EC]
  simp only [cT,il]
  cases e:(E T).S ops fr st [st] with
  | none=>rfl
  | some p=>
    obtain ⟨fr',sts⟩:=p
    have hA:(E T).A fr' ops sts.reverse []=true:=EA _ _ _ _ _
    simp only [hA,if_true,Option.bind_some]
    cases sts<;>rfl
theorem aF (ops:List aj) (c:Nat×List Nat) (chk:List (Nat×List Nat)) (live:List Nat) (fr:Fr) (st:St):(E T).C (.au ops [] (c::chk) live) fr st =
 match (E T).S ops fr st [st] with
 | some (fr',sts)=>if (E T).A fr' ops sts.reverse (c::chk)=true then (match sts with | st'::_=>some (.normal,fr'.bq live,st') | []=>none) else none
 | none=>none:=by
 rw [EC]
 simp only [cT,il]
 all_goals cases (E T).S ops fr st [st] with
 | none=>rfl
 | some p=>obtain ⟨fr',sts⟩:=p;rfl
@[simp] theorem aoD (fr:Fr) (ops:List aj) (sts:List St):(E T).A fr ops sts []=true:=EA _ _ _ _ _
theorem bQ (fr:Fr) (ops:List aj) (sts:List St) (i:Nat) (vs:List Nat) (r:List (Nat×List Nat)) :
 (E T).A fr ops sts ((i,vs)::r)=((match ops[i]? with | some o=>(E T).K fr o sts vs | none=>false)&&(E T).A fr ops sts r):=EA _ _ _ _ _
@[simp] theorem aoz (fr:Fr) (o:aj) (sts:List St):(E T).K fr o sts []=true:=EK _ _ _ _ _
theorem bP (fr:Fr) (o:aj) (sts:List St) (j:Nat) (r:List Nat) :
 (E T).K fr o sts (j::r)=((match sts[j]? with
  | some st=>(match (E T).N o fr st,o.dst with | some (v,_),some d=>DV.beq v (fr.get d) | _,_=>false)
  | none=>false)&&(E T).K fr o sts r):=EK _ _ _ _ _
@[simp] theorem ab1 (v:DV):DV.beq v v=true:=DV.pe v
theorem cX {g:Nat} {f:ai} (h:T g=some (.code f)):ak T g=f.dn:=by unfold ak;rw [h]
def St.rF (st:St) (l:Nat) (o:HO):St:={ st with heap:=st.heap.set l o }
@[simp] theorem lU (st:St) (H:List HO) (K:List Nat) (k:Nat) (o:HO):(pst st H K).rF (st.heap.length+k) o=pst st (H.set k o) K:=by
  simp [St.rF,pst,List.set_append_right]
theorem Cf {g:Nat} {f:ai} (h:T g=some (.code f)):eA T g=true:=by unfold eA;rw [h]
theorem Bv {f:X} {params live:List Nat} {assign body:RC} {fr:Fr} {st:St} {g:Nat} {first captured:List DV} {F:ai} (hf:f.ev (fr.bq live)=.fn g first captured) (hg:T g=some (.code F)) :
 (E T).C (.eY f params assign body live) fr st =
  match (E T).F g (first++[.yield st.heap.length]++captured) (st.push (.loop ⟨fr.bq live,params,assign,body,0,none⟩)) with
  | some (_,st')=>
    match st'.heap[st.heap.length]? with
    | some (.loop lo)=>if lo.state=1 then none else
     match lo.pending with
     | none=>some (.normal,fr.bq live,st'.rF st.heap.length (.loop { lo with state:=3 }))
     | some e=>some (e,fr.bq live,st'.rF st.heap.length (.loop { lo with state:=3 }))
    | _=>none
  | none=>none:=by
 rw [EC]
 simp only [cT,hf,Cf hg,if_true]
 rfl
theorem dT (g:Nat) (first captured args:List DV) (st:St):(E T).V (.fn g first captured) args st=(E T).F g (first++args++captured) st:=EV _ _ _ _
theorem Ao {st:St} {H:List HO} {K:List Nat} {k:Nat} {lo:mE} {args:List DV} (h:H[k]? = some (.loop lo)) (hl:args.length=lo.params.length) :
 (E T).V (.yield (st.heap.length+k)) args (pst st H K) =
  match (E T).C lo.assign (da lo.fr lo.params args) (pst st H K) with
  | some (.normal,fr1,st1)=>
    match st1.heap[st.heap.length+k]? with
    | some (.loop lo1)=>
      if lo1.state=0 then
       match (E T).C lo.body fr1 (st1.rF (st.heap.length+k) (.loop { lo1 with state:=1 })) with
       | some (.normal,_,st2)=>
         match st2.heap[st.heap.length+k]? with
         | some (.loop lo2)=>some (.bool true,st2.rF (st.heap.length+k) (.loop { lo2 with state:=0,pending:=none }))
         | _=>none
       | some (.exit i,_,st2)=>
         match st2.heap[st.heap.length+k]? with
         | some (.loop lo2)=>some (.bool false,st2.rF (st.heap.length+k) (.loop { lo2 with state:=2,pending:=some (.exit i) }))
         | _=>none
       | some (.ret,_,st2)=>
         match st2.heap[st.heap.length+k]? with
         | some (.loop lo2)=>some (.bool false,st2.rF (st.heap.length+k) (.loop { lo2 with state:=2,pending:=some .ret }))
         | _=>none
       | none=>none
      else none
    | _=>none
  | _=>none:=by
 rw [EV]
 simp only [jz,gO,h,xu,Nat.le_add_right,hl,and_self,if_true]
 rcases (E T).C lo.assign (da lo.fr lo.params args) (pst st H K) with _ | ⟨e,fr1,st1⟩
 · rfl
 · cases e<;>try rfl
   simp only
   cases e1:st1.heap[st.heap.length+k]? with
   | none=>rfl
   | some o=>
     cases o<;>try rfl
     simp only
     split
     · rename_i lo1 h0
       show (match (E T).C lo.body fr1 (st1.rF (st.heap.length+k) (.loop { lo1 with state:=1 })) with | some (e,_,st2)=>_ | none=>none)=_
       rcases (E T).C lo.body fr1 (st1.rF (st.heap.length+k) (.loop { lo1 with state:=1 })) with _ | ⟨e,fr2,st2⟩
       · rfl
       · cases e<;>rfl
     · rfl
@[simp] theorem ahX (f:X) (args:List X) (fr:Fr) (st:St):opE T (.bC f args) fr st=(E T).V (f.ev fr) (args.map (X.ev fr)) st:=rfl
attribute [simp] da
def qA (tk:Tk) (len lo hi:Nat):Tk:=if hi=len then (if lo=0 then tk else if tk=.tight then .tight else .no) else .no
theorem ff {k:IntKind} {i:Int} {m:Nat} (h0:0≤i) (h1:i≤m):bnd (.int k i) m=some i.toNat:=by
 simp [bnd,h0,h1]
theorem wW {n en t:Nat} {tk:Tk} {nn:Bool} {xs:List DV} {k k':IntKind} {lo hi:Int} (hn:nn=true→en=n) (h0:0≤lo) (h1:lo≤hi) (h2:hi≤xs.length) :
 bF false n (.list t en tk nn xs) (some (.int k lo)) (some (.int k' hi)) none=some (.list t en (qA tk xs.length lo.toNat hi.toNat) nn ((xs.drop lo.toNat).take (hi.toNat-lo.toNat))):=by
 have e1:¬ (nn=true∧en≠n):=fun h=>h.2 (hn h.1)
 simp [bF,e1,ff (k:=k') (show 0≤hi by omega) h2,ff (k:=k) (m:=hi.toNat) h0 (by omega),qA]
theorem l8 {n en t:Nat} {tk:Tk} {nn:Bool} {xs:List DV} {k:IntKind} {lo:Int} (hn:nn=true→en=n) (h0:0≤lo) (h2:lo≤xs.length) :
 bF false n (.list t en tk nn xs) (some (.int k lo)) none none=some (.list t en (qA tk xs.length lo.toNat xs.length) nn (xs.drop lo.toNat)):=by
 have e1:¬ (nn=true∧en≠n):=fun h=>h.2 (hn h.1)
 have e:(xs.drop lo.toNat).take (xs.length-lo.toNat)=xs.drop lo.toNat:=List.take_of_length_le (by simp)
 simp [bF,e1,ff (k:=k) (m:=xs.length) h0 (by omega),qA,e]
theorem L8 {n en t:Nat} {tk:Tk} {nn:Bool} {xs:List DV} {k:IntKind} {hi:Int} (hn:nn=true→en=n) (h0:0≤hi) (h2:hi≤xs.length) :
 bF false n (.list t en tk nn xs) none (some (.int k hi)) none=some (.list t en (qA tk xs.length 0 hi.toNat) nn (xs.take hi.toNat)):=by
 have e1:¬ (nn=true∧en≠n):=fun h=>h.2 (hn h.1)
 simp [bF,e1,ff (k:=k) (m:=xs.length) h0 (by omega),qA]
theorem D3 {n:Nat} {s:List UInt8} {k k':IntKind} {lo hi:Int} (h0:0≤lo) (h1:lo≤hi) (h2:hi≤s.length) :
 bF true n (.str s) (some (.int k lo)) (some (.int k' hi)) none=some (.str ((s.drop lo.toNat).take (hi.toNat-lo.toNat))):=by
 simp [bF,ff (k:=k') (show 0≤hi by omega) h2,ff (k:=k) (m:=hi.toNat) h0 (by omega)]
theorem MA {n:Nat} {s:List UInt8} {k:IntKind} {lo:Int} (h0:0≤lo) (h2:lo≤s.length) :
 bF true n (.str s) (some (.int k lo)) none none=some (.str (s.drop lo.toNat)):=by
 have e:(s.drop lo.toNat).take (s.length-lo.toNat)=s.drop lo.toNat:=List.take_of_length_le (by simp)
 simp [bF,ff (k:=k) (m:=s.length) h0 (by omega),e]
theorem vX {n:Nat} {s:List UInt8} {k:IntKind} {hi:Int} (h0:0≤hi) (h2:hi≤s.length) :
 bF true n (.str s) none (some (.int k hi)) none=some (.str (s.take hi.toNat)):=by
 simp [bF,ff (k:=k) (m:=s.length) h0 (by omega)]
@[simp] theorem PE (k:IntKind) (n:Int):(DV.int k n).aP=.int k n:=rfl
@[simp] theorem Nd (b:Bool):(DV.bool b).aP=.bool b:=rfl
@[simp] theorem Zv (s:List UInt8):(DV.str s).aP=.str s:=rfl
@[simp] theorem Nh:DV.cm.aP=.cm:=rfl
@[simp] theorem abZ (t n:Nat) (nn:Bool) (xs:List DV):(DV.list t n .no nn xs).aP=.list t n .no nn xs:=rfl
@[simp] theorem HC (t n:Nat) (nn:Bool) (xs:List DV):(DV.list t n .tight nn xs).aP=.list t n .tight nn xs:=rfl
@[simp] theorem QE (t n a b:Nat) (nn:Bool) (xs:List DV):(DV.list t n (.own a b) nn xs).aP=.list t n .no nn xs:=rfl
@[simp] theorem aic (k:IntKind) (n:Int):(DV.int k n).pure=true:=rfl
@[simp] theorem abL (b:Bool):(DV.bool b).pure=true:=rfl
@[simp] theorem aiv (s:List UInt8):(DV.str s).pure=true:=rfl
@[simp] theorem abO:DV.cm.pure=true:=rfl
@[simp] theorem amh (t n:Nat) (nn:Bool) (xs:List DV):(DV.list t n .no nn xs).pure=true:=rfl
@[simp] theorem Xl (t n:Nat) (nn:Bool) (xs:List DV):(DV.list t n .tight nn xs).pure=true:=rfl
def dq (n:Nat) (ag:Bool) (y:DV):Prop:=y.leaves.length=n∧y.leaves.all DV.pure=true∧(if ag then y=.agg y.leaves else y.leaves=[y])
theorem wG {v:DV} (h:v.pure=true):v.aP=v:=by
 cases v<;>first | rfl | (rename_i t n tk nn xs;cases tk<;>first | rfl | (simp [DV.pure] at h))
theorem dM:∀ {vs:List DV},vs.all DV.pure=true→vs.map DV.aP=vs
 | [],_=>rfl
 | v::r,h=>by
   rw [List.all_cons,Bool.and_eq_true] at h
   rw [List.map_cons,wG h.1,dM h.2]
theorem jf {n:Nat} {ag:Bool} {ys:List DV} (h:∀ y∈ys,dq n ag y):(flat ys).all DV.pure=true:=by
 rw [List.all_eq_true]
 intro v hv
 obtain ⟨y,hy,hv⟩:=List.mem_flatMap.1 hv
 exact List.all_eq_true.1 (h y hy).2.1 v hv
theorem fH {n:Nat} {ag:Bool}:∀ {ys:List DV},(∀ y∈ys,dq n ag y)→chunk n ag ys.length (flat ys)=ys
 | [],_=>rfl
 | y::r,h=>by
   obtain ⟨h1,h2,h3⟩:=h y (List.mem_cons_self ..)
   have e:flat (y::r)=y.leaves++flat r:=by simp [flat]
   have ih:=fH (ys:=r) fun z hz=>h z (List.mem_cons_of_mem _ hz)
   rw [List.length_cons,chunk,e]
   have e1:(y.leaves++flat r).take n=y.leaves:=by rw [← h1];simp
   have e2:(y.leaves++flat r).drop n=flat r:=by rw [← h1];simp
   rw [e1,e2,ih]
   cases ag with
   | true=>simp only [if_true] at h3 ⊢;rw [← h3]
   | false=>simp only [Bool.false_eq_true,if_false] at h3 ⊢;rw [h3];rfl
theorem sQ {st:St} {n t:Nat} {tk:Tk} {ys:List DV}:cw st n (.list t n tk true ys)=some (ys.length,flat ys):=by simp [cw]
theorem wZ {st:St} {n n' t by_:Nat} {ag:Bool} {tk:Tk} {nn:Bool} {xs:List DV} {y:DV} (hy:cw st n y=some (0,[])):bt st n ag by_ (.list t n' tk nn xs) y=some (.list t n' tk nn xs,st):=by
 simp [bt,hy]
theorem oU {st:St} {H:List HO} {K:List Nat} {n n' t t' by_:Nat} {ag:Bool} {tk tk':Tk} {nn:Bool} {xs ys:List DV} (hx:nn=false∨(nn=true∧tk=.tight∧n'=n)) (hn:0<n) (hy:ys≠[]) (he:∀ y∈ys,dq n ag y)
 (hr:(xs.length+ys.length)*by_≤aw) (hr2:xs.length+ys.length≤aw) :
 bt (pst st H K) n ag by_ (.list t n' tk nn xs) (.list t' n tk' true ys)=some (.list st.cur n (.own (st.aQ.length+K.length) 0) true (xs++ys),pst st H (K++[0])):=by
 have hl:ys.length≠0:=fun h=>hy (List.length_eq_zero_iff.1 h)
 have hp:(flat ys).all DV.pure=true:=jf he
 have hc:=fH he
 have h0:¬ n=0:=by omega
 have h1:¬ (nn=true∧n'≠n):=by rcases hx with h | ⟨_,_,h⟩<;>simp [h]
 have h2:¬ ((xs.length+ys.length)*by_>aw):=by omega
 have h3:¬ (xs.length+ys.length>aw):=by omega
 simp only [bt,sQ,dM hp,hc,hl,h0,h1,h2,h3,hp,if_false,Bool.not_true,Bool.false_eq_true,or_false]
 rcases hx with rfl | ⟨rfl,rfl,_⟩<;>simp [pst]
theorem tF {st:St} {H:List HO} {K:List Nat} {n t t' by_ k s:Nat} {ag:Bool} {tk':Tk} {xs ys:List DV} (hk:K[k]? = some s) (hn:0<n) (hy:ys≠[]) (he:∀ y∈ys,dq n ag y)
 (hr:(xs.length+ys.length)*by_≤aw) (hr2:xs.length+ys.length≤aw) :
 bt (pst st H K) n ag by_ (.list t n (.own (st.aQ.length+k) s) true xs) (.list t' n tk' true ys)=some (.list st.cur n (.own (st.aQ.length+k) (s+1)) true (xs++ys),pst st H (K.set k (s+1))):=by
 have hl:ys.length≠0:=fun h=>hy (List.length_eq_zero_iff.1 h)
 have hp:(flat ys).all DV.pure=true:=jf he
 have hc:=fH he
 have h0:¬ n=0:=by omega
 have h2:¬ ((xs.length+ys.length)*by_>aw):=by omega
 have h3:¬ (xs.length+ys.length>aw):=by omega
 simp only [bt,sQ,dM hp,hc,hl,h0,h2,h3,hp,if_false,Bool.not_true,Bool.false_eq_true,or_false,ne_eq,not_true_eq_false,and_false]
 simp [hk]
 simp [pst,List.set_append_right]
def Acc (st:St) (K:List Nat) (n:Nat) (xs:List DV) (v:DV):Prop:=
 (xs=[]∧∃ t n' tk,v=.list t n' tk false [])∨∃ k s,v=.list st.cur n (.own (st.aQ.length+k) s) true xs∧K[k]? = some s
theorem bX (st:St) (K:List Nat) (n t n':Nat) (tk:Tk):Acc st K n [] (.list t n' tk false []):=.inl ⟨rfl,t,n',tk,rfl⟩
theorem dh {st:St} {H:List HO} {K:List Nat} {n t by_:Nat} {ag:Bool} {tk:Tk} {xs ys:List DV} {v:DV} (h:Acc st K n xs v) (hn:0<n) (hy:ys≠[]) (he:∀ y∈ys,dq n ag y)
 (hr:(xs.length+ys.length)*by_≤aw) (hr2:xs.length+ys.length≤aw) :
 ∃ v' K',bt (pst st H K) n ag by_ v (.list t n tk true ys)=some (v',pst st H K')∧Acc st K' n (xs++ys) v':=by
 rcases h with ⟨rfl,t,n',tk,rfl⟩ | ⟨k,s,rfl,hk⟩
 · exact ⟨_,_,oU (.inl rfl) hn hy he hr hr2,.inr ⟨K.length,0,rfl,by simp⟩⟩
 · refine ⟨_,_,tF hk hn hy he hr hr2,.inr ⟨k,s+1,rfl,?_⟩⟩
   have:=(List.getElem?_eq_some_iff.1 hk).1
   simp [this]
theorem gR {st:St} {K:List Nat} {n:Nat} {xs:List DV} {v:DV} {st':St} (h:Acc st K n xs v):∃ t n' tk nn,aX st st' v=some (.list t n' tk nn xs)∧(nn=false→xs=[])∧(nn=true→n'=n)∧(tk=.no∨nn=false):=by
 rcases h with ⟨rfl,t,n',tk,rfl⟩ | ⟨k,s,rfl,hk⟩
 · exact ⟨t,n',_,false,rfl,fun _=>rfl,(fun h=>by cases h),.inr rfl⟩
 · exact ⟨_,n,_,true,rfl,(fun h=>by cases h),fun _=>rfl,.inl rfl⟩
theorem bR {st:St} {K:List Nat} {n:Nat} {xs:List DV} {v:DV} (h:Acc st K n xs v):∃ t n' tk nn,v=.list t n' tk nn xs:=by
 rcases h with ⟨rfl,t,n',tk,rfl⟩ | ⟨k,s,rfl,hk⟩
 · exact ⟨_,_,_,_,rfl⟩
 · exact ⟨_,_,_,_,rfl⟩
theorem ar {n:Int} (h:-9223372036854775808≤n∧n≤9223372036854775807):IntKind.i64.wrap n=n:=IntWalk.i64_in n h
end Go.D
end
section
set_option linter.unusedSimpArgs false
set_option linter.unusedVariables false
set_option linter.unnecessarySimpa false
namespace Go.D.Tab
def gK (F:Nat→DV):List DV→Option DV
 | [.int .u8 (.ofNat c)]=>if c<256 then some (F c) else none
 | _=>none
theorem gF {g:Nat} {F:Nat→DV} (hr:((List.range 256).all fun c=>jW tree.get 1000 g [.int .u8 (.ofNat c)] st0 (F c))=true) (hf:∀ c,(F c).free=true):∀ as_ v,gK F as_=some v→Ran tree.get g as_ v:=by
 intro as_ v h
 unfold gK at h
 split at h
 · rename_i c
   split at h
   · rename_i hc
     injection h with h
     subst h
     exact FZ rfl (hf c) (List.all_eq_true.1 hr c (List.mem_range.2 hc))
   · cases h
 · cases h
def emL:List Nat:=[0,0,0,0,0,0,0,0,0,0,0,0,0,0,0,0,0,0,0,0,0,0,0,0,0,0,0,0,0,0,0,0,3,2,3,6,6,6,6,2,3,3,6,6,2,3,2,6,5,5,5,5,5,5,5,5,5,5,2,2,6,6,6,6,6,6,6,6,6,6,6,6,6,3,6,6,6,8,6,6,6,6,6,6,6,6,6,8,6,6,6,3,6,3,3,3,3,5,5,5,5,5,3,5,5,2,2,5,2,7,5,5,5,5,3,5,3,5,5,7,5,5,5,3,2,3,3,0,0,0,0,0,0,0,0,0,0,0,0,0,0,0,0,0,0,0,0,0,0,0,0,0,0,0,0,0,0,0,0,0,0,0,0,0,0,0,0,0,0,0,0,0,0,0,0,0,0,0,0,0,0,0,0,0,0,0,0,0,0,0,0,0,0,0,0,0,0,0,0,0,0,0,0,0,0,0,0,0,0,0,0,0,0,0,0,0,0,0,0,0,0,0,0,0,0,0,0,0,0,0,0,0,0,0,0,0,0,0,0,0,0,0,0,0,0,0,0,0,0,0,0,0,0,0,0,0]
def em (c:Nat):Int:=Int.ofNat (emL.getD c 0)
def emV (c:Nat):DV:=.int .i64 (em c)
def kdL:List Nat:=[0,6,7,8,0,0,0,0,0,4,0,0,0,0,0,0,0,0,0,0,0,0,0,0,0,0,0,0,0,0,0,5,3,2,2,2,2,2,2,2,2,2,2,2,2,2,2,2,2,2,2,2,2,2,2,2,2,2,2,2,2,2,2,2,2,1,1,1,1,1,1,1,1,1,1,1,1,1,1,1,1,1,1,1,1,1,1,1,1,1,1,2,2,2,2,2,2,1,1,1,1,1,1,1,1,1,1,1,1,1,1,1,1,1,1,1,1,1,1,1,1,1,1,2,2,2,2,0,0,0,0,0,0,0,0,0,0,0,0,0,0,0,0,0,0,0,0,0,0,0,0,0,0,0,0,0,0,0,0,0,0,0,0,0,0,0,0,0,0,0,0,0,0,0,0,0,0,0,0,0,0,0,0,0,0,0,0,0,0,0,0,0,0,0,0,0,0,0,0,0,0,0,0,0,0,0,0,0,0,0,0,0,0,0,0,0,0,0,0,0,0,0,0,0,0,0,0,0,0,0,0,0,0,0,0,0,0,0,0,0,0,0,0,0,0,0,0,0,0,0,0,0,0,0,0,0]
def kd (c:Nat):Int:=Int.ofNat (kdL.getD c 0)
def kdV (c:Nat):DV:=.int .i64 (kd c)
def r8 (c:Nat):Bool:=c==94||c==96||c==126
def Ca (c:Nat):DV:=.bool (r8 c)
theorem CF:((List.range 256).all fun c=>jW tree.get 1000 21 [.int .u8 (.ofNat c)] st0 (emV c))=true:=by kernel_rfl
theorem CV:((List.range 256).all fun c=>jW tree.get 1000 22 [.int .u8 (.ofNat c)] st0 (emV c))=true:=by kernel_rfl
theorem BJ:((List.range 256).all fun c=>jW tree.get 1000 68 [.int .u8 (.ofNat c)] st0 (kdV c))=true:=by kernel_rfl
theorem Cj:((List.range 256).all fun c=>jW tree.get 1000 58 [.int .u8 (.ofNat c)] st0 (kdV c))=true:=by kernel_rfl
theorem x6:((List.range 256).all fun c=>jW tree.get 1000 70 [.int .u8 (.ofNat c)] st0 (Ca c))=true:=by kernel_rfl
theorem zI:((List.range 256).all fun c=>jW tree.get 1000 59 [.int .u8 (.ofNat c)] st0 (Ca c))=true:=by kernel_rfl
def ie:List (Nat×(List DV→Option DV)):=[(21,gK emV),(22,gK emV),(68,gK kdV),(58,gK kdV),(70,gK Ca),(59,gK Ca)]
theorem pA:∀ x∈ie,∀ as_ v,x.2 as_=some v→Ran tree.get x.1 as_ v:=by
 intro x hx
 simp only [ie,List.mem_cons,List.not_mem_nil,or_false] at hx
 rcases hx with rfl | rfl | rfl | rfl | rfl | rfl
 · exact gF CF fun _=>rfl
 · exact gF CV fun _=>rfl
 · exact gF BJ fun _=>rfl
 · exact gF Cj fun _=>rfl
 · exact gF x6 fun _=>rfl
 · exact gF zI fun _=>rfl
theorem oM:∀ x∈ie,ak tree.get x.1=true:=by
 intro x hx
 simp only [ie,List.mem_cons,List.not_mem_nil,or_false] at hx
 rcases hx with rfl | rfl | rfl | rfl | rfl | rfl<;>kernel_rfl
def C4:List DV→Option DV
 | []=>some (.bool true)
 | _=>none
theorem B9 {g:Nat} (h:∃ n,jW tree.get n g [] st0 (.bool true)=true):∀ as_ v,C4 as_=some v→Ran tree.get g as_ v:=by
 intro as_ v e
 obtain ⟨n,h⟩:=h
 cases as_ with
 | nil=>cases e;exact FZ rfl rfl h
 | cons a r=>cases e
theorem vZ:jW tree.get 10000000 411 [] st0 (.bool true)=true:=by kernel_rfl
def known:List (Nat×(List DV→Option DV)):=[(411,C4)]++ie
def tab:Tab:=over tree.get known
theorem CG:∀ x∈known,∀ as_ v,x.2 as_=some v→Ran tree.get x.1 as_ v:=by
 intro x hx
 rcases List.mem_append.1 hx with hx | hx
 · simp only [List.mem_cons,List.not_mem_nil,or_false] at hx
   rcases hx with rfl
   · exact B9 ⟨_,vZ⟩
 · exact pA x hx
theorem xy:∀ x∈known,ak tree.get x.1=true:=by
 intro x hx
 rcases List.mem_append.1 hx with hx | hx
 · simp only [List.mem_cons,List.not_mem_nil,or_false] at hx
   rcases hx with rfl<;>kernel_rfl
 · exact oM x hx
theorem ahU:tab 411=some (.dN C4):=by kernel_rfl
theorem zz (st:St):(E tab).F 411 [] st=some (.bool true,st):=uA ahU rfl
@[simp] theorem Nj (n:Nat):¬ ((n:Int)<0):=by omega
theorem kG {H:List HO} {k:Nat} {x:CK×List DV} (h:rowAt H k=some x):k<H.length:=by
 unfold rowAt at h
 split at h
 · rename_i e;exact (List.getElem?_eq_some_iff.1 e).1
 · cases h
theorem yL {H X:List HO} {k:Nat} (h:k<H.length):rowAt (H++X) k=rowAt H k:=by
 unfold rowAt
 rw [List.getElem?_append_left h]
theorem mV {H:List HO} {k:Nat} (h:k<H.length) (g:CK) (vs:List DV):rowAt (H.set k (.cells g vs)) k=some (g,vs):=by
 unfold rowAt
 rw [List.getElem?_set_self h]
theorem cO {H:List HO} {k:Nat} {g:CK} {vs:List DV} (h:rowAt H k=some (g,vs)) (X:List HO):rowAt (H++X) k=some (g,vs):=by
 rw [yL (kG h),h]
theorem og {H X:List HO} (j:Nat):rowAt (H++X) (H.length+j)=rowAt X j:=by
 unfold rowAt
 rw [ua]
theorem ql {vs:List DV} {i:Nat} {x:DV} (h:i<vs.length):bV vs i [x]=vs.set i x:=by
 rw [List.set_eq_take_append_cons_drop,if_pos h]
 simp [bV]
theorem BT (st:St) (k:Nat):st.oD (st.heap.length+k)=false:=by
 unfold St.oD
 rw [List.getElem?_eq_none (Nat.le_add_right _ _)]
theorem wL {st:St} {H:List HO} {K:List Nat} {k:Nat} {g:CK} {vs:List DV} (h:rowAt H k=some (g,vs)):(pst st H K).heap[st.heap.length+k]? = some (.cells g vs):=by
 rw [gO]
 unfold rowAt at h
 split at h
 · rename_i e;simp only [Option.some.injEq,Prod.mk.injEq] at h;rw [e,h.1,h.2]
 · cases h
theorem vj {n:Nat} {ag:Bool}:∀ {ys:List DV},(∀ y∈ys,dq n ag y)→(flat ys).length=ys.length*n
 | [],_=>by simp [flat]
 | y::r,h=>by
   have h1:=(h y (List.mem_cons_self ..)).1
   have h2:=vj (ys:=r) fun z hz=>h z (List.mem_cons_of_mem _ hz)
   simp only [flat,List.flatMap_cons,List.length_append,h1,List.length_cons] at h2 ⊢
   rw [h2,Nat.succ_mul];omega
theorem xS {st:St} {H:List HO} {K:List Nat} {k n:Nat} {ag:Bool} {g:CK} {ys:List DV} {cap:Option Nat} (hr:rowAt H k=some (g,flat ys)) (hn:0<n) (hag:ag=true∨n=1) (he:∀ y∈ys,dq n ag y) :
 aX st (pst st H K) (.hsl n ag (st.heap.length+k) 0 ys.length cap)=some (.list st.cur n (if cap=some ys.length then .tight else .no) true ys):=by
 have hl:=vj he
 have hp:=jf he
 have hd:=dM hp
 simp only [aX,BT,Bool.false_eq_true,if_false,wL hr]
 have ht:(flat ys).take (ys.length*n)=flat ys:=List.take_of_length_le (by omega)
 simp only [List.drop_zero,ht,hd,hp,fH he]
 rw [if_pos ⟨Nat.le_add_right _ _,by omega,hn,hag,trivial⟩]
 rfl
theorem me (z:DV):∀ n,aR [z] n=List.replicate n z
 | 0=>rfl
 | n+1=>by rw [aR,me z n];rfl
theorem kQ:∀ (ys:List DV),(∀ y∈ys,dq 1 false y)→flat ys=ys
 | [],_=>rfl
 | y::r,h=>by
   have h1:=(h y (List.mem_cons_self ..)).2.2
   have h2:=kQ r fun z hz=>h z (List.mem_cons_of_mem _ hz)
   simp only [Bool.false_eq_true,if_false] at h1
   simp only [flat,List.flatMap_cons,h1] at h2 ⊢
   rw [h2];rfl
variable {T:Tab}
def fh (fr:Fr) (params:List Nat) (assign body:RC) (s:Nat) (q:Option Ex):mE:=⟨fr,params,assign,body,s,q⟩
def yT:Ex→Option Ex
 | .normal=>none
 | e=>some e
theorem v5 {st:St} {H H1 H2:List HO} {K K1 K2:List Nat} {k:Nat} {fr:Fr} {params:List Nat} {assign body:RC} {args:List DV} {fr1:Fr} {e:Ex}
 (h:H[k]? = some (.loop (fh fr params assign body 0 none))) (hl:args.length=params.length)
 (hA:(E T).C assign (da fr params args) (pst st H K)=some (.normal,fr1,pst st H1 K1)) (h1:H1[k]? = some (.loop (fh fr params assign body 0 none)))
 (hB:∃ fr2,(E T).C body fr1 (pst st (H1.set k (.loop (fh fr params assign body 1 none))) K1)=some (e,fr2,pst st H2 K2)) (h2:H2[k]? = some (.loop (fh fr params assign body 1 none))) :
 (E T).V (.yield (st.heap.length+k)) args (pst st H K)=some (.bool (yT e).isNone,pst st (H2.set k (.loop (fh fr params assign body (if (yT e).isNone then 0 else 2) (yT e)))) K2):=by
 obtain ⟨fr2,hB⟩:=hB
 rw [Ao h hl]
 have e1:(fh fr params assign body 0 none).assign=assign:=rfl
 have e2:(fh fr params assign body 0 none).params=params:=rfl
 have e3:(fh fr params assign body 0 none).fr=fr:=rfl
 have e4:(fh fr params assign body 0 none).state=0:=rfl
 have hB1:(E T).C (fh fr params assign body 0 none).body fr1 (pst st (H1.set k (.loop (fh fr params assign body 1 none))) K1)=some (e,fr2,pst st H2 K2):=hB
 rw [e1,e2,e3,hA]
 simp only [gO,h1,e4,if_true,lU]
 erw [hB1]
 cases e<;>simp only [gO,h2,lU]<;>rfl
theorem kj {st:St} {H H':List HO} {K K':List Nat} {f:X} {params live:List Nat} {assign body:RC} {fr:Fr} {g:Nat} {first captured:List DV} {F:ai} {v:DV} {s:Nat} {q:Option Ex} (hf:f.ev (fr.bq live)=.fn g first captured) (hg:T g=some (.code F))
 (hF:(E T).F g (first++[.yield (st.heap.length+H.length)]++captured) (pst st (H++[.loop (fh (fr.bq live) params assign body 0 none)]) K)=some (v,pst st H' K'))
 (h2:H'[H.length]? = some (.loop (fh (fr.bq live) params assign body s q))) (hs:s≠1) :
 (E T).C (.eY f params assign body live) fr (pst st H K)=some (q.getD .normal,fr.bq live,pst st (H'.set H.length (.loop (fh (fr.bq live) params assign body 3 q))) K'):=by
 rw [Bv hf hg]
 have e1:(pst st H K).heap.length=st.heap.length+H.length:=by simp
 have e2:(pst st H K).push (.loop (fh (fr.bq live) params assign body 0 none))=pst st (H++[.loop (fh (fr.bq live) params assign body 0 none)]) K:=by simp
 rw [e1]
 erw [e2]
 rw [hF]
 have e3:(fh (fr.bq live) params assign body s q).state=s:=rfl
 cases q with
 | none=>simp only [gO,h2,e3,hs,if_false,lU];rfl
 | some e=>simp only [gO,h2,e3,hs,if_false,lU];rfl
theorem yp {ops ops2:List aj} {hs:List Nat} {chk:List (Nat×List Nat)} {live:List Nat} {fr:Fr} {st st1:St} (h:il fr hs st ops=some (st1,ops2)):(E T).C (.au ops hs chk live) fr st =
 match (E T).S ops2 fr st1 [st1] with
 | some (fr',sts)=>if (E T).A fr' ops2 sts.reverse chk=true then (match sts with | st'::_=>some (.normal,fr'.bq live,st') | []=>none) else none
 | none=>none:=by
 rw [EC]
 simp only [cT,h]
 cases (E T).S ops2 fr st1 [st1] with
 | none=>rfl
 | some p=>obtain ⟨fr',sts⟩:=p;rfl
theorem nW {A B:RC} {f f':Fr} {S S':St} (h:(E T).C (.seq A B) f S=some (.normal,f',S')):∃ fu1 S1,(E T).C A f S=some (.normal,fu1,S1)∧(E T).C B fu1 S1=some (.normal,f',S'):=by
 rw [cg] at h
 split at h
 · rename_i fu1 S1 e;exact ⟨fu1,S1,e,h⟩
 · cases h
 · cases h
 · cases h
inductive Vw (st:St) (n:Nat) (ag:Bool) (xs:List DV):DV→Prop
 | list (t n':Nat) (tk:Tk) (nn:Bool) (h1:nn=true→n'=n) (h2:nn=false→xs=[]):Vw st n ag xs (.list t n' tk nn xs)
 | hsl (b off c:Nat) (g:CK) (vs:List DV) (hc:st.cells b=some (g,vs)) (hl:off+xs.length*n≤vs.length) (hx:(vs.drop off).take (xs.length*n)=flat xs) (hcap:xs.length≤c) :
  Vw st n ag xs (.hsl n ag b off xs.length (some c))
theorem Vw.oZ {st st':St} {n:Nat} {ag:Bool} {xs:List DV} {v:DV} (h:Vw st n ag xs v) (hs:∀ b g vs,st.cells b=some (g,vs)→st'.cells b=some (g,vs)):Vw st' n ag xs v:=by
 cases h with
 | list t n' tk nn h1 h2=>exact .list t n' tk nn h1 h2
 | hsl b off c g vs hc hl hx hcap=>exact .hsl b off c g vs (hs _ _ _ hc) hl hx hcap
theorem rT {st:St} {H:List HO} {K:List Nat} {b:Nat} {g:CK} {vs:List DV} (h:st.cells b=some (g,vs)):(pst st H K).cells b=some (g,vs):=by
 have h1:=jq h
 have hb:=(List.getElem?_eq_some_iff.1 h1).1
 unfold St.cells
 show (match (st.heap++H)[b]? with | some (.cells g vs)=>some (g,vs) | _=>none)=_
 rw [List.getElem?_append_left hb,h1]
theorem Vw.inn {st:St} {n:Nat} {ag:Bool} {xs:List DV} {v:DV} (h:Vw st n ag xs v) (H:List HO) (K:List Nat):Vw (pst st H K) n ag xs v:=h.oZ fun _ _ _=>rT
theorem Vw.out {st:St} {n:Nat} {ag:Bool} {xs:List DV} {v:DV} (h:Vw (pst st [] []) n ag xs v):Vw st n ag xs v:=h.oZ fun b g vs hc=>by
 have:(pst st [] []).cells b=st.cells b:=by unfold St.cells;simp only [pst,List.append_nil]
 rw [← this];exact hc
theorem Vw.app {st:St} {H:List HO} {K:List Nat} {n:Nat} {ag:Bool} {xs:List DV} {v:DV} (h:Vw (pst st H K) n ag xs v) (X:List HO) (K':List Nat):Vw (pst st (H++X) K') n ag xs v:=by
 refine h.oZ fun b g vs hc => ?_
 have h1:=jq hc
 have hb:=(List.getElem?_eq_some_iff.1 h1).1
 unfold St.cells
 change (st.heap++H)[b]? = _ at h1
 show (match (st.heap++(H++X))[b]? with | some (.cells g vs)=>some (g,vs) | _=>none)=_
 rw [← List.append_assoc,List.getElem?_append_left (show b<(st.heap++H).length from hb),h1]
def elP (n:Nat):DV→Nat→DV
 | .list _ _ _ _ xs,i=>.bT ((xs.getD i .undef).leaves)
 | .hsl _ _ b off _ _,i=>.ptr b (off+i*n)
 | _,_=>.undef
def faP (off:Nat):DV→DV
 | .ptr b o=>.ptr b (o+off)
 | .bT cs=>.bT (cs.drop off)
 | _=>.undef
section
variable {st:St} {H:List HO} {K:List Nat} {n:Nat} {ag:Bool} {xs:List DV} {v:DV}
theorem Vw.len (h:Vw st n ag xs v) (st':St):o7 st' .slice v=some (.int .i64 xs.length,st'):=by
 cases h<;>rfl
theorem Vw.aK (h:Vw st n ag xs v) {i:Nat} (hi:i<xs.length) (k:IntKind) (st':St):gZ st' n v (.int k i)=some (elP n v i,st'):=by
 cases h with
 | list t n' tk nn h1 h2=>
   cases nn with
   | false=>rw [h2 rfl] at hi;cases hi
   | true=>simp [h1 rfl,hi,elP,List.getD_eq_getElem?_getD]
 | hsl b off c g vs hc hl hx hcap=>
   simp [hi,elP]
theorem Fx (he:∀ x∈xs,dq n ag x):∀ {i:Nat} {x:DV},xs[i]? = some x→((flat xs).drop (i*n)).take n=x.leaves:=by
 induction xs with
 | nil=>intro i x h;cases h
 | cons y r ih=>
   intro i x h
   have hy:=(he y (List.mem_cons_self ..)).1
   have e:flat (y::r)=y.leaves++flat r:=by simp [flat]
   rw [e]
   cases i with
   | zero=>
     simp only [List.getElem?_cons_zero,Option.some.injEq] at h
     subst h
     simp [← hy]
   | succ i=>
     rw [List.getElem?_cons_succ] at h
     rw [Nat.succ_mul,Nat.add_comm,← List.drop_drop,← hy]
     simp only [List.drop_left]
     rw [hy]
     exact ih (fun z hz=>he z (List.mem_cons_of_mem _ hz)) h
theorem jI {off:Nat} {vs:List DV} (he:∀ x∈xs,dq n ag x) (hl:off+xs.length*n≤vs.length) (hx:(vs.drop off).take (xs.length*n)=flat xs) {i:Nat} {x:DV} (h:xs[i]? = some x) :
 (vs.drop (off+i*n)).take n=x.leaves∧off+i*n+n≤vs.length:=by
 have hi:=(List.getElem?_eq_some_iff.1 h).1
 have h1:=Fx he h
 have hle:(i+1)*n≤xs.length*n:=Nat.mul_le_mul_right _ hi
 rw [Nat.succ_mul] at hle
 refine ⟨?_,by omega⟩
 rw [← h1,← hx,List.drop_take,List.drop_drop,List.take_take]
 congr 1
 omega
theorem Vw.load (h:Vw st n ag xs v) (he:∀ x∈xs,dq n ag x) (ha:ag=true) {i:Nat} {x:DV} (hx:xs[i]? = some x):cF st n true (elP n v i)=some x:=by
 have hm:=he x (List.mem_of_getElem? hx)
 have hxl:x=.agg x.leaves:=by have:=hm.2.2;rw [ha] at this;exact this
 cases h with
 | list t n' tk nn h1 h2=>
   simp only [elP,cF,takeN,List.getD_eq_getElem?_getD,hx,Option.getD_some,if_true,Nat.zero_add]
   rw [if_pos (by rw [hm.1];exact Nat.le_refl _),List.drop_zero,List.take_of_length_le (by rw [hm.1];exact Nat.le_refl _),← hxl]
 | hsl b off c g vs hc hl hxx hcap=>
   obtain ⟨h1,h2⟩:=jI he hl hxx hx
   simp only [elP,cF,takeN,hc,if_true,h1]
   rw [if_pos h2,← hxl]
theorem Vw.fy (h:Vw st n ag xs v) (he:∀ x∈xs,dq n ag x) {i:Nat} (hi:i<xs.length) {off:Nat} (ho:off≤n) (st':St):kg st' off (elP n v i)=some (faP off (elP n v i),st'):=by
 have hx:xs[i]? = some xs[i]:=List.getElem?_eq_getElem hi
 have hm:=he _ (List.getElem_mem hi)
 cases h with
 | list t n' tk nn h1 h2=>
   simp only [elP,kg,faP,List.getD_eq_getElem?_getD,hx,Option.getD_some]
   rw [if_pos (by rw [hm.1];exact ho)]
 | hsl b off c g vs hc hl hxx hcap=>simp [elP,faP]
theorem Vw.Al (h:Vw st n ag xs v) (he:∀ x∈xs,dq n ag x) {i:Nat} {x:DV} (hx:xs[i]? = some x) {off:Nat} {y:DV} (ho:x.leaves[off]? = some y):cF st 1 false (faP off (elP n v i))=some y:=by
 have hm:=he x (List.mem_of_getElem? hx)
 have hlt:off<n:=by have:=(List.getElem?_eq_some_iff.1 ho).1;rw [hm.1] at this;exact this
 cases h with
 | list t n' tk nn h1 h2=>
   simp only [elP,faP,cF,takeN,List.getD_eq_getElem?_getD,hx,Option.getD_some,Bool.false_eq_true,if_false]
   rw [List.getElem?_drop];simpa using ho
 | hsl b off' c g vs hc hl hxx hcap=>
   obtain ⟨h1,h2⟩:=jI he hl hxx hx
   simp only [elP,faP,cF,takeN,hc,Bool.false_eq_true,if_false]
   rw [← h1,List.getElem?_take_of_lt hlt,List.getElem?_drop] at ho
   exact ho
theorem Vw.news (h:Vw st n ag xs v):cw st n v=some (xs.length,flat xs):=by
 cases h with
 | list t n' tk nn h1 h2=>
   cases nn with
   | false=>simp [cw,h2 rfl,flat]
   | true=>simp [cw,h1 rfl]
 | hsl b off c g vs hc hl hx hcap=>simp [cw,hc,hl,hx]
theorem Vw.slice (h:Vw st n ag xs v) (hn:0<n) (he:∀ x∈xs,dq n ag x) {lo hi:Nat} (h1:lo≤hi) (h2:hi≤xs.length) (k k':IntKind) :
 ∃ v',bF false n v (some (.int k lo)) (some (.int k' hi)) none=some v'∧Vw st n ag ((xs.drop lo).take (hi-lo)) v':=by
 cases h with
 | list t n' tk nn g1 g2=>
   refine ⟨_,wW g1 (by omega) (by omega) (by omega),?_⟩
   simp only [Int.toNat_natCast]
   exact .list _ _ _ _ g1 fun e=>by rw [g2 e];simp
 | hsl b off c g vs hc hl hx hcap=>
   have hb1:bnd (.int k' (hi:Int)) c=some hi:=by rw [ff (by omega) (by omega)];simp
   have hb2:bnd (.int k (lo:Int)) hi=some lo:=by rw [ff (by omega) (by omega)];simp
   refine ⟨_,by simp only [bF,if_true,Option.isSome_none,Bool.false_eq_true,if_false,hb1,hb2];rfl,?_⟩
   have hlen:((xs.drop lo).take (hi-lo)).length=hi-lo:=by simp;omega
   by_cases hcl:c=lo
   · have e0:hi-lo=0:=by omega
     rw [if_pos hcl]
     have h3:=Vw.hsl (st:=st) (n:=n) (ag:=ag) (xs:=(xs.drop lo).take (hi-lo)) b off (c-lo) g vs hc (by rw [hlen,e0];omega) (by rw [hlen,e0];simp [flat]) (by rw [hlen];omega)
     rw [hlen] at h3;exact h3
   · rw [if_neg hcl]
     have hmul:lo*n+(hi-lo)*n≤xs.length*n:=by rw [← Nat.add_mul];exact Nat.mul_le_mul_right _ (by omega)
     have fl:∀ (ys:List DV),(∀ y∈ys,dq n ag y)→∀ k,(flat ys).take (k*n)=flat (ys.take k)∧(flat ys).drop (k*n)=flat (ys.drop k):=by
      intro ys
      induction ys with
      | nil=>intro _ k;simp [flat]
      | cons y r ih=>
        intro hy k
        have e:flat (y::r)=y.leaves++flat r:=by simp [flat]
        have hly:=(hy y (List.mem_cons_self ..)).1
        cases k with
        | zero=>simp [flat]
        | succ k=>
          have:=ih (fun z hz=>hy z (List.mem_cons_of_mem _ hz)) k
          rw [e,Nat.succ_mul,Nat.add_comm (k*n)]
          constructor
          · rw [List.take_append,List.take_of_length_le (by omega),hly,show n+k*n-n=k*n by omega,this.1];simp [flat]
          · rw [← List.drop_drop,← hly,List.drop_left,hly,this.2,List.drop_succ_cons]
     have h3:=Vw.hsl (st:=st) (n:=n) (ag:=ag) (xs:=(xs.drop lo).take (hi-lo)) b (off+lo*n) (c-lo) g vs hc (by rw [hlen];omega) (by
      rw [hlen,← (fl _ (fun y hy=>he y (List.mem_of_mem_drop hy)) _).1,← (fl xs he _).2,← hx,List.drop_take,List.drop_drop,List.take_take]
      congr 1
      rw [Nat.min_eq_left (by omega)]) (by rw [hlen];omega)
     rw [hlen] at h3;exact h3
end
theorem FJ {n b off len c hi:Nat} {ag:Bool} {k:IntKind} (h:hi≤c):bF false n (.hsl n ag b off len (some c)) none (some (.int k hi)) none=some (.hsl n ag b off hi (some c)):=by
 have hb:bnd (.int k (hi:Int)) c=some hi:=by rw [ff (by omega) (by omega)];simp
 simp [bF,hb]
inductive Lw (n:Nat) (xs:List DV):DV→Prop
 | list (t n':Nat) (tk:Tk) (nn:Bool) (h1:nn=true→n'=n) (h2:nn=false→xs=[]):Lw n xs (.list t n' tk nn xs)
theorem Lw.vw {st:St} {n:Nat} {ag:Bool} {xs:List DV} {w:DV} (h:Lw n xs w):Vw st n ag xs w:=by
 cases h with | list t n' tk nn h1 h2=>exact .list t n' tk nn h1 h2
theorem Lw.ex {st st':St} {n:Nat} {xs:List DV} {w:DV} (h:Lw n xs w):∃ w',aX st st' w=some w'∧bZ st st' w=some w'∧bD st st' w=some w'∧Lw n xs w':=by
 cases h with | list t n' tk nn h1 h2=>exact ⟨_,rfl,rfl,rfl,.list _ _ _ _ h1 h2⟩
theorem F9 {st:St} {H:List HO} {K:List Nat} {n t n' by_:Nat} {ag:Bool} {tk:Tk} {xs:List DV} {v:DV} (hv:Vw (pst st H K) n ag xs v) (he:∀ x∈xs,dq n ag x) (hx:xs≠[]) (hn:0<n) (hr:xs.length*by_≤aw) (hr2:xs.length≤aw) :
 bt (pst st H K) n ag by_ (.list t n' tk false []) v=some (.list st.cur n (.own (st.aQ.length+K.length) 0) true xs,pst st H (K++[0])):=by
 have hl:xs.length≠0:=fun h=>hx (List.length_eq_zero_iff.1 h)
 have hp:=jf he
 have hc:=fH he
 have h0:¬ n=0:=by omega
 have h2:¬ ((0+xs.length)*by_>aw):=by rw [Nat.zero_add];omega
 have h3:¬ (0+xs.length>aw):=by omega
 simp only [bt,Vw.news hv,dM hp,hc,hl,h0,List.length_nil,h2,h3,hp,if_false,Bool.not_true,Bool.false_eq_true,or_false,false_and]
 simp [pst]
theorem B5 {st:St} {n t n' by_:Nat} {ag:Bool} {tk:Tk} {nn:Bool} {ys:List DV} {v:DV} (hv:Vw st n ag [] v):bt st n ag by_ (.list t n' tk nn ys) v=some (.list t n' tk nn ys,st):=by
 refine wZ ?_
 have:=Vw.news hv
 simpa [flat] using this
theorem amS:tab 51=some (.code f51):=by kernel_rfl
theorem am0:tab 30=some (.code f30):=by kernel_rfl
theorem aoq:tab 37=some (.code f37):=by kernel_rfl
theorem anM:tab 31=some (.code f31):=by kernel_rfl
theorem anf:tab 38=some (.code f38):=by kernel_rfl
theorem aal:tab 17=some (.code f17):=by kernel_rfl
theorem anu:tab 21=some (.dN (gK emV)):=by kernel_rfl
theorem anR:tab 22=some (.dN (gK emV)):=by kernel_rfl
theorem nk (n:Int) (st:St):(E tab).F 51 [.int .i64 n] st=some (.bool (decide (1≤n∧n≤64)),st):=by
 refine gj (e:=.ret) (fr:=[(2,.bool (decide (1≤n∧n≤64)))]) (st':=st.enter) (v:=.bool (decide (1≤n∧n≤64))) _ _ amS rfl ?_ (.inl rfl) rfl rfl
 by_cases h1:1≤n<;>by_cases h2:n≤64 <;>
 simp [f51,h1,h2]
theorem aok (c:UInt8) (st:St):(E tab).F 21 [.int .u8 (c.toNat:Int)] st=some (.int .i64 (em c.toNat),st):=
 uA anu (by show (if c.toNat<256 then some (emV c.toNat) else _)=_;rw [if_pos (by exact c.toNat_lt)];rfl)
theorem anz (c:UInt8) (st:St):(E tab).F 22 [.int .u8 (c.toNat:Int)] st=some (.int .i64 (em c.toNat),st):=
 uA anR (by show (if c.toNat<256 then some (emV c.toNat) else _)=_;rw [if_pos (by exact c.toNat_lt)];rfl)
def wd (c:UInt8) (size:Int):Int:=IntKind.i64.wrap ((IntKind.i64.wrap (em c.toNat*size)).tdiv 8)
theorem wz (c:UInt8) (n:Int) (st:St):(E tab).F 30 [.int .u8 (c.toNat:Int),.int .i64 n] st=some (.int .i64 (wd c n),st):=by
 refine gj (e:=.ret) (fr:=[(4,.int .i64 (wd c n))]) (st':=st.enter) (v:=.int .i64 (wd c n)) _ _ am0 rfl ?_ (.inl rfl) rfl rfl
 simp [f30,aok,wd]
theorem iN (c:UInt8) (n:Int) (st:St):(E tab).F 37 [.int .u8 (c.toNat:Int),.int .i64 n] st=some (.int .i64 (wd c n),st):=by
 refine gj (e:=.ret) (fr:=[(4,.int .i64 (wd c n))]) (st':=st.enter) (v:=.int .i64 (wd c n)) _ _ aoq rfl ?_ (.inl rfl) rfl rfl
 simp [f37,anz,wd]
def tw (n:Int):Int→List UInt8→Int
 | a,[]=>a
 | a,c::r=>tw n (IntKind.i64.wrap (a+wd c n)) r
theorem Ka (n:Int) (bs:List UInt8) (hb:bs.length≤4096) (st:St) (cur:Nat):∀ (r d:List UInt8) (a:Int),bs=d++r →
 (E tab).C z4 [(1,.int .i64 n),(5,.int .i64 a),(9,.list cur 1 .no true (bs.map fun b=>.int .u8 b.toNat)),(10,.int .i64 bs.length),(11,.int .i64 d.length)] st =
  some (.exit 0,[(1,.int .i64 n),(5,.int .i64 (tw n a r)),(9,.list cur 1 .no true (bs.map fun b=>.int .u8 b.toNat)),(10,.int .i64 bs.length),(11,.int .i64 bs.length),(12,.bool false)],st):=by
 intro r
 induction r with
 | nil=>
   intro d a hd
   rw [ab (L:=z4) rfl]
   simp [EJ,hd,tw]
 | cons c r ih=>
   intro d a hd
   have hl:d.length<bs.length:=by rw [hd];simp
   have hg:bs[d.length]=c:=by simp [hd]
   have hw:IntKind.i64.wrap ((d.length:Int)+1)=((d++[c]).length:Nat):=by rw [IntWalk.i64_in _ (by omega)];simp
   rw [tw,← ih (d++[c]) (IntKind.i64.wrap (a+wd c n)) (by simp [hd])]
   rw [ab (L:=z4) rfl]
   simp [EJ,hl,hg,wz,hw]
theorem wC (bs:List UInt8) (hb:bs.length≤4096) (n:Int) (st:St):(E tab).F 31 [.str bs,.int .i64 n] st=some (.int .i64 (tw n 0 bs),st):=by
 refine gj (e:=.ret) (fr:=[(4,.int .i64 (tw n 0 bs))]) (st':=st.enter) (v:=.int .i64 (tw n 0 bs)) _ _ anM rfl ?_ (.inl rfl) rfl rfl
 have h:=Ka n bs hb st.enter st.enter.cur bs [] 0 rfl
 simp at h
 simp [f31,h]
theorem ani:tab 57=some (.code f57):=by kernel_rfl
theorem am2:tab 60=some (.code f60):=by kernel_rfl
theorem amJ:tab 39=some (.code f39):=by kernel_rfl
theorem anK:tab 32=some (.code f32):=by kernel_rfl
theorem Mp (n:Int) (bs:List UInt8) (hb:bs.length≤4096) (st:St):∀ (r d:List UInt8) (a:Int),bs=d++r →
 (E tab).C Bn [(0,.str bs),(1,.int .i64 n),(5,.int .i64 a),(6,.int .i64 d.length)] st =
  some (.exit 0,[(0,.str bs),(1,.int .i64 n),(5,.int .i64 (tw n a r)),(6,.int .i64 bs.length),(10,.bool false)],st):=by
 intro r
 induction r with
 | nil=>
   intro d a hd
   rw [ab (L:=Bn) rfl]
   simp [ER,hd,tw]
 | cons c r ih=>
   intro d a hd
   have hl:d.length<bs.length:=by rw [hd];simp
   have hg:bs[d.length]=c:=by simp [hd]
   have hw:IntKind.i64.wrap ((d.length:Int)+1)=((d++[c]).length:Nat):=by rw [IntWalk.i64_in _ (by omega)];simp
   rw [tw,← ih (d++[c]) (IntKind.i64.wrap (a+wd c n)) (by simp [hd])]
   rw [ab (L:=Bn) rfl]
   simp [ER,hl,hg,iN,hw]
theorem rf (bs:List UInt8) (hb:bs.length≤4096) (n:Int) (st:St):(E tab).F 38 [.str bs,.int .i64 n] st=some (.int .i64 (tw n 0 bs),st):=by
 refine gj (e:=.ret) (fr:=[(4,.int .i64 (tw n 0 bs))]) (st':=st.enter) (v:=.int .i64 (tw n 0 bs)) _ _ anf rfl ?_ (.inl rfl) rfl rfl
 have h:=Mp n bs hb st.enter bs [] 0 rfl
 simp at h
 simp [f38,h]
def fE (bs:List UInt8) (n:Int):DV:=
 if 1≤n∧n≤64 then (if 4096<bs.length then .tuple [.int .i64 0,.int .i64 3] else .tuple [.int .i64 (tw n 0 bs),.int .i64 0]) else .tuple [.int .i64 0,.int .i64 5]
theorem s6 (bs:List UInt8) (n:Int) (st:St):(E tab).F 17 [.str bs,.int .i64 n] st=some (fE bs n,st):=by
 by_cases h1:1≤n∧n≤64
 · by_cases h2:4096<bs.length
   · refine gj (e:=.ret) (fr:=[(4,.int .i64 0),(5,.int .i64 3)]) (st':=st.enter) (v:=fE bs n) _ _ aal rfl ?_ (.inl rfl) (by simp [fE,h1,h2,f17,eX,dQ,gu]) (by simp [fE,h1,h2])
     have h3:(4096:Int)<bs.length:=by omega
     simp [f17,nk,h1,h3]
   · refine gj (e:=.ret) (fr:=[(4,.int .i64 (tw n 0 bs)),(5,.int .i64 0)]) (st':=st.enter) (v:=fE bs n) _ _ aal rfl ?_ (.inl rfl) (by simp [fE,h1,h2,f17,eX,dQ,gu]) (by simp [fE,h1,h2])
     have h3:¬ (4096:Int)<bs.length:=by omega
     simp [f17,nk,h1,h3,wC bs (by omega)]
 · refine gj (e:=.ret) (fr:=[(4,.int .i64 0),(5,.int .i64 5)]) (st':=st.enter) (v:=fE bs n) _ _ aal rfl ?_ (.inl rfl) (by simp [fE,h1,f17,eX,dQ,gu]) (by simp [fE,h1])
   simp [f17,nk,h1]
def pr (a b:UInt8):List UInt8→Bool
 | x::y::_::r=>(x==a&&y==b)||pr a b r
 | _=>false
theorem BA (x a:UInt8):((x.toNat:Int)==(a.toNat:Int))=(x==a):=by
 rw [Bool.eq_iff_iff]
 simp only [beq_iff_eq]
 constructor
 · intro h;exact UInt8.toNat_inj.1 (by omega)
 · rintro rfl;rfl
theorem MC (s:List UInt8) (hs:s.length≤1000) (a b:UInt8) (st:St):∀ (k:Nat) (r d:List UInt8),r.length=3*k→s=d++r →
 (E tab).C Bt [(0,.str s),(1,.int .u8 a.toNat),(2,.int .u8 b.toNat),(7,.int .i64 d.length)] st =
  some (if pr a b r then (.ret,[(6,.bool true)],st) else (.exit 0,[(0,.str s),(1,.int .u8 a.toNat),(2,.int .u8 b.toNat),(7,.int .i64 s.length),(12,.bool false)],st)):=by
 intro k
 induction k with
 | zero=>
   intro r d hr hd
   obtain rfl:r=[]:=List.length_eq_zero_iff.1 (by omega)
   have hw:IntKind.i64.wrap ((d.length:Int)+1)=d.length+1:=by rw [IntWalk.i64_in _ (by simp at hd;subst hd;omega)]
   rw [ab (L:=Bt) rfl]
   simp at hd
   subst hd
   have hn:¬ (s.length:Int)+1<s.length:=by omega
   simp [vz,pr,hw,hn]
 | succ k ih=>
   intro r d hr hd
   match r,hr with
   | x::y::z::r,hr=>
     have e0:d.length+3+r.length=s.length:=by simp [hd];omega
     have hw:IntKind.i64.wrap ((d.length:Int)+1)=d.length+1:=by rw [IntWalk.i64_in _ (by omega)]
     have hw3:IntKind.i64.wrap ((d.length:Int)+3)=((d++[x,y,z]).length:Nat):=by rw [IntWalk.i64_in _ (by omega)];simp
     have hl:d.length<s.length:=by omega
     have hl1:d.length+1<s.length:=by omega
     have hl2:(d.length:Int)+1<s.length:=by omega
     have hg:s[d.length]=x:=by simp [hd]
     have hg1:s[d.length+1]=y:=by simp [hd]
     have ht:((d.length:Int)+1).toNat=d.length+1:=by omega
     have h0:(0:Int)≤(d.length:Int)+1:=by omega
     rw [ab (L:=Bt) rfl]
     by_cases hx:x=a
     · by_cases hy:y=b
       · simp [vz,hw,hl,hl1,hl2,hg,hg1,ht,h0,pr,hx,hy]
       · have:=ih r (d++[x,y,z]) (by simp at hr;omega) (by simp [hd])
         simp [vz,hw,hl,hl1,hl2,hg,hg1,ht,h0,BA,pr,hx,hy,hw3] at this ⊢
         exact this
     · have:=ih r (d++[x,y,z]) (by simp at hr;omega) (by simp [hd])
       simp [vz,hw,hl,hl2,hg,BA,pr,hx,hw3] at this ⊢
       exact this
theorem py (s:List UInt8) (k:Nat) (hk:s.length=3*k) (hs:s.length≤1000) (a b:UInt8) (st:St):(E tab).F 57 [.str s,.int .u8 a.toNat,.int .u8 b.toNat] st=some (.bool (pr a b s),st):=by
 refine gj (e:=.ret) (fr:=[(6,.bool (pr a b s))]) (st':=st.enter) (v:=.bool (pr a b s)) _ _ ani rfl ?_ (.inl rfl) rfl rfl
 have h:=MC s hs a b st.enter k s [] hk rfl
 simp at h
 by_cases hp:pr a b s=true
 · simp only [hp,if_true] at h
   simp [f57,h,hp]
 · simp only [hp] at h
   simp [f57,h,hp]
def P19:List (UInt8×UInt8):=[(65,84),(65,86),(65,87),(65,89),(84,65),(86,65),(87,65),(89,65),(76,84),(76,86),(76,89),(80,65),(84,111),(84,97),(84,101),(86,111),(86,97),(89,111),(89,97)]
def P10:List (UInt8×UInt8):=[(114,46),(114,44),(102,46),(102,44),(118,46),(121,46),(65,118),(65,121),(111,118),(118,111)]
def isP (l:List (UInt8×UInt8)) (a b:UInt8):Bool:=l.any fun p=>p.1==a&&p.2==b
def txt (l:List (UInt8×UInt8)):List UInt8:=l.flatMap fun p=>[p.1,p.2,32]
def two (l:List (UInt8×UInt8)):List (List UInt8):=l.map fun p=>[p.1,p.2]
theorem GN (a b:UInt8):∀ l,pr a b (txt l)=isP l a b
 | []=>rfl
 | p::r=>by
   have:=GN a b r
   unfold txt isP at *
   simp only [List.flatMap_cons,List.cons_append,List.nil_append,pr,List.any_cons,this]
theorem Fg (a b:UInt8):∀ l,(two l).any (fun s=>s==[a,b])=isP l a b
 | []=>rfl
 | p::r=>by
   have:=Fg a b r
   unfold two isP at *
   simp only [List.map_cons,List.any_cons,this]
   congr 1
   simp [List.cons_beq_cons]
theorem Gw (a b:UInt8) (h:isP P19 a b=true):isP P10 a b=false:=by
 unfold isP at *
 rw [List.any_eq_true] at h
 obtain ⟨p,hp,h⟩:=h
 rw [Bool.and_eq_true] at h
 have h1:=eq_of_beq h.1
 have h2:=eq_of_beq h.2
 subst h1;subst h2
 revert p
 decide
theorem Mt (l:List (List UInt8)) (hl:l.length≤1000) (s:List UInt8) (cur:Nat) (tk:Tk) (st:St):∀ (r d:List (List UInt8)),l=d++r →
 (E tab).C Bm [(0,.list cur 1 tk true (l.map .str)),(1,.str s),(5,.int .i64 d.length)] st =
  some (if r.any (· == s) then (.ret,[(4,.bool true)],st) else (.exit 0,[(0,.list cur 1 tk true (l.map .str)),(1,.str s),(5,.int .i64 l.length),(9,.bool false)],st)):=by
 intro r
 induction r with
 | nil=>
   intro d hd
   simp at hd
   subst hd
   rw [ab (L:=Bm) rfl]
   simp [AE]
 | cons x r ih=>
   intro d hd
   have h0:d.length<l.length:=by simp [hd]
   have hw:IntKind.i64.wrap ((d.length:Int)+1)=((d++[x]).length:Nat):=by rw [IntWalk.i64_in _ (by omega)];simp
   have hg:l[d.length]=x:=by simp [hd]
   rw [ab (L:=Bm) rfl]
   by_cases hx:x=s
   · simp [AE,h0,hg,hx]
   · have:=ih (d++[x]) (by simp [hd])
     simp [AE,h0,hg,hx,hw] at this ⊢
     exact this
theorem vT (l:List (List UInt8)) (hl:l.length≤1000) (s:List UInt8) (cur:Nat) (tk:Tk) (st:St):(E tab).F 60 [.list cur 1 tk true (l.map .str),.str s] st=some (.bool (l.any (· == s)),st):=by
 refine gj (e:=.ret) (fr:=[(4,.bool (l.any (· == s)))]) (st':=st.enter) (v:=.bool (l.any (· == s))) _ _ am2 rfl ?_ (.inl rfl) rfl rfl
 have h:=Mt l hl s cur tk st.enter l [] rfl
 generalize (l.any (· == s))=v at h ⊢
 simp at h
 cases v<;>simp [f60,h]
def fY (a b:UInt8) (n:Int):Int:=if isP P10 a b then -(n/16) else if isP P19 a b then -(2*n/16) else 0
theorem yg (a b:UInt8) (n:Int) (hn:1≤n∧n≤64) (st:St):(E tab).F 32 [.int .u8 a.toNat,.int .u8 b.toNat,.int .i64 n] st=some (.int .i64 (fY a b n),st):=by
 refine gj (e:=.ret) (fr:=[(6,.int .i64 (fY a b n))]) (st':=st.enter) (v:=.int .i64 (fY a b n)) _ _ anK rfl ?_ (.inl rfl) rfl rfl
 have h19:=py (txt P19) 19 (by rfl) (by decide) a b st.enter
 have h10:=py (txt P10) 10 (by rfl) (by decide) a b st.enter
 rw [GN] at h19 h10
 simp only [show txt P19=[65,84,32,65,86,32,65,87,32,65,89,32,84,65,32,86,65,32,87,65,32,89,65,32,76,84,32,76,86,32,76,89,32,80,65,32,84,111,32,84,97,32,84,101,32,86,111,32,86,97,32,89,111,32,89,97,32] from rfl] at h19
 simp only [show txt P10=[114,46,32,114,44,32,102,46,32,102,44,32,118,46,32,121,46,32,65,118,32,65,121,32,111,118,32,118,111,32] from rfl] at h10
 have w1:IntKind.i64.wrap n=n:=IntWalk.i64_in _ (by omega)
 have w2:IntKind.i64.wrap (2*n)=2*n:=IntWalk.i64_in _ (by omega)
 have w3:IntKind.i64.wrap ((2*n).tdiv 16)=2*n/16:=IntWalk.i64_quo _ _ (by omega)
 have w4:IntKind.i64.wrap (n.tdiv 16)=n/16:=IntWalk.i64_quo _ _ (by omega)
 have w5:IntKind.i64.wrap (-(n/16)) = -(n/16):=IntWalk.i64_in _ (by omega)
 have w6:IntKind.i64.wrap (-(2*n/16)) = -(2*n/16):=IntWalk.i64_in _ (by omega)
 have w7:IntKind.i64.wrap 0=0:=by decide
 cases e1:isP P19 a b<;>cases e2:isP P10 a b<;>rw [e1] at h19<;>rw [e2] at h10 <;>
 simp [f32,h19,h10,fY,e1,e2,w1,w2,w3,w4,w5,w6,w7]
theorem aof (a b:UInt8) (r:Fr) (st:St) (T:Tab):opE T (.lit 1 false [.int .u8 0] 2 [(0,.t 8),(1,.t 9)]) ((9,.int .u8 b.toNat)::(8,.int .u8 a.toNat)::r) st=some (.list st.cur 1 .tight true [.int .u8 a.toNat,.int .u8 b.toNat],st):=by
 rfl
theorem amW (a b:UInt8) (r:Fr) (st:St) (c:Nat) (T:Tab):opE T (.b2s (.t 10)) ((10,.list c 1 .tight true [.int .u8 a.toNat,.int .u8 b.toNat])::r) st=some (.str [a,b],st):=by
 simp [RX,cw,flat,jd]
theorem l19 (fr:Fr) (st:St) (T:Tab):opE T (.lit 1 false [(.str [])] 19 [(0,(.c (.str [65,84]))),(1,(.c (.str [65,86]))),(2,(.c (.str [65,87]))),(3,(.c (.str [65,89]))),(4,(.c (.str [84,65]))),(5,(.c (.str [86,65]))),(6,(.c (.str [87,65]))),(7,(.c (.str [89,65]))),(8,(.c (.str [76,84]))),(9,(.c (.str [76,86]))),(10,(.c (.str [76,89]))),(11,(.c (.str [80,65]))),(12,(.c (.str [84,111]))),(13,(.c (.str [84,97]))),(14,(.c (.str [84,101]))),(15,(.c (.str [86,111]))),(16,(.c (.str [86,97]))),(17,(.c (.str [89,111]))),(18,(.c (.str [89,97])))]) fr st=some (.list st.cur 1 .tight true ((two P19).map .str),st):=by kernel_rfl
theorem l10 (fr:Fr) (st:St) (T:Tab):opE T (.lit 1 false [(.str [])] 10 [(0,(.c (.str [114,46]))),(1,(.c (.str [114,44]))),(2,(.c (.str [102,46]))),(3,(.c (.str [102,44]))),(4,(.c (.str [118,46]))),(5,(.c (.str [121,46]))),(6,(.c (.str [65,118]))),(7,(.c (.str [65,121]))),(8,(.c (.str [111,118]))),(9,(.c (.str [118,111])))]) fr st=some (.list st.cur 1 .tight true ((two P10).map .str),st):=by kernel_rfl
theorem Gb (a b:UInt8) (n:Int) (hn:1≤n∧n≤64) (st:St):(E tab).F 39 [.int .u8 a.toNat,.int .u8 b.toNat,.int .i64 n] st=some (.int .i64 (fY a b n),st):=by
 refine gj (e:=.ret) (fr:=[(6,.int .i64 (fY a b n))]) (st':=st.enter) (v:=.int .i64 (fY a b n)) _ _ amJ rfl ?_ (.inl rfl) rfl rfl
 have h19:=vT (two P19) (by decide) [a,b] st.enter.cur .tight st.enter
 have h10:=vT (two P10) (by decide) [a,b] st.enter.cur .tight st.enter
 rw [Fg] at h19 h10
 have w2:IntKind.i64.wrap (2*n)=2*n:=IntWalk.i64_in _ (by omega)
 have w3:IntKind.i64.wrap ((2*n).tdiv 16)=2*n/16:=IntWalk.i64_quo _ _ (by omega)
 have w4:IntKind.i64.wrap (n.tdiv 16)=n/16:=IntWalk.i64_quo _ _ (by omega)
 have w5:IntKind.i64.wrap (-(n/16)) = -(n/16):=IntWalk.i64_in _ (by omega)
 have w6:IntKind.i64.wrap (-(2*n/16)) = -(2*n/16):=IntWalk.i64_in _ (by omega)
 have hd:=Gw a b
 cases e1:isP P19 a b<;>cases e2:isP P10 a b<;>rw [e1] at h19 hd<;>rw [e2] at h10 hd<;>simp at hd
 all_goals
  simp [f39,jV,unD,aof,amW,l19,l10,h19,h10,fY,e1,e2,w2,w3,w4,w5,w6]
theorem an6:tab 23=some (.code f23):=by kernel_rfl
structure aa where
 a:Int
 b:Int
 k:Int
 s:Int
 w:Int
 e:Int
 deriving DecidableEq
def aa.cs (m:aa):List DV:=[.int .i64 m.a,.int .i64 m.b,.int .i64 m.k,.int .i64 m.s,.int .i64 m.w,.int .i64 m.e]
def aa.dv (m:aa):DV:=.agg m.cs
@[simp] theorem aa.leaves (m:aa):m.dv.leaves=m.cs:=rfl
def okM (m:aa):Bool:=decide (0≤m.w∧m.w≤4095 ∧ -64≤m.e∧m.e≤0)
def fA (o:Bool) (n:Int):List aa→Int
 | []=>n
 | m::r=>fA false (if o then n+m.w else n+m.w+m.e) r
theorem afK (l:List aa) (hl:l.length≤4096) (x y:DV) (t n6:Nat) (tk:Tk) (nn:Bool) (h6:l≠[]→n6=6) (st:St) (K:List Nat):∀ (r d:List aa) (H:List HO),l=d++r →
 ∃ J,(E tab).C wj [(0,.list t n6 tk nn (l.map aa.dv)),(1,x),(2,y),(16,.list t n6 tk nn (l.map aa.dv)),(17,.int .i64 l.length),(18,.int .i64 d.length)] (pst st H K) =
   some (if r.all okM then (.exit 0,[(0,.list t n6 tk nn (l.map aa.dv)),(1,x),(2,y),(16,.list t n6 tk nn (l.map aa.dv)),(17,.int .i64 l.length),(18,.int .i64 l.length),(19,.bool false)],pst st (H++J) K)
    else (.ret,[(6,.int .i64 0),(7,.int .i64 2)],pst st (H++J) K)):=by
 intro r
 induction r with
 | nil=>
   intro d H hd
   refine ⟨[],?_⟩
   rw [ab (L:=wj) rfl]
   simp [qR,hd]
 | cons m r ih=>
   intro d H hd
   obtain rfl:n6=6:=h6 (by simp [hd])
   have h0:d.length<l.length:=by simp [hd]
   have hw:IntKind.i64.wrap ((d.length:Int)+1)=((d++[m]).length:Nat):=by rw [ar (by omega)];simp
   have hg:l[d.length]=m:=by simp [hd]
   by_cases ho:okM m=true
   · obtain ⟨J,hJ⟩:=ih (d++[m]) (H++[.cells .plain m.cs]) (by simp [hd])
     refine ⟨.cells .plain m.cs::J,?_⟩
     rw [ab (L:=wj) rfl]
     obtain ⟨o1,o2,o3,o4⟩:0≤m.w∧m.w≤4095 ∧ -64≤m.e∧m.e≤0:=by simpa [okM] using ho
     have o1':¬ m.w<0:=by omega
     have o2':¬ 4095<m.w:=by omega
     have o3':¬ m.e < -64:=by omega
     have o4':¬ 0<m.e:=by omega
     simp [qR,h0,hg,hw,aa.cs,o1',o2',o3',o4',ho] at hJ ⊢
     exact hJ
   · refine ⟨[.cells .plain m.cs],?_⟩
     rw [ab (L:=wj) rfl]
     simp [okM] at ho
     by_cases o1:m.w<0
     · simp [qR,h0,hg,aa.cs,o1,okM,show ¬ 0≤m.w by omega]
     by_cases o2:4095<m.w
     · simp [qR,h0,hg,aa.cs,o1,o2,okM,show ¬ m.w≤4095 by omega]
     by_cases o3:m.e < -64
     · simp [qR,h0,hg,aa.cs,o1,o2,o3,okM,show ¬ -64≤m.e by omega]
     have o4:0<m.e:=by omega
     simp [qR,h0,hg,aa.cs,o1,o2,o3,o4,okM,show ¬ m.e≤0 by omega]
theorem ai5 (l:List aa) (hl:l.length≤4096) (hok:l.all okM=true) (t n6:Nat) (tk:Tk) (nn:Bool) (h6:l≠[]→n6=6) (st:St) (K:List Nat):∀ (r d:List aa) (H:List HO) (n:Int),l=d++r → -64*(d.length:Int)≤n→n≤4095*d.length →
 ∃ J,(E tab).C zW [(10,.int .i64 n),(57,.list t n6 tk nn (l.map aa.dv)),(58,.int .i64 l.length),(59,.int .i64 d.length)] (pst st H K) =
   some (.exit 2,[(10,.int .i64 (fA d.isEmpty n r)),(57,.list t n6 tk nn (l.map aa.dv)),(58,.int .i64 l.length),(59,.int .i64 l.length),(60,.bool false)],pst st (H++J) K):=by
 intro r
 induction r with
 | nil=>
   intro d H n hd _ _
   refine ⟨[],?_⟩
   rw [ab (L:=zW) rfl]
   simp [BB,hd,fA]
 | cons m r ih=>
   intro d H n hd h1 h2
   obtain rfl:n6=6:=h6 (by simp [hd])
   have h0:d.length<l.length:=by simp [hd]
   have hw:IntKind.i64.wrap ((d.length:Int)+1)=((d++[m]).length:Nat):=by rw [ar (by omega)];simp
   have hg:l[d.length]=m:=by simp [hd]
   have hm:okM m=true:=List.all_eq_true.1 hok m (by simp [hd])
   obtain ⟨o1,o2,o3,o4⟩:0≤m.w∧m.w≤4095 ∧ -64≤m.e∧m.e≤0:=by simpa [okM] using hm
   have hd':d.length+r.length+1=l.length:=by simp [hd];omega
   have hw1:IntKind.i64.wrap (n+m.w)=n+m.w:=ar (by omega)
   have hw2:IntKind.i64.wrap (n+m.w+m.e)=n+m.w+m.e:=ar (by omega)
   obtain ⟨J,hJ⟩:=ih (d++[m]) (H++[.cells .plain m.cs]) (if d.isEmpty then n+m.w else n+m.w+m.e) (by simp [hd]) (by split<;>simp<;>omega) (by split<;>simp<;>omega)
   refine ⟨.cells .plain m.cs::J,?_⟩
   have hE:(d++[m]).isEmpty=false:=by cases d<;>rfl
   rw [hE] at hJ
   rw [ab (L:=zW) rfl]
   by_cases he:d=[]
   · subst he
     simp at h0 hg hw
     simp [BB,h0,hg,hw,aa.cs,hw1,fA] at hJ ⊢
     exact hJ
   · have hp:0<d.length:=List.length_pos_iff.2 he
     simp [BB,h0,hg,hw,aa.cs,hw1,hw2,fA,he,hp] at hJ ⊢
     exact hJ
def tp (l:List aa) (x y:Int):DV:=
 if 4096<l.length then .tuple [.int .i64 0,.int .i64 3] else
 if l.all okM=false then .tuple [.int .i64 0,.int .i64 2] else
 if 0≤x∧x≤y∧y≤l.length then .tuple [.int .i64 (fA true 0 ((l.drop x.toNat).take (y.toNat-x.toNat))),.int .i64 0] else .tuple [.int .i64 0,.int .i64 5]
theorem CM (l:List aa) (x y:Int) (t n6:Nat) (tk:Tk) (nn:Bool) (h6:l≠[]→n6=6) (h7:nn=true→n6=6) (st:St) :
 (E tab).F 23 [.list t n6 tk nn (l.map aa.dv),.int .i64 x,.int .i64 y] st=some (tp l x y,st):=by
 rw [av an6 rfl]
 by_cases h1:4096<l.length
 · have h1':(4096:Int)<l.length:=by omega
   simp [f23,h1',tp,h1]
 have h1':¬ (4096:Int)<l.length:=by omega
 obtain ⟨J,hJ⟩:=afK l (by omega) (.int .i64 x) (.int .i64 y) t n6 tk nn h6 st [] l [] [] rfl
 simp at hJ
 by_cases h2:l.all okM=true
 · rw [List.all_eq_true] at h2
   rw [if_pos h2] at hJ
   rw [← List.all_eq_true] at h2
   by_cases a1:x<0
   · simp [f23,h1',tp,h1,hJ,h2,a1,show ¬ 0≤x by omega]
   by_cases a2:y<x
   · simp [f23,h1',tp,h1,hJ,h2,a1,a2,show ¬ x≤y by omega]
   by_cases a3:l.length<y
   · simp [f23,h1',tp,h1,hJ,h2,a1,a2,a3,show ¬ y≤l.length by omega]
   have a4:bF false 6 (.list t n6 tk nn (l.map aa.dv)) (some (.int .i64 x)) (some (.int .i64 y)) none=_:=wW h7 (by omega) (by omega) (by simp;omega)
   rw [← List.map_drop,← List.map_take] at a4
   have hq:((l.drop x.toNat).take (y.toNat-x.toNat)).all okM=true:=by
    rw [List.all_eq_true] at h2 ⊢
    exact fun m hm=>h2 m (List.mem_of_mem_drop (List.mem_of_mem_take hm))
   have hl:((l.drop x.toNat).take (y.toNat-x.toNat)).length≤4096:=by simp;omega
   have hb:0≤x∧x≤y∧y≤l.length:=by omega
   obtain ⟨J2,hJ2⟩:=ai5 _ hl hq t n6 (qA tk l.length x.toNat y.toNat) nn (fun h=>h6 (fun e=>h (by rw [e];simp))) st [] _ [] J 0 rfl (by simp) (by simp)
   have e1:min (y.toNat-x.toNat) (l.length-x.toNat)=y.toNat-x.toNat:=by omega
   simp [e1] at hJ2 a4
   simp [f23,h1',tp,h1,hJ,h2,a1,a2,a3,a4,hb,hJ2,e1]
 · have h3:l.all okM=false:=by simpa using h2
   rw [List.all_eq_true] at h2
   rw [if_neg h2] at hJ
   simp [f23,h1',tp,h1,hJ,h3]
theorem amA:tab 53=some (.code f53):=by kernel_rfl
theorem alA (l:List aa) (hl:l.length≤4096) (hok:l.all okM=true) (x y:Nat) (hy:y≤l.length) (t n6:Nat) (tk:Tk) (nn:Bool) (h6:l≠[]→n6=6) (st:St):∀ (k i:Nat) (n:Int),y=i+k→x≤i → -64*(i:Int)≤n→n≤4095*i →
 (E tab).C BH [(0,.list t n6 tk nn (l.map aa.dv)),(1,.int .i64 x),(2,.int .i64 y),(7,.int .i64 n),(8,.int .i64 i)] st =
  some (.exit 0,[(0,.list t n6 tk nn (l.map aa.dv)),(1,.int .i64 x),(2,.int .i64 y),(7,.int .i64 (fA (i==x) n ((l.drop i).take k))),(8,.int .i64 y),(12,.bool false)],st):=by
 intro k
 induction k with
 | zero=>
   intro i n hi _ _ _
   subst hi
   rw [ab (L:=BH) rfl]
   simp [Ag,fA]
 | succ k ih=>
   intro i n hi hx h1 h2
   have h0:i<l.length:=by omega
   obtain rfl:n6=6:=h6 (fun e=>by rw [e] at h0;simp at h0)
   have h0':i<y:=by omega
   have hw:IntKind.i64.wrap ((i:Int)+1)=((i+1:Nat):Int):=by rw [ar (by omega)];simp
   have hg:(l.drop i).take (k+1)=l[i]::(l.drop (i+1)).take k:=by rw [List.drop_eq_getElem_cons h0,List.take_succ_cons]
   generalize hm:l[i]=m at *
   have ho:okM m=true:=List.all_eq_true.1 hok m (by rw [← hm];exact List.getElem_mem h0)
   obtain ⟨o1,o2,o3,o4⟩:0≤m.w∧m.w≤4095 ∧ -64≤m.e∧m.e≤0:=by simpa [okM] using ho
   have hw1:IntKind.i64.wrap (n+m.w)=n+m.w:=ar (by omega)
   have hw2:IntKind.i64.wrap (n+m.w+m.e)=n+m.w+m.e:=ar (by omega)
   have e1:((i+1)==x)=false:=by simp;omega
   rw [ab (L:=BH) rfl,hg]
   by_cases he:x=i
   · subst he
     have hJ:=ih (x+1) (n+m.w) (by omega) (by omega) (by omega) (by omega)
     rw [e1] at hJ
     simp [Ag,h0,h0',hw,hm,aa.cs,hw1,fA] at hJ ⊢
     exact hJ
   · have hp:x<i:=by omega
     have hJ:=ih (i+1) (n+m.w+m.e) (by omega) (by omega) (by omega) (by omega)
     rw [e1] at hJ
     simp [Ag,h0,h0',hw,hm,aa.cs,hw1,hw2,fA,hp,show ¬ i=x by omega] at hJ ⊢
     exact hJ
theorem acd (l:List aa) (hl:l.length≤4096) (hok:l.all okM=true) (x y:Nat) (hx:x≤y) (hy:y≤l.length) (t n6:Nat) (tk:Tk) (nn:Bool) (h6:l≠[]→n6=6) (st:St) :
 (E tab).F 53 [.list t n6 tk nn (l.map aa.dv),.int .i64 x,.int .i64 y] st=some (.int .i64 (fA true 0 ((l.drop x).take (y-x))),st):=by
 rw [av amA rfl]
 have h:=alA l hl hok x y hy t n6 tk nn h6 (pst st [] []) (y-x) x 0 (by omega) (by omega) (by omega) (by omega)
 simp at h
 simp [f53,h]
theorem Bo (m:aa):dq 6 true m.dv:=⟨rfl,rfl,rfl⟩
theorem anG:tab 54=some (.code f54):=by kernel_rfl
theorem aoc:tab 45=some (.code f45):=by kernel_rfl
theorem aoe:tab 27=some (.code f27):=by kernel_rfl
theorem anp:tab 55=some (.code f55):=by kernel_rfl
theorem ajE:tab 69=some (.code f69):=by kernel_rfl
theorem ano:tab 33=some (.code f33):=by kernel_rfl
theorem an5:tab 68=some (.dN (gK kdV)):=by kernel_rfl
theorem amL:tab 58=some (.dN (gK kdV)):=by kernel_rfl
theorem ang:tab 70=some (.dN (gK Ca)):=by kernel_rfl
theorem anj:tab 59=some (.dN (gK Ca)):=by kernel_rfl
theorem mP {g:Nat} {F:Nat→DV} (h:tab g=some (.dN (gK F))) (c:UInt8) (st:St):(E tab).F g [.int .u8 (c.toNat:Int)] st=some (F c.toNat,st):=
 uA h (by show (if c.toNat<256 then some (F c.toNat) else _)=_;rw [if_pos (by exact c.toNat_lt)])
theorem RS (c:UInt8) (st:St):(E tab).F 68 [.int .u8 (c.toNat:Int)] st=some (.int .i64 (kd c.toNat),st):=mP an5 c st
theorem UX (c:UInt8) (st:St):(E tab).F 58 [.int .u8 (c.toNat:Int)] st=some (.int .i64 (kd c.toNat),st):=mP amL c st
theorem MZ (c:UInt8) (st:St):(E tab).F 70 [.int .u8 (c.toNat:Int)] st=some (.bool (r8 c.toNat),st):=mP ang c st
theorem MI (c:UInt8) (st:St):(E tab).F 59 [.int .u8 (c.toNat:Int)] st=some (.bool (r8 c.toNat),st):=mP anj c st
def rp (c:UInt8):Bool:=!(kd c.toNat==0)
def cp (s:List UInt8):Int:=if 4096<s.length then 3 else if s.all rp then 0 else 4
theorem ahs (s:List UInt8) (hs:s.length≤4096) (st:St) (cur:Nat):∀ (r d:List UInt8),s=d++r →
 (E tab).C Ab [(9,.list cur 1 .no true (s.map fun b=>.int .u8 b.toNat)),(10,.int .i64 s.length),(11,.int .i64 d.length)] st =
  some (if r.all rp then (.exit 0,[(9,.list cur 1 .no true (s.map fun b=>.int .u8 b.toNat)),(10,.int .i64 s.length),(11,.int .i64 s.length),(12,.bool false)],st) else (.ret,[(2,.int .i64 4)],st)):=by
 intro r
 induction r with
 | nil=>
   intro d hd
   rw [ab (L:=Ab) rfl]
   simp [AS,hd]
 | cons c r ih=>
   intro d hd
   have h0:d.length<s.length:=by simp [hd]
   have hw:IntKind.i64.wrap ((d.length:Int)+1)=((d++[c]).length:Nat):=by rw [ar (by omega)];simp
   have hg:s[d.length]=c:=by simp [hd]
   rw [ab (L:=Ab) rfl]
   have hJ:=ih (d++[c]) (by simp [hd])
   by_cases hk:kd c.toNat=0
   · simp [AS,h0,hg,RS,hk,rp]
   · simp [AS,h0,hg,hw,RS,hk,rp] at hJ ⊢
     exact hJ
theorem BF (s:List UInt8) (st:St):(E tab).F 54 [.str s] st=some (.int .i64 (cp s),st):=by
 rw [av anG rfl]
 by_cases h1:4096<s.length
 · simp [f54,cp,h1,show (4096:Int)<s.length by omega]
 · have h:=ahs s (by omega) (pst st [] []) st.cur s [] rfl
   simp at h
   cases h2:s.all rp with
   | true=>
     rw [if_pos (by simpa using h2)] at h
     simp [f54,cp,h1,show ¬ (4096:Int)<s.length by omega,h,h2]
   | false=>
     rw [if_neg (by simpa using h2)] at h
     simp [f54,cp,h1,show ¬ (4096:Int)<s.length by omega,h,h2]
theorem ajd (s:List UInt8) (hs:s.length≤4096) (st:St):∀ (r d:List UInt8),s=d++r →
 (E tab).C Bg [(0,.str s),(3,.int .i64 d.length)] st =
  some (if r.all rp then (.exit 0,[(0,.str s),(3,.int .i64 s.length),(10,.bool false)],st) else (.ret,[(2,.int .i64 4)],st)):=by
 intro r
 induction r with
 | nil=>
   intro d hd
   rw [ab (L:=Bg) rfl]
   simp [Bk,hd]
 | cons c r ih=>
   intro d hd
   have h0:d.length<s.length:=by simp [hd]
   have hw:IntKind.i64.wrap ((d.length:Int)+1)=((d++[c]).length:Nat):=by rw [ar (by omega)];simp
   have hg:s[d.length]=c:=by simp [hd]
   rw [ab (L:=Bg) rfl]
   have hJ:=ih (d++[c]) (by simp [hd])
   by_cases hk:kd c.toNat=0
   · simp [Bk,h0,hg,UX,hk,rp]
   · simp [Bk,h0,hg,hw,UX,hk,rp] at hJ ⊢
     exact hJ
theorem uG (s:List UInt8) (st:St):(E tab).F 45 [.str s] st=some (.int .i64 (cp s),st):=by
 rw [av aoc rfl]
 by_cases h1:4096<s.length
 · simp [f45,cp,h1,show (4096:Int)<s.length by omega]
 · have h:=ajd s (by omega) (pst st [] []) s [] rfl
   simp at h
   cases h2:s.all rp with
   | true=>
     rw [if_pos (by simpa using h2)] at h
     simp [f45,cp,h1,show ¬ (4096:Int)<s.length by omega,h,h2]
   | false=>
     rw [if_neg (by simpa using h2)] at h
     simp [f45,cp,h1,show ¬ (4096:Int)<s.length by omega,h,h2]
structure Clu where
 a:Nat
 b:Nat
 k:Int
 deriving DecidableEq
def Clu.cs (c:Clu):List DV:=[.int .i64 c.a,.int .i64 c.b,.int .i64 c.k]
def Clu.dv (c:Clu):DV:=.agg c.cs
@[simp] theorem Clu.leaves (c:Clu):c.dv.leaves=c.cs:=rfl
theorem Gf (c:Clu):dq 3 true c.dv:=⟨rfl,rfl,rfl⟩
def adv (s:List UInt8) (k:Int):Nat→Nat→Nat
 | 0,t=>t
 | n+1,t=>if k=1∧t<s.length∧r8 (s.getD t 0).toNat=true then adv s k n (t+1) else t
def ga (s:List UInt8) (i:Nat):Int:=kd (s.getD i 0).toNat
def cTo (s:List UInt8) (i:Nat):Nat:=adv s (ga s i) 2 (i+1)
def dC (s:List UInt8):Nat→Nat→List Clu
 | 0,_=>[]
 | n+1,i=>if i<s.length then ⟨i,cTo s i,ga s i⟩::dC s n (cTo s i) else []
def gH (s:List UInt8):List Clu:=dC s s.length 0
theorem m7 (s:List UInt8) (k:Int):∀ n t,t≤adv s k n t∧adv s k n t≤t+n∧(t≤s.length→adv s k n t≤s.length)
 | 0,t=>⟨Nat.le_refl _,Nat.le_refl _,id⟩
 | n+1,t=>by
   unfold adv
   split
   · rename_i h
     have:=m7 s k n (t+1)
     exact ⟨by omega,by omega,fun _=>this.2.2 (by omega)⟩
   · exact ⟨Nat.le_refl _,by omega,id⟩
theorem qD {s:List UInt8} {i:Nat} (h:i<s.length):s[i]? = some (s.getD i 0):=by
 simp [List.getElem?_eq_getElem h]
theorem agH (s:List UInt8) (hs:s.length≤4096) (v:DV) (st:St) (A:List HO) (K:List Nat) (a:Nat) (ha:a<s.length) (k:Int):∀ (n t:Nat),t+n=a+3→1≤t →
 (E tab).C Ae [(0,.str s),(5,v),(6,.int .i64 a),(7,.ptr (st.heap.length+A.length) 0)] (pst st (A++[.cells .plain [.int .i64 a,.int .i64 t,.int .i64 k]]) K) =
  some (.exit 2,[(0,.str s),(5,v),(6,.int .i64 a),(7,.ptr (st.heap.length+A.length) 0),(48,.bool false)],pst st (A++[.cells .plain [.int .i64 a,.int .i64 (adv s k n t),.int .i64 k]]) K):=by
 intro n
 induction n with
 | zero=>
   intro t ht _
   have hw:IntKind.i64.wrap ((a:Int)+3)=(a:Int)+3:=ar (by omega)
   have h1:¬ (t:Int)<a+3:=by omega
   rw [ab (L:=Ae) rfl]
   by_cases hk:k=1
   · by_cases hl:t<s.length
     · simp [oh,hk,hl,hw,h1,adv]
     · simp [oh,hk,hl,adv]
   · simp [oh,hk,adv]
 | succ n ih=>
   intro t ht h0
   have hw:IntKind.i64.wrap ((a:Int)+3)=(a:Int)+3:=ar (by omega)
   have h1:(t:Int)<a+3:=by omega
   rw [ab (L:=Ae) rfl]
   by_cases hk:k=1
   · by_cases hl:t<s.length
     · have hw2:IntKind.i64.wrap ((t:Int)+1)=((t+1:Nat):Int):=by rw [ar (by omega)];simp
       cases hac:r8 (s[t]).toNat with
       | true=>
         have hJ:=ih (t+1) (by omega) (by omega)
         simp [oh,hk,hl,hw,h1,MI,hac,hw2,adv] at hJ ⊢
         exact hJ
       | false=>simp [oh,hk,hl,hw,h1,MI,hac,adv]
     · simp [oh,hk,hl,adv]
   · simp [oh,hk,adv]
theorem ahZ (s:List UInt8) (hs:s.length≤4096) (st:St):∀ (n i:Nat) (H:List HO) (K:List Nat) (xs:List Clu) (v:DV),s.length≤i+n→i≤s.length→xs.length≤i→Acc st K 3 (xs.map Clu.dv) v →
 ∃ v' J K',(E tab).C vg [(0,.str s),(5,v),(6,.int .i64 i)] (pst st H K) =
   some (.exit 0,[(0,.str s),(5,v'),(6,.int .i64 s.length),(16,.bool false)],pst st (H++J) K')∧Acc st K' 3 ((xs++dC s n i).map Clu.dv) v':=by
 intro n
 induction n with
 | zero=>
   intro i H K xs v h1 h2 h3 hA
   obtain rfl:i=s.length:=by omega
   refine ⟨v,[],K,?_,by simpa [dC] using hA⟩
   rw [ab (L:=vg) rfl]
   simp [zL]
 | succ n ih=>
   intro i H K xs v h1 h2 h3 hA
   by_cases hi:i<s.length
   · have hw:IntKind.i64.wrap ((i:Int)+1)=((i+1:Nat):Int):=by rw [ar (by omega)];simp
     have ht:=m7 s (ga s i) 2 (i+1)
     have hL:=agH s hs v st H K i hi (ga s i) 2 (i+1) (by omega) (by omega)
     obtain ⟨v2,K2,e2,hA2⟩:=dh (H:=H++[.cells .plain (Clu.cs ⟨i,cTo s i,ga s i⟩)]) (t:=st.cur) (by_:=24) (ag:=true) (tk:=.tight) (ys:=[Clu.dv ⟨i,cTo s i,ga s i⟩]) hA (by omega) (by simp) (by simp [Gf]) (by simp [aw];omega) (by simp [aw];omega)
     obtain ⟨v3,J,K3,e3,hA3⟩:=ih (cTo s i) (H++[.cells .plain (Clu.cs ⟨i,cTo s i,ga s i⟩)]) K2 (xs++[⟨i,cTo s i,ga s i⟩]) v2 (by unfold cTo;omega) (by unfold cTo;omega) (by unfold cTo;simp;omega) (by simpa using hA2)
     refine ⟨v3,.cells .plain (Clu.cs ⟨i,cTo s i,ga s i⟩)::J,K3,?_,by simpa [dC,hi] using hA3⟩
     rw [ab (L:=vg) rfl]
     have hg:ga s i=kd (s[i]).toNat:=by simp [ga,hi]
     simp [Clu.cs,Clu.dv,cTo] at e2 e3 hL ⊢
     simp [zL,hi,hw,UX,hL,← hg,aD,aR,jb,chunk,e2,e3]
   · obtain rfl:i=s.length:=by omega
     refine ⟨v,[],K,?_,by simpa [dC] using hA⟩
     rw [ab (L:=vg) rfl]
     simp [zL]
theorem cM {s:List UInt8} (h:cp s=0):s.length≤4096∧s.all rp=true:=by
 unfold cp at h
 split at h
 · simp at h
 · split at h
   · rename_i h1 h2;exact ⟨by omega,h2⟩
   · simp at h
def FX (s:List UInt8) (v:DV):Prop:=∃ t n' tk nn,v=.tuple [.list t n' tk nn ((if cp s=0 then gH s else []).map Clu.dv),.int .i64 (cp s)]∧(nn=true→n'=3)∧(nn=false→(if cp s=0 then gH s else [])=[])
theorem Mg (s:List UInt8) (st:St):∃ v,(E tab).F 33 [.str s] st=some (v,st)∧FX s v:=by
 rw [av ano rfl]
 by_cases hw:cp s=0
 · obtain ⟨hs,_⟩:=cM hw
   obtain ⟨v',J,K',h1,h2⟩:=ahZ s hs st s.length 0 [] [] [] gz (by omega) (by omega) (by simp) (bX _ _ _ _ _ _)
   obtain ⟨t,n',tk,nn,e1,e2,e3,e4⟩:=gR (st':=pst st J K') h2
   obtain ⟨t',n'',tk',nn',rfl⟩:=bR h2
   refine ⟨.tuple [.list t n' tk nn ((gH s).map Clu.dv),.int .i64 0],?_,t,n',tk,nn,by simp [hw],e3,by simpa [hw,gH] using e2⟩
   simp at h1 e1
   simp [f33,uG,hw,h1,e1,gH]
 · exact ⟨.tuple [.list 0 0 .no false [],.int .i64 (cp s)],by simp [f33,uG,hw],0,0,.no,false,by simp [hw],by simp,by simp [hw]⟩
theorem aiW (s:List UInt8) (hs:s.length≤4096) (y:DV) (st:St) (A:List HO) (hA:∀ o,rowAt (A++[o]) 1=some (.plain,[.str s])) (K:List Nat) (a:Nat) (ha:a<s.length) (k:Int):∀ (n t:Nat),t+n=a+3→1≤t →
 (E tab).C Bf [(0,y),(1,.ptr (st.heap.length+1) 0),(3,.int .i64 a),(4,.ptr (st.heap.length+A.length) 0)] (pst st (A++[.cells .plain [.int .i64 a,.int .i64 t,.int .i64 k]]) K) =
  some (.exit 2,[(0,y),(1,.ptr (st.heap.length+1) 0),(3,.int .i64 a),(4,.ptr (st.heap.length+A.length) 0),(40,.bool false)],pst st (A++[.cells .plain [.int .i64 a,.int .i64 (adv s k n t),.int .i64 k]]) K):=by
 intro n
 induction n with
 | zero=>
   intro t ht _
   have hw:IntKind.i64.wrap ((a:Int)+3)=(a:Int)+3:=ar (by omega)
   have h1:¬ (t:Int)<a+3:=by omega
   rw [ab (L:=Bf) rfl]
   by_cases hk:k=1
   · by_cases hl:t<s.length
     · simp [od,hk,hl,hw,h1,adv,hA]
     · simp [od,hk,hl,adv,hA]
   · simp [od,hk,adv]
 | succ n ih=>
   intro t ht h0
   have hw:IntKind.i64.wrap ((a:Int)+3)=(a:Int)+3:=ar (by omega)
   have h1:(t:Int)<a+3:=by omega
   rw [ab (L:=Bf) rfl]
   by_cases hk:k=1
   · by_cases hl:t<s.length
     · have hw2:IntKind.i64.wrap ((t:Int)+1)=((t+1:Nat):Int):=by rw [ar (by omega)];simp
       cases hac:r8 (s[t]).toNat with
       | true=>
         have hJ:=ih (t+1) (by omega) (by omega)
         simp [od,hk,hl,hw,h1,MZ,hac,hw2,adv,hA] at hJ ⊢
         exact hJ
       | false=>simp [od,hk,hl,hw,h1,MZ,hac,adv,hA]
     · simp [od,hk,hl,adv,hA]
   · simp [od,hk,adv]
def lN (st:St):mE:=⟨[(5,.ptr st.heap.length 0),(13,.fn 69 [] [.ptr (st.heap.length+1) 0])],[14],.region Dh [5,6],.block 1 (.region Gg []),0,none⟩
theorem Lz (s:List UInt8) (c:Clu) (st:St) (J:List HO) (K:List Nat) (xs:List Clu) (v:DV) (hx:xs.length≤4096) (hA:Acc st K 3 (xs.map Clu.dv) v) :
 ∃ v' K',(E tab).V (.yield (st.heap.length+2)) [c.dv] (pst st (.cells .plain [v]::.cells .plain [.str s]::.loop (lN st)::J) K) =
   some (.bool true,pst st (.cells .plain [v']::.cells .plain [.str s]::.loop (lN st)::(J++[.cells .plain c.cs])) K')∧Acc st K' 3 ((xs++[c]).map Clu.dv) v':=by
 obtain ⟨v2,K2,e2,hA2⟩:=dh (H:=.cells .plain [v]::.cells .plain [.str s]::.loop { lN st with state:=1 }::(J++[.cells .plain c.cs])) (t:=st.cur) (by_:=24) (ag:=true) (tk:=.tight) (ys:=[c.dv]) hA (by omega) (by simp) (by simp [Gf]) (by simp [aw];omega) (by simp [aw];omega)
 refine ⟨v2,K2,?_,by simpa using hA2⟩
 obtain ⟨t',n',tk',nn',rfl⟩:=bR hA2
 rw [Ao (lo:=lN st) rfl rfl]
 simp [lN,Clu.cs,Clu.dv] at e2 ⊢
 simp [aD,aR,jb,chunk,e2]
theorem adV (s:List UInt8) (hs:s.length≤4096) (st:St):∀ (n i:Nat) (J:List HO) (K:List Nat) (xs:List Clu) (v:DV),s.length≤i+n→i≤s.length→xs.length≤i→Acc st K 3 (xs.map Clu.dv) v →
 ∃ v' J' K',(E tab).C vL [(0,.yield (st.heap.length+2)),(1,.ptr (st.heap.length+1) 0),(3,.int .i64 i)] (pst st (.cells .plain [v]::.cells .plain [.str s]::.loop (lN st)::J) K) =
   some (.exit 0,[(0,.yield (st.heap.length+2)),(1,.ptr (st.heap.length+1) 0),(3,.int .i64 s.length),(8,.bool false)],pst st (.cells .plain [v']::.cells .plain [.str s]::.loop (lN st)::J') K')∧Acc st K' 3 ((xs++dC s n i).map Clu.dv) v':=by
 intro n
 induction n with
 | zero=>
   intro i J K xs v h1 h2 h3 hA
   obtain rfl:i=s.length:=by omega
   refine ⟨v,J,K,?_,by simpa [dC] using hA⟩
   rw [ab (L:=vL) rfl]
   simp [zU]
 | succ n ih=>
   intro i J K xs v h1 h2 h3 hA
   by_cases hi:i<s.length
   · have hw:IntKind.i64.wrap ((i:Int)+1)=((i+1:Nat):Int):=by rw [ar (by omega)];simp
     have ht:=m7 s (ga s i) 2 (i+1)
     have hL:=aiW s hs (.yield (st.heap.length+2)) st (.cells .plain [v]::.cells .plain [.str s]::.loop (lN st)::J) (fun o=>rfl) K i hi (ga s i) 2 (i+1) (by omega) (by omega)
     have hg:ga s i=kd (s[i]).toNat:=by simp [ga,hi]
     obtain ⟨v2,K2,e2,hA2⟩:=Lz s ⟨i,cTo s i,ga s i⟩ st (J++[.cells .plain (Clu.cs ⟨i,cTo s i,ga s i⟩)]) K xs v (by omega) hA
     obtain ⟨v3,J3,K3,e3,hA3⟩:=ih (cTo s i) (J++[.cells .plain (Clu.cs ⟨i,cTo s i,ga s i⟩)]++[.cells .plain (Clu.cs ⟨i,cTo s i,ga s i⟩)]) K2 (xs++[⟨i,cTo s i,ga s i⟩]) v2 (by unfold cTo;omega) (by unfold cTo;omega) (by unfold cTo;simp;omega) (by simpa using hA2)
     refine ⟨v3,J3,K3,?_,by simpa [dC,hi] using hA3⟩
     rw [ab (L:=vL) rfl]
     simp [Clu.cs,Clu.dv,cTo] at e2 e3 hL ⊢
     simp [zU,hi,hw,RS,hL,← hg,e2,e3]
   · obtain rfl:i=s.length:=by omega
     refine ⟨v,J,K,?_,by simpa [dC] using hA⟩
     rw [ab (L:=vL) rfl]
     simp [zU]
theorem Aq (s:List UInt8) (st:St):∃ v,(E tab).F 27 [.str s] st=some (v,st)∧FX s v:=by
 rw [av aoe rfl]
 by_cases hw:cp s=0
 · obtain ⟨hs,_⟩:=cM hw
   obtain ⟨v',J,K',h1,h2⟩:=adV s hs st s.length 0 [] [] [] gz (by omega) (by omega) (by simp) (bX _ _ _ _ _ _)
   obtain ⟨t,n',tk,nn,e1,e2,e3,e4⟩:=gR (st':=pst st (.cells .plain [v']::.cells .plain [.str s]::.loop { lN st with state:=3 }::J) K') h2
   obtain ⟨t',n'',tk',nn',rfl⟩:=bR h2
   refine ⟨.tuple [.list t n' tk nn ((gH s).map Clu.dv),.int .i64 0],?_,t,n',tk,nn,by simp [hw],e3,by simpa [hw,gH] using e2⟩
   have h55:∀ (H:List HO) (K:List Nat),(E tab).F 55 [.str s] (pst st H K)=some (.fn 69 [] [.ptr (st.heap.length+H.length) 0],pst st (H++[.cells .plain [.str s]]) K):=by
    intro H K
    rw [gm anp rfl]
    simp [f55]
   have h69:(E tab).F 69 [.yield (st.heap.length+2),.ptr (st.heap.length+1) 0] (pst st [.cells .plain [gz],.cells .plain [.str s],.loop (lN st)] [])=some (.tuple [],pst st (.cells .plain [.list t' n'' tk' nn' (([]++dC s s.length 0).map Clu.dv)]::.cells .plain [.str s]::.loop (lN st)::J) K'):=by
    rw [gm ajE rfl]
    simp at h1
    simp [f69,h1]
   simp [lN] at h69 e1
   have hr:∀ (fr:Fr) (H:List HO),(E tab).C (.eY (.t 13) [14] (.region Dh [5,6]) (.block 1 (.region Gg [])) [5,13]) [(5,.ptr st.heap.length 0),(13,.fn 69 [] [.ptr (st.heap.length+1) 0])] (pst st [.cells .plain [gz],.cells .plain [.str s]] [])=some (.normal,[(5,.ptr st.heap.length 0),(13,.fn 69 [] [.ptr (st.heap.length+1) 0])],pst st (.cells .plain [.list t' n'' tk' nn' ((dC s s.length 0).map Clu.dv)]::.cells .plain [.str s]::.loop { lN st with state:=3 }::J) K'):=by
    intro fr H
    rw [Bv (g:=69) (first:=[]) (captured:=[.ptr (st.heap.length+1) 0]) rfl ajE]
    simp [h69,lN]
   simp [lN] at hr
   simp [f27,BF,hw,h55,hr,gH,e1]
 · exact ⟨.tuple [.list 0 0 .no false [],.int .i64 (cp s)],by simp [f27,BF,hw],0,0,.no,false,by simp [hw],by simp,by simp [hw]⟩
theorem ane:tab 13=some (.code f13):=by kernel_rfl
theorem anD:tab 14=some (.code f14):=by kernel_rfl
theorem am9:tab 40=some (.code f40):=by kernel_rfl
theorem amY:tab 41=some (.code f41):=by kernel_rfl
theorem an0:tab 42=some (.code f42):=by kernel_rfl
theorem aon:tab 43=some (.code f43):=by kernel_rfl
theorem agX:tab 44=some (.code f44):=by kernel_rfl
theorem anE:tab 46=some (.code f46):=by kernel_rfl
theorem anm:tab 47=some (.code f47):=by kernel_rfl
theorem am5:tab 48=some (.code f48):=by kernel_rfl
theorem ad3:tab 61=some (.code f61):=by kernel_rfl
theorem anB:tab 62=some (.code f62):=by kernel_rfl
theorem ahD:tab 64=some (.jA eG):=by kernel_rfl
theorem aom:tab 66=some (.code f66):=by kernel_rfl
theorem anW:tab 67=some (.code f67):=by kernel_rfl
theorem ahL:tab 72=some (.jA eB):=by kernel_rfl
def fb (n a b:Int):Bool:=decide (a≤n∧n≤b)
theorem cr (n a b:Int) (st:St):(E tab).F 66 [.int .i64 n,.int .i64 a,.int .i64 b] st=some (.bool (fb n a b),st):=by
 rw [av aom rfl]
 by_cases h1:a≤n<;>simp [f66,fb,h1]
theorem dw (n:Int) (st:St):(E tab).F 67 [.int .i64 n] st=some (.bool (fb n 0 1),st):=by
 rw [av anW rfl]
 by_cases h1:n=0
 · simp [f67,fb,h1]
 · by_cases h2:n=1
   · simp [f67,fb,h1,h2]
   · simp [f67,fb,h1,h2]
     rw [Bool.eq_iff_iff];simp;omega
structure aW where
 z:Int
 t:Int
 e:Int
 deriving DecidableEq
def aW.cs (c:aW):List DV:=[.int .i64 c.z,.int .i64 c.t,.int .i64 c.e]
def dm (c:aW):Bool:=fb c.z 0 64&&fb c.t 0 15&&fb c.e 0 1
theorem RL (c:aW) (st:St):(E tab).F 46 [.agg c.cs] st=some (.bool (dm c),st):=by
 rw [av anE rfl]
 cases h1:fb c.z 0 64
 · simp [f46,aW.cs,dm,cr,dw,h1]
 cases h2:fb c.t 0 15
 · simp [f46,aW.cs,dm,cr,dw,h1,h2]
 simp [f46,aW.cs,dm,cr,dw,h1,h2]
theorem aan (c:aW) (st:St):(E tab).F 62 [.agg c.cs] st=some (.bool (dm c),st):=by
 rw [av anB rfl]
 by_cases h1:0≤c.z
 · by_cases h2:c.z≤64
   · by_cases h3:0≤c.t
     · by_cases h4:c.t≤15
       · by_cases h5:c.e=0
         · simp [f62,aW.cs,dm,fb,h1,h2,h3,h4,h5]
         · by_cases h6:c.e=1
           · simp [f62,aW.cs,dm,fb,h1,h2,h3,h4,h6]
           · simp [f62,aW.cs,dm,fb,h1,h2,h3,h4,h5,h6]
             rw [Bool.eq_iff_iff];simp;omega
       · simp [f62,aW.cs,dm,fb,h1,h2,h3,h4]
     · simp [f62,aW.cs,dm,fb,h1,h2,h3]
   · simp [f62,aW.cs,dm,fb,h1,h2]
 · simp [f62,aW.cs,dm,fb,h1]
structure bA where
 size:Int
 rZ:Int
 align:Int
 first:Int
 inn:Int
 out:Int
 before:Int
 after:Int
 next:Int
 whole:Int
 nz:Int
 sR:Int
 a0:Int
 least:Int
 drop:Int
 list:Int
 level:Int
 deriving DecidableEq
def bA.l (p:bA):List Int:=[p.size,p.rZ,p.align,p.first,p.inn,p.out,p.before,p.after,p.next,p.whole,p.nz,p.sR,p.a0,p.least,p.drop,p.list,p.level]
def bA.cs (p:bA):List DV:=[.int .i64 p.size,.int .i64 p.rZ,.int .i64 p.align,.int .i64 p.first,.int .i64 p.inn,.int .i64 p.out,.int .i64 p.before,.int .i64 p.after,.int .i64 p.next,.int .i64 p.whole,.int .i64 p.nz,.int .i64 p.sR,.int .i64 p.a0,.int .i64 p.least,.int .i64 p.drop,.int .i64 p.list,.int .i64 p.level]
def ca (p:bA):Bool:=fb p.size 1 64&&fb p.rZ 1 255&&fb p.align 0 3&&fb p.first 0 255&&fb p.inn 0 255&&fb p.out 0 255&&fb p.before 0 255&&fb p.after 0 255&&fb p.next 0 1&&fb p.whole 0 1&&fb p.nz 1 4&&fb p.sR 1 4&&fb p.a0 0 1&&fb p.least 0 1&&fb p.drop 0 4&&fb p.list 0 8&&fb p.level 0 3
def kO (ok:Nat→Bool):Nat→Nat→Bool
 | _,0=>true
 | i,k+1=>ok i&&kO ok (i+1) k
theorem ajI (vs:List DV) (n lo hi:Nat→Int) (hv:∀ i,i<17→(vs.drop (i*3)).take 3=[.int .i64 (n i),.int .i64 (lo i),.int .i64 (hi i)]) (hl:vs.length=51) (st:St) (K:List Nat):∀ (k i:Nat) (H:List HO),i+k=17 →
 ∃ J,(E tab).C rS [(56,.agg vs),(57,.int .i64 i)] (pst st H K) =
   some (if kO (fun j=>fb (n j) (lo j) (hi j)) i k then (.exit 0,[(56,.agg vs),(57,.int .i64 (17:Nat)),(58,.bool false)],pst st (H++J) K) else (.ret,[(2,.bool false)],pst st (H++J) K)):=by
 intro k
 induction k with
 | zero=>
   intro i H hi0
   obtain rfl:i=17:=by omega
   refine ⟨[],?_⟩
   rw [ab (L:=rS) rfl]
   simp [xn,kO]
 | succ k ih=>
   intro i H hi0
   have h0:(i:Int)<17:=by omega
   have hw:IntKind.i64.wrap ((i:Int)+1)=((i+1:Nat):Int):=by rw [ar (by omega)];simp
   have hx:=hv i (by omega)
   have hx2:i*3+3≤vs.length:=by omega
   by_cases h1:n i<lo i
   · refine ⟨[.cells .plain [.int .i64 (n i),.int .i64 (lo i),.int .i64 (hi i)]],?_⟩
     rw [ab (L:=rS) rfl]
     simp [xn,h0,hx,hx2,h1,kO,fb,show ¬ lo i≤n i by omega]
   by_cases h2:hi i<n i
   · refine ⟨[.cells .plain [.int .i64 (n i),.int .i64 (lo i),.int .i64 (hi i)]],?_⟩
     rw [ab (L:=rS) rfl]
     simp [xn,h0,hx,hx2,h1,h2,kO,fb,show ¬ n i≤hi i by omega]
   obtain ⟨J,hJ⟩:=ih (i+1) (H++[.cells .plain [.int .i64 (n i),.int .i64 (lo i),.int .i64 (hi i)]]) (by omega)
   refine ⟨.cells .plain [.int .i64 (n i),.int .i64 (lo i),.int .i64 (hi i)]::J,?_⟩
   have e1:fb (n i) (lo i) (hi i)=true:=by simp [fb];omega
   rw [ab (L:=rS) rfl]
   simp [e1,kO] at hJ ⊢
   simp [xn,h0,hx,hx2,h1,h2,hw,hJ]
theorem Ki (p:bA) (st:St):(E tab).F 42 [.agg p.cs] st=some (.bool (ca p),st):=by
 rw [av an0 rfl]
 obtain ⟨J,hJ⟩:=ajI [.int .i64 p.size,.int .i64 1,.int .i64 64,.int .i64 p.rZ,.int .i64 1,.int .i64 255,.int .i64 p.align,.int .i64 0,.int .i64 3,.int .i64 p.first,.int .i64 0,.int .i64 255,.int .i64 p.inn,.int .i64 0,.int .i64 255,.int .i64 p.out,.int .i64 0,.int .i64 255,.int .i64 p.before,.int .i64 0,.int .i64 255,.int .i64 p.after,.int .i64 0,.int .i64 255,.int .i64 p.next,.int .i64 0,.int .i64 1,.int .i64 p.whole,.int .i64 0,.int .i64 1,.int .i64 p.nz,.int .i64 1,.int .i64 4,.int .i64 p.sR,.int .i64 1,.int .i64 4,.int .i64 p.a0,.int .i64 0,.int .i64 1,.int .i64 p.least,.int .i64 0,.int .i64 1,.int .i64 p.drop,.int .i64 0,.int .i64 4,.int .i64 p.list,.int .i64 0,.int .i64 8,.int .i64 p.level,.int .i64 0,.int .i64 3] (fun i=>p.l.getD i 0) (fun i=>([1,1,0,0,0,0,0,0,0,0,1,1,0,0,0,0,0]:List Int).getD i 0) (fun i=>([64,255,3,255,255,255,255,255,1,1,4,4,1,1,4,8,3]:List Int).getD i 0) (by
  intro i hi
  match i,hi with
  | 0,_=>rfl
  | 1,_=>rfl
  | 2,_=>rfl
  | 3,_=>rfl
  | 4,_=>rfl
  | 5,_=>rfl
  | 6,_=>rfl
  | 7,_=>rfl
  | 8,_=>rfl
  | 9,_=>rfl
  | 10,_=>rfl
  | 11,_=>rfl
  | 12,_=>rfl
  | 13,_=>rfl
  | 14,_=>rfl
  | 15,_=>rfl
  | 16,_=>rfl
  | k+17,h=>omega) rfl st [] 17 0 [.cells .plain p.cs] rfl
 have e:kO (fun j=>fb (p.l.getD j 0) (([1,1,0,0,0,0,0,0,0,0,1,1,0,0,0,0,0]:List Int).getD j 0) (([64,255,3,255,255,255,255,255,1,1,4,4,1,1,4,8,3]:List Int).getD j 0)) 0 17=ca p:=by
  simp [kO,ca,bA.l,Bool.and_assoc]
 rw [e] at hJ
 cases h:ca p<;>simp [h,bA.cs] at hJ<;>simp [f42,bA.cs,hJ]
theorem ID (p:bA) (st:St):(E tab).F 47 [.agg p.cs] st=some (.bool (ca p),st):=by
 rw [av anm rfl]
 have r1:∀ (_:Unit),(E tab).C (.region GH [1,3]) [(1,.ptr st.heap.length 0)] (pst st [.cells .plain p.cs] [])=some (.normal,[(1,.ptr st.heap.length 0),(3,.bool (fb p.size 1 64&&fb p.rZ 1 255&&fb p.align 0 3))],pst st [.cells .plain p.cs] []):=by
  intro _
  cases h0:fb p.size 1 64
  · simp [bA.cs,cr,dw,h0]
  cases h1:fb p.rZ 1 255
  · simp [bA.cs,cr,dw,h0,h1]
  simp [bA.cs,cr,dw,h0,h1]
 have r2:∀ (x3:DV),(E tab).C (.region Gj [1,3,4]) [(1,.ptr st.heap.length 0),(3,x3)] (pst st [.cells .plain p.cs] [])=some (.normal,[(1,.ptr st.heap.length 0),(3,x3),(4,.bool (fb p.first 0 255&&fb p.inn 0 255&&fb p.out 0 255&&fb p.before 0 255&&fb p.after 0 255))],pst st [.cells .plain p.cs] []):=by
  intro x3
  cases h0:fb p.first 0 255
  · simp [bA.cs,cr,dw,h0]
  cases h1:fb p.inn 0 255
  · simp [bA.cs,cr,dw,h0,h1]
  cases h2:fb p.out 0 255
  · simp [bA.cs,cr,dw,h0,h1,h2]
  cases h3:fb p.before 0 255
  · simp [bA.cs,cr,dw,h0,h1,h2,h3]
  simp [bA.cs,cr,dw,h0,h1,h2,h3]
 have r3:∀ (x3 x4:DV),(E tab).C (.region FK [1,3,4,5]) [(1,.ptr st.heap.length 0),(3,x3),(4,x4)] (pst st [.cells .plain p.cs] [])=some (.normal,[(1,.ptr st.heap.length 0),(3,x3),(4,x4),(5,.bool (fb p.next 0 1&&fb p.whole 0 1&&fb p.a0 0 1&&fb p.least 0 1))],pst st [.cells .plain p.cs] []):=by
  intro x3 x4
  cases h0:fb p.next 0 1
  · simp [bA.cs,cr,dw,h0]
  cases h1:fb p.whole 0 1
  · simp [bA.cs,cr,dw,h0,h1]
  cases h2:fb p.a0 0 1
  · simp [bA.cs,cr,dw,h0,h1,h2]
  simp [bA.cs,cr,dw,h0,h1,h2]
 have r4:∀ (b1 b2 b3:Bool),(E tab).C (.region Dp [2]) [(1,.ptr st.heap.length 0),(3,.bool b1),(4,.bool b2),(5,.bool b3)] (pst st [.cells .plain p.cs] [])=some (.normal,[(2,.bool (b1&&b2&&b3&&fb p.nz 1 4&&fb p.sR 1 4&&fb p.drop 0 4&&fb p.list 0 8&&fb p.level 0 3))],pst st [.cells .plain p.cs] []):=by
  intro b1 b2 b3
  cases b1
  · simp [bA.cs,cr,dw]
  cases b2
  · simp [bA.cs,cr,dw]
  cases b3
  · simp [bA.cs,cr,dw]
  cases h0:fb p.nz 1 4
  · simp [bA.cs,cr,dw,h0]
  cases h1:fb p.sR 1 4
  · simp [bA.cs,cr,dw,h0,h1]
  cases h2:fb p.drop 0 4
  · simp [bA.cs,cr,dw,h0,h1,h2]
  cases h3:fb p.list 0 8
  · simp [bA.cs,cr,dw,h0,h1,h2,h3]
  simp [bA.cs,cr,dw,h0,h1,h2,h3]
 have r1':=r1 ()
 simp only [bA.cs] at r1' r2 r3 r4
 have hb:(E tab).C f47.body (bl [.agg p.cs] 0) (pst st [] [])=some (.ret,[(2,.bool (ca p))],pst st [.cells .plain p.cs] []):=by
  have r0:(E tab).C (.region F0 [1]) (bl [.agg p.cs] 0) (pst st [] [])=some (.normal,[(1,.ptr st.heap.length 0)],pst st [.cells .plain p.cs] []):=by simp [bA.cs]
  show (E tab).C (.seq (.region F0 [1]) (.seq (.region GH [1,3]) (.seq (.region Gj [1,3,4]) (.seq (.region FK [1,3,4,5]) (.seq (.region Dp [2]) .ret))))) _ _=_
  rw [cg,r0]
  simp only [bA.cs]
  rw [cg,r1']
  simp only
  rw [cg,r2]
  simp only
  rw [cg,r3]
  simp only
  rw [cg,r4]
  simp only [akW]
  congr 5
  simp [ca,Bool.and_assoc,Bool.and_comm,Bool.and_left_comm]
 rw [hb]
 simp [f47]
def fC (c:UInt8):Bool:=decide (33≤c.toNat∧c.toNat≤126)
def cC (s:List UInt8) (n:Int):Bool:=s.all fC&&decide ((s.length:Int)≤n)
theorem afE (s:List UInt8) (hs:s.length≤140737488355328) (x y:DV) (st:St) (cur:Nat):∀ (r d:List UInt8),s=d++r →
 (E tab).C Bx [(0,x),(1,y),(8,.list cur 1 .no true (s.map fun b=>.int .u8 b.toNat)),(9,.int .i64 s.length),(10,.int .i64 d.length)] st =
  some (if r.all fC then (.exit 0,[(0,x),(1,y),(8,.list cur 1 .no true (s.map fun b=>.int .u8 b.toNat)),(9,.int .i64 s.length),(10,.int .i64 s.length),(11,.bool false)],st) else (.ret,[(4,.bool false)],st)):=by
 intro r
 induction r with
 | nil=>
   intro d hd
   rw [ab (L:=Bx) rfl]
   simp [vO,hd]
 | cons c r ih=>
   intro d hd
   have h0:d.length<s.length:=by simp [hd]
   have hw:IntKind.i64.wrap ((d.length:Int)+1)=((d++[c]).length:Nat):=by rw [ar (by omega)];simp
   have hg:s[d.length]=c:=by simp [hd]
   rw [ab (L:=Bx) rfl]
   have hJ:=ih (d++[c]) (by simp [hd])
   by_cases h1:(c.toNat:Int)≤32
   · simp [vO,h0,hg,h1,fC,show ¬ 33≤c.toNat by omega]
   by_cases h2:(126:Int)<c.toNat
   · simp [vO,h0,hg,h1,h2,fC,show ¬ c.toNat≤126 by omega]
   have e1:fC c=true:=by simp [fC];omega
   simp [e1] at hJ ⊢
   simp [vO,h0,hg,h1,h2,hw,hJ]
theorem Bh (s:List UInt8) (hs:s.length≤140737488355328) (n:Int) (st:St):(E tab).F 43 [.str s,.int .i64 n] st=some (.bool (cC s n),st):=by
 rw [av aon rfl]
 have h:=afE s hs (.str s) (.int .i64 n) (pst st [] []) st.cur s [] rfl
 simp at h
 cases h2:s.all fC with
 | true=>
   rw [if_pos (by simpa using h2)] at h
   simp [f43,cC,h,h2]
 | false=>
   rw [if_neg (by simpa using h2)] at h
   simp [f43,cC,h,h2]
theorem alI (s:List UInt8) (hs:s.length≤140737488355328) (y:DV) (st:St):∀ (r d:List UInt8),s=d++r →
 (E tab).C zN [(0,.str s),(1,y),(5,.int .i64 d.length)] st =
  some (if r.all fC then (.exit 0,[(0,.str s),(1,y),(5,.int .i64 s.length),(9,.bool false)],st) else (.ret,[(4,.bool false)],st)):=by
 intro r
 induction r with
 | nil=>
   intro d hd
   rw [ab (L:=zN) rfl]
   simp [vm,hd]
 | cons c r ih=>
   intro d hd
   have h0:d.length<s.length:=by simp [hd]
   have hw:IntKind.i64.wrap ((d.length:Int)+1)=((d++[c]).length:Nat):=by rw [ar (by omega)];simp
   have hg:s[d.length]=c:=by simp [hd]
   rw [ab (L:=zN) rfl]
   have hJ:=ih (d++[c]) (by simp [hd])
   by_cases h1:(c.toNat:Int)<33
   · simp [vm,h0,hg,h1,fC,show ¬ 33≤c.toNat by omega]
   by_cases h2:(126:Int)<c.toNat
   · simp [vm,h0,hg,h1,h2,fC,show ¬ c.toNat≤126 by omega]
   have e1:fC c=true:=by simp [fC];omega
   simp [e1] at hJ ⊢
   simp [vm,h0,hg,h1,h2,hw,hJ]
theorem Af (s:List UInt8) (hs:s.length≤140737488355328) (n:Int) (st:St):(E tab).F 48 [.str s,.int .i64 n] st=some (.bool (cC s n),st):=by
 rw [av am5 rfl]
 have h:=alI s hs (.int .i64 n) (pst st [] []) s [] rfl
 simp at h
 cases h2:s.all fC with
 | true=>
   rw [if_pos (by simpa using h2)] at h
   simp [f48,cC,h,h2]
 | false=>
   rw [if_neg (by simpa using h2)] at h
   simp [f48,cC,h,h2]
theorem oX {g:Nat} {p:List DV→St→Option (DV×St)} {args:List DV} {st:St} (h:tab g=some (.jA p)):(E tab).F g args st=p args st:=by
 rw [EF]
 simp only [dy,h]
theorem Bu (s:List UInt8) (c:UInt8) (st:St):(E tab).F 40 [.str s,.int .u8 (c.toNat:Int)] st=some (.int .i64 (Lib.indexByte s c),st):=by
 have h72:∀ st,(E tab).F 72 [.str s,.int .u8 (c.toNat:Int)] st=some (.int .i64 (Lib.indexByte s c),st):=fun st=>by
  rw [oX ahL];simp [eB]
 have h61:∀ st,(E tab).F 61 [.str s,.int .u8 (c.toNat:Int)] st=some (.int .i64 (Lib.indexByte s c),st):=fun st=>by
  rw [av ad3 rfl];simp [f61,h72]
 rw [av am9 rfl];simp [f40,h61]
theorem qN (c:UInt8):∀ s:List UInt8,0≤Lib.indexByte s c↔c∈s
 | []=>by simp [Lib.indexByte]
 | b::r=>by
   have:=qN c r
   have h1:=Lib.indexByte_ge r c
   unfold Lib.indexByte
   by_cases h:b=c
   · simp [h]
   · by_cases h2:c∈r
     · have:=this.2 h2
       simp [h,h2]
       split<;>omega
     · have h3:¬ 0≤Lib.indexByte r c:=fun h=>h2 (this.1 h)
       have h4:Lib.indexByte r c = -1:=by omega
       have h5:¬ c=b:=fun e=>h e.symm
       simp [h,h2,h4,h5]
theorem L3 (s:List UInt8) (st:St):(E tab).F 44 [.str s,.str [2]] st=some (.int .i64 (s.count 2),st):=by
 have h64:∀ st,(E tab).F 64 [.str s,.int .u8 2] st=some (.int .i64 (s.count 2),st):=fun st=>by
  rw [oX ahD];simp [eG,Lib.countByte]
 rw [av agX rfl]
 simp [f44,h64]
structure Span where
 n:Int
 c:aW
 deriving DecidableEq
def Span.cs (s:Span):List DV:=[.int .i64 s.n,.int .i64 s.c.z,.int .i64 s.c.t,.int .i64 s.c.e]
def Span.dv (s:Span):DV:=.agg s.cs
@[simp] theorem Span.leaves (s:Span):s.dv.leaves=s.cs:=rfl
def cu:Int→List Span→Option Int
 | n,[]=>some n
 | n,s::r=>if 1≤s.n∧s.n≤n∧dm s.c=true then cu (n-s.n) r else none
theorem acL (l:List Span) (t n':Nat) (tk:Tk) (nn:Bool) (hn:l≠[]→n'=4) (st:St) (K:List Nat):∀ (r d:List Span) (n:Int) (H:List HO),l=d++r→0≤n→(d.length:Int)+n≤4096 →
 ∃ J fr,(E tab).C pR [(1,.int .i64 n),(7,.list t n' tk nn (l.map Span.dv)),(8,.int .i64 l.length),(9,.int .i64 d.length)] (pst st H K) =
   some (match cu n r with | some m=>(.exit 0,(1,.int .i64 m)::fr,pst st (H++J) K) | none=>(.ret,[(4,.bool false)],pst st (H++J) K)):=by
 intro r
 induction r with
 | nil=>
   intro d n H hd _ _
   refine ⟨[],[(7,.list t n' tk nn (l.map Span.dv)),(8,.int .i64 l.length),(9,.int .i64 l.length),(10,.bool false)],?_⟩
   rw [ab (L:=pR) rfl]
   simp [sx,hd,cu]
 | cons c r ih=>
   intro d n H hd h0 h1
   obtain rfl:n'=4:=hn (by simp [hd])
   have hl:d.length<l.length:=by simp [hd]
   have hg:l[d.length]=c:=by simp [hd]
   have hw:IntKind.i64.wrap ((d.length:Int)+1)=((d++[c]).length:Nat):=by rw [ar (by omega)];simp
   have h62:=fun st=>aan c.c st
   simp only [aW.cs] at h62
   by_cases a1:c.n<1
   · refine ⟨[.cells .plain c.cs],[],?_⟩
     rw [ab (L:=pR) rfl]
     simp [sx,hl,hg,Span.cs,a1,cu,show ¬ 1≤c.n by omega]
   by_cases a2:n<c.n
   · refine ⟨[.cells .plain c.cs],[],?_⟩
     rw [ab (L:=pR) rfl]
     simp [sx,hl,hg,Span.cs,a1,a2,cu,show ¬ c.n≤n by omega]
   cases a3:dm c.c with
   | false=>
     refine ⟨[.cells .plain c.cs],[],?_⟩
     rw [ab (L:=pR) rfl]
     simp [sx,hl,hg,Span.cs,a1,a2,a3,h62,cu]
   | true=>
     obtain ⟨J,fr,hJ⟩:=ih (d++[c]) (n-c.n) (H++[.cells .plain c.cs]) (by simp [hd]) (by omega) (by simp;omega)
     refine ⟨.cells .plain c.cs::J,fr,?_⟩
     have hw2:IntKind.i64.wrap (n-c.n)=n-c.n:=ar (by omega)
     rw [ab (L:=pR) rfl]
     simp [cu,a3,show 1≤c.n∧c.n≤n by omega,Span.cs] at hJ ⊢
     simp [sx,hl,hg,Span.cs,a1,a2,a3,h62,hw,hw2,hJ]
theorem rJ:∀ (r:List Span) (n m:Int),0≤n→cu n r=some m→0≤m∧m≤n
 | [],n,m,h,e=>by simp [cu] at e;omega
 | s::r,n,m,h,e=>by
   simp only [cu] at e
   split at e
   · have:=rJ r (n-s.n) m (by omega) e
     omega
   · cases e
def cB (n:Int) (l:List Span):Bool:=cu n l==some 0
theorem Ig (l:List Span) (t n':Nat) (tk:Tk) (nn:Bool) (hn:l≠[]→n'=4) (n:Int) (h0:0≤n) (h1:n≤4096) (st:St) :
 (E tab).F 41 [.list t n' tk nn (l.map Span.dv),.int .i64 n] st=some (.bool (cB n l),st):=by
 rw [av amY rfl]
 obtain ⟨J,fr,h⟩:=acL l t n' tk nn hn st [] l [] n [] rfl h0 (by simpa using h1)
 simp at h
 cases hm:cu n l with
 | none=>
   rw [hm] at h
   simp [f41,h,cB,hm]
 | some m=>
   rw [hm] at h
   simp [f41,h,cB,hm]
structure LW where
 t:Nat
 n:Nat
 tk:Tk
 nn:Bool
def LW.dv (w:LW) (xs:List DV):DV:=.list w.t w.n w.tk w.nn xs
def LW.ok {α:Type} (w:LW) (n:Nat) (xs:List α):Prop:=(w.nn=true→w.n=n)∧(w.nn=false→xs=[])
theorem LW.ok.n {α:Type} {w:LW} {n:Nat} {xs:List α} (h:w.ok n xs) (hx:xs≠[]):w.n=n:=by
 cases e:w.nn with
 | true=>exact h.1 e
 | false=>exact absurd (h.2 e) hx
structure bk where
 text:List UInt8
 aC:List Span
 pr:bA
 label:List UInt8
 marks:List (List UInt8)
def af (p:bk) (w u:LW):List DV:=.str p.text::w.dv (p.aC.map Span.dv)::(p.pr.cs++[.str p.label,u.dv (p.marks.map .str)])
@[simp high] theorem pc0 (p:bk) (w u:LW):(af p w u)[0]? = some (.str p.text):=rfl
@[simp high] theorem pc1 (p:bk) (w u:LW):(af p w u)[1]? = some (.list w.t w.n w.tk w.nn (p.aC.map Span.dv)):=rfl
@[simp high] theorem pc2 (p:bk) (w u:LW):(af p w u)[2]? = some (.int .i64 p.pr.size):=rfl
@[simp high] theorem aoF (p:bk) (w u:LW):(af p w u)[19]? = some (.str p.label):=rfl
@[simp high] theorem aoI (p:bk) (w u:LW):(af p w u)[20]? = some (.list u.t u.n u.tk u.nn (p.marks.map .str)):=rfl
@[simp] theorem pcl (p:bk) (w u:LW):(af p w u).length=21:=rfl
@[simp] theorem pcP (p:bk) (w u:LW):((af p w u).drop 2).take 17=p.pr.cs:=rfl
@[simp] theorem pcA (p:bk) (w u:LW):(af p w u).take 21=af p w u:=rfl
@[simp high] theorem pcS (p:bk) (w u:LW):(af p w u).all DV.bg=true:=rfl
def dA (m:List UInt8):Bool:=!(m==[])&&cC m 8
def ax (p:bk):Int:=
 if cp p.text=0 then
  if (3:UInt8)∈p.text then 4
  else if cB p.text.length p.aC&&ca p.pr&&cC p.label 16&&decide (p.marks.length=p.text.count 2) then (if p.marks.all dA then 0 else 2)
  else 2
 else cp p.text
def bk.small (p:bk):Prop:=p.label.length≤140737488355328∧p.marks.length≤140737488355328∧∀ m∈p.marks,m.length≤140737488355328
theorem akn (l:List (List UInt8)) (hs:l.length≤140737488355328) (hm:∀ m∈l,m.length≤140737488355328) (u:LW) (hn:l≠[]→u.n=1) (st:St):∀ (r d:List (List UInt8)),l=d++r →
 (E tab).C zY [(49,.list u.t u.n u.tk u.nn (l.map .str)),(50,.int .i64 l.length),(51,.int .i64 d.length)] st =
  some (if r.all dA then (.exit 0,[(49,.list u.t u.n u.tk u.nn (l.map .str)),(50,.int .i64 l.length),(51,.int .i64 l.length),(52,.bool false)],st) else (.ret,[(2,.int .i64 2)],st)):=by
 intro r
 induction r with
 | nil=>
   intro d hd
   rw [ab (L:=zY) rfl]
   simp [xp,hd]
 | cons c r ih=>
   intro d hd
   have hu:=hn (by simp [hd])
   have h0:d.length<l.length:=by simp [hd]
   have hw:IntKind.i64.wrap ((d.length:Int)+1)=((d++[c]).length:Nat):=by rw [ar (by omega)];simp
   have hg:l[d.length]=c:=by simp [hd]
   have h43:=fun st=>Bh c (hm c (by simp [hd])) 8 st
   rw [ab (L:=zY) rfl]
   have hJ:=ih (d++[c]) (by simp [hd])
   by_cases h1:c=[]
   · simp [xp,h0,hg,hu,h1,dA]
   cases h2:cC c 8 with
   | false=>simp [xp,h0,hg,hu,h1,h2,h43,dA]
   | true=>
     simp [dA,h1,h2,hu] at hJ ⊢
     simp [xp,h0,hg,h1,h2,h43,hw,hJ]
theorem AQ (p:bk) (hp:p.small) (w u:LW) (hw:w.ok 4 p.aC) (hu:u.ok 1 p.marks) (st:St):(E tab).F 13 [.agg (af p w u)] st=some (.int .i64 (ax p),st):=by
 rw [av ane rfl]
 obtain ⟨v,hv,t,n',tk,nn,rfl,_⟩:=Aq p.text (pst st [.cells .plain (af p w u)] [])
 by_cases h1:cp p.text=0
 · rw [h1] at hv
   obtain ⟨hlen,_⟩:=cM h1
   by_cases h2:(3:UInt8)∈p.text
   · have h2':=(qN 3 p.text).2 h2
     have h40:=fun st=>Bu p.text 3 st
     simp at h40
     simp [f13,ax,h1,hv,h2,h40,h2']
   have h2':¬ 0≤Lib.indexByte p.text 3:=fun h=>h2 ((qN 3 p.text).1 h)
   have h40:=fun st=>Bu p.text 3 st
   simp at h40
   have h41:=fun st=>Ig p.aC w.t w.n w.tk w.nn hw.n p.text.length (by omega) (by omega) st
   have h42:=fun st=>Ki p.pr st
   have h43:=fun st=>Bh p.label hp.1 16 st
   have h44:=fun st=>L3 p.text st
   cases a1:cB p.text.length p.aC
   · simp [f13,ax,h1,hv,h2,h40,h2',h41,a1]
   cases a2:ca p.pr
   · simp [f13,ax,h1,hv,h2,h40,h2',h41,h42,a1,a2]
   cases a3:cC p.label 16
   · simp [f13,ax,h1,hv,h2,h40,h2',h41,h42,h43,a1,a2,a3]
   by_cases a4:p.marks.length=p.text.count 2
   · have a4':(p.marks.length:Int)=p.text.count 2:=by omega
     have h13:=akn p.marks hp.2.1 hp.2.2 u hu.n (pst st [.cells .plain (af p w u)] []) p.marks [] rfl
     simp [a4] at h13
     by_cases a5:∀ x∈p.marks,dA x=true
     · rw [if_pos a5] at h13
       simp [f13,ax,h1,hv,h2,h40,h2',h41,h42,h43,h44,a1,a2,a3,a4,h13]
       exact a5
     · rw [if_neg a5] at h13
       simp [f13,ax,h1,hv,h2,h40,h2',h41,h42,h43,h44,a1,a2,a3,a4,h13]
       simpa using a5
   · have a4':¬ (p.marks.length:Int)=p.text.count 2:=by omega
     simp [f13,ax,h1,hv,h2,h40,h2',h41,h42,h43,h44,a1,a2,a3,a4,a4']
 · simp [f13,ax,h1,hv]
theorem adJ (s:List UInt8) (hs:s.length≤4096) (PC:List DV) (hP:PC[0]? = some (.str s)) (st:St):∀ (r d:List UInt8) (n:Nat),s=d++r→n≤d.length →
 (E tab).C Ap [(1,.ptr st.heap.length 0),(4,.int .i64 n),(5,.int .i64 d.length)] (pst st [.cells .plain PC] []) =
  some (if (3:UInt8)∈r then (.ret,[(2,.int .i64 4)],pst st [.cells .plain PC] []) else (.exit 0,[(1,.ptr st.heap.length 0),(4,.int .i64 ((n+r.count 2:Nat):Int)),(5,.int .i64 s.length),(20,.bool false)],pst st [.cells .plain PC] [])):=by
 intro r
 induction r with
 | nil=>
   intro d n hd _
   rw [ab (L:=Ap) rfl]
   simp [xq,hd,hP]
 | cons c r ih=>
   intro d n hd hn
   have h0:d.length<s.length:=by simp [hd]
   have hw:IntKind.i64.wrap ((d.length:Int)+1)=((d++[c]).length:Nat):=by rw [ar (by omega)];simp
   have hw2:IntKind.i64.wrap ((n:Int)+1)=((n+1:Nat):Int):=by rw [ar (by omega)];simp
   have hg:s[d.length]=c:=by simp [hd]
   rw [ab (L:=Ap) rfl]
   by_cases h3:c=3
   · simp [xq,h0,hg,hP,h3]
   have h3':¬ (c.toNat:Int)=3:=fun h=>h3 (UInt8.toNat_inj.1 (by show c.toNat=3;omega))
   have h3'':¬ (3:UInt8)=c:=fun h=>h3 h.symm
   by_cases h2:c=2
   · have hJ:=ih (d++[c]) (n+1) (by simp [hd]) (by simp;omega)
     subst h2
     simp [List.count_cons] at hJ ⊢
     have e:n+1+List.count 2 r=n+(List.count 2 r+1):=by omega
     simp [xq,h0,hg,hP,hw,hw2,hJ,show (n:Int)+((List.count 2 r:Nat)+1:Int)=n+1+(List.count 2 r:Nat) by omega]
   · have h2':¬ (c.toNat:Int)=2:=fun h=>h2 (UInt8.toNat_inj.1 (by show c.toNat=2;omega))
     have hJ:=ih (d++[c]) n (by simp [hd]) (by simp;omega)
     have h2'':¬ (2:UInt8)=c:=fun h=>h2 h.symm
     simp [List.count_cons,h3'',h2] at hJ ⊢
     simp [xq,h0,hg,hP,hw,h3',h2',hJ]
theorem aib (l:List Span) (w:LW) (hn:l≠[]→w.n=4) (q:DV) (PC:List DV) (hP:PC[1]? = some (.list w.t w.n w.tk w.nn (l.map Span.dv))) (st:St):∀ (r d:List Span) (n:Int) (H:List HO),l=d++r→0≤n→(d.length:Int)+n≤4096 →
 ∃ J fr,(E tab).C po [(1,.ptr st.heap.length 0),(4,q),(6,.int .i64 n),(7,.int .i64 d.length)] (pst st (.cells .plain PC::H) []) =
   some (match cu n r with | some m=>(.exit 2,(1,.ptr st.heap.length 0)::(4,q)::(6,.int .i64 m)::fr,pst st (.cells .plain PC::(H++J)) []) | none=>(.ret,[(2,.int .i64 2)],pst st (.cells .plain PC::(H++J)) [])):=by
 intro r
 induction r with
 | nil=>
   intro d n H hd _ _
   refine ⟨[],[(7,.int .i64 l.length),(42,.bool false)],?_⟩
   rw [ab (L:=po) rfl]
   simp [sH,hd,hP,cu]
 | cons c r ih=>
   intro d n H hd h0 h1
   have hu:=hn (by simp [hd])
   have hl:d.length<l.length:=by simp [hd]
   have hg:l[d.length]=c:=by simp [hd]
   have hw:IntKind.i64.wrap ((d.length:Int)+1)=((d++[c]).length:Nat):=by rw [ar (by omega)];simp
   have h46:=fun st=>RL c.c st
   simp only [aW.cs] at h46
   by_cases a1:c.n<1
   · refine ⟨[.cells .plain c.cs],[],?_⟩
     rw [ab (L:=po) rfl]
     simp [sH,hl,hg,hP,hu,Span.cs,a1,cu,show ¬ 1≤c.n by omega]
   by_cases a2:n<c.n
   · refine ⟨[.cells .plain c.cs],[],?_⟩
     rw [ab (L:=po) rfl]
     simp [sH,hl,hg,hP,hu,Span.cs,a1,a2,cu,show ¬ c.n≤n by omega]
   cases a3:dm c.c with
   | false=>
     refine ⟨[.cells .plain c.cs],[],?_⟩
     rw [ab (L:=po) rfl]
     simp [sH,hl,hg,hP,hu,Span.cs,a1,a2,a3,h46,cu]
   | true=>
     obtain ⟨J,fr,hJ⟩:=ih (d++[c]) (n-c.n) (H++[.cells .plain c.cs]) (by simp [hd]) (by omega) (by simp;omega)
     refine ⟨.cells .plain c.cs::J,fr,?_⟩
     have hw2:IntKind.i64.wrap (n-c.n)=n-c.n:=ar (by omega)
     rw [ab (L:=po) rfl]
     simp [cu,a3,show 1≤c.n∧c.n≤n by omega,Span.cs] at hJ ⊢
     simp [sH,hl,hg,hP,hu,Span.cs,a1,a2,a3,h46,hw,hw2,hJ]
theorem acG (l:List (List UInt8)) (hs:l.length≤140737488355328) (hm:∀ m∈l,m.length≤140737488355328) (u:LW) (hn:l≠[]→u.n=1) (PC:List DV) (hP:PC[20]? = some (.list u.t u.n u.tk u.nn (l.map .str))) (st:St) (H:List HO):∀ (r d:List (List UInt8)),l=d++r →
 ∃ fr,(E tab).C AX [(1,.ptr st.heap.length 0),(9,.int .i64 d.length)] (pst st (.cells .plain PC::H) []) =
   some (if ∀ x∈r,dA x=true then (.exit 4,fr,pst st (.cells .plain PC::H) []) else (.ret,[(2,.int .i64 2)],pst st (.cells .plain PC::H) [])):=by
 intro r
 induction r with
 | nil=>
   intro d hd
   refine ⟨[(1,.ptr st.heap.length 0),(9,.int .i64 l.length),(94,.bool false)],?_⟩
   rw [ab (L:=AX) rfl]
   simp [vI,hd,hP]
 | cons c r ih=>
   intro d hd
   have hu:=hn (by simp [hd])
   have h0:d.length<l.length:=by simp [hd]
   have hw:IntKind.i64.wrap ((d.length:Int)+1)=((d++[c]).length:Nat):=by rw [ar (by omega)];simp
   have hg:l[d.length]=c:=by simp [hd]
   have h48:=fun st=>Af c (hm c (by simp [hd])) 8 st
   obtain ⟨fr,hJ⟩:=ih (d++[c]) (by simp [hd])
   refine ⟨fr,?_⟩
   rw [ab (L:=AX) rfl]
   by_cases h1:c=[]
   · simp [vI,h0,hg,hP,hu,h1,dA]
   cases h2:cC c 8 with
   | false=>simp [vI,h0,hg,hP,hu,h1,h2,h48,dA]
   | true=>
     have e:dA c=true:=by simp [dA,h1,h2]
     simp [e,hu] at hJ ⊢
     simp [vI,h0,hg,hP,hu,h1,h2,h48,hw,hJ]
theorem uS (p:bk) (hp:p.small) (w u:LW) (hw:w.ok 4 p.aC) (hu:u.ok 1 p.marks) (st:St):(E tab).F 14 [.agg (af p w u)] st=some (.int .i64 (ax p),st):=by
 rw [av anD rfl]
 have h45:=fun st=>uG p.text st
 by_cases h1:cp p.text=0
 · obtain ⟨hlen,_⟩:=cM h1
   have hc:=adJ p.text hlen (af p w u) rfl st p.text [] 0 rfl (by simp)
   simp at hc
   by_cases h2:(3:UInt8)∈p.text
   · simp [f14,ax,h1,h45,h2,hc]
   rw [if_neg h2] at hc
   obtain ⟨J,fr,hJ⟩:=aib p.aC w hw.n (.int .i64 (p.text.count 2)) (af p w u) rfl st p.aC [] p.text.length [] rfl (by omega) (by simp;omega)
   simp at hJ
   cases a1:cu p.text.length p.aC with
   | none=>
     rw [a1] at hJ
     simp [f14,ax,h1,h45,h2,hc,hJ,cB,a1]
   | some m=>
     rw [a1] at hJ
     have hm:=rJ _ _ _ (by omega) a1
     by_cases a2:0<m
     · simp [f14,ax,h1,h45,h2,hc,hJ,cB,a1,a2,show ¬ m=0 by omega]
     obtain rfl:m=0:=by omega
     have h47:=fun st=>ID p.pr st
     have h48:=fun st=>Af p.label hp.1 16 st
     cases a3:ca p.pr
     · simp [f14,ax,h1,h45,h2,hc,hJ,cB,a1,h47,a3]
     cases a4:cC p.label 16
     · simp [f14,ax,h1,h45,h2,hc,hJ,cB,a1,h47,h48,a3,a4]
     by_cases a5:p.marks.length=p.text.count 2
     · obtain ⟨fr2,hK⟩:=acG p.marks hp.2.1 hp.2.2 u hu.n (af p w u) rfl st J p.marks [] rfl
       simp at hK
       by_cases a6:∀ x∈p.marks,dA x=true
       · rw [if_pos a6] at hK
         simp [f14,ax,h1,h45,h2,hc,hJ,cB,a1,h47,h48,a3,a4,a5,hK]
         exact a6
       · rw [if_neg a6] at hK
         simp [f14,ax,h1,h45,h2,hc,hJ,cB,a1,h47,h48,a3,a4,a5,hK]
         simpa using a6
     · have a5':¬ (p.marks.length:Int)=p.text.count 2:=by omega
       simp [f14,ax,h1,h45,h2,hc,hJ,cB,a1,h47,h48,a3,a4,a5,a5']
 · simp [f14,ax,h1,h45]
theorem aog:tab 10=some (.code f10):=by kernel_rfl
theorem anI:tab 11=some (.code f11):=by kernel_rfl
theorem anP:tab 29=some (.code f29):=by kernel_rfl
theorem anZ:tab 34=some (.code f34):=by kernel_rfl
theorem amH:tab 35=some (.code f35):=by kernel_rfl
theorem aor:tab 36=some (.code f36):=by kernel_rfl
theorem am1:tab 56=some (.code f56):=by kernel_rfl
def b0:Int→List Span→Int→Option aW
 | _,[],_=>none
 | e,s::r,i=>if i<e+s.n then some s.c else b0 (e+s.n) r i
def iZ:aW:=⟨0,0,0⟩
def bj (l:List Span) (i:Int):aW:=(b0 0 l i).getD iZ
def fK:List Span→Int
 | []=>0
 | s::r=>s.n+fK r
def kL (l:List Span):Prop:=∀ s∈l,1≤s.n∧dm s.c=true
theorem jm:∀ (r:List Span) (n m:Int),cu n r=some m→kL r∧fK r=n-m
 | [],n,m,e=>by
   simp [cu] at e
   exact ⟨fun s hs=>(by cases hs),by simp [fK];omega⟩
 | s::r,n,m,e=>by
   simp only [cu] at e
   split at e
   · rename_i h
     obtain ⟨h1,h2⟩:=jm r _ m e
     refine ⟨fun x hx => ?_,by simp [fK];omega⟩
     rcases List.mem_cons.1 hx with rfl | hx
     · exact ⟨h.1,h.2.2⟩
     · exact h1 x hx
   · cases e
theorem oV:∀ {l:List Span},kL l→(l.length:Int)≤fK l
 | [],_=>by simp [fK]
 | s::r,h=>by
   have:=oV (l:=r) fun x hx=>h x (List.mem_cons_of_mem _ hx)
   have:=(h s (List.mem_cons_self ..)).1
   simp [fK];omega
theorem ajJ (l:List Span) (w:LW) (hn:l≠[]→w.n=4) (PC:List DV) (hP:PC[1]? = some (.list w.t w.n w.tk w.nn (l.map Span.dv))) (i:Int) (st:St):∀ (r d:List Span) (e:Int),l=d++r→kL r→(d.length:Int)≤e→e+fK r≤4096 →
 ∃ fr,(E tab).C A8 [(1,.int .i64 i),(2,.ptr st.heap.length 0),(4,.ptr (st.heap.length+1) 0),(5,.int .i64 e),(6,.int .i64 d.length)] (pst st [.cells .plain PC,.cells .plain iZ.cs] []) =
   some (match b0 e r i with
    | some c=>(.ret,[(4,.ptr (st.heap.length+1) 0)],pst st [.cells .plain PC,.cells .plain c.cs] [])
    | none=>(.exit 0,(1,.int .i64 i)::(2,.ptr st.heap.length 0)::(4,.ptr (st.heap.length+1) 0)::fr,pst st [.cells .plain PC,.cells .plain iZ.cs] [])):=by
 intro r
 induction r with
 | nil=>
   intro d e hd _ _ _
   refine ⟨[(5,.int .i64 e),(6,.int .i64 l.length),(11,.bool false)],?_⟩
   rw [ab (L:=A8) rfl]
   simp [BD,hd,hP,b0]
 | cons c r ih=>
   intro d e hd hok h0 h1
   have hu:=hn (by simp [hd])
   have hl:d.length<l.length:=by simp [hd]
   have hg:l[d.length]=c:=by simp [hd]
   have hc:=(hok c (List.mem_cons_self ..)).1
   have hr:kL r:=fun x hx=>hok x (List.mem_cons_of_mem _ hx)
   have hs:=oV hr
   simp only [fK] at h1
   have hw:IntKind.i64.wrap ((d.length:Int)+1)=((d++[c]).length:Nat):=by rw [ar (by omega)];simp
   have hw2:IntKind.i64.wrap (e+c.n)=e+c.n:=ar (by omega)
   obtain ⟨fr,hJ⟩:=ih (d++[c]) (e+c.n) (by simp [hd]) hr (by simp;omega) (by omega)
   refine ⟨fr,?_⟩
   rw [ab (L:=A8) rfl]
   by_cases a:i<e+c.n
   · simp [BD,hl,hg,hP,hu,Span.cs,hw2,a,b0,iZ,aW.cs]
   · simp [iZ,aW.cs] at hJ ⊢
     simp [BD,hl,hg,hP,hu,Span.cs,hw,hw2,a,b0,hJ]
theorem zu (p:bk) (w u:LW) (hw:w.ok 4 p.aC) (h1:kL p.aC) (h2:fK p.aC≤4096) (i:Int) (st:St):(E tab).F 35 [.agg (af p w u),.int .i64 i] st=some (.agg (bj p.aC i).cs,st):=by
 rw [av amH rfl]
 obtain ⟨fr,h⟩:=ajJ p.aC w hw.n (af p w u) rfl i st p.aC [] 0 rfl h1 (by simp) (by omega)
 simp [iZ,aW.cs] at h
 cases hf:b0 0 p.aC i with
 | some c=>
   rw [hf] at h
   simp [f35,h,bj,hf,aW.cs]
 | none=>
   rw [hf] at h
   simp [f35,h,bj,hf,aW.cs,iZ]
def sizeOf (p:bk) (i:Int):Int:=if (bj p.aC i).z=0 then p.pr.size else (bj p.aC i).z
theorem aaL (p:bk) (w u:LW) (hw:w.ok 4 p.aC) (h1:kL p.aC) (h2:fK p.aC≤4096) (i:Int) (st:St):(E tab).F 34 [.agg (af p w u),.int .i64 i] st=some (.int .i64 (sizeOf p i),st):=by
 rw [av anZ rfl]
 have h35:=fun st=>zu p w u hw h1 h2 i st
 by_cases hz:(bj p.aC i).z=0
 · simp [f34,h35,aW.cs,hz,sizeOf]
 · simp [f34,h35,aW.cs,hz,sizeOf]
def aV (k:Int):Bool:=k==1||k==2
theorem Bz (k:Int) (st:St):(E tab).F 36 [.int .i64 k] st=some (.bool (aV k),st):=by
 rw [av aor rfl]
 by_cases h:k=1<;>simp [f36,aV,h]
theorem adT (x0:HO) (i:Int) (w:LW) (st:St) (K:List Nat) (J:List HO):∀ (r:List Span) (s:Span) (e:Int) (tk:Tk),kL (s::r)→0≤e→e+fK (s::r)≤4096→e≤i→i<e+fK (s::r) →
 ∃ e' s' r' tk' fr,(E tab).C xf [(0,.int .i64 i),(1,.ptr (st.heap.length+1) 0),(2,.ptr (st.heap.length+2) 0),(4,.ptr (st.heap.length+(J.length+3)) 0)] (pst st (x0::.cells .plain [.list w.t 4 tk true ((s::r).map Span.dv)]::.cells .plain [.int .i64 (e+s.n)]::(J++[.cells .plain iZ.cs])) K) =
   some (.exit 0,(0,.int .i64 i)::(1,.ptr (st.heap.length+1) 0)::(2,.ptr (st.heap.length+2) 0)::(4,.ptr (st.heap.length+(J.length+3)) 0)::fr,pst st (x0::.cells .plain [.list w.t 4 tk' true ((s'::r').map Span.dv)]::.cells .plain [.int .i64 (e'+s'.n)]::(J++[.cells .plain iZ.cs])) K) ∧
   kL (s'::r')∧e≤e'∧e'+fK (s'::r')=e+fK (s::r)∧e'≤i∧i<e'+s'.n∧(∀ j,i≤j→b0 e (s::r) j=b0 e' (s'::r') j):=by
 intro r
 induction r with
 | nil=>
   intro s e tk h1 h2 h3 h4 h5
   refine ⟨e,s,[],tk,[(12,.bool false)],?_,h1,Int.le_refl _,rfl,h4,by simpa [fK] using h5,fun _ _=>rfl⟩
   rw [ab (L:=xf) rfl]
   simp [AJ]
 | cons c r ih=>
   intro s e tk h1 h2 h3 h4 h5
   by_cases a:e+s.n≤i
   · have hc:kL (c::r):=fun x hx=>h1 x (List.mem_cons_of_mem _ hx)
     have hs:=(h1 s (List.mem_cons_self ..)).1
     have hg:=oV hc
     simp only [fK] at h3 h5 hg
     have hcn:=(hc c (List.mem_cons_self ..)).1
     simp only [List.length_cons] at hg
     have hw2:IntKind.i64.wrap (e+s.n+c.n)=e+s.n+c.n:=ar (by have:=oV (l:=r) (fun x hx=>hc x (List.mem_cons_of_mem _ hx));omega)
     obtain ⟨e',s',r',tk',fr,k1,k2,k3,k4,k5,k6,k7⟩:=ih c (e+s.n) (qA tk (r.length+2) 1 (r.length+2)) hc (by omega) (by simp only [fK];omega) a (by simp only [fK];omega)
     refine ⟨e',s',r',tk',fr,?_,k2,by omega,?_,k5,k6,fun j hj => ?_⟩
     · rw [ab (L:=xf) rfl]
       have hsl:bF false 4 (.list w.t 4 tk true (s.dv::c.dv::r.map Span.dv)) (some (.int .i64 1)) none none=_:=l8 (fun _=>rfl) (by omega) (by simp;omega)
       simp [iZ,aW.cs] at k1 hsl ⊢
       simp [AJ,a,hsl,hw2,Span.cs,k1,show (1:Int)<r.length+1+1 by omega]
     · rw [k4];simp only [fK];omega
     · rw [← k7 j hj]
       simp only [b0]
       rw [if_neg (by omega)]
   · refine ⟨e,s,c::r,tk,[(12,.bool false)],?_,h1,Int.le_refl _,rfl,h4,by omega,fun _ _=>rfl⟩
     rw [ab (L:=xf) rfl]
     simp [AJ,a,show (1:Int)<r.length+1+1 by omega]
structure Ja (l:List Span) (i:Int) (e:Int) (s:Span) (r:List Span):Prop where
 ok:kL (s::r)
 e0:0≤e
 ei:e≤i
 sum:e+fK (s::r)=fK l
 same:∀ j,i≤j→b0 0 l j=b0 e (s::r) j
theorem Uo (l:List Span) (x0:HO) (i:Int) (w:LW) (st:St) (K:List Nat) (J:List HO) (r:List Span) (s:Span) (e i0:Int) (tk:Tk) (h:Ja l i0 e s r) (hi:i0≤i) (h3:fK l≤4096) (h5:i<fK l) :
 ∃ e' s' r' tk',(E tab).F 56 [.int .i64 i,.ptr (st.heap.length+1) 0,.ptr (st.heap.length+2) 0] (pst st (x0::.cells .plain [.list w.t 4 tk true ((s::r).map Span.dv)]::.cells .plain [.int .i64 (e+s.n)]::J) K) =
   some (.agg (bj l i).cs,pst st (x0::.cells .plain [.list w.t 4 tk' true ((s'::r').map Span.dv)]::.cells .plain [.int .i64 (e'+s'.n)]::(J++[.cells .plain (bj l i).cs])) K)∧Ja l i e' s' r':=by
 obtain ⟨e',s',r',tk',fr,k1,k2,k3,k4,k5,k6,k7⟩:=adT x0 i w st K J r s e tk h.ok h.e0 (by have:=h.sum;omega) (by have:=h.ei;omega) (by have:=h.sum;omega)
 have hlk:bj l i=s'.c:=by
  unfold bj
  rw [h.same i hi,k7 i (Int.le_refl _)]
  simp [b0,k6]
 refine ⟨e',s',r',tk',?_,k2,by have:=h.e0;omega,k5,by rw [k4];exact h.sum,fun j hj=>by rw [h.same j (by omega),k7 j hj]⟩
 rw [gm am1 rfl,hlk]
 simp [iZ,aW.cs] at k1 ⊢
 simp [f56,k1,Span.cs]
def qq:List Span→Int
 | []=>0
 | s::_=>s.n
theorem Ke (x0:HO) (w:LW) (l:List Span) (hw:w.ok 4 l) (st:St) (K:List Nat):(E tab).F 29 [.list w.t w.n w.tk w.nn (l.map Span.dv)] (pst st [x0] K) =
 some (.fn 56 [] [.ptr (st.heap.length+1) 0,.ptr (st.heap.length+2) 0],pst st [x0,.cells .plain [.list w.t w.n w.tk w.nn (l.map Span.dv)],.cells .plain [.int .i64 (qq l)]] K):=by
 rw [gm anP rfl]
 cases l with
 | nil=>simp [f29,qq]
 | cons s r=>
   have:=hw.n (by simp)
   simp [f29,this,qq,Span.cs,show (0:Int)<r.length+1 by omega]
theorem k9 (p:bk) (hp:ca p.pr=true) (h1:kL p.aC) (i:Int):1≤sizeOf p i∧sizeOf p i≤64∧0≤(bj p.aC i).t∧(bj p.aC i).t≤15:=by
 have hs:1≤p.pr.size∧p.pr.size≤64:=by
  simp only [ca,Bool.and_eq_true,fb,decide_eq_true_eq] at hp
  omega
 have:∀ (l:List Span) (e:Int),kL l→dm ((b0 e l i).getD iZ)=true:=by
  intro l
  induction l with
  | nil=>intro e _;rfl
  | cons s r ih=>
    intro e h
    simp only [b0]
    split
    · exact (h s (List.mem_cons_self ..)).2
    · exact ih _ fun x hx=>h x (List.mem_cons_of_mem _ hx)
 have:=this p.aC 0 h1
 change dm (bj p.aC i)=true at this
 simp only [dm,Bool.and_eq_true,fb,decide_eq_true_eq] at this
 unfold sizeOf
 split<;>omega
def bAt (s:List UInt8) (i:Nat):UInt8:=s.getD i 0
def gf (p:bk) (mk:List (List UInt8)) (c:Clu):Int:=
 if aV c.k||c.k==3 then IntKind.i64.wrap (wd (bAt p.text c.a) (sizeOf p c.a)+(bj p.aC c.a).t)
 else if c.k=7 then tw (sizeOf p c.a) 0 (mk.headD []) else 0
def aZ (p:bk) (kr:Bool) (bf:UInt8) (ps:Int) (c:Clu):Int:=
 if aV c.k&&(bj p.aC c.a).e==1&&kr&&ps==sizeOf p c.a then fY bf (bAt p.text c.a) (sizeOf p c.a) else 0
def ay (p:bk) (kr:Bool) (bf:UInt8) (ps:Int) (mk:List (List UInt8)) (c:Clu):aa:=⟨c.a,c.b,c.k,sizeOf p c.a,gf p mk c,aZ p kr bf ps c⟩
def dd (p:bk) (c:Clu):Bool:=aV c.k&&(bj p.aC c.a).e==1
def lV (mk:List (List UInt8)) (c:Clu):List (List UInt8):=if c.k=7 then mk.tail else mk
def cN (p:bk):Bool→UInt8→Int→List (List UInt8)→List Clu→List aa
 | _,_,_,_,[]=>[]
 | kr,bf,ps,mk,c::r=>ay p kr bf ps mk c::cN p (dd p c) (bAt p.text c.a) (sizeOf p c.a) (lV mk c) r
def nY (p:bk):List aa:=cN p false 0 0 p.marks (gH p.text)
theorem ai9 (x0 x1 x2 x3:HO) (J:List HO) (K:List Nat) (st:St) (p:bk) (c:Clu) (mk:List (List UInt8)) (u:LW) (tk:Tk) (hu:c.k=7→mk≠[]) (hn:mk≠[]→u.n=1∧u.nn=true) (hm:∀ m∈mk,m.length≤4096) (y1 y7 y9 y10 y11 y34 y35 y36:DV) :
 ∃ tk' fr,(E tab).C sM [(1,y1),(7,y7),(8,.list u.t u.n tk u.nn (mk.map .str)),(9,y9),(10,y10),(11,y11),(13,.ptr (st.heap.length+(J.length+3)) 0),(14,.ptr (st.heap.length+(J.length+5)) 0),(15,.ptr (st.heap.length+(J.length+6)) 0),(16,.int .u8 (bAt p.text c.a).toNat),(17,.bool (aV c.k)),(34,y34),(35,y35),(36,y36)]
   (pst st (x0::x1::x2::(J++[.cells .plain c.cs,x3,.cells .plain (bj p.aC c.a).cs,.cells .plain [.int .i64 c.a,.int .i64 c.b,.int .i64 c.k,.int .i64 (sizeOf p c.a),.int .i64 0,.int .i64 0]])) K) =
   some (.normal,[(1,y1),(7,y7),(8,.list u.t u.n tk' u.nn ((lV mk c).map .str)),(9,y9),(10,y10),(11,y11),(14,.ptr (st.heap.length+(J.length+5)) 0),(15,.ptr (st.heap.length+(J.length+6)) 0),(16,.int .u8 (bAt p.text c.a).toNat),(17,.bool (aV c.k)),(34,y34),(35,y35),(36,y36)]++fr,
    pst st (x0::x1::x2::(J++[.cells .plain c.cs,x3,.cells .plain (bj p.aC c.a).cs,.cells .plain [.int .i64 c.a,.int .i64 c.b,.int .i64 c.k,.int .i64 (sizeOf p c.a),.int .i64 (gf p mk c),.int .i64 0]])) K):=by
 have h30:=fun st=>wz (bAt p.text c.a) (sizeOf p c.a) st
 by_cases h1:aV c.k=true
 · refine ⟨tk,[],?_⟩
   have h7:¬ c.k=7:=by intro h;rw [h] at h1;cases h1
   simp [sM,Clu.cs,aW.cs,h1,h30,gf,lV,h7]
 · have h1':aV c.k=false:=by simpa using h1
   by_cases h3:c.k=3
   · refine ⟨tk,[],?_⟩
     simp [sM,Clu.cs,aW.cs,show aV 3=false from rfl,h3,h30,gf,lV]
   · by_cases h7:c.k=7
     · have hne:=hu h7
       obtain ⟨hn1,hn2⟩:=hn hne
       match mk,hne with
       | m::ms,_=>
         have h31:=fun st=>wC m (hm m (List.mem_cons_self ..)) (sizeOf p c.a) st
         have hsl:bF false 1 (.list u.t 1 tk true (.str m::ms.map .str)) (some (.int .i64 1)) none none=_:=l8 (fun _=>rfl) (by omega) (by simp;omega)
         refine ⟨qA tk (ms.length+1) 1 (ms.length+1),[],?_⟩
         simp at hsl
         simp [sM,Clu.cs,aW.cs,show aV 7=false from rfl,h7,h31,gf,lV,hn1,hn2,hsl]
     · refine ⟨tk,[(88,.bool false)],?_⟩
       simp [sM,Clu.cs,aW.cs,h1',h3,h7,gf,lV]
def AA (s:List UInt8):Nat→List Clu→Prop
 | _,[]=>True
 | i,c::r=>i≤c.a∧c.a<s.length∧AA s c.a r
def p8 (l:List Clu):Nat:=(l.filter fun c=>c.k==7).length
theorem mK {mk:List (List UInt8)} {c:Clu} {r:List Clu} (h:mk.length=p8 (c::r)):(lV mk c).length=p8 r∧(c.k=7→mk≠[]):=by
 unfold p8 at h ⊢
 unfold lV
 by_cases h7:c.k=7
 · simp [h7] at h ⊢
   refine ⟨by omega,fun e=>by simp [e] at h⟩
 · simp [h7] at h ⊢
   exact h
theorem vr {mk:List (List UInt8)} {c:Clu} {m:List UInt8} (h:m∈lV mk c):m∈mk:=by
 unfold lV at h
 split at h
 · exact List.mem_of_mem_tail h
 · exact h
def H10 (p:bk) (w u:LW) (tk:Tk) (s:Span) (sp:List Span) (e:Int) (J:List HO):List HO:=
 .cells .plain (af p w u)::.cells .plain [.list w.t 4 tk true ((s::sp).map Span.dv)]::.cells .plain [.int .i64 (e+s.n)]::J
set_option maxHeartbeats 8000000 in
theorem afo (p:bk) (w u:LW) (hpr:ca p.pr=true) (hSp:kL p.aC) (hsum:fK p.aC=p.text.length) (hlen:p.text.length≤4096) (cs:List Clu) (hcs:cs.length≤4096) (ct cn:Nat) (ctk:Tk) (cnn:Bool) (hcn:cs≠[]→cn=3) (st:St) :
 ∀ (r d:List Clu) (J:List HO) (K:List Nat) (xs:List aa) (kr:Bool) (bf:UInt8) (ps:Int) (mk:List (List UInt8)) (tk tk2:Tk) (s:Span) (sp:List Span) (e:Int) (i0:Nat) (v:DV),
 cs=d++r→AA p.text i0 r→Ja p.aC i0 e s sp→Acc st K 6 (xs.map aa.dv) v→xs.length=d.length→(kr=true→∃ ys m,xs=ys++[m]∧m.s=ps)→mk.length=p8 r→(∀ m∈mk,m.length≤4096)→(mk≠[]→u.n=1∧u.nn=true) →
 ∃ v' H' K' y8 fr,(E tab).C vB [(1,.ptr st.heap.length 0),(7,.fn 56 [] [.ptr (st.heap.length+1) 0,.ptr (st.heap.length+2) 0]),(8,.list u.t u.n tk u.nn (mk.map .str)),(9,v),(10,.bool kr),(11,.int .u8 bf.toNat),(34,.list ct cn ctk cnn (cs.map Clu.dv)),(35,.int .i64 cs.length),(36,.int .i64 d.length)]
  (pst st (H10 p w u tk2 s sp e J) K) =
  some (.exit 0,(1,.ptr st.heap.length 0)::(7,.fn 56 [] [.ptr (st.heap.length+1) 0,.ptr (st.heap.length+2) 0])::(8,y8)::(9,v')::fr,pst st H' K')∧Acc st K' 6 ((xs++cN p kr bf ps mk r).map aa.dv) v':=by
 intro r
 induction r with
 | nil=>
   intro d J K xs kr bf ps mk tk tk2 s sp e i0 v hd _ _ hA _ _ _ _ _
   refine ⟨v,H10 p w u tk2 s sp e J,K,.list u.t u.n tk u.nn (mk.map .str),[(10,.bool kr),(11,.int .u8 bf.toNat),(34,.list ct cn ctk cnn (cs.map Clu.dv)),(35,.int .i64 cs.length),(36,.int .i64 cs.length),(37,.bool false)],?_,by simpa [cN] using hA⟩
   rw [ab (L:=vB) rfl]
   simp [dZ,hd]
 | cons c r ih=>
   intro d J K xs kr bf ps mk tk tk2 s sp e i0 v hd hC hL hA hxl hkr hmk hml hmn
   obtain ⟨c1,c2,c3⟩:=hC
   obtain rfl:cn=3:=hcn (by simp [hd])
   have h0:d.length<cs.length:=by simp [hd]
   have hw:IntKind.i64.wrap ((d.length:Int)+1)=((d++[c]).length:Nat):=by rw [ar (by omega)];simp
   have hg:cs[d.length]=c:=by simp [hd]
   obtain ⟨e',s',sp',tk2',h56,hL'⟩:=Uo p.aC (.cells .plain (af p w u)) c.a w st K (J++[.cells .plain c.cs]) sp s e i0 tk2 hL (by omega) (by omega) (by omega)
   have hsz:=k9 p hpr hSp c.a
   have hb:p.text[c.a]? = some (bAt p.text c.a):=qD c2
   obtain ⟨tk',fr',hK⟩:=ai9 (.cells .plain (af p w u)) (.cells .plain [.list w.t 4 tk2' true ((s'::sp').map Span.dv)]) (.cells .plain [.int .i64 (e'+s'.n)]) (.cells .plain (bj p.aC c.a).cs) J K st p c mk u tk (mK hmk).2 hmn hml
    (.ptr st.heap.length 0) (.fn 56 [] [.ptr (st.heap.length+1) 0,.ptr (st.heap.length+2) 0]) v (.bool kr) (.int .u8 bf.toNat) (.list ct 3 ctk cnn (cs.map Clu.dv)) (.int .i64 cs.length) (.int .i64 d.length)
   have h32:=fun st=>yg bf (bAt p.text c.a) (sizeOf p c.a) ⟨hsz.1,hsz.2.1⟩ st
   obtain ⟨v2,K2,e2,hA2⟩:=dh (H:=.cells .plain (af p w u)::.cells .plain [.list w.t 4 tk2' true ((s'::sp').map Span.dv)]::.cells .plain [.int .i64 (e'+s'.n)]::(J++[.cells .plain c.cs,.cells .plain (bj p.aC c.a).cs,.cells .plain (bj p.aC c.a).cs,.cells .plain (ay p kr bf ps mk c).cs]))
    (t:=st.cur) (by_:=48) (ag:=true) (tk:=.tight) (ys:=[(ay p kr bf ps mk c).dv]) hA (by omega) (by simp) (by simp [Bo]) (by simp [aw];omega) (by simp [aw];omega)
   obtain ⟨v3,H3,K3,y8,fr,e3,hA3⟩:=ih (d++[c]) (J++[.cells .plain c.cs,.cells .plain (bj p.aC c.a).cs,.cells .plain (bj p.aC c.a).cs,.cells .plain (ay p kr bf ps mk c).cs]) K2 (xs++[ay p kr bf ps mk c]) (dd p c) (bAt p.text c.a) (sizeOf p c.a) (lV mk c) tk' tk2' s' sp' e' c.a v2
    (by simp [hd]) c3 hL' (by simpa using hA2) (by simp [hxl]) (fun _=>⟨xs,_,rfl,rfl⟩) (mK hmk).1 (fun m hm=>hml m (vr hm)) (fun hne=>hmn fun h=>hne (by rw [h];unfold lV;split<;>rfl))
   refine ⟨v3,H3,K3,y8,fr,?_,by simpa [cN] using hA3⟩
   obtain ⟨vt,vn,vtk,vnn,rfl⟩:=bR hA
   rw [ab (L:=vB) rfl]
   unfold H10 at e3 ⊢
   by_cases hz:(bj p.aC c.a).z=0
   · have hq:p.pr.size=sizeOf p c.a:=by simp [sizeOf,hz]
     by_cases q1:c.k=1
     · have k1:aV c.k=true:=by rw [q1];rfl
       by_cases k2:(bj p.aC c.a).e=1
       · have hk:dd p c=true:=by simp [dd,k1,k2]
         cases kr with
         | false=>
           have hE:aZ p false bf ps c=0:=by simp [aZ]
           simp [aa.dv,aa.cs,ay,Clu.cs,Clu.dv,aW.cs,hz,hq,show aV 1=true from rfl,q1,k1,k2,hk,hE] at e2 e3 hK h56 ⊢
           simp [dZ,dT,aa.dv,aa.cs,ay,Clu.cs,Clu.dv,aW.cs,h0,hg,hw,hb,h56,hK,h32,aD,aR,chunk,e2,e3,hz,hq,show aV 1=true from rfl,q1,k1,k2,hk,hE]
         | true=>
           obtain ⟨ys,m0,rfl,rfl⟩:=hkr rfl
           obtain ⟨rfl,rfl⟩:vn=6∧vnn=true:=by
            rcases hA with ⟨h,_⟩ | ⟨k,q,h,_⟩
            · simp at h
            · injection h with _ h2 _ h4;exact ⟨h2,h4⟩
           simp only [List.map_append,List.map_cons,List.map_nil] at e2 hK h56
           have hyl:IntKind.i64.wrap (ys.length:Int)=ys.length:=ar (by simp at hxl;omega)
           by_cases k3:m0.s=sizeOf p c.a
           · have hE:aZ p true bf (sizeOf p c.a) c=fY bf (bAt p.text c.a) (sizeOf p c.a):=by simp [aZ,k1,k2]
             simp [aa.dv,aa.cs,ay,Clu.cs,Clu.dv,aW.cs,hz,hq,show aV 1=true from rfl,q1,k1,k2,hk,hE,k3,hyl] at e2 e3 hK h56 ⊢
             simp [dZ,dT,aa.dv,aa.cs,ay,Clu.cs,Clu.dv,aW.cs,h0,hg,hw,hb,h56,hK,h32,aD,aR,chunk,e2,e3,hz,hq,show aV 1=true from rfl,q1,k1,k2,hk,hE,k3,hyl]
           · have hE:aZ p true bf m0.s c=0:=by simp [aZ,k3]
             simp [aa.dv,aa.cs,ay,Clu.cs,Clu.dv,aW.cs,hz,hq,show aV 1=true from rfl,q1,k1,k2,hk,hE,k3,hyl] at e2 e3 hK h56 ⊢
             simp [dZ,dT,aa.dv,aa.cs,ay,Clu.cs,Clu.dv,aW.cs,h0,hg,hw,hb,h56,hK,h32,aD,aR,chunk,e2,e3,hz,hq,show aV 1=true from rfl,q1,k1,k2,hk,hE,k3,hyl]
       · have k2':((bj p.aC c.a).e==1)=false:=by simp [k2]
         have hE:aZ p kr bf ps c=0:=by simp [aZ,k2]
         have hk:dd p c=false:=by simp [dd,k2]
         simp [aa.dv,aa.cs,ay,Clu.cs,Clu.dv,aW.cs,hz,hq,show aV 1=true from rfl,q1,k1,k2,k2',hk,hE] at e2 e3 hK h56 ⊢
         simp [dZ,dT,aa.dv,aa.cs,ay,Clu.cs,Clu.dv,aW.cs,h0,hg,hw,hb,h56,hK,h32,aD,aR,chunk,e2,e3,hz,hq,show aV 1=true from rfl,q1,k1,k2,k2',hk,hE]
     by_cases q2:c.k=2
     · have k1:aV c.k=true:=by rw [q2];rfl
       by_cases k2:(bj p.aC c.a).e=1
       · have hk:dd p c=true:=by simp [dd,k1,k2]
         cases kr with
         | false=>
           have hE:aZ p false bf ps c=0:=by simp [aZ]
           simp [aa.dv,aa.cs,ay,Clu.cs,Clu.dv,aW.cs,hz,hq,show aV 2=true from rfl,q2,k1,k2,hk,hE] at e2 e3 hK h56 ⊢
           simp [dZ,dT,aa.dv,aa.cs,ay,Clu.cs,Clu.dv,aW.cs,h0,hg,hw,hb,h56,hK,h32,aD,aR,chunk,e2,e3,hz,hq,show aV 2=true from rfl,q2,k1,k2,hk,hE]
         | true=>
           obtain ⟨ys,m0,rfl,rfl⟩:=hkr rfl
           obtain ⟨rfl,rfl⟩:vn=6∧vnn=true:=by
            rcases hA with ⟨h,_⟩ | ⟨k,q,h,_⟩
            · simp at h
            · injection h with _ h2 _ h4;exact ⟨h2,h4⟩
           simp only [List.map_append,List.map_cons,List.map_nil] at e2 hK h56
           have hyl:IntKind.i64.wrap (ys.length:Int)=ys.length:=ar (by simp at hxl;omega)
           by_cases k3:m0.s=sizeOf p c.a
           · have hE:aZ p true bf (sizeOf p c.a) c=fY bf (bAt p.text c.a) (sizeOf p c.a):=by simp [aZ,k1,k2]
             simp [aa.dv,aa.cs,ay,Clu.cs,Clu.dv,aW.cs,hz,hq,show aV 2=true from rfl,q2,k1,k2,hk,hE,k3,hyl] at e2 e3 hK h56 ⊢
             simp [dZ,dT,aa.dv,aa.cs,ay,Clu.cs,Clu.dv,aW.cs,h0,hg,hw,hb,h56,hK,h32,aD,aR,chunk,e2,e3,hz,hq,show aV 2=true from rfl,q2,k1,k2,hk,hE,k3,hyl]
           · have hE:aZ p true bf m0.s c=0:=by simp [aZ,k3]
             simp [aa.dv,aa.cs,ay,Clu.cs,Clu.dv,aW.cs,hz,hq,show aV 2=true from rfl,q2,k1,k2,hk,hE,k3,hyl] at e2 e3 hK h56 ⊢
             simp [dZ,dT,aa.dv,aa.cs,ay,Clu.cs,Clu.dv,aW.cs,h0,hg,hw,hb,h56,hK,h32,aD,aR,chunk,e2,e3,hz,hq,show aV 2=true from rfl,q2,k1,k2,hk,hE,k3,hyl]
       · have k2':((bj p.aC c.a).e==1)=false:=by simp [k2]
         have hE:aZ p kr bf ps c=0:=by simp [aZ,k2]
         have hk:dd p c=false:=by simp [dd,k2]
         simp [aa.dv,aa.cs,ay,Clu.cs,Clu.dv,aW.cs,hz,hq,show aV 2=true from rfl,q2,k1,k2,k2',hk,hE] at e2 e3 hK h56 ⊢
         simp [dZ,dT,aa.dv,aa.cs,ay,Clu.cs,Clu.dv,aW.cs,h0,hg,hw,hb,h56,hK,h32,aD,aR,chunk,e2,e3,hz,hq,show aV 2=true from rfl,q2,k1,k2,k2',hk,hE]
     have k1':aV c.k=false:=by simp [aV,q1,q2]
     have hE:aZ p kr bf ps c=0:=by simp [aZ,k1']
     have hk:dd p c=false:=by simp [dd,k1']
     simp [aa.dv,aa.cs,ay,Clu.cs,Clu.dv,aW.cs,hz,hq,q1,q2,k1',hk,hE,show (c.k==2)=false by simp [q2]] at e2 e3 hK h56 ⊢
     simp [dZ,dT,aa.dv,aa.cs,ay,Clu.cs,Clu.dv,aW.cs,h0,hg,hw,hb,h56,hK,h32,aD,aR,chunk,e2,e3,hz,hq,q1,q2,k1',hk,hE,show (c.k==2)=false by simp [q2]]
   · have hq:(bj p.aC c.a).z=sizeOf p c.a:=by simp [sizeOf,hz]
     have hz':¬ sizeOf p c.a=0:=by omega
     by_cases q1:c.k=1
     · have k1:aV c.k=true:=by rw [q1];rfl
       by_cases k2:(bj p.aC c.a).e=1
       · have hk:dd p c=true:=by simp [dd,k1,k2]
         cases kr with
         | false=>
           have hE:aZ p false bf ps c=0:=by simp [aZ]
           simp [aa.dv,aa.cs,ay,Clu.cs,Clu.dv,aW.cs,hz',hq,show aV 1=true from rfl,q1,k1,k2,hk,hE] at e2 e3 hK h56 ⊢
           simp [dZ,dT,aa.dv,aa.cs,ay,Clu.cs,Clu.dv,aW.cs,h0,hg,hw,hb,h56,hK,h32,aD,aR,chunk,e2,e3,hz',hq,show aV 1=true from rfl,q1,k1,k2,hk,hE]
         | true=>
           obtain ⟨ys,m0,rfl,rfl⟩:=hkr rfl
           obtain ⟨rfl,rfl⟩:vn=6∧vnn=true:=by
            rcases hA with ⟨h,_⟩ | ⟨k,q,h,_⟩
            · simp at h
            · injection h with _ h2 _ h4;exact ⟨h2,h4⟩
           simp only [List.map_append,List.map_cons,List.map_nil] at e2 hK h56
           have hyl:IntKind.i64.wrap (ys.length:Int)=ys.length:=ar (by simp at hxl;omega)
           by_cases k3:m0.s=sizeOf p c.a
           · have hE:aZ p true bf (sizeOf p c.a) c=fY bf (bAt p.text c.a) (sizeOf p c.a):=by simp [aZ,k1,k2]
             simp [aa.dv,aa.cs,ay,Clu.cs,Clu.dv,aW.cs,hz',hq,show aV 1=true from rfl,q1,k1,k2,hk,hE,k3,hyl] at e2 e3 hK h56 ⊢
             simp [dZ,dT,aa.dv,aa.cs,ay,Clu.cs,Clu.dv,aW.cs,h0,hg,hw,hb,h56,hK,h32,aD,aR,chunk,e2,e3,hz',hq,show aV 1=true from rfl,q1,k1,k2,hk,hE,k3,hyl]
           · have hE:aZ p true bf m0.s c=0:=by simp [aZ,k3]
             simp [aa.dv,aa.cs,ay,Clu.cs,Clu.dv,aW.cs,hz',hq,show aV 1=true from rfl,q1,k1,k2,hk,hE,k3,hyl] at e2 e3 hK h56 ⊢
             simp [dZ,dT,aa.dv,aa.cs,ay,Clu.cs,Clu.dv,aW.cs,h0,hg,hw,hb,h56,hK,h32,aD,aR,chunk,e2,e3,hz',hq,show aV 1=true from rfl,q1,k1,k2,hk,hE,k3,hyl]
       · have k2':((bj p.aC c.a).e==1)=false:=by simp [k2]
         have hE:aZ p kr bf ps c=0:=by simp [aZ,k2]
         have hk:dd p c=false:=by simp [dd,k2]
         simp [aa.dv,aa.cs,ay,Clu.cs,Clu.dv,aW.cs,hz',hq,show aV 1=true from rfl,q1,k1,k2,k2',hk,hE] at e2 e3 hK h56 ⊢
         simp [dZ,dT,aa.dv,aa.cs,ay,Clu.cs,Clu.dv,aW.cs,h0,hg,hw,hb,h56,hK,h32,aD,aR,chunk,e2,e3,hz',hq,show aV 1=true from rfl,q1,k1,k2,k2',hk,hE]
     by_cases q2:c.k=2
     · have k1:aV c.k=true:=by rw [q2];rfl
       by_cases k2:(bj p.aC c.a).e=1
       · have hk:dd p c=true:=by simp [dd,k1,k2]
         cases kr with
         | false=>
           have hE:aZ p false bf ps c=0:=by simp [aZ]
           simp [aa.dv,aa.cs,ay,Clu.cs,Clu.dv,aW.cs,hz',hq,show aV 2=true from rfl,q2,k1,k2,hk,hE] at e2 e3 hK h56 ⊢
           simp [dZ,dT,aa.dv,aa.cs,ay,Clu.cs,Clu.dv,aW.cs,h0,hg,hw,hb,h56,hK,h32,aD,aR,chunk,e2,e3,hz',hq,show aV 2=true from rfl,q2,k1,k2,hk,hE]
         | true=>
           obtain ⟨ys,m0,rfl,rfl⟩:=hkr rfl
           obtain ⟨rfl,rfl⟩:vn=6∧vnn=true:=by
            rcases hA with ⟨h,_⟩ | ⟨k,q,h,_⟩
            · simp at h
            · injection h with _ h2 _ h4;exact ⟨h2,h4⟩
           simp only [List.map_append,List.map_cons,List.map_nil] at e2 hK h56
           have hyl:IntKind.i64.wrap (ys.length:Int)=ys.length:=ar (by simp at hxl;omega)
           by_cases k3:m0.s=sizeOf p c.a
           · have hE:aZ p true bf (sizeOf p c.a) c=fY bf (bAt p.text c.a) (sizeOf p c.a):=by simp [aZ,k1,k2]
             simp [aa.dv,aa.cs,ay,Clu.cs,Clu.dv,aW.cs,hz',hq,show aV 2=true from rfl,q2,k1,k2,hk,hE,k3,hyl] at e2 e3 hK h56 ⊢
             simp [dZ,dT,aa.dv,aa.cs,ay,Clu.cs,Clu.dv,aW.cs,h0,hg,hw,hb,h56,hK,h32,aD,aR,chunk,e2,e3,hz',hq,show aV 2=true from rfl,q2,k1,k2,hk,hE,k3,hyl]
           · have hE:aZ p true bf m0.s c=0:=by simp [aZ,k3]
             simp [aa.dv,aa.cs,ay,Clu.cs,Clu.dv,aW.cs,hz',hq,show aV 2=true from rfl,q2,k1,k2,hk,hE,k3,hyl] at e2 e3 hK h56 ⊢
             simp [dZ,dT,aa.dv,aa.cs,ay,Clu.cs,Clu.dv,aW.cs,h0,hg,hw,hb,h56,hK,h32,aD,aR,chunk,e2,e3,hz',hq,show aV 2=true from rfl,q2,k1,k2,hk,hE,k3,hyl]
       · have k2':((bj p.aC c.a).e==1)=false:=by simp [k2]
         have hE:aZ p kr bf ps c=0:=by simp [aZ,k2]
         have hk:dd p c=false:=by simp [dd,k2]
         simp [aa.dv,aa.cs,ay,Clu.cs,Clu.dv,aW.cs,hz',hq,show aV 2=true from rfl,q2,k1,k2,k2',hk,hE] at e2 e3 hK h56 ⊢
         simp [dZ,dT,aa.dv,aa.cs,ay,Clu.cs,Clu.dv,aW.cs,h0,hg,hw,hb,h56,hK,h32,aD,aR,chunk,e2,e3,hz',hq,show aV 2=true from rfl,q2,k1,k2,k2',hk,hE]
     have k1':aV c.k=false:=by simp [aV,q1,q2]
     have hE:aZ p kr bf ps c=0:=by simp [aZ,k1']
     have hk:dd p c=false:=by simp [dd,k1']
     simp [aa.dv,aa.cs,ay,Clu.cs,Clu.dv,aW.cs,hz',hq,q1,q2,k1',hk,hE,show (c.k==2)=false by simp [q2]] at e2 e3 hK h56 ⊢
     simp [dZ,dT,aa.dv,aa.cs,ay,Clu.cs,Clu.dv,aW.cs,h0,hg,hw,hb,h56,hK,h32,aD,aR,chunk,e2,e3,hz',hq,q1,q2,k1',hk,hE,show (c.k==2)=false by simp [q2]]
theorem cH {p:bk} (h:ax p=0):cp p.text=0∧¬ (3:UInt8)∈p.text∧cB p.text.length p.aC=true∧ca p.pr=true∧cC p.label 16=true∧p.marks.length=p.text.count 2∧∀ m∈p.marks,dA m=true:=by
 unfold ax at h
 by_cases h1:cp p.text=0
 · rw [if_pos h1] at h
   by_cases h2:(3:UInt8)∈p.text
   · rw [if_pos h2] at h;simp at h
   rw [if_neg h2] at h
   by_cases h3:(cB p.text.length p.aC&&ca p.pr&&cC p.label 16&&decide (p.marks.length=p.text.count 2))=true
   · rw [if_pos h3] at h
     simp only [Bool.and_eq_true,decide_eq_true_eq] at h3
     by_cases h4:p.marks.all dA=true
     · exact ⟨h1,h2,h3.1.1.1,h3.1.1.2,h3.1.2,h3.2,List.all_eq_true.1 h4⟩
     · rw [if_neg h4] at h;simp at h
   · rw [if_neg h3] at h;simp at h
 · rw [if_neg h1] at h;exact absurd h h1
theorem kq (s:List UInt8):∀ (n i:Nat),AA s i (dC s n i)∧(dC s n i).length≤n
 | 0,i=>⟨trivial,Nat.le_refl _⟩
 | n+1,i=>by
   unfold dC
   split
   · rename_i h
     have ih:=kq s n (cTo s i)
     have h1:i≤cTo s i:=by have:=(m7 s (ga s i) 2 (i+1)).1;unfold cTo;omega
     refine ⟨⟨Nat.le_refl _,h,?_⟩,by simp;exact ih.2⟩
     revert ih
     cases dC s n (cTo s i) with
     | nil=>intro _;trivial
     | cons c r=>intro ih;exact ⟨Nat.le_trans h1 ih.1.1,ih.1.2⟩
   · exact ⟨trivial,by simp⟩
theorem kd7:((List.range 256).all fun c=>(kd c==7)==(c==2))=true:=by decide +kernel
theorem Em (c:UInt8):kd c.toNat=7↔c=2:=by
 have:=List.all_eq_true.1 kd7 c.toNat (List.mem_range.2 c.toNat_lt)
 rw [beq_iff_eq,Bool.eq_iff_iff,beq_iff_eq,beq_iff_eq] at this
 rw [this]
 exact ⟨fun h=>UInt8.toNat_inj.1 h,fun h=>by rw [h];rfl⟩
theorem rV (s:List UInt8) (k:Int):∀ n t,(s.drop (adv s k n t)).count 2=(s.drop t).count 2
 | 0,t=>rfl
 | n+1,t=>by
   unfold adv
   split
   · rename_i h
     rw [rV s k n (t+1)]
     have h1:=List.drop_eq_getElem_cons h.2.1
     have h2:s[t]≠2:=by
      intro e
      have h3:=h.2.2
      simp [h.2.1,e] at h3
      exact absurd h3 (by decide)
     rw [h1,List.count_cons]
     simp [h2]
   · rfl
theorem lE (s:List UInt8):∀ (n i:Nat),s.length≤i+n→p8 (dC s n i)=(s.drop i).count 2
 | 0,i,h=>by
   have:s.drop i=[]:=List.drop_eq_nil_of_le (by omega)
   simp [dC,p8,this]
 | n+1,i,h=>by
   unfold dC
   split
   · rename_i hi
     have h1:i+1≤cTo s i:=(m7 s (ga s i) 2 (i+1)).1
     have ih:=lE s n (cTo s i) (by omega)
     have h2:=List.drop_eq_getElem_cons hi
     unfold p8 at ih ⊢
     rw [h2,List.count_cons]
     have h3:(s.drop (cTo s i)).count 2=(s.drop (i+1)).count 2:=rV s _ 2 (i+1)
     rw [← h3,← ih]
     have h4:ga s i=7↔s[i]=2:=by
      have:=Em s[i]
      simp only [ga]
      rw [show s.getD i 0=s[i] by simp [hi]]
      exact this
     by_cases h5:s[i]=2
     · simp [h4.2 h5,h5]
     · have h6:¬ ga s i=7:=fun h=>h5 (h4.1 h)
       simp [h6,h5]
   · rename_i hi
     have:s.drop i=[]:=List.drop_eq_nil_of_le (by omega)
     simp [p8,this]
def aA (p:bk):List aa:=if ax p=0 then nY p else []
def De (p:bk) (v:DV):Prop:=∃ w:LW,v=.tuple [.list w.t w.n w.tk w.nn ((aA p).map aa.dv),.int .i64 (ax p)]∧w.ok 6 (aA p)
theorem pG {p:bk} {v:DV} (t n':Nat) (tk:Tk) (nn:Bool) (h:v=.tuple [.list t n' tk nn ((aA p).map aa.dv),.int .i64 (ax p)]) (h2:nn=true→n'=6) (h3:nn=false→(aA p).map aa.dv=[]):De p v:=
 ⟨⟨t,n',tk,nn⟩,h,h2,fun e=>by simpa using h3 e⟩
theorem vV (p:bk) (hp:p.small) (w u:LW) (hw:w.ok 4 p.aC) (hu:u.ok 1 p.marks) (st:St) :
 ∃ v fr H K,(E tab).C f10.body (bl [.agg (af p w u)] 0) (pst st [] [])=some (.ret,(2,v)::(3,.int .i64 (ax p))::fr,pst st H K)∧Acc st K 6 ((aA p).map aa.dv) v:=by
 have h13:=fun st=>AQ p hp w u hw hu st
 by_cases hc:ax p=0
 · obtain ⟨h1,h2,h3,h4,h5,h6,h7⟩:=cH hc
   obtain ⟨hlen,_⟩:=cM h1
   obtain ⟨hS,hsum⟩:=jm p.aC p.text.length 0 (by simpa [cB] using h3)
   obtain ⟨v27,e27,t,n',tk,nn,rfl,hn1,hn2⟩:=Aq p.text (pst st [.cells .plain (af p w u)] [])
   simp only [h1,if_true] at e27 hn2
   have h29:=Ke (.cells .plain (af p w u)) w p.aC hw st []
   by_cases he:p.text=[]
   · have hcl:gH p.text=[]:=by rw [he];rfl
     have hml:aA p=[]:=by simp [aA,nY,hcl,cN]
     rw [hcl] at e27
     refine ⟨gz,[],[.cells .plain (af p w u),.cells .plain [.list w.t w.n w.tk w.nn (p.aC.map Span.dv)],.cells .plain [.int .i64 (qq p.aC)]],[],?_,by rw [hml];exact bX _ _ _ _ _ _⟩
     simp at e27
     simp [f10,h13,hc,e27,h29,ab (L:=vB) rfl,dZ]
   · have hne:p.aC≠[]:=by
      intro h
      rw [h] at hsum
      have:0<p.text.length:=List.length_pos_iff.2 he
      simp [fK] at hsum
      omega
     match hps:p.aC,hne with
     | s::sp,_=>
       obtain ⟨hw4,hwt⟩:w.n=4∧w.nn=true:=by
        have:=hw.n (by rw [hps];simp)
        refine ⟨this,?_⟩
        cases e:w.nn with
        | true=>rfl
        | false=>have:=hw.2 e;rw [hps] at this;cases this
       have hcs:=kq p.text p.text.length 0
       have hL:Ja p.aC (0:Nat) 0 s sp:=⟨by rw [← hps];exact hS,by simp,by simp,by rw [hps];omega,fun j _=>by rw [hps]⟩
       obtain ⟨v',H',K',y8,fr,e10,hA⟩:=afo p w u h4 hS (by omega) hlen (gH p.text) (by have:=hcs.2;unfold gH;omega) t n' tk nn (fun h=>hn1 (by cases nn with | true=>rfl | false=>exact absurd (hn2 rfl) h)) st
        (gH p.text) [] [] [] [] false 0 0 p.marks u.tk w.tk s sp 0 0 gz rfl hcs.1 hL (bX _ _ _ _ _ _) rfl (by simp) (by rw [h6,show p8 (gH p.text)=_ from lE p.text p.text.length 0 (by omega)];simp)
        (fun m hm=>by have:=h7 m hm;simp [dA,cC] at this;omega) (fun h=>⟨hu.n h,by cases e:u.nn with | true=>rfl | false=>exact absurd (hu.2 e) h⟩)
       have hml:aA p=cN p false 0 0 p.marks (gH p.text):=by simp [aA,hc,nY]
       refine ⟨v',[],H',K',?_,by rw [hml];simpa using hA⟩
       simp [H10,hw4,hwt] at e10
       simp [hps,hw4,hwt,qq] at h29
       simp [f10,h13,hc,e27,hps,hw4,hwt,h29,e10]
 · have hml:aA p=[]:=by simp [aA,hc]
   refine ⟨gz,[],[.cells .plain (af p w u)],[],?_,by rw [hml];exact bX _ _ _ _ _ _⟩
   simp [f10,h13,hc]
theorem vC (p:bk) (hp:p.small) (w u:LW) (hw:w.ok 4 p.aC) (hu:u.ok 1 p.marks) (st:St):∃ v,(E tab).F 10 [.agg (af p w u)] st=some (v,st)∧De p v:=by
 obtain ⟨v,fr,H,K,h1,h2⟩:=vV p hp w u hw hu st
 obtain ⟨t9,n9,tk9,nn9,e9,g2,g3,g4⟩:=gR (st':=pst st H K) h2
 obtain ⟨t8,n8,tk8,nn8,rfl⟩:=bR h2
 refine ⟨.tuple [.list t9 n9 tk9 nn9 ((aA p).map aa.dv),.int .i64 (ax p)],?_,pG t9 n9 tk9 nn9 rfl g3 g2⟩
 rw [av aog rfl,h1]
 simp at e9
 simp [f10,e9]
theorem gq:ak tab 34=true:=by kernel_rfl
def ML (s:List UInt8) (l:List Clu):Prop:=∀ c∈l,c.a<s.length
theorem qf {s:List UInt8}:∀ {l:List Clu} {i:Nat},AA s i l→ML s l
 | [],_,_=>fun c h=>by cases h
 | c::r,i,h=>fun x hx=>by
   rcases List.mem_cons.1 hx with rfl | hx
   · exact h.2.1
   · exact qf h.2.2 x hx
set_option maxHeartbeats 8000000 in
theorem afX (p:bk) (w u:LW) (hw4:w.ok 4 p.aC) (hu1:u.ok 1 p.marks) (hpr:ca p.pr=true) (hSp:kL p.aC) (hsum:fK p.aC≤4096) (hml:∀ m∈p.marks,m.length≤4096) (hmc:p.marks.length≤4096) (cs:List Clu) (hcs:cs.length≤4096) (hci:ML p.text cs) (ct cn:Nat) (ctk:Tk) (cnn:Bool) (hcn:cs≠[]→cn=3) (st:St) :
 ∀ (r d:List Clu) (J:List HO) (K:List Nat) (xs:List aa) (kr:Bool) (bf:UInt8) (ps:Int) (md mk:List (List UInt8)) (v:DV),
 cs=d++r→Acc st K 6 (xs.map aa.dv) v→xs.length=d.length→p.marks=md++mk→mk.length=p8 r→(d=[]→kr=false) →
 (∀ q,d.length=q+1→∃ c0 m,cs[q]? = some c0∧xs[q]? = some m∧m.s=ps∧kr=dd p c0∧bf=bAt p.text c0.a) →
 ∃ v' H' K' fr,(E tab).C AM [(1,.ptr st.heap.length 0),(5,.list ct cn ctk cnn (cs.map Clu.dv)),(7,v),(8,.int .i64 md.length),(9,.int .i64 d.length)] (pst st (.cells .plain (af p w u)::J) K) =
   some (.exit 0,(1,.ptr st.heap.length 0)::(5,.list ct cn ctk cnn (cs.map Clu.dv))::(7,v')::fr,pst st H' K')∧Acc st K' 6 ((xs++cN p kr bf ps mk r).map aa.dv) v':=by
 intro r
 induction r with
 | nil=>
   intro d J K xs kr bf ps md mk v hd hA _ _ _ _ _
   refine ⟨v,.cells .plain (af p w u)::J,K,[(8,.int .i64 md.length),(9,.int .i64 cs.length),(27,.bool false)],?_,by simpa [cN] using hA⟩
   rw [ab (L:=AM) rfl]
   simp [iz,hd]
 | cons c r ih=>
   intro d J K xs kr bf ps md mk v hd hA hxl hmd hmk hk0 hpv
   obtain rfl:cn=3:=hcn (by simp [hd])
   have hc:c∈cs:=by simp [hd]
   have c2:=hci c hc
   have h0:d.length<cs.length:=by simp [hd]
   have hw:IntKind.i64.wrap ((d.length:Int)+1)=((d++[c]).length:Nat):=by rw [ar (by omega)];simp
   have hg:cs[d.length]=c:=by simp [hd]
   have hsz:=k9 p hpr hSp c.a
   have hb:p.text[c.a]? = some (bAt p.text c.a):=qD c2
   have h34:=fun st=>aaL p w u hw4 hSp hsum c.a st
   have h35:=fun st=>zu p w u hw4 hSp hsum c.a st
   have h36:=fun st=>Bz c.k st
   have h37:=fun st=>iN (bAt p.text c.a) (sizeOf p c.a) st
   obtain ⟨v2,K2,e2,hA2⟩:=dh (H:=.cells .plain (af p w u)::(J++[.cells .plain c.cs,.cells .plain (ay p kr bf ps mk c).cs,.cells .plain (bj p.aC c.a).cs]))
    (t:=st.cur) (by_:=48) (ag:=true) (tk:=.tight) (ys:=[(ay p kr bf ps mk c).dv]) hA (by omega) (by simp) (by simp [Bo]) (by simp [aw];omega) (by simp [aw];omega)
   obtain ⟨v3,H3,K3,fr,e3,hA3⟩:=ih (d++[c]) (J++[.cells .plain c.cs,.cells .plain (ay p kr bf ps mk c).cs,.cells .plain (bj p.aC c.a).cs]) K2 (xs++[ay p kr bf ps mk c]) (dd p c) (bAt p.text c.a) (sizeOf p c.a) (if c.k=7 then md++mk.take 1 else md) (lV mk c) v2
    (by simp [hd]) (by simpa using hA2) (by simp [hxl]) (by rw [hmd];unfold lV;split<;>simp;cases mk<;>simp) (mK hmk).1 (by simp) (fun q hq=>by
     simp at hq
     subst hq
     refine ⟨c,ay p kr bf ps mk c,by simp [hd],by simp [← hxl],rfl,rfl,rfl⟩)
   refine ⟨v3,H3,K3,fr,?_,by simpa [cN] using hA3⟩
   obtain ⟨vt,vn,vtk,vnn,rfl⟩:=bR hA
   rw [ab (L:=AM) rfl]
   by_cases k1:aV c.k=true
   · have h7:¬ c.k=7:=by intro h;rw [h] at k1;cases k1
     have hW:gf p mk c=IntKind.i64.wrap (wd (bAt p.text c.a) (sizeOf p c.a)+(bj p.aC c.a).t):=by simp [gf,k1]
     by_cases hd0:d=[]
     · subst hd0
       obtain rfl:=hk0 rfl
       have hE:aZ p false bf ps c=0:=by simp [aZ]
       simp at h0 hg hw
       simp [aa.dv,aa.cs,ay,Clu.cs,Clu.dv,aW.cs,k1,h7,hW,hE] at e2 e3 ⊢
       simp [iz,aF,bL,bQ,bP,aH,gq,aa.dv,aa.cs,ay,Clu.cs,Clu.dv,aW.cs,h0,hg,hw,hb,h34,h35,h36,h37,aD,aR,chunk,e2,e3,k1,h7,hW,hE]
     · skip
       obtain ⟨q,hq⟩:∃ q,d.length=q+1:=⟨d.length-1,by have:=List.length_pos_iff.2 hd0;omega⟩
       obtain ⟨c0,m0,g1,g2,rfl,rfl,rfl⟩:=hpv q hq
       have q1:q<cs.length:=by omega
       have q2:cs[q]=c0:=by rw [List.getElem?_eq_getElem q1] at g1;exact Option.some.inj g1
       have q3:q<xs.length:=by omega
       have q4:xs[q]=m0:=by rw [List.getElem?_eq_getElem q3] at g2;exact Option.some.inj g2
       have q5:IntKind.i64.wrap ((d.length:Int)-1)=(q:Int):=by rw [ar (by omega)];omega
       have q6:0<d.length:=by omega
       obtain ⟨rfl,rfl⟩:vn=6∧vnn=true:=by
        rcases hA with ⟨h,_⟩ | ⟨k,z,h,_⟩
        · rw [List.map_eq_nil_iff] at h;rw [h] at q3;simp at q3
        · injection h with _ h2 _ h4;exact ⟨h2,h4⟩
       have h36b:=fun st=>Bz c0.k st
       have h35b:=fun st=>zu p w u hw4 hSp hsum c0.a st
       have h39:=fun st=>Gb (bAt p.text c0.a) (bAt p.text c.a) (sizeOf p c.a) ⟨hsz.1,hsz.2.1⟩ st
       have hb0:p.text[c0.a]? = some (bAt p.text c0.a):=qD (hci c0 (by rw [← q2];exact List.getElem_mem q1))
       cases k2:aV c0.k with
       | false=>
         have hE:aZ p (dd p c0) (bAt p.text c0.a) m0.s c=0:=by simp [aZ,dd,k2]
         simp [aa.dv,aa.cs,ay,Clu.cs,Clu.dv,aW.cs,k1,h7,hW,q1,q2,q3,q4,q5,q6,h36b,k2,hE] at e2 e3 ⊢
         simp [iz,aF,bL,bQ,bP,aH,gq,aa.dv,aa.cs,ay,Clu.cs,Clu.dv,aW.cs,h0,hg,hw,hb,h34,h35,h36,h37,aD,aR,chunk,e2,e3,k1,h7,hW,q1,q2,q3,q4,q5,q6,h36b,k2,hE]
       | true=>
         by_cases k3:(bj p.aC c.a).e=1
         · by_cases k4:(bj p.aC c0.a).e=1
           · have hk0':dd p c0=true:=by simp [dd,k2,k4]
             by_cases k5:m0.s=sizeOf p c.a
             · have hE:aZ p (dd p c0) (bAt p.text c0.a) m0.s c=fY (bAt p.text c0.a) (bAt p.text c.a) (sizeOf p c.a):=by simp [aZ,k1,k3,k5,hk0']
               simp only [ay,hE] at e2 e3
               simp [aa.dv,aa.cs,ay,Clu.cs,Clu.dv,aW.cs,k1,h7,hW,q1,q2,q3,q4,q5,q6,h36b,k2,k3,k4,k5,h35b,h39,hb0] at e2 e3 ⊢
               simp [iz,aF,bL,bQ,bP,aH,gq,aa.dv,aa.cs,ay,Clu.cs,Clu.dv,aW.cs,h0,hg,hw,hb,h34,h35,h36,h37,aD,aR,chunk,e2,e3,k1,h7,hW,q1,q2,q3,q4,q5,q6,h36b,k2,k3,k4,k5,h35b,h39,hb0]
             · have hE:aZ p (dd p c0) (bAt p.text c0.a) m0.s c=0:=by simp [aZ,k5]
               simp [aa.dv,aa.cs,ay,Clu.cs,Clu.dv,aW.cs,k1,h7,hW,q1,q2,q3,q4,q5,q6,h36b,k2,k3,k4,k5,h35b,hE] at e2 e3 ⊢
               simp [iz,aF,bL,bQ,bP,aH,gq,aa.dv,aa.cs,ay,Clu.cs,Clu.dv,aW.cs,h0,hg,hw,hb,h34,h35,h36,h37,aD,aR,chunk,e2,e3,k1,h7,hW,q1,q2,q3,q4,q5,q6,h36b,k2,k3,k4,k5,h35b,hE]
           · have hk0':dd p c0=false:=by simp [dd,k4]
             have hE:aZ p (dd p c0) (bAt p.text c0.a) m0.s c=0:=by simp [aZ,hk0']
             simp [aa.dv,aa.cs,ay,Clu.cs,Clu.dv,aW.cs,k1,h7,hW,q1,q2,q3,q4,q5,q6,h36b,k2,k3,k4,h35b,hE] at e2 e3 ⊢
             simp [iz,aF,bL,bQ,bP,aH,gq,aa.dv,aa.cs,ay,Clu.cs,Clu.dv,aW.cs,h0,hg,hw,hb,h34,h35,h36,h37,aD,aR,chunk,e2,e3,k1,h7,hW,q1,q2,q3,q4,q5,q6,h36b,k2,k3,k4,h35b,hE]
         · have hE:aZ p (dd p c0) (bAt p.text c0.a) m0.s c=0:=by simp [aZ,k3]
           simp [aa.dv,aa.cs,ay,Clu.cs,Clu.dv,aW.cs,k1,h7,hW,q1,q2,q3,q4,q5,q6,h36b,k2,k3,hE] at e2 e3 ⊢
           simp [iz,aF,bL,bQ,bP,aH,gq,aa.dv,aa.cs,ay,Clu.cs,Clu.dv,aW.cs,h0,hg,hw,hb,h34,h35,h36,h37,aD,aR,chunk,e2,e3,k1,h7,hW,q1,q2,q3,q4,q5,q6,h36b,k2,k3,hE]
   · have k1:aV c.k=false:=by simpa using k1
     by_cases k3:c.k=3
     · have hW:gf p mk c=IntKind.i64.wrap (wd (bAt p.text c.a) (sizeOf p c.a)+(bj p.aC c.a).t):=by simp [gf,k3]
       have h36:=fun st=>Bz 3 st
       have hE:aZ p kr bf ps c=0:=by simp [aZ,k1]
       have hk:dd p c=false:=by simp [dd,k1]
       by_cases hd0:d=[]
       · subst hd0
         simp at h0 hg hw
         simp [aa.dv,aa.cs,ay,Clu.cs,Clu.dv,aW.cs,k3,hW,show aV 3=false from rfl,k1,hE,hk] at e2 e3 ⊢
         simp [iz,aF,bL,bQ,bP,aH,gq,aa.dv,aa.cs,ay,Clu.cs,Clu.dv,aW.cs,h0,hg,hw,hb,h34,h35,h36,h37,aD,aR,chunk,e2,e3,k3,hW,show aV 3=false from rfl,k1,hE,hk]
       · have q6:0<d.length:=List.length_pos_iff.2 hd0
         simp [aa.dv,aa.cs,ay,Clu.cs,Clu.dv,aW.cs,k3,hW,show aV 3=false from rfl,k1,hE,hk,q6] at e2 e3 ⊢
         simp [iz,aF,bL,bQ,bP,aH,gq,aa.dv,aa.cs,ay,Clu.cs,Clu.dv,aW.cs,h0,hg,hw,hb,h34,h35,h36,h37,aD,aR,chunk,e2,e3,k3,hW,show aV 3=false from rfl,k1,hE,hk,q6]
     by_cases k7:c.k=7
     · have hne:=(mK hmk).2 k7
       match mk,hne with
       | m::ms,_=>
         have hW:gf p (m::ms) c=tw (sizeOf p c.a) 0 m:=by simp [gf,k1,k7,show aV 7=false from rfl]
         have hmm:m∈p.marks:=by rw [hmd];simp
         have h38:=fun st=>rf m (hml m hmm) (sizeOf p c.a) st
         have p1:md.length<p.marks.length:=by rw [hmd];simp
         have p2:p.marks[md.length]=m:=by simp [hmd]
         have p3:IntKind.i64.wrap ((md.length:Int)+1)=(md.length:Int)+1:=ar (by omega)
         have hu1':=hu1.n (fun h=>by rw [h] at hmm;cases hmm)
         have h36:=fun st=>Bz 7 st
         have hE:aZ p kr bf ps c=0:=by simp [aZ,k1]
         have hk:dd p c=false:=by simp [dd,k1]
         by_cases hd0:d=[]
         · subst hd0
           simp at h0 hg hw
           simp [aa.dv,aa.cs,ay,Clu.cs,Clu.dv,aW.cs,k7,hW,h38,p1,p2,p3,hu1',show aV 7=false from rfl,k1,hE,hk] at e2 e3 ⊢
           simp [iz,aF,bL,bQ,bP,aH,gq,aa.dv,aa.cs,ay,Clu.cs,Clu.dv,aW.cs,h0,hg,hw,hb,h34,h35,h36,h37,aD,aR,chunk,e2,e3,k7,hW,h38,p1,p2,p3,hu1',show aV 7=false from rfl,k1,hE,hk]
         · have q6:0<d.length:=List.length_pos_iff.2 hd0
           simp [aa.dv,aa.cs,ay,Clu.cs,Clu.dv,aW.cs,k7,hW,h38,p1,p2,p3,hu1',show aV 7=false from rfl,k1,hE,hk,q6] at e2 e3 ⊢
           simp [iz,aF,bL,bQ,bP,aH,gq,aa.dv,aa.cs,ay,Clu.cs,Clu.dv,aW.cs,h0,hg,hw,hb,h34,h35,h36,h37,aD,aR,chunk,e2,e3,k7,hW,h38,p1,p2,p3,hu1',show aV 7=false from rfl,k1,hE,hk,q6]
     · have hW:gf p mk c=0:=by simp [gf,k1,k3,k7]
       have hE:aZ p kr bf ps c=0:=by simp [aZ,k1]
       have hk:dd p c=false:=by simp [dd,k1]
       by_cases hd0:d=[]
       · subst hd0
         simp at h0 hg hw
         simp [aa.dv,aa.cs,ay,Clu.cs,Clu.dv,aW.cs,k3,k7,hW,k1,hE,hk] at e2 e3 ⊢
         simp [iz,aF,bL,bQ,bP,aH,gq,aa.dv,aa.cs,ay,Clu.cs,Clu.dv,aW.cs,h0,hg,hw,hb,h34,h35,h36,h37,aD,aR,chunk,e2,e3,k3,k7,hW,k1,hE,hk]
       · have q6:0<d.length:=List.length_pos_iff.2 hd0
         simp [aa.dv,aa.cs,ay,Clu.cs,Clu.dv,aW.cs,k3,k7,hW,k1,hE,hk,q6] at e2 e3 ⊢
         simp [iz,aF,bL,bQ,bP,aH,gq,aa.dv,aa.cs,ay,Clu.cs,Clu.dv,aW.cs,h0,hg,hw,hb,h34,h35,h36,h37,aD,aR,chunk,e2,e3,k3,k7,hW,k1,hE,hk,q6]
theorem El (p:bk) (hp:p.small) (w u:LW) (hw:w.ok 4 p.aC) (hu:u.ok 1 p.marks) (st:St):∃ v,(E tab).F 11 [.agg (af p w u)] st=some (v,st)∧De p v:=by
 rw [av anI rfl]
 have h14:=fun st=>uS p hp w u hw hu st
 by_cases hc:ax p=0
 · obtain ⟨h1,h2,h3,h4,h5,h6,h7⟩:=cH hc
   obtain ⟨hlen,_⟩:=cM h1
   obtain ⟨hS,hsum⟩:=jm p.aC p.text.length 0 (by simpa [cB] using h3)
   obtain ⟨v33,e33,t,n',tk,nn,rfl,hn1,hn2⟩:=Mg p.text (pst st [.cells .plain (af p w u)] [])
   simp only [h1,if_true] at e33 hn2
   have hcs:=kq p.text p.text.length 0
   have hcnt:p.text.count 2≤p.text.length:=List.count_le_length
   obtain ⟨v',H',K',fr,e11,hA⟩:=afX p w u hw hu h4 hS (by omega) (fun m hm=>by have:=h7 m hm;simp [dA,cC] at this;omega) (by omega) (gH p.text) (by have:=hcs.2;unfold gH;omega) (qf hcs.1) t n' tk nn (fun h=>hn1 (by cases nn with | true=>rfl | false=>exact absurd (hn2 rfl) h)) st
    (gH p.text) [] [] [] [] false 0 0 [] p.marks gz rfl (bX _ _ _ _ _ _) rfl rfl (by rw [h6,show p8 (gH p.text)=_ from lE p.text p.text.length 0 (by omega)];simp) (fun _=>rfl) (fun q hq=>by simp at hq)
   obtain ⟨t9,n9,tk9,nn9,e9,g2,g3,g4⟩:=gR (st':=pst st H' K') hA
   obtain ⟨t8,n8,tk8,nn8,rfl⟩:=bR hA
   have hml:aA p=cN p false 0 0 p.marks (gH p.text):=by simp [aA,hc,nY]
   refine ⟨.tuple [.list t9 n9 tk9 nn9 ((aA p).map aa.dv),.int .i64 0],?_,pG t9 n9 tk9 nn9 (by rw [hc]) g3 (by rw [hml];simpa using g2)⟩
   rw [hml]
   simp at e11 e9
   simp [f11,h14,hc,e33,e11,e9]
 · have hml:aA p=[]:=by simp [aA,hc]
   refine ⟨.tuple [.list 0 0 .no false [],.int .i64 (ax p)],?_,pG 0 0 .no false (by simp [hml]) (by simp) (by simp [hml])⟩
   simp [f11,h14,hc]
theorem A6 {α:Type} {f:α→DV}:∀ {xs:List DV},(∀ x∈xs,∃ a,x=f a)→∃ l:List α,xs=l.map f
 | [],_=>⟨[],rfl⟩
 | x::r,h=>by
   obtain ⟨a,rfl⟩:=h x (List.mem_cons_self ..)
   obtain ⟨l,rfl⟩:=A6 fun y hy=>h y (List.mem_cons_of_mem _ hy)
   exact ⟨a::l,rfl⟩
theorem em8:(emL.all fun e=>decide (e≤8))=true:=by decide +kernel
theorem ail (c:Nat):0≤em c∧em c≤8:=by
 unfold em
 have:emL.getD c 0≤8:=by
  rw [List.getD_eq_getElem?_getD]
  cases h:emL[c]? with
  | none=>simp
  | some e=>
    have:=List.all_eq_true.1 em8 e (List.mem_of_getElem? h)
    simpa using this
 constructor
 · exact Int.natCast_nonneg _
 · show ((emL.getD c 0:Nat):Int)≤8
   omega
theorem pN (c:UInt8) {n:Int} (h1:1≤n) (h2:n≤64):0≤wd c n∧wd c n≤64∧wd c n=em c.toNat*n/8:=by
 have he:=ail c.toNat
 have h3:em c.toNat*n≤8*64:=Int.mul_le_mul he.2 h2 (by omega) (by omega)
 have h4:0≤em c.toNat*n:=Int.mul_nonneg he.1 (by omega)
 unfold wd
 rw [ar (n:=em c.toNat*n) (by omega),IntWalk.i64_quo _ _ (by omega)]
 omega
theorem Ng {n:Int} (h1:1≤n) (h2:n≤64):∀ (s:List UInt8) (a:Int),0≤a→a+64*s.length≤1000000→a≤tw n a s∧tw n a s≤a+64*s.length
 | [],a,_,_=>by simp [tw]
 | c::r,a,h3,h4=>by
   have hw:=pN c h1 h2
   simp only [List.length_cons] at h4
   have e:IntKind.i64.wrap (a+wd c n)=a+wd c n:=ar (by omega)
   have:=Ng h1 h2 r (a+wd c n) (by omega) (by omega)
   rw [tw,e]
   simp only [List.length_cons]
   omega
theorem KB (a b:UInt8) {n:Int} (h1:1≤n) (h2:n≤64):-8≤fY a b n∧fY a b n≤0:=by
 unfold fY
 split
 · omega
 · split<;>omega
theorem B3 (p:bk) (hpr:ca p.pr=true) (hSp:kL p.aC) (kr:Bool) (bf:UInt8) (ps:Int) (mk:List (List UInt8)) (hm:∀ m∈mk,m.length≤8) (c:Clu):okM (ay p kr bf ps mk c)=true:=by
 have hs:=k9 p hpr hSp c.a
 have h1:0≤gf p mk c∧gf p mk c≤4095:=by
  unfold gf
  split
  · have:=pN (bAt p.text c.a) hs.1 hs.2.1
    rw [ar (by omega)]
    omega
  · split
    · have h8:(mk.headD []).length≤8:=by
       cases mk with
       | nil=>simp
       | cons m r=>exact hm m (List.mem_cons_self ..)
      have:=Ng hs.1 hs.2.1 (mk.headD []) 0 (by omega) (by omega)
      omega
    · omega
 have h2:-64≤aZ p kr bf ps c∧aZ p kr bf ps c≤0:=by
  unfold aZ
  split
  · have:=KB bf (bAt p.text c.a) hs.1 hs.2.1
    omega
  · omega
 simp [okM,ay,h1,h2]
theorem sj (p:bk) (hpr:ca p.pr=true) (hSp:kL p.aC):∀ (l:List Clu) (kr:Bool) (bf:UInt8) (ps:Int) (mk:List (List UInt8)),(∀ m∈mk,m.length≤8)→(cN p kr bf ps mk l).all okM=true
 | [],_,_,_,_,_=>rfl
 | c::r,kr,bf,ps,mk,hm=>by
   simp only [cN,List.all_cons,Bool.and_eq_true]
   exact ⟨B3 p hpr hSp kr bf ps mk hm c,sj p hpr hSp r _ _ _ _ fun m h=>hm m (vr h)⟩
theorem Fq (p:bk):(aA p).all okM=true:=by
 unfold aA
 split
 · rename_i hc
   obtain ⟨h1,h2,h3,h4,h5,h6,h7⟩:=cH hc
   obtain ⟨hS,hsum⟩:=jm p.aC p.text.length 0 (by simpa [cB] using h3)
   refine sj p h4 hS _ _ _ _ _ fun m hm => ?_
   have:=h7 m hm
   simp [dA,cC] at this
   omega
 · rfl
theorem pI (p:bk):∀ (l:List Clu) (kr:Bool) (bf:UInt8) (ps:Int) (mk:List (List UInt8)),(cN p kr bf ps mk l).map (fun m=>(m.a,m.b,m.k))=l.map fun c=>((c.a:Int),(c.b:Int),c.k)
 | [],_,_,_,_=>rfl
 | c::r,kr,bf,ps,mk=>by
   simp only [cN,List.map_cons,pI p r]
   rfl
theorem Ch (p:bk):(aA p).length≤4096:=by
 unfold aA
 split
 · rename_i hc
   have h1:=congrArg List.length (pI p (gH p.text) false 0 0 p.marks)
   simp at h1
   have h2:=(kq p.text p.text.length 0).2
   obtain ⟨h3,_⟩:=cH hc
   have:=(cM h3).1
   unfold nY
   rw [h1]
   unfold gH
   omega
 · simp
theorem KT {L:List aa} (hL:L.length≤4096) (hok:L.all okM=true) (x y:Nat) (hx:x≤y) (hy:y≤L.length):tp L x y=.tuple [.int .i64 (fA true 0 ((L.drop x).take (y-x))),.int .i64 0]:=by
 unfold tp
 rw [if_neg (by omega),if_neg (by rw [hok];simp),if_pos (by omega)]
 simp
def Ac (st:St) (K:List Nat) (n:Nat) (xs:List DV) (v:DV):Option Nat→Prop
 | none=>xs=[]∧∃ t n' tk,v=.list t n' tk false []
 | some k=>∃ s,v=.list st.cur n (.own (st.aQ.length+k) s) true xs∧K[k]? = some s
theorem Ac.acc {st:St} {K:List Nat} {n:Nat} {xs:List DV} {v:DV}:∀ {o:Option Nat},Ac st K n xs v o→Acc st K n xs v
 | none,h=>.inl h
 | some k,⟨s,h1,h2⟩=>.inr ⟨k,s,h1,h2⟩
theorem yl {st:St} {H:List HO} {K:List Nat} {n by_:Nat} {ag:Bool} {xs ys:List DV} {v w:DV} {o:Option Nat} (h:Ac st K n xs v o) (hw:Vw (pst st H K) n ag ys w) (hn:0<n) (hy:ys≠[]) (he:∀ y∈ys,dq n ag y)
 (hr:(xs.length+ys.length)*by_≤aw) (hr2:xs.length+ys.length≤aw) :
 ∃ v' K' k,bt (pst st H K) n ag by_ v w=some (v',pst st H K')∧Ac st K' n (xs++ys) v' (some k)∧(o=some k∨o=none∧k=K.length)∧∀ j,j≠k→j<K.length→K'[j]? = K[j]?:=by
 have hcong:bt (pst st H K) n ag by_ v w=bt (pst st H K) n ag by_ v (.list 0 n .no true ys):=by
  have e1:=hw.news
  have e2:cw (pst st H K) n (.list 0 n .no true ys)=some (ys.length,flat ys):=by simp [cw]
  unfold bt
  rw [e1,e2]
 rw [hcong]
 cases o with
 | none=>
   obtain ⟨rfl,t,n',tk,rfl⟩:=h
   exact ⟨_,_,K.length,oU (.inl rfl) hn hy he hr hr2,⟨0,rfl,by simp⟩,.inr ⟨rfl,rfl⟩,fun j _ hj=>List.getElem?_append_left hj⟩
 | some k=>
   obtain ⟨s,rfl,hk⟩:=h
   have hlt:=(List.getElem?_eq_some_iff.1 hk).1
   exact ⟨_,_,k,tF hk hn hy he hr hr2,⟨s+1,rfl,by simp [hlt]⟩,.inl rfl,fun j hj _=>List.getElem?_set_ne (fun e=>hj e.symm)⟩
end Go.D.Tab
end
