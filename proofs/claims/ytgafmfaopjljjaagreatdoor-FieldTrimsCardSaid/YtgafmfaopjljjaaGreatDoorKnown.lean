import Derived.Test.YtgafmfaopjljjaaGreatDoorRows
import Derived.ProofKit
import Derived.ChangeSame
import Derived.Below
import Derived.Test.YtgafmfaopjljjaaGreatDoorTie
import Derived.Test.YtgafmfaopjljjaaGreatDoorCards
import Derived.LaidMore
import Derived.OpenShut
import Derived.Stop.Joined
import Derived.SevenTiedAt
import Derived.Test.YtgafmfaopjljjaaGreatDoorM4
import Derived.Test.YtgafmfaopjljjaaGreatDoorKnownA
open _root_.Int renaming ofNat → abs
open _root_.List renaming append_nil → aaE, mem_append → aaL
namespace Go.D.Tab
open Go.Proofs
theorem mixed:Tryz.prog.follows .mixedOrders=true:=by kernel_rfl
theorem Kb:dn Tryz.prog (kZ fms env) tab:=He QW mixed known wR Bn
theorem P5:kZ fms env 645=some 3:=by kernel_rfl
end Go.D.Tab
namespace Go.Proofs.YtgafmfaopjljjaaGreatDoor
open Go.ChangeShapes Go.WideShapes Go.ChangeAt Go.RowKit
section
variable {H:Type} {enc:TypeId×Value→H} {P:Program}
theorem qG {f:Func} {s:ChangeSpec} {apart fresh handsOn again:Bool} {W W':World} {args:Array Value} {v:Value} {ds gs:List (DataW H)} {before pa pv:List MemPlace}
 (hW:DataW.Whole enc P f.params.toList s.vars apart W args.toList ds gs before)
 (hres:∀ (b:Nat) (sp:Nat→Bool) (hd:Bool),DataW.TrodAll enc P W' b sp hd f.resultTypes.toList (v.resultList f.resultTypes.size) (s.fn H (ds++gs)).results [])
 (hargs:∀ sp:Nat→Bool,(∀ p∈before,sp p.block=true)→DataW.TrodAll enc P W' 0 sp true f.params.toList args.toList (s.fn H (ds++gs)).args pa)
 (hvars:∀ sp:Nat→Bool,(∀ p∈before,sp p.block=true)→DataW.TrodVars enc P W' sp s.vars (s.fn H (ds++gs)).vars pv)
 (hps:before=pa++pv) (hb:Below W.heap.size W W')
 (hok:∀ (j:Nat) (t:TypeId) (r:Value),f.resultTypes[j]? = some t→(v.resultList f.resultTypes.size)[j]? = some r→Value.okWide P W' .any 0 t r) :
 s.post enc P f apart fresh handsOn again W args v W':=by
 have hlt:∀ p∈before,p.block<W.heap.size:=fun p hp=>hW.lt p hp;have hold:∀ p∈before,(fun b=>decide (b<W.heap.size)) p.block=true:=fun p hp=>by simpa using hlt p hp
 refine⟨ds,gs,before,[],pa,pv,hW,hres _ _ _,hargs _ hold,hvars _ hold,World.keptBut_mono (fun p hp=>⟨hp,?_⟩) (hb.frame (· ∈ before)),fun _=>?_⟩
 · rw[hps,aaL] at hp;exact Or.inr hp
 · obtain⟨_,_,_,_,_,hz,hn⟩:=hW;refine⟨hok,_,_,([]++pa)++pv,⟨[]++pa,pv,trodAll_append (hargs _ (fun _ _=>rfl)) (hres _ _ _),hvars _ (fun _ _=>rfl),rfl,?_,?_⟩,?_⟩
   · intro b off hp;have hin:MemPlace.cell b off∈before:=by rw[hps];simpa using hp
     rw[hb.frozen (hlt _ hin)];exact hz b off hin
   · intro ha;have:=hn ha;rw[hps] at this;simpa using this
   · intro p hp _;rw[hps];simpa using hp
end
theorem B9 (W:World) (h:laidMetH Tryz.prog dF W):Go.D.nf (Go.D.kZ Go.D.Tab.fms Go.D.Tab.env) W:=by
 have h2:laidMet Tryz.prog dF W:=by
  rw[MakeChecks.laidMetH_plain _ _ _ (by kernel_rfl)] at h;exact h
 have hd10:(Rows.laid_internal_strconv_uint64pow10:DataW Unit)=Lib.tabData .u64 (Go.D.pe.map abs):=by kernel_rfl
 have hm10:("internal/strconv.uint64pow10",Lib.tabData .u64 (Go.D.pe.map abs))∈dF:=by
  rw[← hd10];simp[dF,Rows.fieldTrimsRow]
 have hp:Go.D.nf (Go.D.kZ Go.D.Tab.fms [(0,.u64,Go.D.pe)]) W:=
  Go.D.oV (Go.D.ud (g:=0) (t:=220) (e:=175) (n:=20) (by kernel_rfl) (by kernel_rfl) (by kernel_rfl) (by kernel_rfl) (by kernel_rfl) (by kernel_rfl) hm10 h2) (Go.D.xZ _)
 have hd:(Rows.laid_strings_asciiSpace:DataW Unit)=Lib.tabData .u8 (Go.D.kg.map abs):=by kernel_rfl
 have hm:("strings.asciiSpace",Lib.tabData .u8 (Go.D.kg.map abs))∈dF:=by
  rw[← hd];simp[dF,Rows.fieldTrimsRow]
 exact Go.D.oV (Go.D.ud (g:=4) (t:=304) (e:=5) (n:=256) (by kernel_rfl) (by kernel_rfl) (by kernel_rfl) (by kernel_rfl) (by kernel_rfl) (by kernel_rfl) hm h2) (hp)
set_option maxRecDepth 100000 in
theorem lL (os:Os) (started:os.Started) (H:Type) (enc:TypeId×Value→H) :
 ReturnsInHanded {} Tryz.checked os 3 .any (fun w args=>(Rows.fieldTrimsSpec.pre enc Tryz.prog Tryz.f3 [] false w args∧laidMetH Tryz.prog dF w)∧sizedMet enc Tryz.prog Tryz.f3 (OpenSpec.ofChange Rows.fieldTrimsSpec) false w args)
  (Rows.fieldTrimsSpec.post enc Tryz.prog Tryz.f3 false true false false):=by
 refine returnsInHanded_of_change_and (C:=Tryz.checked) (X:=fun w _=>laidMetH Tryz.prog dF w) (fun _ _ _ hh h=>h.of_heap hh) Tryz.own started (by kernel_rfl) Tryz.func3
  (ChangeSpec.witness_shaped (enc:=enc) (C:=Tryz.checked) (os:=os) (X:=fun w _=>laidMetH Tryz.prog dF w) false (World.doorLaid Tryz.prog 48 os) #[.agg #[.int .i64 0,.int .i64 0,.int .i64 0,.int .i64 0,.int .i64 0,.int .i64 0,.int .i64 0,.int .i64 0,.int .i64 0,.int .i64 0,.int .i64 0,.string ⟨#[]⟩,.string ⟨#[]⟩,.string ⟨#[]⟩,.string ⟨#[]⟩,.string ⟨#[]⟩,.string ⟨#[]⟩],.int .i64 0,.bool false] 8 rfl (World.shaped_of_RefB (by kernel_rfl) (by kernel_rfl)) (by kernel_rfl) (by kernel_rfl) (by kernel_rfl) (Cs os _)) ?_
 intro W base args ds gs before hval0 hW _ hwt hL _;have hval:∀ (j:Nat) t v,Tryz.f3.params[j]? = some t→args[j]? = some v→Value.okWide Tryz.prog W .any base t v:=hval0;have hW':=hW;obtain⟨p,q,hA0,hV,rfl,hfz,hnd⟩:=hW;have hA:DataW.TrodAll enc Tryz.prog W 0 (fun _=>true) true Tryz.f3.params.toList args.toList ds p:=hA0;rw[Tryz.params3] at hA hval;have hA2:=hA;obtain⟨v0,v1,v2,d0,d1,d2,p0,p1,p2,rfl,rfl,rfl,h0,h1,h2⟩:=trodAll_three hA;obtain⟨rfl,rfl⟩:=trodVars_none hV;clear hA0 hval0;simp only[aaE] at hW';have hlt:∀ x∈_,MemPlace.block x<W.heap.size:=fun x hx=>hW'.lt x hx;refine(Go.D.qd Go.D.Tab.Kb Go.D.Tab.mixed Go.D.Tab.Ip Go.D.Tab.P5 (ts:=_) (shs:=Go.D.Tab.IN) (by kernel_rfl) W (fun j t v h1 h2=>hval j t v (by simpa using h1) (by simpa using h2)) hA2 hwt Go.D.Tab.GV (B9 W hL)).mono fun e W' ⟨he,hb⟩=>?_;subst he
 exact⟨_,rfl,qG (pa:=p0++p1++p2) (pv:=[]) hW' (fun _ _ _=>trodAll_mk1 (shut_bool Tryz.underlying4 true)) (fun sp hsp=>Go.D.kD laidOut _ _ _ _ (by kernel_rfl) hA2 (fun p hp=>hb.same (hlt p hp)) (fun p hp=>hsp p (by simpa using hp))) (fun _ _=>rfl) (by simp) hb
  (ok_one (by kernel_rfl) rfl (okWide_bool_mk Tryz.underlying4 true))⟩
theorem mJ:Rows.FieldTrimsSaid:=qE lL
theorem fieldTrims_card_holds:Rows.FieldTrimsCardSaid:=kY mJ
end Go.Proofs.YtgafmfaopjljjaaGreatDoor
