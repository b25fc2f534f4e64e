import Derived.Test.YthhpkjnogjjeeaaGreatDoorRows
import Derived.ProofKit
import Derived.ChangeSame
import Derived.Below
import Derived.Test.YthhpkjnogjjeeaaGreatDoorTie
import Derived.Test.YthhpkjnogjjeeaaGreatDoorCards
import Derived.LaidMore
import Derived.OpenShut
import Derived.Stop.Joined
import Derived.SevenTiedAt
import Derived.Test.YthhpkjnogjjeeaaGreatDoorM3
open _root_.Int renaming ofNat → abh
open _root_.List renaming append_nil → aaJ, mem_append → aaG
open _root_.Option renaming some → aaa
namespace Go.D.Tab
open Go.Proofs
theorem mixed:Tryz.prog.follows .mixedOrders=true:=by kernel_rfl
theorem FK:cH Tryz.prog (jF fms env) tab:=Dy Ig mixed known vB yf
theorem Ir:jF fms env 643=some 4:=by kernel_rfl
end Go.D.Tab
namespace Go.Proofs.YthhpkjnogjjeeaaGreatDoor
open Go.ChangeShapes Go.WideShapes Go.ChangeAt Go.RowKit
section
variable {H:Type} {enc:TypeId×Value→H} {P:Program}
theorem oa {f:Func} {s:ChangeSpec} {apart fresh handsOn again:Bool} {W W':World} {args:Array Value} {v:Value} {ds gs:List (DataW H)} {before pa pv:List MemPlace}
 (hW:DataW.Whole enc P f.params.toList s.vars apart W args.toList ds gs before)
 (hres:∀ (b:Nat) (sp:Nat→Bool) (hd:Bool),DataW.TrodAll enc P W' b sp hd f.resultTypes.toList (v.resultList f.resultTypes.size) (s.fn H (ds++gs)).results [])
 (hargs:∀ sp:Nat→Bool,(∀ p∈before,sp p.block=true)→DataW.TrodAll enc P W' 0 sp true f.params.toList args.toList (s.fn H (ds++gs)).args pa)
 (hvars:∀ sp:Nat→Bool,(∀ p∈before,sp p.block=true)→DataW.TrodVars enc P W' sp s.vars (s.fn H (ds++gs)).vars pv)
 (hps:before=pa++pv) (hb:Below W.heap.size W W')
 (hok:∀ (j:Nat) (t:TypeId) (r:Value),f.resultTypes[j]? = some t→(v.resultList f.resultTypes.size)[j]? = some r→Value.okWide P W' .any 0 t r) :
 s.post enc P f apart fresh handsOn again W args v W':=by
 have hlt:∀ p∈before,p.block<W.heap.size:=fun p hp=>hW.lt p hp;have hold:∀ p∈before,(fun b=>decide (b<W.heap.size)) p.block=true:=fun p hp=>by simpa using hlt p hp
 refine⟨ds,gs,before,[],pa,pv,hW,hres _ _ _,hargs _ hold,hvars _ hold,World.keptBut_mono (fun p hp=>⟨hp,?_⟩) (hb.frame (· ∈ before)),fun _=>?_⟩
 · rw[hps,aaG] at hp;exact Or.inr hp
 · obtain⟨_,_,_,_,_,hz,hn⟩:=hW;refine⟨hok,_,_,([]++pa)++pv,⟨[]++pa,pv,trodAll_append (hargs _ (fun _ _=>rfl)) (hres _ _ _),hvars _ (fun _ _=>rfl),rfl,?_,?_⟩,?_⟩
   · intro b off hp;have hin:MemPlace.cell b off∈before:=by rw[hps];simpa using hp
     rw[hb.frozen (hlt _ hin)];exact hz b off hin
   · intro ha;have:=hn ha;rw[hps] at this;simpa using this
   · intro p hp _;rw[hps];simpa using hp
end
theorem laidOut:laidOutB Tryz.prog=true:=by kernel_rfl
theorem Tryz.own:ownKnob Tryz.prog.godebug=none:=by kernel_rfl
abbrev de:List (String×DataW Unit):=Rows.fieldNumbersRow.laid
theorem AY (os:Os) (args:Array Value):laidMetH Tryz.prog de ((World.doorLaid Tryz.prog 48 os).forCall (fun _ _=>0) ⟨#[],args,[]⟩).memory:=
 laidMetH_of_parts3 (fuel:=8) (laidMet_of_run' 8 (by kernel_rfl) (by kernel_rfl)) (by kernel_rfl) (by kernel_rfl)
theorem AL (W:World) (h:laidMetH Tryz.prog de W):Go.D.lI (Go.D.jF Go.D.Tab.fms Go.D.Tab.env) W:=by
 have h2:laidMet Tryz.prog de W:=by
  rw[MakeChecks.laidMetH_plain _ _ _ (by kernel_rfl)] at h;exact h
 have hd10:(Rows.laid_internal_strconv_uint64pow10:DataW Unit)=Lib.tabData .u64 (Go.D.nm.map abh):=by kernel_rfl
 have hm10:("internal/strconv.uint64pow10",Lib.tabData .u64 (Go.D.nm.map abh))∈de:=by
  rw[← hd10];simp[de,Rows.fieldNumbersRow]
 have hp:Go.D.lI (Go.D.jF Go.D.Tab.fms [(0,.u64,Go.D.nm)]) W:=
  Go.D.nw (Go.D.sk (g:=0) (t:=198) (e:=155) (n:=20) (by kernel_rfl) (by kernel_rfl) (by kernel_rfl) (by kernel_rfl) (by kernel_rfl) (by kernel_rfl) hm10 h2) (Go.D.vj _)
 have hd:(Rows.laid_strings_asciiSpace:DataW Unit)=Lib.tabData .u8 (Go.D.iX.map abh):=by kernel_rfl
 have hm:("strings.asciiSpace",Lib.tabData .u8 (Go.D.iX.map abh))∈de:=by
  rw[← hd];simp[de,Rows.fieldNumbersRow]
 exact Go.D.nw (Go.D.sk (g:=2) (t:=237) (e:=5) (n:=256) (by kernel_rfl) (by kernel_rfl) (by kernel_rfl) (by kernel_rfl) (by kernel_rfl) (by kernel_rfl) hm h2) (hp)
set_option maxRecDepth 100000 in
theorem jq (os:Os) (started:os.Started) (H:Type) (enc:TypeId×Value→H) :
 ReturnsInHanded {} Tryz.checked os 4 .any (fun w args=>(Rows.fieldNumbersSpec.pre enc Tryz.prog Tryz.f4 [] false w args∧laidMetH Tryz.prog de w)∧sizedMet enc Tryz.prog Tryz.f4 (OpenSpec.ofChange Rows.fieldNumbersSpec) false w args)
  (Rows.fieldNumbersSpec.post enc Tryz.prog Tryz.f4 false true false false):=by
 refine returnsInHanded_of_change_and (C:=Tryz.checked) (X:=fun w _=>laidMetH Tryz.prog de w) (fun _ _ _ hh h=>h.of_heap hh) Tryz.own started (by kernel_rfl) Tryz.func4
  (ChangeSpec.witness_shaped (enc:=enc) (C:=Tryz.checked) (os:=os) (X:=fun w _=>laidMetH Tryz.prog de w) false (World.doorLaid Tryz.prog 48 os) #[.agg #[.int .i64 0,.int .i64 0,.int .i64 0,.int .i64 0,.int .i64 0,.int .i64 0,.int .i64 0,.int .i64 0,.int .i64 0,.int .i64 0,.int .i64 0,.string ⟨#[]⟩,.string ⟨#[]⟩,.string ⟨#[]⟩,.string ⟨#[]⟩,.string ⟨#[]⟩,.string ⟨#[]⟩],.int .i64 0,.int .i64 0] 8 rfl (World.shaped_of_RefB (by kernel_rfl) (by kernel_rfl)) (by kernel_rfl) (by kernel_rfl) (by kernel_rfl) (AY os _)) ?_
 intro W base args ds gs before hval0 hW _ hwt hL _;have hval:∀ (j:Nat) t v,Tryz.f4.params[j]? = some t→args[j]? = some v→Value.okWide Tryz.prog W .any base t v:=hval0;have hW':=hW;obtain⟨p,q,hA0,hV,rfl,hfz,hnd⟩:=hW;have hA:DataW.TrodAll enc Tryz.prog W 0 (fun _=>true) true Tryz.f4.params.toList args.toList ds p:=hA0;rw[Tryz.params4] at hA hval;have hA2:=hA;obtain⟨v0,v1,v2,d0,d1,d2,p0,p1,p2,rfl,rfl,rfl,h0,h1,h2⟩:=trodAll_three hA;obtain⟨rfl,rfl⟩:=trodVars_none hV;clear hA0 hval0;simp only[aaJ] at hW';have hlt:∀ x∈_,MemPlace.block x<W.heap.size:=fun x hx=>hW'.lt x hx;refine(Go.D.oE Go.D.Tab.FK Go.D.Tab.mixed Go.D.Tab.DT Go.D.Tab.Ir (ts:=_) (shs:=Go.D.Tab.Eg) (by kernel_rfl) W (fun j t v h1 h2=>hval j t v (by simpa using h1) (by simpa using h2)) hA2 hwt Go.D.Tab.Ct (AL W hL)).mono fun e W' ⟨he,hb⟩=>?_;subst he
 exact⟨_,rfl,oa (pa:=p0++p1++p2) (pv:=[]) hW' (fun _ _ _=>trodAll_mk1 (shut_bool Tryz.underlying4 true)) (fun sp hsp=>Go.D.jz laidOut _ _ _ _ (by kernel_rfl) hA2 (fun p hp=>hb.same (hlt p hp)) (fun p hp=>hsp p (by simpa using hp))) (fun _ _=>rfl) (by simp) hb
  (ok_one (by kernel_rfl) rfl (okWide_bool_mk Tryz.underlying4 true))⟩
theorem jO:Rows.FieldNumbersSaid:=
 OpenClaim.holds_of_wide 4 Tryz.f4 rfl rfl rfl rfl rfl rfl rfl ⟨rfl,rfl,rfl,rfl,rfl⟩ rfl rfl rfl rfl rfl (by kernel_rfl) Tryz.func4 (by kernel_rfl)
  (of_decide_eq_true (by kernel_rfl)) (by unfold Func.isWrapper;first | (rw[if_pos (by decide +kernel)];kernel_rfl) | (rw[if_neg (by decide +kernel)];exact⟨rfl,rfl⟩))
  (fun os started H enc _=>jq os started H enc)
theorem fieldNumbers_card_holds:Rows.FieldNumbersCardSaid:=
 Claim7.holds_tied_plain_at .later [] [.data,.data,.data,.listed,.data] true Rows.fieldNumbersCard.stood.harness false
  jO (fun _ h=>by cases h) (by kernel_rfl) (fun _ h=>by cases h) fieldNumbers_row_tie rfl ⟨rfl,rfl⟩ (by kernel_rfl) rfl
  (fun f fn hf hfn=>by
   obtain rfl:f=4:=aaa.inj ((show Tryz.prog.funcNamed Rows.fieldNumbersRow.func=some 4 by kernel_rfl).symm.trans hf) |>.symm;obtain rfl:fn=Tryz.f4:=(aaa.inj (Tryz.func4.symm.trans hfn)).symm
   exact⟨by kernel_rfl,fun j t ht=>by
    rw[Tryz.params4] at ht
    match j,ht with
    | 0,ht=>cases ht;show Tryz.prog.wantsStandIn 34=false;kernel_rfl
    | 1,ht=>cases ht;show Tryz.prog.wantsStandIn 3=false;kernel_rfl
    | 2,ht=>cases ht;show Tryz.prog.wantsStandIn 3=false;kernel_rfl
    | k+3,ht=>simp at ht⟩)
  (by kernel_rfl)
end Go.Proofs.YthhpkjnogjjeeaaGreatDoor
