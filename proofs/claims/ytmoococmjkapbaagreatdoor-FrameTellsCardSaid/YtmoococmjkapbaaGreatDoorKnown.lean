import Derived.Test.YtmoococmjkapbaaGreatDoorRows
import Derived.ProofKit
import Derived.ChangeSame
import Derived.Below
import Derived.Test.YtmoococmjkapbaaGreatDoorTie
import Derived.Test.YtmoococmjkapbaaGreatDoorCards
import Derived.LaidMore
import Derived.Lay
import Derived.OpenShut
import Derived.Stop.Joined
import Derived.SevenTiedAt
import Derived.Test.YtmoococmjkapbaaGreatDoorM5
namespace Go.D.Tab
open Go.Proofs
theorem mixed:Tryz.prog.follows .mixedOrders=true:=by kernel_rfl
theorem Z9:dR Tryz.prog (j9 fms env) tab:=Mq ac2 mixed known xy CG
theorem afC:j9 fms env 635=some 3:=by kernel_rfl
theorem IE:(pd.all fun x=>decide ((j9 fms env) x.1=(j9 fms env) x.2.1))=true:=by kernel_rfl
theorem Rx:dR Tryz.prog (j9 fms env) lg:=u9 Z9 mixed pd vU fun x hx f h=>by
 have:=List.all_eq_true.1 IE x hx
 rw [decide_eq_true_eq] at this
 rw [← this];exact h
end Go.D.Tab
namespace Go.Proofs.YtmoococmjkapbaaGreatDoor
open Go.ChangeShapes Go.WideShapes Go.ChangeAt Go.RowKit
section
variable {H:Type} {enc:TypeId×Value→H} {P:Program}
theorem ry {f:Func} {s:ChangeSpec} {apart fresh handsOn again:Bool} {W W':World} {args:Array Value} {v:Value} {ds gs:List (DataW H)} {before pa pv:List MemPlace}
 (hW:DataW.Whole enc P f.params.toList s.vars apart W args.toList ds gs before)
 (hres:∀ (b:Nat) (sp:Nat→Bool) (hd:Bool),DataW.TrodAll enc P W' b sp hd f.resultTypes.toList (v.resultList f.resultTypes.size) (s.fn H (ds++gs)).results [])
 (hargs:∀ sp:Nat→Bool,(∀ p∈before,sp p.block=true)→DataW.TrodAll enc P W' 0 sp true f.params.toList args.toList (s.fn H (ds++gs)).args pa)
 (hvars:∀ sp:Nat→Bool,(∀ p∈before,sp p.block=true)→DataW.TrodVars enc P W' sp s.vars (s.fn H (ds++gs)).vars pv)
 (hps:before=pa++pv) (hb:Below W.heap.size W W')
 (hok:∀ (j:Nat) (t:TypeId) (r:Value),f.resultTypes[j]? = some t→(v.resultList f.resultTypes.size)[j]? = some r→Value.okWide P W' .any 0 t r) :
 s.post enc P f apart fresh handsOn again W args v W':=by
 have hlt:∀ p∈before,p.block<W.heap.size:=fun p hp=>hW.lt p hp
 have hold:∀ p∈before,(fun b=>decide (b<W.heap.size)) p.block=true:=fun p hp=>by simpa using hlt p hp
 refine ⟨ds,gs,before,[],pa,pv,hW,hres _ _ _,hargs _ hold,hvars _ hold,World.keptBut_mono (fun p hp=>⟨hp,?_⟩) (hb.frame (· ∈ before)),fun _ => ?_⟩
 · rw [hps,List.mem_append] at hp
   exact Or.inr hp
 · obtain ⟨_,_,_,_,_,hz,hn⟩:=hW
   refine ⟨hok,_,_,([]++pa)++pv,⟨[]++pa,pv,trodAll_append (hargs _ (fun _ _=>rfl)) (hres _ _ _),hvars _ (fun _ _=>rfl),rfl,?_,?_⟩,?_⟩
   · intro b off hp
     have hin:MemPlace.cell b off∈before:=by rw [hps];simpa using hp
     rw [hb.frozen (hlt _ hin)]
     exact hz b off hin
   · intro ha
     have:=hn ha
     rw [hps] at this
     simpa using this
   · intro p hp _
     rw [hps]
     simpa using hp
end
theorem laidOut:laidOutB Tryz.prog=true:=by kernel_rfl
theorem Tryz.own:ownKnob Tryz.prog.godebug=none:=by kernel_rfl
abbrev dX:List (String×DataW Unit):=Rows.frameTellsRow.laid
theorem FP (os:Os) (args:Array Value):laidMetH Tryz.prog dX ((World.laidAll Tryz.prog os dX).forCall (fun _ _=>0) ⟨#[],args,[]⟩).memory:=by
 rw [MakeChecks.laidMetH_plain _ _ _ (by kernel_rfl)];exact laidMet_laidAll _ (by kernel_rfl) (by kernel_rfl)
theorem GO (W:World) (h:laidMetH Tryz.prog dX W):Go.D.pB (Go.D.j9 Go.D.Tab.fms Go.D.Tab.env) W:=by
 have h2:laidMet Tryz.prog dX W:=by
  rw [MakeChecks.laidMetH_plain _ _ _ (by kernel_rfl)] at h
  exact h
 have hd:(Rows.laid_strings_asciiSpace:DataW Unit)=Lib.tabData .u8 (Go.D.kb.map Int.ofNat):=by kernel_rfl
 have hm:("strings.asciiSpace",Lib.tabData .u8 (Go.D.kb.map Int.ofNat))∈dX:=by
  rw [← hd]
  simp [dX,Rows.frameTellsRow]
 exact Go.D.x9 (Go.D.C9 (g:=3) (t:=201) (e:=5) (n:=256) (by kernel_rfl) (by kernel_rfl) (by kernel_rfl) (by kernel_rfl) (by kernel_rfl) (by kernel_rfl) hm h2) (Go.D.zm _)
set_option maxRecDepth 100000 in
theorem mS (os:Os) (started:os.Started) (H:Type) (enc:TypeId×Value→H) :
 ReturnsInHanded {} Tryz.checked os 3 .any (fun w args=>(Rows.frameTellsSpec.pre enc Tryz.prog Tryz.f3 [] false w args∧laidMetH Tryz.prog dX w)∧sizedMet enc Tryz.prog Tryz.f3 (OpenSpec.ofChange Rows.frameTellsSpec) false w args)
  (Rows.frameTellsSpec.post enc Tryz.prog Tryz.f3 false true false false):=by
 refine returnsInHanded_of_change_and (C:=Tryz.checked) (X:=fun w _=>laidMetH Tryz.prog dX w) (fun _ _ _ hh h=>h.of_heap hh) Tryz.own started (by kernel_rfl) Tryz.func3
  (ChangeSpec.witness_shaped (enc:=enc) (C:=Tryz.checked) (os:=os) (X:=fun w _=>laidMetH Tryz.prog dX w) false (World.laidAll Tryz.prog os dX) #[.string ⟨#[]⟩,.slice none 0 0] 8 (World.laidAll_os _ _ _) (World.shaped_of_ZipB (by kernel_rfl) (by kernel_rfl)) (by kernel_rfl) (by kernel_rfl) (by kernel_rfl) (FP os _)) ?_
 intro W base args ds gs before hval0 hW _ hwt hL _
 have hval:∀ (j:Nat) t v,Tryz.f3.params[j]? = some t→args[j]? = some v→Value.okWide Tryz.prog W .any base t v:=hval0
 have hW':=hW
 obtain ⟨p,q,hA0,hV,rfl,hfz,hnd⟩:=hW
 have hA:DataW.TrodAll enc Tryz.prog W 0 (fun _=>true) true Tryz.f3.params.toList args.toList ds p:=hA0
 rw [Tryz.params3] at hA hval
 have hA2:=hA
 obtain ⟨v0,v1,d0,d1,p0,p1,rfl,rfl,rfl,h0,h1⟩:=trodAll_two hA
 obtain ⟨rfl,rfl⟩:=trodVars_none hV
 clear hA0 hval0
 simp only [List.append_nil] at hW'
 have hlt:∀ x∈_,MemPlace.block x<W.heap.size:=fun x hx=>hW'.lt x hx
 refine (Go.D.rk Go.D.Tab.Rx Go.D.Tab.mixed Go.D.Tab.GQ Go.D.Tab.afC (ts:=_) (shs:=Go.D.Tab.M7) (by kernel_rfl) W (fun j t v h1 h2=>hval j t v (by simpa using h1) (by simpa using h2)) hA2 hwt Go.D.Tab.GZ (GO W hL)).mono fun e W' ⟨he,hb⟩ => ?_
 subst he
 exact ⟨_,rfl,ry (pa:=p0++p1) (pv:=[]) hW' (fun _ _ _=>trodAll_mk1 (shut_bool Tryz.underlying4 true)) (fun sp hsp=>Go.D.ln laidOut _ _ _ _ (by kernel_rfl) hA2 (fun p hp=>hb.same (hlt p hp)) (fun p hp=>hsp p (by simpa using hp))) (fun _ _=>rfl) (by simp) hb
  (ok_one (by kernel_rfl) rfl (okWide_bool_mk Tryz.underlying4 true))⟩
theorem nT:Rows.FrameTellsSaid:=
 OpenClaim.holds_of_wide 3 Tryz.f3 rfl rfl rfl rfl rfl rfl rfl ⟨rfl,rfl,rfl,rfl,rfl⟩ rfl rfl rfl rfl rfl (by kernel_rfl) Tryz.func3 (by kernel_rfl)
  (of_decide_eq_true (by kernel_rfl)) (by unfold Func.isWrapper;first | (rw [if_pos (by decide +kernel)];kernel_rfl) | (rw [if_neg (by decide +kernel)];exact ⟨rfl,rfl⟩))
  (fun os started H enc _=>mS os started H enc)
theorem frameTells_card_holds:Rows.FrameTellsCardSaid:=
 Claim7.holds_tied_plain_at .later [] [.data,.listed,.data,.pinned] true Rows.frameTellsCard.stood.harness false
  nT (fun _ h=>by cases h) (by kernel_rfl) (fun _ h=>by cases h) frameTells_row_tie rfl ⟨rfl,rfl⟩ (by kernel_rfl) rfl
  (fun f fn hf hfn=>by
   obtain rfl:f=3:=Option.some.inj ((show Tryz.prog.funcNamed Rows.frameTellsRow.func=some 3 by kernel_rfl).symm.trans hf) |>.symm
   obtain rfl:fn=Tryz.f3:=(Option.some.inj (Tryz.func3.symm.trans hfn)).symm
   exact ⟨by kernel_rfl,fun j t ht=>by
    rw [Tryz.params3] at ht
    match j,ht with
    | 0,ht=>cases ht;show Tryz.prog.wantsStandIn 9=false;kernel_rfl
    | 1,ht=>cases ht;show Tryz.prog.wantsStandIn 22=false;kernel_rfl
    | k+2,ht=>simp at ht⟩)
  (by kernel_rfl)
end Go.Proofs.YtmoococmjkapbaaGreatDoor
