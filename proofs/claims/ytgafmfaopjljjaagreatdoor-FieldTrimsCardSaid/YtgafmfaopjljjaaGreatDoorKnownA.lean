import Derived.Test.YtgafmfaopjljjaaGreatDoorRows
import Derived.ProofKit
import Derived.ChangeSame
import Derived.Below
import Derived.Test.YtgafmfaopjljjaaGreatDoorTie
import Derived.Test.YtgafmfaopjljjaaGreatDoorCards
import Derived.LaidMore
import Derived.OpenShut
import Derived.Stop.Joined
import Derived.SevenTiedAt
import Derived.Test.YtgafmfaopjljjaaGreatDoorChecked
open _root_.Option renaming some → aab
namespace Go.Proofs.YtgafmfaopjljjaaGreatDoor
open Go.ChangeShapes Go.WideShapes Go.ChangeAt Go.RowKit
theorem laidOut:laidOutB Tryz.prog=true:=by kernel_rfl
theorem Tryz.own:ownKnob Tryz.prog.godebug=none:=by kernel_rfl
abbrev dF:List (String×DataW Unit):=Rows.fieldTrimsRow.laid
theorem Cs (os:Os) (args:Array Value):laidMetH Tryz.prog dF ((World.doorLaid Tryz.prog 48 os).forCall (fun _ _=>0) ⟨#[],args,[]⟩).memory:=
 laidMetH_of_parts3 (fuel:=8) (laidMet_of_run' 8 (by kernel_rfl) (by kernel_rfl)) (by kernel_rfl) (by kernel_rfl)
theorem qE (lifted:∀ (os:Os) (_:os.Started) (H:Type) (enc:TypeId×Value→H),
 ReturnsInHanded {} Tryz.checked os 3 .any (fun w args=>(Rows.fieldTrimsSpec.pre enc Tryz.prog Tryz.f3 [] false w args∧laidMetH Tryz.prog dF w)∧sizedMet enc Tryz.prog Tryz.f3 (OpenSpec.ofChange Rows.fieldTrimsSpec) false w args)
  (Rows.fieldTrimsSpec.post enc Tryz.prog Tryz.f3 false true false false)):Rows.FieldTrimsSaid:=
 OpenClaim.holds_of_wide 3 Tryz.f3 rfl rfl rfl rfl rfl rfl rfl ⟨rfl,rfl,rfl,rfl,rfl⟩ rfl rfl rfl rfl rfl (by kernel_rfl) Tryz.func3 (by kernel_rfl)
  (of_decide_eq_true (by kernel_rfl)) (by unfold Func.isWrapper;first | (rw[if_pos (by decide +kernel)];kernel_rfl) | (rw[if_neg (by decide +kernel)];exact⟨rfl,rfl⟩))
  (fun os started H enc _=>lifted os started H enc)
theorem kY (holds:Rows.FieldTrimsSaid):Rows.FieldTrimsCardSaid:=
 Claim7.holds_tied_plain_at .later [] [.data,.data,.data,.listed,.data] true Rows.fieldTrimsCard.stood.harness false
  holds (fun _ h=>by cases h) (by kernel_rfl) (fun _ h=>by cases h) fieldTrims_row_tie rfl ⟨rfl,rfl⟩ (by kernel_rfl) rfl
  (fun f fn hf hfn=>by
   obtain rfl:f=3:=aab.inj ((show Tryz.prog.funcNamed Rows.fieldTrimsRow.func=some 3 by kernel_rfl).symm.trans hf) |>.symm;obtain rfl:fn=Tryz.f3:=(aab.inj (Tryz.func3.symm.trans hfn)).symm
   exact⟨by kernel_rfl,fun j t ht=>by
    rw[Tryz.params3] at ht
    match j,ht with
    | 0,ht=>cases ht;show Tryz.prog.wantsStandIn 24=false;kernel_rfl
    | 1,ht=>cases ht;show Tryz.prog.wantsStandIn 3=false;kernel_rfl
    | 2,ht=>cases ht;show Tryz.prog.wantsStandIn 4=false;kernel_rfl
    | k+3,ht=>simp at ht⟩)
  (by kernel_rfl)
end Go.Proofs.YtgafmfaopjljjaaGreatDoor
