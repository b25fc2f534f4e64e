/-
The law HyphTakes returns true on every start that its row admits, and leaves everything as it was.
-/
import Derived.Test.YtmlogklobbamaaaDoorRows
import Derived.Test.YtmlogklobbamaaaDoorTabChk
import Derived.Test.YtmlogklobbamaaaDoorWalkHyphTakes
import Derived.ProofKit
import Derived.ChangeSame
import Derived.Below
import Derived.Test.YtmlogklobbamaaaDoorTie
import Derived.Test.YtmlogklobbamaaaDoorCards
import Derived.LaidMore
import Derived.OpenShut
import Derived.Stop.Joined
import Derived.SevenTiedAt
import Derived.Test.YtmlogklobbamaaaDoorFwDLaid
namespace Go.D.Tab
open Go.Proofs
theorem mixed : Tryd.prog.follows .mixedOrders = true := by kernel_rfl
theorem tabOk2 : TabRel Tryd.prog (fmOf fms env) tab := over_ok tabOk mixed known known_pure known_ran
theorem fm180 : fmOf fms env 180 = some 7 := by kernel_rfl
end Go.D.Tab

namespace Go.Proofs.YtmlogklobbamaaaDoor
open Go.ChangeShapes Go.WideShapes Go.ChangeAt Go.RowKit

section
variable {H : Type} {enc : TypeId × Value → H} {P : Program}
theorem post_of_below {f : Func} {s : ChangeSpec} {apart fresh handsOn again : Bool} {W W' : World} {args : Array Value} {v : Value} {ds gs : List (DataW H)} {before pa pv : List MemPlace}
    (hW : DataW.Whole enc P f.params.toList s.vars apart W args.toList ds gs before)
    (hres : ∀ (b : Nat) (sp : Nat → Bool) (hd : Bool), DataW.TrodAll enc P W' b sp hd f.resultTypes.toList (v.resultList f.resultTypes.size) (s.fn H (ds ++ gs)).results [])
    (hargs : ∀ sp : Nat → Bool, (∀ p ∈ before, sp p.block = true) → DataW.TrodAll enc P W' 0 sp true f.params.toList args.toList (s.fn H (ds ++ gs)).args pa)
    (hvars : ∀ sp : Nat → Bool, (∀ p ∈ before, sp p.block = true) → DataW.TrodVars enc P W' sp s.vars (s.fn H (ds ++ gs)).vars pv)
    (hps : before = pa ++ pv) (hb : Below W.heap.size W W')
    (hok : ∀ (j : Nat) (t : TypeId) (r : Value), f.resultTypes[j]? = some t → (v.resultList f.resultTypes.size)[j]? = some r → Value.okWide P W' .any 0 t r) :
    s.post enc P f apart fresh handsOn again W args v W' := by
  have hlt : ∀ p ∈ before, p.block < W.heap.size := fun p hp => hW.lt p hp
  have hold : ∀ p ∈ before, (fun b => decide (b < W.heap.size)) p.block = true := fun p hp => by simpa using hlt p hp
  refine ⟨ds, gs, before, [], pa, pv, hW, hres _ _ _, hargs _ hold, hvars _ hold, World.keptBut_mono (fun p hp => ⟨hp, ?_⟩) (hb.frame (· ∈ before)), fun _ => ?_⟩
  · rw [hps, List.mem_append] at hp
    exact Or.inr hp
  · obtain ⟨_, _, _, _, _, hz, hn⟩ := hW
    refine ⟨hok, _, _, ([] ++ pa) ++ pv, ⟨[] ++ pa, pv, trodAll_append (hargs _ (fun _ _ => rfl)) (hres _ _ _), hvars _ (fun _ _ => rfl), rfl, ?_, ?_⟩, ?_⟩
    · intro b off hp
      have hin : MemPlace.cell b off ∈ before := by rw [hps]; simpa using hp
      rw [hb.frozen (hlt _ hin)]
      exact hz b off hin
    · intro ha
      have := hn ha
      rw [hps] at this
      simpa using this
    · intro p hp _
      rw [hps]
      simpa using hp
end

theorem laidOut : laidOutB Tryd.prog = true := by kernel_rfl

theorem Tryd.own : ownKnob Tryd.prog.godebug = none := by kernel_rfl

abbrev laidHere : List (String × DataW Unit) := Rows.hyphTakesRow.laid

theorem door_met (os : Os) (args : Array Value) : laidMetH Tryd.prog laidHere ((World.doorLaid Tryd.prog 33 os).forCall (fun _ _ => 0) ⟨#[], args, []⟩).memory := 
  laidMetH_of_parts3 (fuel := 8) (laidMet_of_run' 8 (by kernel_rfl) (by kernel_rfl)) (by kernel_rfl) (by kernel_rfl)

theorem env_here (W : World) (h : laidMetH Tryd.prog laidHere W) : Go.D.EnvIn (Go.D.fmOf Go.D.Tab.fms Go.D.Tab.env) W := by
  have h2 : laidMet Tryd.prog laidHere W := by
    rw [MakeChecks.laidMetH_plain _ _ _ (by kernel_rfl)] at h
    exact h
  have hd : (Rows.laid_strings_asciiSpace : DataW Unit) = Lib.tabData .u8 (Go.D.asciiSpaceL.map Int.ofNat) := by kernel_rfl
  have hm : ("strings.asciiSpace", Lib.tabData .u8 (Go.D.asciiSpaceL.map Int.ofNat)) ∈ laidHere := by
    rw [← hd]
    simp [laidHere, Rows.hyphTakesRow]
  exact Go.D.envIn_laid (l := Go.D.Tab.fms) (g := 0) (t := 79) (e := 5) (n := 256) (by kernel_rfl) (by kernel_rfl) (by kernel_rfl) (by kernel_rfl) (by kernel_rfl) (by kernel_rfl) hm h2

set_option maxRecDepth 100000 in
theorem hyphTakes_lifted (os : Os) (started : os.Started) (H : Type) (enc : TypeId × Value → H) :
    ReturnsInHanded {} Tryd.checked os 7 .any (fun w args => (Rows.hyphTakesSpec.pre enc Tryd.prog Tryd.f7 [] false w args ∧ laidMetH Tryd.prog laidHere w) ∧ sizedMet enc Tryd.prog Tryd.f7 (OpenSpec.ofChange Rows.hyphTakesSpec) false w args)
      (Rows.hyphTakesSpec.post enc Tryd.prog Tryd.f7 false true false false) := by
  refine returnsInHanded_of_change_and (C := Tryd.checked) (X := fun w _ => laidMetH Tryd.prog laidHere w) (fun _ _ _ hh h => h.of_heap hh) Tryd.own started (by kernel_rfl) Tryd.func7
    (ChangeSpec.witness_shaped (enc := enc) (C := Tryd.checked) (os := os) (X := fun w _ => laidMetH Tryd.prog laidHere w) false (World.doorLaid Tryd.prog 33 os) #[.slice none 0 0, .string ⟨#[]⟩, .string ⟨#[]⟩, .int .i64 0] 8 rfl (World.shaped_of_RefB (by kernel_rfl) (by kernel_rfl)) (by kernel_rfl) (by kernel_rfl) (by kernel_rfl) (door_met os _)) ?_
  intro W base args ds gs before hval0 hW _ hwt hL _
  have hval : ∀ (j : Nat) t v, Tryd.f7.params[j]? = some t → args[j]? = some v → Value.okWide Tryd.prog W .any base t v := hval0
  have hW' := hW
  obtain ⟨p, q, hA0, hV, rfl, hfz, hnd⟩ := hW
  have hA : DataW.TrodAll enc Tryd.prog W 0 (fun _ => true) true Tryd.f7.params.toList args.toList ds p := hA0
  rw [Tryd.params7] at hA hval
  have hA2 := hA
  obtain ⟨v0, v1, v2, v3, d0, d1, d2, d3, p0, p1, p2, p3, rfl, rfl, rfl, h0, h1, h2, h3⟩ := trodAll_four hA
  obtain ⟨rfl, rfl⟩ := trodVars_none hV
  clear hA0 hval0
  simp only [List.append_nil] at hW'
  have hlt : ∀ x ∈ _, MemPlace.block x < W.heap.size := fun x hx => hW'.lt x hx
  refine (Go.D.law_calls_fit Go.D.Tab.tabOk2 Go.D.Tab.mixed Go.D.Tab.at180 Go.D.Tab.fm180 (ts := _) (shs := Go.D.Tab.lawSh) (by kernel_rfl) W (fun j t v h1 h2 => hval j t v (by simpa using h1) (by simpa using h2)) hA2 hwt Go.D.Tab.law_run (env_here W hL)).mono fun e W' ⟨he, hb⟩ => ?_
  subst he
  exact ⟨_, rfl, post_of_below (pa := p0 ++ p1 ++ p2 ++ p3) (pv := []) hW' (fun _ _ _ => trodAll_mk1 (shut_bool Tryd.underlying4 true)) (fun sp hsp => Go.D.trodAll_stays laidOut _ _ _ _ (by kernel_rfl) hA2 (fun p hp => hb.same (hlt p hp)) (fun p hp => hsp p (by simpa using hp))) (fun _ _ => rfl) (by simp) hb
    (ok_one (by kernel_rfl) rfl (okWide_bool_mk Tryd.underlying4 true))⟩

theorem hyphTakes_holds : Rows.HyphTakesSaid :=
  OpenClaim.holds_of_wide 7 Tryd.f7 rfl rfl rfl rfl rfl rfl rfl ⟨rfl, rfl, rfl, rfl, rfl⟩ rfl rfl rfl rfl rfl (by kernel_rfl) Tryd.func7 (by kernel_rfl)
    (of_decide_eq_true (by kernel_rfl)) (by unfold Func.isWrapper; first | (rw [if_pos (by decide +kernel)]; kernel_rfl) | (rw [if_neg (by decide +kernel)]; exact ⟨rfl, rfl⟩))
    (fun os started H enc _ => hyphTakes_lifted os started H enc)

theorem hyphTakes_card_holds : Rows.HyphTakesCardSaid :=
  Claim7.holds_tied_plain_at .later [] [.listed, .data] true Rows.hyphTakesCard.stood.harness false
    hyphTakes_holds (fun _ h => by cases h) (by kernel_rfl) (fun _ h => by cases h) hyphTakes_row_tie rfl ⟨rfl, rfl⟩ (by kernel_rfl) rfl
    (fun f fn hf hfn => by
      obtain rfl : f = 7 := Option.some.inj ((show Tryd.prog.funcNamed Rows.hyphTakesRow.func = some 7 by kernel_rfl).symm.trans hf) |>.symm
      obtain rfl : fn = Tryd.f7 := (Option.some.inj (Tryd.func7.symm.trans hfn)).symm
      exact ⟨by kernel_rfl, fun j t ht => by
        rw [Tryd.params7] at ht
        match j, ht with
        | 0, ht => cases ht; show Tryd.prog.wantsStandIn 22 = false; kernel_rfl
        | 1, ht => cases ht; show Tryd.prog.wantsStandIn 9 = false; kernel_rfl
        | 2, ht => cases ht; show Tryd.prog.wantsStandIn 9 = false; kernel_rfl
        | 3, ht => cases ht; show Tryd.prog.wantsStandIn 3 = false; kernel_rfl
        | k + 4, ht => simp at ht⟩)
    (by kernel_rfl)

end Go.Proofs.YtmlogklobbamaaaDoor
