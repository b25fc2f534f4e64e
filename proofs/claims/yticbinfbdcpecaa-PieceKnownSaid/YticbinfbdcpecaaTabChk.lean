/-
The table is the program's code. Printed by wip/gen.
-/
import Derived.Test.YticbinfbdcpecaaChecked
import Derived.Test.YticbinfbdcpecaaTab
import Derived.KernelRfl
namespace Go.D.Tab
open Go.Proofs

theorem chk40 : funcB Try.prog (fmOf fms env) (isPure tree.get) f40 Try.f30 = true := by kernel_rfl
theorem ok40 (f : FuncId) (hf : fmOf fms env 40 = some f) : DefRel Try.prog (fmOf fms env) tree.get (.code f40) f := by
  have h : fmOf fms env 40 = some 30 := by kernel_rfl
  rw [h] at hf
  cases hf
  exact funcB_ok Try.func30 chk40

theorem chk44 : funcB Try.prog (fmOf fms env) (isPure tree.get) f44 Try.f31 = true := by kernel_rfl
theorem ok44 (f : FuncId) (hf : fmOf fms env 44 = some f) : DefRel Try.prog (fmOf fms env) tree.get (.code f44) f := by
  have h : fmOf fms env 44 = some 31 := by kernel_rfl
  rw [h] at hf
  cases hf
  exact funcB_ok Try.func31 chk44

theorem chk61 : funcB Try.prog (fmOf fms env) (isPure tree.get) f61 Try.f38 = true := by kernel_rfl
theorem ok61 (f : FuncId) (hf : fmOf fms env 61 = some f) : DefRel Try.prog (fmOf fms env) tree.get (.code f61) f := by
  have h : fmOf fms env 61 = some 38 := by kernel_rfl
  rw [h] at hf
  cases hf
  exact funcB_ok Try.func38 chk61

theorem chk63 : funcB Try.prog (fmOf fms env) (isPure tree.get) f63 Try.f39 = true := by kernel_rfl
theorem ok63 (f : FuncId) (hf : fmOf fms env 63 = some f) : DefRel Try.prog (fmOf fms env) tree.get (.code f63) f := by
  have h : fmOf fms env 63 = some 39 := by kernel_rfl
  rw [h] at hf
  cases hf
  exact funcB_ok Try.func39 chk63

theorem chk65 : funcB Try.prog (fmOf fms env) (isPure tree.get) f65 Try.f41 = true := by kernel_rfl
theorem ok65 (f : FuncId) (hf : fmOf fms env 65 = some f) : DefRel Try.prog (fmOf fms env) tree.get (.code f65) f := by
  have h : fmOf fms env 65 = some 41 := by kernel_rfl
  rw [h] at hf
  cases hf
  exact funcB_ok Try.func41 chk65

theorem chk73 : funcB Try.prog (fmOf fms env) (isPure tree.get) f73 Try.f45 = true := by kernel_rfl
theorem ok73 (f : FuncId) (hf : fmOf fms env 73 = some f) : DefRel Try.prog (fmOf fms env) tree.get (.code f73) f := by
  have h : fmOf fms env 73 = some 45 := by kernel_rfl
  rw [h] at hf
  cases hf
  exact funcB_ok Try.func45 chk73

theorem chk76 : funcB Try.prog (fmOf fms env) (isPure tree.get) f76 Try.f47 = true := by kernel_rfl
theorem ok76 (f : FuncId) (hf : fmOf fms env 76 = some f) : DefRel Try.prog (fmOf fms env) tree.get (.code f76) f := by
  have h : fmOf fms env 76 = some 47 := by kernel_rfl
  rw [h] at hf
  cases hf
  exact funcB_ok Try.func47 chk76

theorem chk77 : funcB Try.prog (fmOf fms env) (isPure tree.get) f77 Try.f48 = true := by kernel_rfl
theorem ok77 (f : FuncId) (hf : fmOf fms env 77 = some f) : DefRel Try.prog (fmOf fms env) tree.get (.code f77) f := by
  have h : fmOf fms env 77 = some 48 := by kernel_rfl
  rw [h] at hf
  cases hf
  exact funcB_ok Try.func48 chk77

theorem chk78 : funcB Try.prog (fmOf fms env) (isPure tree.get) f78 Try.f49 = true := by kernel_rfl
theorem ok78 (f : FuncId) (hf : fmOf fms env 78 = some f) : DefRel Try.prog (fmOf fms env) tree.get (.code f78) f := by
  have h : fmOf fms env 78 = some 49 := by kernel_rfl
  rw [h] at hf
  cases hf
  exact funcB_ok Try.func49 chk78

theorem chk463 : funcB Try.prog (fmOf fms env) (isPure tree.get) f463 Try.f24 = true := by kernel_rfl
theorem ok463 (f : FuncId) (hf : fmOf fms env 463 = some f) : DefRel Try.prog (fmOf fms env) tree.get (.code f463) f := by
  have h : fmOf fms env 463 = some 24 := by kernel_rfl
  rw [h] at hf
  cases hf
  exact funcB_ok Try.func24 chk463

theorem chk465 : funcB Try.prog (fmOf fms env) (isPure tree.get) f465 Try.f25 = true := by kernel_rfl
theorem ok465 (f : FuncId) (hf : fmOf fms env 465 = some f) : DefRel Try.prog (fmOf fms env) tree.get (.code f465) f := by
  have h : fmOf fms env 465 = some 25 := by kernel_rfl
  rw [h] at hf
  cases hf
  exact funcB_ok Try.func25 chk465

theorem chk472 : funcB Try.prog (fmOf fms env) (isPure tree.get) f472 Try.f33 = true := by kernel_rfl
theorem ok472 (f : FuncId) (hf : fmOf fms env 472 = some f) : DefRel Try.prog (fmOf fms env) tree.get (.code f472) f := by
  have h : fmOf fms env 472 = some 33 := by kernel_rfl
  rw [h] at hf
  cases hf
  exact funcB_ok Try.func33 chk472

theorem chk576 : funcB Try.prog (fmOf fms env) (isPure tree.get) f576 Try.f6 = true := by kernel_rfl
theorem ok576 (f : FuncId) (hf : fmOf fms env 576 = some f) : DefRel Try.prog (fmOf fms env) tree.get (.code f576) f := by
  have h : fmOf fms env 576 = some 6 := by kernel_rfl
  rw [h] at hf
  cases hf
  exact funcB_ok Try.func6 chk576

theorem chk577 : funcB Try.prog (fmOf fms env) (isPure tree.get) f577 Try.f8 = true := by kernel_rfl
theorem ok577 (f : FuncId) (hf : fmOf fms env 577 = some f) : DefRel Try.prog (fmOf fms env) tree.get (.code f577) f := by
  have h : fmOf fms env 577 = some 8 := by kernel_rfl
  rw [h] at hf
  cases hf
  exact funcB_ok Try.func8 chk577

theorem chk578 : funcB Try.prog (fmOf fms env) (isPure tree.get) f578 Try.f14 = true := by kernel_rfl
theorem ok578 (f : FuncId) (hf : fmOf fms env 578 = some f) : DefRel Try.prog (fmOf fms env) tree.get (.code f578) f := by
  have h : fmOf fms env 578 = some 14 := by kernel_rfl
  rw [h] at hf
  cases hf
  exact funcB_ok Try.func14 chk578

theorem chk579 : funcB Try.prog (fmOf fms env) (isPure tree.get) f579 Try.f16 = true := by kernel_rfl
theorem ok579 (f : FuncId) (hf : fmOf fms env 579 = some f) : DefRel Try.prog (fmOf fms env) tree.get (.code f579) f := by
  have h : fmOf fms env 579 = some 16 := by kernel_rfl
  rw [h] at hf
  cases hf
  exact funcB_ok Try.func16 chk579

theorem chk580 : funcB Try.prog (fmOf fms env) (isPure tree.get) f580 Try.f15 = true := by kernel_rfl
theorem ok580 (f : FuncId) (hf : fmOf fms env 580 = some f) : DefRel Try.prog (fmOf fms env) tree.get (.code f580) f := by
  have h : fmOf fms env 580 = some 15 := by kernel_rfl
  rw [h] at hf
  cases hf
  exact funcB_ok Try.func15 chk580

theorem chk581 : funcB Try.prog (fmOf fms env) (isPure tree.get) f581 Try.f10 = true := by kernel_rfl
theorem ok581 (f : FuncId) (hf : fmOf fms env 581 = some f) : DefRel Try.prog (fmOf fms env) tree.get (.code f581) f := by
  have h : fmOf fms env 581 = some 10 := by kernel_rfl
  rw [h] at hf
  cases hf
  exact funcB_ok Try.func10 chk581

theorem chk582 : funcB Try.prog (fmOf fms env) (isPure tree.get) f582 Try.f11 = true := by kernel_rfl
theorem ok582 (f : FuncId) (hf : fmOf fms env 582 = some f) : DefRel Try.prog (fmOf fms env) tree.get (.code f582) f := by
  have h : fmOf fms env 582 = some 11 := by kernel_rfl
  rw [h] at hf
  cases hf
  exact funcB_ok Try.func11 chk582

theorem chk583 : funcB Try.prog (fmOf fms env) (isPure tree.get) f583 Try.f7 = true := by kernel_rfl
theorem ok583 (f : FuncId) (hf : fmOf fms env 583 = some f) : DefRel Try.prog (fmOf fms env) tree.get (.code f583) f := by
  have h : fmOf fms env 583 = some 7 := by kernel_rfl
  rw [h] at hf
  cases hf
  exact funcB_ok Try.func7 chk583

theorem chk584 : funcB Try.prog (fmOf fms env) (isPure tree.get) f584 Try.f17 = true := by kernel_rfl
theorem ok584 (f : FuncId) (hf : fmOf fms env 584 = some f) : DefRel Try.prog (fmOf fms env) tree.get (.code f584) f := by
  have h : fmOf fms env 584 = some 17 := by kernel_rfl
  rw [h] at hf
  cases hf
  exact funcB_ok Try.func17 chk584

theorem chk585 : funcB Try.prog (fmOf fms env) (isPure tree.get) f585 Try.f18 = true := by kernel_rfl
theorem ok585 (f : FuncId) (hf : fmOf fms env 585 = some f) : DefRel Try.prog (fmOf fms env) tree.get (.code f585) f := by
  have h : fmOf fms env 585 = some 18 := by kernel_rfl
  rw [h] at hf
  cases hf
  exact funcB_ok Try.func18 chk585

theorem chk586 : funcB Try.prog (fmOf fms env) (isPure tree.get) f586 Try.f20 = true := by kernel_rfl
theorem ok586 (f : FuncId) (hf : fmOf fms env 586 = some f) : DefRel Try.prog (fmOf fms env) tree.get (.code f586) f := by
  have h : fmOf fms env 586 = some 20 := by kernel_rfl
  rw [h] at hf
  cases hf
  exact funcB_ok Try.func20 chk586

theorem chk587 : funcB Try.prog (fmOf fms env) (isPure tree.get) f587 Try.f21 = true := by kernel_rfl
theorem ok587 (f : FuncId) (hf : fmOf fms env 587 = some f) : DefRel Try.prog (fmOf fms env) tree.get (.code f587) f := by
  have h : fmOf fms env 587 = some 21 := by kernel_rfl
  rw [h] at hf
  cases hf
  exact funcB_ok Try.func21 chk587

theorem chk588 : funcB Try.prog (fmOf fms env) (isPure tree.get) f588 Try.f23 = true := by kernel_rfl
theorem ok588 (f : FuncId) (hf : fmOf fms env 588 = some f) : DefRel Try.prog (fmOf fms env) tree.get (.code f588) f := by
  have h : fmOf fms env 588 = some 23 := by kernel_rfl
  rw [h] at hf
  cases hf
  exact funcB_ok Try.func23 chk588

theorem chk589 : funcB Try.prog (fmOf fms env) (isPure tree.get) f589 Try.f26 = true := by kernel_rfl
theorem ok589 (f : FuncId) (hf : fmOf fms env 589 = some f) : DefRel Try.prog (fmOf fms env) tree.get (.code f589) f := by
  have h : fmOf fms env 589 = some 26 := by kernel_rfl
  rw [h] at hf
  cases hf
  exact funcB_ok Try.func26 chk589

theorem chk590 : funcB Try.prog (fmOf fms env) (isPure tree.get) f590 Try.f27 = true := by kernel_rfl
theorem ok590 (f : FuncId) (hf : fmOf fms env 590 = some f) : DefRel Try.prog (fmOf fms env) tree.get (.code f590) f := by
  have h : fmOf fms env 590 = some 27 := by kernel_rfl
  rw [h] at hf
  cases hf
  exact funcB_ok Try.func27 chk590

theorem chk591 : funcB Try.prog (fmOf fms env) (isPure tree.get) f591 Try.f28 = true := by kernel_rfl
theorem ok591 (f : FuncId) (hf : fmOf fms env 591 = some f) : DefRel Try.prog (fmOf fms env) tree.get (.code f591) f := by
  have h : fmOf fms env 591 = some 28 := by kernel_rfl
  rw [h] at hf
  cases hf
  exact funcB_ok Try.func28 chk591

theorem chk592 : funcB Try.prog (fmOf fms env) (isPure tree.get) f592 Try.f29 = true := by kernel_rfl
theorem ok592 (f : FuncId) (hf : fmOf fms env 592 = some f) : DefRel Try.prog (fmOf fms env) tree.get (.code f592) f := by
  have h : fmOf fms env 592 = some 29 := by kernel_rfl
  rw [h] at hf
  cases hf
  exact funcB_ok Try.func29 chk592

theorem chk593 : funcB Try.prog (fmOf fms env) (isPure tree.get) f593 Try.f22 = true := by kernel_rfl
theorem ok593 (f : FuncId) (hf : fmOf fms env 593 = some f) : DefRel Try.prog (fmOf fms env) tree.get (.code f593) f := by
  have h : fmOf fms env 593 = some 22 := by kernel_rfl
  rw [h] at hf
  cases hf
  exact funcB_ok Try.func22 chk593

theorem chk594 : funcB Try.prog (fmOf fms env) (isPure tree.get) f594 Try.f13 = true := by kernel_rfl
theorem ok594 (f : FuncId) (hf : fmOf fms env 594 = some f) : DefRel Try.prog (fmOf fms env) tree.get (.code f594) f := by
  have h : fmOf fms env 594 = some 13 := by kernel_rfl
  rw [h] at hf
  cases hf
  exact funcB_ok Try.func13 chk594

theorem chk595 : funcB Try.prog (fmOf fms env) (isPure tree.get) f595 Try.f9 = true := by kernel_rfl
theorem ok595 (f : FuncId) (hf : fmOf fms env 595 = some f) : DefRel Try.prog (fmOf fms env) tree.get (.code f595) f := by
  have h : fmOf fms env 595 = some 9 := by kernel_rfl
  rw [h] at hf
  cases hf
  exact funcB_ok Try.func9 chk595

theorem chk596 : funcB Try.prog (fmOf fms env) (isPure tree.get) f596 Try.f32 = true := by kernel_rfl
theorem ok596 (f : FuncId) (hf : fmOf fms env 596 = some f) : DefRel Try.prog (fmOf fms env) tree.get (.code f596) f := by
  have h : fmOf fms env 596 = some 32 := by kernel_rfl
  rw [h] at hf
  cases hf
  exact funcB_ok Try.func32 chk596

theorem chk597 : funcB Try.prog (fmOf fms env) (isPure tree.get) f597 Try.f34 = true := by kernel_rfl
theorem ok597 (f : FuncId) (hf : fmOf fms env 597 = some f) : DefRel Try.prog (fmOf fms env) tree.get (.code f597) f := by
  have h : fmOf fms env 597 = some 34 := by kernel_rfl
  rw [h] at hf
  cases hf
  exact funcB_ok Try.func34 chk597

theorem chk598 : funcB Try.prog (fmOf fms env) (isPure tree.get) f598 Try.f35 = true := by kernel_rfl
theorem ok598 (f : FuncId) (hf : fmOf fms env 598 = some f) : DefRel Try.prog (fmOf fms env) tree.get (.code f598) f := by
  have h : fmOf fms env 598 = some 35 := by kernel_rfl
  rw [h] at hf
  cases hf
  exact funcB_ok Try.func35 chk598

theorem chk599 : funcB Try.prog (fmOf fms env) (isPure tree.get) f599 Try.f36 = true := by kernel_rfl
theorem ok599 (f : FuncId) (hf : fmOf fms env 599 = some f) : DefRel Try.prog (fmOf fms env) tree.get (.code f599) f := by
  have h : fmOf fms env 599 = some 36 := by kernel_rfl
  rw [h] at hf
  cases hf
  exact funcB_ok Try.func36 chk599

theorem chk600 : funcB Try.prog (fmOf fms env) (isPure tree.get) f600 Try.f37 = true := by kernel_rfl
theorem ok600 (f : FuncId) (hf : fmOf fms env 600 = some f) : DefRel Try.prog (fmOf fms env) tree.get (.code f600) f := by
  have h : fmOf fms env 600 = some 37 := by kernel_rfl
  rw [h] at hf
  cases hf
  exact funcB_ok Try.func37 chk600

theorem chk601 : funcB Try.prog (fmOf fms env) (isPure tree.get) f601 Try.f12 = true := by kernel_rfl
theorem ok601 (f : FuncId) (hf : fmOf fms env 601 = some f) : DefRel Try.prog (fmOf fms env) tree.get (.code f601) f := by
  have h : fmOf fms env 601 = some 12 := by kernel_rfl
  rw [h] at hf
  cases hf
  exact funcB_ok Try.func12 chk601

theorem chk624 : funcB Try.prog (fmOf fms env) (isPure tree.get) f624 Try.f3 = true := by kernel_rfl
theorem ok624 (f : FuncId) (hf : fmOf fms env 624 = some f) : DefRel Try.prog (fmOf fms env) tree.get (.code f624) f := by
  have h : fmOf fms env 624 = some 3 := by kernel_rfl
  rw [h] at hf
  cases hf
  exact funcB_ok Try.func3 chk624

theorem chk625 : funcB Try.prog (fmOf fms env) (isPure tree.get) f625 Try.f4 = true := by kernel_rfl
theorem ok625 (f : FuncId) (hf : fmOf fms env 625 = some f) : DefRel Try.prog (fmOf fms env) tree.get (.code f625) f := by
  have h : fmOf fms env 625 = some 4 := by kernel_rfl
  rw [h] at hf
  cases hf
  exact funcB_ok Try.func4 chk625

theorem ok478 (f : FuncId) (hf : fmOf fms env 478 = some f) : DefRel Try.prog (fmOf fms env) tree.get (.prim noEscapeD) f := by
  have h : fmOf fms env 478 = some 42 := by kernel_rfl
  rw [h] at hf
  cases hf
  exact prim_noEscape Try.func42 (by kernel_rfl) (by kernel_rfl) (by kernel_rfl) (by kernel_rfl)

theorem ok602 (f : FuncId) (hf : fmOf fms env 602 = some f) : DefRel Try.prog (fmOf fms env) tree.get (.prim (makeNoZeroD 5)) f := by
  have h : fmOf fms env 602 = some 43 := by kernel_rfl
  rw [h] at hf
  cases hf
  exact prim_makeNoZero (ps := #[3]) (t := 54) (e := 5) (ht := by kernel_rfl) Try.func43 (by kernel_rfl) (by kernel_rfl) (by kernel_rfl) (by kernel_rfl)

theorem ok72 (f : FuncId) (hf : fmOf fms env 72 = some f) : DefRel Try.prog (fmOf fms env) tree.get (.prim indexByteD) f := by
  have h : fmOf fms env 72 = some 44 := by kernel_rfl
  rw [h] at hf
  cases hf
  exact prim_indexByte Try.func44 (by kernel_rfl) (by kernel_rfl) (by kernel_rfl) (by kernel_rfl)

theorem ok64 (f : FuncId) (hf : fmOf fms env 64 = some f) : DefRel Try.prog (fmOf fms env) tree.get (.prim countByteD) f := by
  have h : fmOf fms env 64 = some 40 := by kernel_rfl
  rw [h] at hf
  cases hf
  exact prim_countByte Try.func40 (by kernel_rfl) (by kernel_rfl) (by kernel_rfl) (by kernel_rfl)

theorem tabOk : TabRel Try.prog (fmOf fms env) tree.get := tabRel_tree (t := tree) ⟨⟨⟨⟨⟨ok40, ok44⟩, ⟨ok61, ⟨ok63, ok64⟩⟩⟩, ⟨⟨ok65, ⟨ok72, ok73⟩⟩, ⟨ok76, ⟨ok77, ok78⟩⟩⟩⟩, ⟨⟨⟨ok463, ok465⟩, ⟨ok472, ⟨ok478, ok576⟩⟩⟩, ⟨⟨ok577, ⟨ok578, ok579⟩⟩, ⟨ok580, ⟨ok581, ok582⟩⟩⟩⟩⟩, ⟨⟨⟨⟨ok583, ok584⟩, ⟨ok585, ⟨ok586, ok587⟩⟩⟩, ⟨⟨ok588, ⟨ok589, ok590⟩⟩, ⟨ok591, ⟨ok592, ok593⟩⟩⟩⟩, ⟨⟨⟨ok594, ok595⟩, ⟨ok596, ⟨ok597, ok598⟩⟩⟩, ⟨⟨ok599, ⟨ok600, ok601⟩⟩, ⟨ok602, ⟨ok624, ok625⟩⟩⟩⟩⟩⟩

end Go.D.Tab
