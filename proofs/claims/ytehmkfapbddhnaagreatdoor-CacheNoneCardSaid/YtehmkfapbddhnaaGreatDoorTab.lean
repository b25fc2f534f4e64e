/-
The code of what the laws reach, as a table of the small language. Printed by wip/gen.
-/
import Derived.Test.YtehmkfapbddhnaaGreatDoorTab1
namespace Go.D.Tab

/-! maps.DeleteFunc[map[int]*quire/cache.made,int,*quire/cache.made] -/
def f426r0 : List ROper := [
  ⟨some 6, .mv (.t 0), none⟩,
  ⟨some 7, .fail, none⟩]
def f426r1 : List ROper := [
  ⟨some 8, .fail, none⟩,
  ⟨some 9, .extract (.t 8) 0, none⟩]
def f426r2 : List ROper := [
  ⟨some 10, .fail, none⟩,
  ⟨some 11, .extract (.t 10) 0, none⟩,
  ⟨some 12, .extract (.t 10) 1, none⟩,
  ⟨some 4, .mv (.t 11), none⟩,
  ⟨some 5, .mv (.t 12), none⟩]
def f426r3 : List ROper := [
  ⟨some 13, .mv (.t 1), none⟩,
  ⟨some 14, .mv (.t 4), none⟩,
  ⟨some 15, .mv (.t 5), none⟩,
  ⟨some 16, .callv (.t 13) [(.t 14), (.t 15)], none⟩]
def f426r4 : List ROper := [
  ⟨some 17, .mv (.t 0), none⟩,
  ⟨some 18, .mv (.t 4), none⟩,
  ⟨none, .fail, none⟩]
def f426 : RFunc := ⟨[], (.seq (.region f426r0 [0, 1]) (.block 0 (.loop [0, 1] (.seq (.region f426r1 [0, 1, 9]) (.seq (.cond (.t 9) .skip (.exit 0)) (.block 1 (.seq (.region f426r2 [0, 1, 4, 5]) (.seq (.region f426r3 [0, 1, 4, 16]) (.cond (.t 16) (.region f426r4 [0, 1]) .skip))))))))), false⟩

/-! (*quire/cache.Cache).Keep$1 -/
def f427r0 : List ROper := [
  ⟨some 5, .mv (.c (.bool false)), none⟩]
def f427r1 : List ROper := [
  ⟨some 6, .load 1 false (.t 2), none⟩,
  ⟨some 7, .mv (.t 0), none⟩,
  ⟨some 8, .call 428 [(.t 6), (.t 7)], none⟩,
  ⟨some 9, .un .not (.t 8), none⟩,
  ⟨some 5, .mv (.t 9), none⟩]
def f427 : RFunc := ⟨[.t 5], (.seq (.region f427r0 [0, 2]) (.seq (.region f427r1 [5]) .ret)), false⟩

/-! slices.Contains[[]int,int] -/
def f428r0 : List ROper := [
  ⟨some 4, .mv (.c (.bool false)), none⟩]
def f428r1 : List ROper := [
  ⟨some 5, .mv (.t 0), none⟩,
  ⟨some 6, .mv (.t 1), none⟩,
  ⟨some 7, .call 452 [(.t 5), (.t 6)], none⟩,
  ⟨some 8, .bin .geq (.t 7) (.c (.int .i64 (.ofNat 0))), none⟩,
  ⟨some 4, .mv (.t 8), none⟩]
def f428 : RFunc := ⟨[.t 4], (.seq (.region f428r0 [0, 1]) (.seq (.region f428r1 [4]) .ret)), true⟩

/-! (*quire/cache.Cache).Anew -/
def f429r0 : List ROper := [
  ⟨some 2, .mv (.c (.list 0 0 .no false [])), none⟩]
def f429r1 : List ROper := [
  ⟨some 4, .mv (.t 0), none⟩,
  ⟨some 5, .call 418 [(.t 4)], none⟩]
def f429r2 : List ROper := [
  ⟨some 2, .mv (.c (.list 0 0 .no false [])), none⟩]
def f429r3 : List ROper := [
  ⟨some 6, .mv (.t 0), none⟩,
  ⟨some 7, .nilchk (.t 6), none⟩,
  ⟨some 8, .faddr 1 (.t 7), none⟩,
  ⟨some 9, .load 1 false (.t 8), none⟩,
  ⟨some 3, .mv (.t 9), none⟩]
def f429r4 : List ROper := [
  ⟨some 10, .mv (.t 0), none⟩,
  ⟨some 11, .nilchk (.t 10), none⟩,
  ⟨some 12, .faddr 1 (.t 11), none⟩,
  ⟨none, .store 1 (.t 12) (.c (.list 0 0 .no false [])), none⟩]
def f429r5 : List ROper := [
  ⟨some 13, .mv (.t 3), none⟩,
  ⟨some 2, .mv (.t 13), none⟩]
def f429 : RFunc := ⟨[.t 2], (.seq (.region f429r0 [0]) (.seq (.seq (.region f429r1 [0, 5]) (.cond (.t 5) (.seq (.region f429r2 [2]) .ret) .skip)) (.seq (.region f429r3 [0, 3]) (.seq (.region f429r4 [3]) (.seq (.region f429r5 [2]) .ret))))), false⟩

/-! slices.Equal[[]quire/api.Span,quire/api.Span] -/
def f447r0 : List ROper := [
  ⟨some 4, .mv (.c (.bool false)), none⟩]
def f447r1 : List ROper := [
  ⟨some 6, .mv (.t 0), none⟩,
  ⟨some 7, .len .slice (.t 6), none⟩,
  ⟨some 8, .mv (.t 1), none⟩,
  ⟨some 9, .len .slice (.t 8), none⟩,
  ⟨some 10, .bin .neq (.t 7) (.t 9), none⟩]
def f447r2 : List ROper := [
  ⟨some 4, .mv (.c (.bool false)), none⟩]
def f447r3 : List ROper := [
  ⟨some 11, .mv (.t 0), none⟩,
  ⟨some 12, .len .slice (.t 11), none⟩,
  ⟨some 13, .mv (.c (.int .i64 (.ofNat 0))), none⟩]
def f447r4 : List ROper := [
  ⟨some 14, .bin .lss (.t 13) (.t 12), none⟩]
def f447r5 : List ROper := [
  ⟨some 15, .mv (.t 13), none⟩,
  ⟨some 5, .mv (.t 15), none⟩]
def f447r6 : List ROper := [
  ⟨some 16, .mv (.t 0), none⟩,
  ⟨some 17, .mv (.t 5), none⟩,
  ⟨some 18, .iaddr 4 (.t 16) (.t 17), none⟩,
  ⟨some 19, .load 4 true (.t 18), none⟩,
  ⟨some 20, .mv (.t 1), none⟩,
  ⟨some 21, .mv (.t 5), none⟩,
  ⟨some 22, .iaddr 4 (.t 20) (.t 21), none⟩,
  ⟨some 23, .load 4 true (.t 22), none⟩,
  ⟨some 24, .eq (.agg [.int, .int, .int, .int]) true (.t 19) (.t 23), none⟩]
def f447r7 : List ROper := [
  ⟨some 4, .mv (.c (.bool false)), none⟩]
def f447r8 : List ROper := [
  ⟨some 25, .bin .add (.t 13) (.c (.int .i64 (.ofNat 1))), none⟩,
  ⟨some 13, .mv (.t 25), none⟩]
def f447r9 : List ROper := [
  ⟨some 4, .mv (.c (.bool true)), none⟩]
def f447 : RFunc := ⟨[.t 4], (.seq (.region f447r0 [0, 1]) (.seq (.seq (.region f447r1 [0, 1, 10]) (.cond (.t 10) (.seq (.region f447r2 [4]) .ret) .skip)) (.seq (.seq (.region f447r3 [0, 1, 12, 13]) (.block 0 (.loop [0, 1, 12, 13] (.seq (.region f447r4 [0, 1, 12, 13, 14]) (.seq (.cond (.t 14) .skip (.exit 0)) (.seq (.block 1 (.seq (.region f447r5 [0, 1, 5, 12, 13]) (.seq (.dregion f447r6 [] [] [0, 1, 12, 13, 24]) (.cond (.t 24) (.seq (.region f447r7 [4]) .ret) .skip)))) (.region f447r8 [0, 1, 12, 13]))))))) (.seq (.region f447r9 [4]) .ret)))), true⟩

/-! slices.Equal[[]string,string] -/
def f448r0 : List ROper := [
  ⟨some 4, .mv (.c (.bool false)), none⟩]
def f448r1 : List ROper := [
  ⟨some 6, .mv (.t 0), none⟩,
  ⟨some 7, .len .slice (.t 6), none⟩,
  ⟨some 8, .mv (.t 1), none⟩,
  ⟨some 9, .len .slice (.t 8), none⟩,
  ⟨some 10, .bin .neq (.t 7) (.t 9), none⟩]
def f448r2 : List ROper := [
  ⟨some 4, .mv (.c (.bool false)), none⟩]
def f448r3 : List ROper := [
  ⟨some 11, .mv (.t 0), none⟩,
  ⟨some 12, .len .slice (.t 11), none⟩,
  ⟨some 13, .mv (.c (.int .i64 (.ofNat 0))), none⟩]
def f448r4 : List ROper := [
  ⟨some 14, .bin .lss (.t 13) (.t 12), none⟩]
def f448r5 : List ROper := [
  ⟨some 15, .mv (.t 13), none⟩,
  ⟨some 5, .mv (.t 15), none⟩]
def f448r6 : List ROper := [
  ⟨some 16, .mv (.t 0), none⟩,
  ⟨some 17, .mv (.t 5), none⟩,
  ⟨some 18, .iaddr 1 (.t 16) (.t 17), none⟩,
  ⟨some 19, .load 1 false (.t 18), none⟩,
  ⟨some 20, .mv (.t 1), none⟩,
  ⟨some 21, .mv (.t 5), none⟩,
  ⟨some 22, .iaddr 1 (.t 20) (.t 21), none⟩,
  ⟨some 23, .load 1 false (.t 22), none⟩,
  ⟨some 24, .bin .neq (.t 19) (.t 23), none⟩]
def f448r7 : List ROper := [
  ⟨some 4, .mv (.c (.bool false)), none⟩]
def f448r8 : List ROper := [
  ⟨some 25, .bin .add (.t 13) (.c (.int .i64 (.ofNat 1))), none⟩,
  ⟨some 13, .mv (.t 25), none⟩]
def f448r9 : List ROper := [
  ⟨some 4, .mv (.c (.bool true)), none⟩]
def f448 : RFunc := ⟨[.t 4], (.seq (.region f448r0 [0, 1]) (.seq (.seq (.region f448r1 [0, 1, 10]) (.cond (.t 10) (.seq (.region f448r2 [4]) .ret) .skip)) (.seq (.seq (.region f448r3 [0, 1, 12, 13]) (.block 0 (.loop [0, 1, 12, 13] (.seq (.region f448r4 [0, 1, 12, 13, 14]) (.seq (.cond (.t 14) .skip (.exit 0)) (.seq (.block 1 (.seq (.region f448r5 [0, 1, 5, 12, 13]) (.seq (.dregion f448r6 [] [] [0, 1, 12, 13, 24]) (.cond (.t 24) (.seq (.region f448r7 [4]) .ret) .skip)))) (.region f448r8 [0, 1, 12, 13]))))))) (.seq (.region f448r9 [4]) .ret)))), true⟩

/-! slices.Equal[[]quire/api.Slot,quire/api.Slot] -/
def f449r0 : List ROper := [
  ⟨some 4, .mv (.c (.bool false)), none⟩]
def f449r1 : List ROper := [
  ⟨some 6, .mv (.t 0), none⟩,
  ⟨some 7, .len .slice (.t 6), none⟩,
  ⟨some 8, .mv (.t 1), none⟩,
  ⟨some 9, .len .slice (.t 8), none⟩,
  ⟨some 10, .bin .neq (.t 7) (.t 9), none⟩]
def f449r2 : List ROper := [
  ⟨some 4, .mv (.c (.bool false)), none⟩]
def f449r3 : List ROper := [
  ⟨some 11, .mv (.t 0), none⟩,
  ⟨some 12, .len .slice (.t 11), none⟩,
  ⟨some 13, .mv (.c (.int .i64 (.ofNat 0))), none⟩]
def f449r4 : List ROper := [
  ⟨some 14, .bin .lss (.t 13) (.t 12), none⟩]
def f449r5 : List ROper := [
  ⟨some 15, .mv (.t 13), none⟩,
  ⟨some 5, .mv (.t 15), none⟩]
def f449r6 : List ROper := [
  ⟨some 16, .mv (.t 0), none⟩,
  ⟨some 17, .mv (.t 5), none⟩,
  ⟨some 18, .iaddr 2 (.t 16) (.t 17), none⟩,
  ⟨some 19, .load 2 true (.t 18), none⟩,
  ⟨some 20, .mv (.t 1), none⟩,
  ⟨some 21, .mv (.t 5), none⟩,
  ⟨some 22, .iaddr 2 (.t 20) (.t 21), none⟩,
  ⟨some 23, .load 2 true (.t 22), none⟩,
  ⟨some 24, .eq (.agg [.int, .int]) true (.t 19) (.t 23), none⟩]
def f449r7 : List ROper := [
  ⟨some 4, .mv (.c (.bool false)), none⟩]
def f449r8 : List ROper := [
  ⟨some 25, .bin .add (.t 13) (.c (.int .i64 (.ofNat 1))), none⟩,
  ⟨some 13, .mv (.t 25), none⟩]
def f449r9 : List ROper := [
  ⟨some 4, .mv (.c (.bool true)), none⟩]
def f449 : RFunc := ⟨[.t 4], (.seq (.region f449r0 [0, 1]) (.seq (.seq (.region f449r1 [0, 1, 10]) (.cond (.t 10) (.seq (.region f449r2 [4]) .ret) .skip)) (.seq (.seq (.region f449r3 [0, 1, 12, 13]) (.block 0 (.loop [0, 1, 12, 13] (.seq (.region f449r4 [0, 1, 12, 13, 14]) (.seq (.cond (.t 14) .skip (.exit 0)) (.seq (.block 1 (.seq (.region f449r5 [0, 1, 5, 12, 13]) (.seq (.dregion f449r6 [] [] [0, 1, 12, 13, 24]) (.cond (.t 24) (.seq (.region f449r7 [4]) .ret) .skip)))) (.region f449r8 [0, 1, 12, 13]))))))) (.seq (.region f449r9 [4]) .ret)))), true⟩

/-! slices.Collect[int] -/
def f450r0 : List ROper := [
  ⟨some 2, .mv (.c (.list 0 0 .no false [])), none⟩]
def f450r1 : List ROper := [
  ⟨some 3, .mv (.t 0), none⟩,
  ⟨some 4, .call 468 [(.c (.list 0 0 .no false [])), (.t 3)], none⟩,
  ⟨some 2, .mv (.t 4), none⟩]
def f450 : RFunc := ⟨[.t 2], (.seq (.region f450r0 [0]) (.seq (.region f450r1 [2]) .ret)), false⟩

/-! maps.Keys[map[int]*quire/cache.made,int,*quire/cache.made]$1 -/
def f451r0 : List ROper := [
  ⟨some 4, .load 1 false (.t 1), none⟩,
  ⟨some 5, .fail, none⟩]
def f451r1 : List ROper := [
  ⟨some 6, .fail, none⟩,
  ⟨some 7, .extract (.t 6) 0, none⟩]
def f451r2 : List ROper := [
  ⟨some 8, .fail, none⟩,
  ⟨some 9, .extract (.t 8) 0, none⟩,
  ⟨some 3, .mv (.t 9), none⟩]
def f451r3 : List ROper := [
  ⟨some 10, .mv (.t 0), none⟩,
  ⟨some 11, .mv (.t 3), none⟩,
  ⟨some 12, .callv (.t 10) [(.t 11)], none⟩,
  ⟨some 13, .un .not (.t 12), none⟩]
def f451 : RFunc := ⟨[], (.seq (.region f451r0 [0]) (.block 0 (.loop [0] (.seq (.region f451r1 [0, 7]) (.seq (.cond (.t 7) .skip (.exit 0)) (.block 1 (.seq (.region f451r2 [0, 3]) (.seq (.region f451r3 [0, 13]) (.cond (.t 13) .ret .skip))))))))), false⟩

/-! slices.Index[[]int,int] -/
def f452r0 : List ROper := [
  ⟨some 4, .mv (.c (.int .i64 (.ofNat 0))), none⟩]
def f452r1 : List ROper := [
  ⟨some 6, .mv (.t 0), none⟩,
  ⟨some 7, .len .slice (.t 6), none⟩,
  ⟨some 8, .mv (.c (.int .i64 (.ofNat 0))), none⟩]
def f452r2 : List ROper := [
  ⟨some 9, .bin .lss (.t 8) (.t 7), none⟩]
def f452r3 : List ROper := [
  ⟨some 10, .mv (.t 8), none⟩,
  ⟨some 5, .mv (.t 10), none⟩]
def f452r4 : List ROper := [
  ⟨some 11, .mv (.t 1), none⟩,
  ⟨some 12, .mv (.t 0), none⟩,
  ⟨some 13, .mv (.t 5), none⟩,
  ⟨some 14, .iaddr 1 (.t 12) (.t 13), none⟩,
  ⟨some 15, .load 1 false (.t 14), none⟩,
  ⟨some 16, .bin .eql (.t 11) (.t 15), none⟩]
def f452r5 : List ROper := [
  ⟨some 17, .mv (.t 5), none⟩,
  ⟨some 4, .mv (.t 17), none⟩]
def f452r6 : List ROper := [
  ⟨some 18, .bin .add (.t 8) (.c (.int .i64 (.ofNat 1))), none⟩,
  ⟨some 8, .mv (.t 18), none⟩]
def f452r7 : List ROper := [
  ⟨some 4, .mv (.c (.int .i64 (.negSucc 0))), none⟩]
def f452 : RFunc := ⟨[.t 4], (.seq (.region f452r0 [0, 1]) (.seq (.seq (.region f452r1 [0, 1, 7, 8]) (.block 0 (.loop [0, 1, 7, 8] (.seq (.region f452r2 [0, 1, 7, 8, 9]) (.seq (.cond (.t 9) .skip (.exit 0)) (.seq (.block 1 (.seq (.region f452r3 [0, 1, 5, 7, 8]) (.seq (.region f452r4 [0, 1, 5, 7, 8, 16]) (.cond (.t 16) (.seq (.region f452r5 [4]) .ret) .skip)))) (.region f452r6 [0, 1, 7, 8]))))))) (.seq (.region f452r7 [4]) .ret))), true⟩

/-! slices.AppendSeq[[]int,int] -/
def f468r0 : List ROper := [
  ⟨some 2, .box 1 (.t 0), none⟩,
  ⟨some 4, .mv (.c (.list 0 0 .no false [])), none⟩]
def f468r1 : List ROper := [
  ⟨some 6, .mv (.t 1), none⟩]
def f468r2 : List ROper := [
  ⟨some 5, .mv (.t 7), none⟩]
def f468r3 : List ROper := [
  ⟨some 8, .load 1 false (.t 2), none⟩,
  ⟨some 9, .mv (.t 5), none⟩,
  ⟨some 10, .lit 1 false [(.int .i64 (.ofNat 0))] 1 [(0, (.t 9))], none⟩,
  ⟨some 11, .append 1 false 8 (.t 8) (.t 10), none⟩,
  ⟨none, .store 1 (.t 2) (.t 11), none⟩]
def f468r4 : List ROper := [
  ⟨some 12, .load 1 false (.t 2), none⟩,
  ⟨some 4, .mv (.t 12), none⟩]
def f468 : RFunc := ⟨[.t 4], (.seq (.region f468r0 [1, 2]) (.seq (.seq (.region f468r1 [2, 6]) (.block 0 (.rfunc (.t 6) [7] (.region f468r2 [2, 5]) (.block 1 (.region f468r3 [])) [2, 6]))) (.seq (.region f468r4 [4]) .ret))), false⟩

/-! quire/quirelaw27.CacheNone -/
def f486r0 : List ROper := [
  ⟨some 2, .mv (.c (.bool false)), none⟩]
def f486r1 : List ROper := [
  ⟨some 9, .build [.nilmap, (.list 0 0 .no false [])] [], none⟩,
  ⟨some 10, .box 2 (.t 9), none⟩,
  ⟨some 11, .hlit 1 false [.nilp] 2 [(0, (.c .nilp)), (1, (.t 10))], none⟩,
  ⟨some 3, .mv (.t 11), none⟩]
def f486r2 : List ROper := [
  ⟨some 4, .mv (.c (.int .i64 (.ofNat 0))), none⟩]
def f486r3 : List ROper := [
  ⟨some 12, .mv (.t 4), none⟩,
  ⟨some 13, .mv (.t 3), none⟩,
  ⟨some 14, .len .slice (.t 13), none⟩,
  ⟨some 15, .bin .lss (.t 12) (.t 14), none⟩]
def f486r4 : List ROper := [
  ⟨some 18, .mv (.t 3), none⟩,
  ⟨some 19, .mv (.t 4), none⟩,
  ⟨some 20, .iaddr 1 (.t 18) (.t 19), none⟩,
  ⟨some 21, .load 1 false (.t 20), none⟩,
  ⟨some 5, .mv (.t 21), none⟩]
def f486r5 : List ROper := [
  ⟨some 23, .mv (.t 5), none⟩,
  ⟨some 24, .mv (.t 0), none⟩,
  ⟨some 25, .build [(.str []), (.list 0 0 .no false []), (.int .i64 (.ofNat 0)), (.int .i64 (.ofNat 0)), (.int .i64 (.ofNat 0)), (.int .i64 (.ofNat 0)), (.int .i64 (.ofNat 0)), (.int .i64 (.ofNat 0)), (.int .i64 (.ofNat 0)), (.int .i64 (.ofNat 0)), (.int .i64 (.ofNat 0)), (.int .i64 (.ofNat 0)), (.int .i64 (.ofNat 0)), (.int .i64 (.ofNat 0)), (.int .i64 (.ofNat 0)), (.int .i64 (.ofNat 0)), (.int .i64 (.ofNat 0)), (.int .i64 (.ofNat 0)), (.int .i64 (.ofNat 0)), (.str []), (.list 0 0 .no false [])] [], none⟩,
  ⟨some 26, .build [(.int .i64 (.ofNat 0)), (.int .i64 (.ofNat 0))] [], none⟩,
  ⟨some 27, .call 397 [(.t 23), (.t 24), (.t 25), (.c (.list 0 0 .no false [])), (.t 26)], none⟩,
  ⟨some 22, .mv (.t 27), none⟩,
  ⟨some 28, .extract (.t 22) 0, none⟩,
  ⟨some 29, .extract (.t 22) 1, none⟩,
  ⟨some 30, .extract (.t 22) 2, none⟩,
  ⟨some 6, .mv (.t 28), none⟩,
  ⟨some 7, .mv (.t 29), none⟩,
  ⟨some 8, .mv (.t 30), none⟩]
def f486r6 : List ROper := [
  ⟨some 31, .mv (.t 6), none⟩,
  ⟨some 32, .len .slice (.t 31), none⟩,
  ⟨some 33, .bin .neq (.t 32) (.c (.int .i64 (.ofNat 0))), none⟩,
  ⟨some 34, .mv (.t 33), none⟩,
  ⟨some 35, .mv (.t 7), some (34, false)⟩,
  ⟨some 36, .pick (.t 34) (.c (.bool true)) (.t 35), none⟩,
  ⟨some 37, .mv (.t 36), none⟩,
  ⟨some 38, .mv (.t 8), some (37, false)⟩,
  ⟨some 39, .bin .neq (.t 38) (.c (.int .i64 (.ofNat 1))), some (37, false)⟩,
  ⟨some 40, .pick (.t 37) (.c (.bool true)) (.t 39), none⟩,
  ⟨some 41, .mv (.t 40), none⟩,
  ⟨some 42, .mv (.t 5), some (41, false)⟩,
  ⟨some 43, .call 400 [(.t 42), (.c (.list 0 0 .no false []))], some (41, false)⟩,
  ⟨some 44, .bin .neq (.t 43) (.c (.int .i64 (.ofNat 1))), some (41, false)⟩,
  ⟨some 45, .pick (.t 41) (.c (.bool true)) (.t 44), none⟩,
  ⟨some 46, .mv (.t 45), none⟩,
  ⟨some 47, .mv (.t 5), some (46, false)⟩,
  ⟨some 48, .call 429 [(.t 47)], some (46, false)⟩,
  ⟨some 49, .len .slice (.t 48), some (46, false)⟩,
  ⟨some 50, .bin .neq (.t 49) (.c (.int .i64 (.ofNat 0))), some (46, false)⟩,
  ⟨some 51, .pick (.t 46) (.c (.bool true)) (.t 50), none⟩,
  ⟨some 52, .mv (.t 51), none⟩,
  ⟨some 53, .mv (.t 5), some (52, false)⟩,
  ⟨some 54, .call 399 [(.t 53)], some (52, false)⟩,
  ⟨some 55, .len .slice (.t 54), some (52, false)⟩,
  ⟨some 56, .bin .neq (.t 55) (.c (.int .i64 (.ofNat 0))), some (52, false)⟩,
  ⟨some 57, .pick (.t 52) (.c (.bool true)) (.t 56), none⟩,
  ⟨some 58, .mv (.t 57), none⟩,
  ⟨some 59, .mv (.t 5), some (58, false)⟩,
  ⟨some 60, .call 493 [(.t 59)], some (58, false)⟩,
  ⟨some 61, .eq .ptr true (.t 60) (.c .nilp), some (58, false)⟩,
  ⟨some 62, .pick (.t 58) (.c (.bool true)) (.t 61), none⟩]
def f486r7 : List ROper := [
  ⟨some 2, .mv (.c (.bool false)), none⟩]
def f486r8 : List ROper := [
  ⟨some 16, .mv (.t 4), none⟩,
  ⟨some 17, .bin .add (.t 16) (.c (.int .i64 (.ofNat 1))), none⟩,
  ⟨some 4, .mv (.t 17), none⟩]
def f486r9 : List ROper := [
  ⟨some 63, .call 401 [], none⟩,
  ⟨some 2, .mv (.t 63), none⟩]
def f486 : RFunc := ⟨[.t 2], (.seq (.region f486r0 [0]) (.seq (.region f486r1 [0, 3]) (.seq (.seq (.region f486r2 [0, 3, 4]) (.block 0 (.loop [0, 3, 4] (.seq (.seq (.region f486r3 [0, 3, 4, 15]) (.cond (.t 15) .skip (.exit 0))) (.seq (.block 1 (.seq (.region f486r4 [0, 3, 4, 5]) (.seq (.region f486r5 [0, 3, 4, 5, 6, 7, 8]) (.seq (.region f486r6 [0, 3, 4, 62]) (.cond (.t 62) (.seq (.region f486r7 [2]) .ret) .skip))))) (.region f486r8 [0, 3, 4])))))) (.seq (.region f486r9 [2]) .ret)))), true⟩

/-! (*quire/cache.Cache).Clone -/
def f493r0 : List ROper := [
  ⟨some 2, .mv (.c .nilp), none⟩]
def f493r1 : List ROper := [
  ⟨some 3, .mv (.t 0), none⟩,
  ⟨some 4, .call 418 [(.t 3)], none⟩]
def f493r2 : List ROper := [
  ⟨some 2, .mv (.c .nilp), none⟩]
def f493r3 : List ROper := [
  ⟨some 5, .mv (.t 0), none⟩,
  ⟨some 6, .nilchk (.t 5), none⟩,
  ⟨some 7, .faddr 0 (.t 6), none⟩,
  ⟨some 8, .load 1 false (.t 7), none⟩,
  ⟨some 9, .call 498 [(.t 8)], none⟩,
  ⟨some 10, .mv (.t 0), none⟩,
  ⟨some 11, .nilchk (.t 10), none⟩,
  ⟨some 12, .faddr 1 (.t 11), none⟩,
  ⟨some 13, .load 1 false (.t 12), none⟩,
  ⟨some 14, .call 150 [(.t 13)], none⟩,
  ⟨some 15, .build [.nilmap, (.list 0 0 .no false [])] [(0, 1, (.t 9)), (1, 1, (.t 14))], none⟩,
  ⟨some 16, .box 2 (.t 15), none⟩,
  ⟨some 2, .mv (.t 16), none⟩]
def f493 : RFunc := ⟨[.t 2], (.seq (.region f493r0 [0]) (.seq (.seq (.region f493r1 [0, 4]) (.cond (.t 4) (.seq (.region f493r2 [2]) .ret) .skip)) (.seq (.dregion f493r3 [] [(8, [0])] [2]) .ret))), false⟩

/-! maps.Clone[map[int]*quire/cache.made,int,*quire/cache.made] -/
def f498r0 : List ROper := [
  ⟨some 2, .mv (.c .nilmap), none⟩]
def f498r1 : List ROper := [
  ⟨some 3, .mv (.t 0), none⟩,
  ⟨some 4, .eq .map false (.t 3) (.c .nilmap), none⟩]
def f498r2 : List ROper := [
  ⟨some 2, .mv (.c .nilmap), none⟩]
def f498r3 : List ROper := [
  ⟨some 5, .mv (.t 0), none⟩,
  ⟨some 6, .iface 67 (.t 5), none⟩,
  ⟨some 7, .call 504 [(.t 6)], none⟩,
  ⟨some 8, .fail, none⟩,
  ⟨some 2, .mv (.t 8), none⟩]
def f498 : RFunc := ⟨[.t 2], (.seq (.region f498r0 [0]) (.seq (.seq (.region f498r1 [0, 4]) (.cond (.t 4) (.seq (.region f498r2 [2]) .ret) .skip)) (.seq (.region f498r3 [2]) .ret))), false⟩

def tree : TT := (.node 166 (.node 121 (.node 62 (.node 40 (.node 27 (.node 17 (.node 13 (.leaf 10 (.code f10)) (.leaf 13 (.code f13))) (.node 21 (.leaf 17 (.code f17)) (.node 23 (.leaf 21 (.code f21)) (.leaf 23 (.code f23))))) (.node 30 (.node 29 (.leaf 27 (.code f27)) (.leaf 29 (.code f29))) (.node 31 (.leaf 30 (.code f30)) (.node 32 (.leaf 31 (.code f31)) (.leaf 32 (.code f32)))))) (.node 51 (.node 42 (.node 41 (.leaf 40 (.code f40)) (.leaf 41 (.code f41))) (.node 43 (.leaf 42 (.code f42)) (.node 44 (.leaf 43 (.code f43)) (.leaf 44 (.code f44))))) (.node 56 (.node 54 (.leaf 51 (.code f51)) (.node 55 (.leaf 54 (.code f54)) (.leaf 55 (.code f55)))) (.node 57 (.leaf 56 (.code f56)) (.node 61 (.leaf 57 (.code f57)) (.leaf 61 (.code f61))))))) (.node 77 (.node 69 (.node 64 (.node 63 (.leaf 62 (.code f62)) (.leaf 63 (.code f63))) (.node 65 (.leaf 64 (.prim countByteD)) (.node 68 (.leaf 65 (.code f65)) (.leaf 68 (.code f68))))) (.node 73 (.node 70 (.leaf 69 (.code f69)) (.node 72 (.leaf 70 (.code f70)) (.leaf 72 (.prim indexByteD)))) (.node 74 (.leaf 73 (.code f73)) (.node 76 (.leaf 74 (.code f74)) (.leaf 76 (.code f76)))))) (.node 110 (.node 106 (.node 78 (.leaf 77 (.code f77)) (.leaf 78 (.code f78))) (.node 108 (.leaf 106 (.code f106)) (.node 109 (.leaf 108 (.code f108)) (.leaf 109 (.code f109))))) (.node 117 (.node 113 (.leaf 110 (.code f110)) (.node 114 (.leaf 113 (.code f113)) (.leaf 114 (.code f114)))) (.node 118 (.leaf 117 (.code f117)) (.node 120 (.leaf 118 (.code f118)) (.leaf 120 (.code f120)))))))) (.node 144 (.node 133 (.node 127 (.node 123 (.node 122 (.leaf 121 (.code f121)) (.leaf 122 (.code f122))) (.node 124 (.leaf 123 (.code f123)) (.node 126 (.leaf 124 (.code f124)) (.leaf 126 (.code f126))))) (.node 130 (.node 128 (.leaf 127 (.code f127)) (.node 129 (.leaf 128 (.code f128)) (.leaf 129 (.code f129)))) (.node 131 (.leaf 130 (.code f130)) (.node 132 (.leaf 131 (.code f131)) (.leaf 132 (.code f132)))))) (.node 138 (.node 135 (.node 134 (.leaf 133 (.code f133)) (.leaf 134 (.code f134))) (.node 136 (.leaf 135 (.code f135)) (.node 137 (.leaf 136 (.code f136)) (.leaf 137 (.code f137))))) (.node 141 (.node 139 (.leaf 138 (.code f138)) (.node 140 (.leaf 139 (.code f139)) (.leaf 140 (.code f140)))) (.node 142 (.leaf 141 (.code f141)) (.node 143 (.leaf 142 (.code f142)) (.leaf 143 (.code f143))))))) (.node 155 (.node 149 (.node 146 (.node 145 (.leaf 144 (.code f144)) (.leaf 145 (.code f145))) (.node 147 (.leaf 146 (.code f146)) (.node 148 (.leaf 147 (.code f147)) (.leaf 148 (.code f148))))) (.node 152 (.node 150 (.leaf 149 (.code f149)) (.node 151 (.leaf 150 (.code f150)) (.leaf 151 (.code f151)))) (.node 153 (.leaf 152 (.code f152)) (.node 154 (.leaf 153 (.code f153)) (.leaf 154 (.code f154)))))) (.node 160 (.node 157 (.node 156 (.leaf 155 (.code f155)) (.leaf 156 (.code f156))) (.node 158 (.leaf 157 (.code f157)) (.node 159 (.leaf 158 (.code f158)) (.leaf 159 (.code f159))))) (.node 163 (.node 161 (.leaf 160 (.code f160)) (.node 162 (.leaf 161 (.code f161)) (.leaf 162 (.code f162)))) (.node 164 (.leaf 163 (.code f163)) (.node 165 (.leaf 164 (.code f164)) (.leaf 165 (.code f165))))))))) (.node 296 (.node 272 (.node 246 (.node 234 (.node 187 (.node 167 (.leaf 166 (.code f166)) (.leaf 167 (.code f167))) (.node 211 (.leaf 187 (.code f187)) (.node 218 (.leaf 211 (.code f211)) (.leaf 218 (.code f218))))) (.node 243 (.node 242 (.leaf 234 (.code f234)) (.leaf 242 (.code f242))) (.node 244 (.leaf 243 (.code f243)) (.node 245 (.leaf 244 (.code f244)) (.leaf 245 (.code f245)))))) (.node 266 (.node 248 (.node 247 (.leaf 246 (.code f246)) (.leaf 247 (.code f247))) (.node 249 (.leaf 248 (.code f248)) (.node 265 (.leaf 249 (.code f249)) (.leaf 265 (.code f265))))) (.node 269 (.node 267 (.leaf 266 (.code f266)) (.node 268 (.leaf 267 (.code f267)) (.leaf 268 (.code f268)))) (.node 270 (.leaf 269 (.code f269)) (.node 271 (.leaf 270 (.code f270)) (.leaf 271 (.code f271))))))) (.node 285 (.node 279 (.node 276 (.node 275 (.leaf 272 (.code f272)) (.leaf 275 (.code f275))) (.node 277 (.leaf 276 (.code f276)) (.node 278 (.leaf 277 (.code f277)) (.leaf 278 (.code f278))))) (.node 282 (.node 280 (.leaf 279 (.code f279)) (.node 281 (.leaf 280 (.code f280)) (.leaf 281 (.code f281)))) (.node 283 (.leaf 282 (.code f282)) (.node 284 (.leaf 283 (.code f283)) (.leaf 284 (.code f284)))))) (.node 290 (.node 287 (.node 286 (.leaf 285 (.code f285)) (.leaf 286 (.code f286))) (.node 288 (.leaf 287 (.code f287)) (.node 289 (.leaf 288 (.code f288)) (.leaf 289 (.code f289))))) (.node 293 (.node 291 (.leaf 290 (.code f290)) (.node 292 (.leaf 291 (.code f291)) (.leaf 292 (.code f292)))) (.node 294 (.leaf 293 (.code f293)) (.node 295 (.leaf 294 (.code f294)) (.leaf 295 (.code f295)))))))) (.node 418 (.node 332 (.node 319 (.node 298 (.node 297 (.leaf 296 (.code f296)) (.leaf 297 (.code f297))) (.node 299 (.leaf 298 (.code f298)) (.node 307 (.leaf 299 (.code f299)) (.leaf 307 (.code f307))))) (.node 322 (.node 320 (.leaf 319 (.code f319)) (.node 321 (.leaf 320 (.code f320)) (.leaf 321 (.code f321)))) (.node 330 (.leaf 322 (.code f322)) (.node 331 (.leaf 330 (.code f330)) (.leaf 331 (.code f331)))))) (.node 396 (.node 344 (.node 343 (.leaf 332 (.code f332)) (.leaf 343 (.code f343))) (.node 345 (.leaf 344 (.code f344)) (.node 346 (.leaf 345 (.code f345)) (.leaf 346 (.code f346))))) (.node 399 (.node 397 (.leaf 396 (.code f396)) (.node 398 (.leaf 397 (.code f397)) (.leaf 398 (.code f398)))) (.node 400 (.leaf 399 (.code f399)) (.node 401 (.leaf 400 (.code f400)) (.leaf 401 (.code f401))))))) (.node 429 (.node 423 (.node 420 (.node 419 (.leaf 418 (.code f418)) (.leaf 419 (.code f419))) (.node 421 (.leaf 420 (.code f420)) (.node 422 (.leaf 421 (.code f421)) (.leaf 422 (.code f422))))) (.node 426 (.node 424 (.leaf 423 (.code f423)) (.node 425 (.leaf 424 (.code f424)) (.leaf 425 (.code f425)))) (.node 427 (.leaf 426 (.code f426)) (.node 428 (.leaf 427 (.code f427)) (.leaf 428 (.code f428)))))) (.node 451 (.node 448 (.node 447 (.leaf 429 (.code f429)) (.leaf 447 (.code f447))) (.node 449 (.leaf 448 (.code f448)) (.node 450 (.leaf 449 (.code f449)) (.leaf 450 (.code f450))))) (.node 486 (.node 452 (.leaf 451 (.code f451)) (.node 468 (.leaf 452 (.code f452)) (.leaf 468 (.code f468)))) (.node 493 (.leaf 486 (.code f486)) (.node 498 (.leaf 493 (.code f493)) (.leaf 498 (.code f498))))))))))

def fms : List (Nat × FuncId) := [(265, 236), (266, 237), (10, 119), (267, 238), (268, 239), (269, 240), (13, 76), (270, 242), (271, 243), (272, 55), (17, 186), (275, 268), (276, 269), (277, 270), (21, 226), (278, 271), (279, 272), (23, 185), (280, 88), (281, 89), (282, 281), (283, 139), (27, 112), (284, 140), (285, 141), (29, 179), (286, 142), (30, 180), (287, 143), (31, 181), (288, 144), (32, 182), (289, 145), (290, 146), (291, 147), (292, 148), (293, 149), (294, 199), (295, 200), (296, 201), (40, 113), (297, 202), (41, 114), (298, 203), (42, 115), (299, 244), (43, 116), (44, 117), (307, 24), (51, 233), (54, 172), (55, 173), (56, 225), (57, 227), (61, 174), (62, 175), (63, 176), (319, 47), (64, 177), (320, 49), (65, 178), (321, 50), (322, 52), (68, 220), (69, 221), (70, 222), (72, 223), (73, 224), (74, 257), (330, 80), (75, 258), (331, 81), (332, 84), (76, 259), (77, 260), (78, 276), (343, 129), (344, 130), (345, 131), (346, 132), (106, 48), (108, 83), (109, 133), (110, 235), (113, 82), (114, 51), (117, 78), (118, 79), (120, 188), (121, 85), (122, 234), (123, 86), (124, 267), (126, 77), (127, 134), (128, 135), (129, 136), (130, 137), (131, 120), (132, 121), (133, 122), (134, 123), (135, 124), (136, 125), (137, 126), (138, 127), (139, 280), (396, 35), (140, 118), (397, 11), (141, 189), (398, 36), (142, 190), (399, 14), (143, 183), (400, 12), (144, 184), (401, 16), (145, 285), (146, 286), (147, 228), (148, 229), (149, 230), (150, 34), (151, 231), (152, 232), (153, 287), (154, 288), (155, 241), (156, 261), (157, 262), (158, 263), (159, 264), (160, 265), (161, 266), (162, 204), (418, 21), (419, 22), (163, 277), (420, 23), (164, 278), (421, 25), (165, 279), (422, 26), (166, 283), (423, 27), (167, 284), (424, 31), (425, 32), (426, 28), (427, 29), (428, 30), (429, 13), (187, 37), (447, 44), (448, 45), (449, 46), (450, 54), (451, 56), (452, 53), (211, 128), (468, 87), (218, 138), (486, 4), (234, 187), (493, 15), (498, 33), (242, 191), (243, 192), (244, 193), (245, 194), (246, 195), (247, 196), (504, 57), (248, 197), (249, 198)]

def env : List (Nat × List Nat) := [(1, asciiSpaceL)]

end Go.D.Tab
