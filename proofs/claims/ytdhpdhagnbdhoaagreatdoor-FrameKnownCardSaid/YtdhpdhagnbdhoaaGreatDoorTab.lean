/-
The code of what the laws reach, as a table of the small language. Printed by wip/gen.
-/
import Derived.Test.YtdhpdhagnbdhoaaGreatDoorTab1
namespace Go.D.Tab

/-! quire/frame.Check -/
def f412r0 : List ROper := [
  ⟨some 2, .mv (.c (.int .i64 (.ofNat 0))), none⟩]
def f412r1 : List ROper := [
  ⟨some 5, .mv (.t 0), none⟩,
  ⟨some 6, .len .slice (.t 5), none⟩,
  ⟨some 7, .bin .gtr (.t 6) (.c (.int .i64 (.ofNat 16))), none⟩]
def f412r2 : List ROper := [
  ⟨some 2, .mv (.c (.int .i64 (.ofNat 2))), none⟩]
def f412r3 : List ROper := [
  ⟨some 8, .mv (.t 0), none⟩,
  ⟨some 9, .len .slice (.t 8), none⟩,
  ⟨some 10, .mv (.c (.int .i64 (.ofNat 0))), none⟩]
def f412r4 : List ROper := [
  ⟨some 11, .bin .lss (.t 10) (.t 9), none⟩]
def f412r5 : List ROper := [
  ⟨some 12, .iaddr 5 (.t 8) (.t 10), none⟩,
  ⟨some 13, .load 5 true (.t 12), none⟩,
  ⟨some 4, .alloc [(.int .i64 (.ofNat 0)), (.int .i64 (.ofNat 0)), (.int .i64 (.ofNat 0)), (.int .i64 (.ofNat 0)), (.int .i64 (.ofNat 0))], none⟩,
  ⟨none, .store 5 (.t 4) (.t 13), none⟩]
def f412r6 : List ROper := [
  ⟨some 14, .faddr 0 (.t 4), none⟩,
  ⟨some 15, .load 1 false (.t 14), none⟩,
  ⟨some 16, .bin .lss (.t 15) (.c (.int .i64 (.ofNat 1))), none⟩,
  ⟨some 17, .mv (.t 16), none⟩,
  ⟨some 18, .faddr 0 (.t 4), some (17, false)⟩,
  ⟨some 19, .load 1 false (.t 18), some (17, false)⟩,
  ⟨some 20, .bin .gtr (.t 19) (.c (.int .i64 (.ofNat 4096))), some (17, false)⟩,
  ⟨some 21, .pick (.t 17) (.c (.bool true)) (.t 20), none⟩,
  ⟨some 22, .mv (.t 21), none⟩,
  ⟨some 23, .faddr 1 (.t 4), some (22, false)⟩,
  ⟨some 24, .load 1 false (.t 23), some (22, false)⟩,
  ⟨some 25, .call 437 [(.t 24)], some (22, false)⟩,
  ⟨some 26, .un .not (.t 25), some (22, false)⟩,
  ⟨some 27, .pick (.t 22) (.c (.bool true)) (.t 26), none⟩,
  ⟨some 28, .mv (.t 27), none⟩,
  ⟨some 29, .faddr 2 (.t 4), some (28, false)⟩,
  ⟨some 30, .load 1 false (.t 29), some (28, false)⟩,
  ⟨some 31, .call 437 [(.t 30)], some (28, false)⟩,
  ⟨some 32, .un .not (.t 31), some (28, false)⟩,
  ⟨some 33, .pick (.t 28) (.c (.bool true)) (.t 32), none⟩,
  ⟨some 34, .mv (.t 33), none⟩,
  ⟨some 35, .faddr 3 (.t 4), some (34, false)⟩,
  ⟨some 36, .load 1 false (.t 35), some (34, false)⟩,
  ⟨some 37, .call 437 [(.t 36)], some (34, false)⟩,
  ⟨some 38, .un .not (.t 37), some (34, false)⟩,
  ⟨some 39, .pick (.t 34) (.c (.bool true)) (.t 38), none⟩,
  ⟨some 40, .mv (.t 39), none⟩,
  ⟨some 41, .faddr 4 (.t 4), some (40, false)⟩,
  ⟨some 42, .load 1 false (.t 41), some (40, false)⟩,
  ⟨some 43, .call 437 [(.t 42)], some (40, false)⟩,
  ⟨some 44, .un .not (.t 43), some (40, false)⟩,
  ⟨some 45, .pick (.t 40) (.c (.bool true)) (.t 44), none⟩]
def f412r7 : List ROper := [
  ⟨some 2, .mv (.c (.int .i64 (.ofNat 2))), none⟩]
def f412r8 : List ROper := [
  ⟨some 46, .bin .add (.t 10) (.c (.int .i64 (.ofNat 1))), none⟩,
  ⟨some 10, .mv (.t 46), none⟩]
def f412r9 : List ROper := [
  ⟨some 2, .mv (.c (.int .i64 (.ofNat 0))), none⟩]
def f412 : RFunc := ⟨[.t 2], (.seq (.region f412r0 [0]) (.seq (.seq (.region f412r1 [0, 7]) (.cond (.t 7) (.seq (.region f412r2 [2]) .ret) .skip)) (.seq (.seq (.region f412r3 [8, 9, 10]) (.block 0 (.loop [8, 9, 10] (.seq (.region f412r4 [8, 9, 10, 11]) (.seq (.cond (.t 11) .skip (.exit 0)) (.seq (.block 1 (.seq (.region f412r5 [4, 8, 9, 10]) (.seq (.region f412r6 [8, 9, 10, 45]) (.cond (.t 45) (.seq (.region f412r7 [2]) .ret) .skip)))) (.region f412r8 [8, 9, 10]))))))) (.seq (.region f412r9 [2]) .ret)))), true⟩

/-! quire/frame.wrong -/
def f433r0 : List ROper := [
  ⟨some 2, .mv (.c (.int .i64 (.ofNat 0))), none⟩]
def f433r1 : List ROper := [
  ⟨some 5, .mv (.t 0), none⟩,
  ⟨some 6, .len .str (.t 5), none⟩,
  ⟨some 7, .bin .gtr (.t 6) (.c (.int .i64 (.ofNat 4096))), none⟩]
def f433r2 : List ROper := [
  ⟨some 2, .mv (.c (.int .i64 (.ofNat 3))), none⟩]
def f433r3 : List ROper := [
  ⟨some 8, .mv (.t 0), none⟩,
  ⟨some 9, .s2b (.t 8), none⟩,
  ⟨some 10, .len .slice (.t 9), none⟩,
  ⟨some 11, .mv (.c (.int .i64 (.ofNat 0))), none⟩]
def f433r4 : List ROper := [
  ⟨some 12, .bin .lss (.t 11) (.t 10), none⟩]
def f433r5 : List ROper := [
  ⟨some 13, .iaddr 1 (.t 9) (.t 11), none⟩,
  ⟨some 14, .load 1 false (.t 13), none⟩,
  ⟨some 4, .mv (.t 14), none⟩]
def f433r6 : List ROper := [
  ⟨some 15, .mv (.t 4), none⟩,
  ⟨some 16, .bin .lss (.t 15) (.c (.int .u8 (.ofNat 32))), none⟩,
  ⟨some 17, .mv (.t 16), none⟩,
  ⟨some 18, .mv (.t 4), some (17, false)⟩,
  ⟨some 19, .bin .gtr (.t 18) (.c (.int .u8 (.ofNat 126))), some (17, false)⟩,
  ⟨some 20, .pick (.t 17) (.c (.bool true)) (.t 19), none⟩,
  ⟨some 21, .mv (.t 20), none⟩,
  ⟨some 22, .mv (.t 4), some (21, true)⟩,
  ⟨some 23, .bin .neq (.t 22) (.c (.int .u8 (.ofNat 10))), some (21, true)⟩,
  ⟨some 24, .pick (.t 21) (.t 23) (.c (.bool false)), none⟩]
def f433r7 : List ROper := [
  ⟨some 2, .mv (.c (.int .i64 (.ofNat 4))), none⟩]
def f433r8 : List ROper := [
  ⟨some 25, .bin .add (.t 11) (.c (.int .i64 (.ofNat 1))), none⟩,
  ⟨some 11, .mv (.t 25), none⟩]
def f433r9 : List ROper := [
  ⟨some 2, .mv (.c (.int .i64 (.ofNat 0))), none⟩]
def f433 : RFunc := ⟨[.t 2], (.seq (.region f433r0 [0]) (.seq (.seq (.region f433r1 [0, 7]) (.cond (.t 7) (.seq (.region f433r2 [2]) .ret) .skip)) (.seq (.seq (.region f433r3 [9, 10, 11]) (.block 0 (.loop [9, 10, 11] (.seq (.region f433r4 [9, 10, 11, 12]) (.seq (.cond (.t 12) .skip (.exit 0)) (.seq (.block 1 (.seq (.region f433r5 [4, 9, 10, 11]) (.seq (.region f433r6 [9, 10, 11, 24]) (.cond (.t 24) (.seq (.region f433r7 [2]) .ret) .skip)))) (.region f433r8 [9, 10, 11]))))))) (.seq (.region f433r9 [2]) .ret)))), true⟩

/-! quire/frame.places -/
def f434r0 : List ROper := [
  ⟨some 1, .box 1 (.t 0), none⟩,
  ⟨some 2, .mv (.c .nilfn), none⟩]
def f434r1 : List ROper := [
  ⟨some 3, .mkfn 460 [] [(.t 1)], none⟩,
  ⟨some 2, .mv (.t 3), none⟩]
def f434 : RFunc := ⟨[.t 2], (.seq (.region f434r0 [1]) (.seq (.region f434r1 [2]) .ret)), false⟩

/-! strings.Split -/
def f435r0 : List ROper := [
  ⟨some 4, .mv (.c (.list 0 0 .no false [])), none⟩]
def f435r1 : List ROper := [
  ⟨some 5, .mv (.t 0), none⟩,
  ⟨some 6, .mv (.t 1), none⟩,
  ⟨some 7, .call 461 [(.t 5), (.t 6), (.c (.int .i64 (.ofNat 0))), (.c (.int .i64 (.negSucc 0)))], none⟩,
  ⟨some 4, .mv (.t 7), none⟩]
def f435 : RFunc := ⟨[.t 4], (.seq (.region f435r0 [0, 1]) (.seq (.region f435r1 [4]) .ret)), true⟩

/-! (*quire/frame.flow).lay -/
def f436r0 : List ROper := [
  ⟨some 4, .mv (.c (.list 0 0 .no false [])), none⟩]
def f436r1 : List ROper := [
  ⟨some 5, .mv (.c (.list 0 0 .no false [])), none⟩]
def f436r2 : List ROper := [
  ⟨some 11, .mv (.t 0), none⟩,
  ⟨some 12, .nilchk (.t 11), none⟩,
  ⟨some 13, .faddr 1 (.t 12), none⟩,
  ⟨some 14, .load 1 false (.t 13), none⟩,
  ⟨some 15, .mv (.t 0), none⟩,
  ⟨some 16, .nilchk (.t 15), none⟩,
  ⟨some 17, .faddr 1 (.t 16), none⟩,
  ⟨some 18, .load 1 false (.t 17), none⟩,
  ⟨some 19, .len .slice (.t 18), none⟩,
  ⟨some 20, .min [(.t 19), (.c (.int .i64 (.ofNat 256)))], none⟩,
  ⟨some 21, .slice false 2 (.t 14) none (some (.t 20)) none, none⟩,
  ⟨some 22, .len .slice (.t 21), none⟩,
  ⟨some 23, .mv (.c (.int .i64 (.ofNat 0))), none⟩]
def f436r3 : List ROper := [
  ⟨some 24, .bin .lss (.t 23) (.t 22), none⟩]
def f436r4 : List ROper := [
  ⟨some 25, .iaddr 2 (.t 21) (.t 23), none⟩,
  ⟨some 26, .load 2 true (.t 25), none⟩,
  ⟨some 7, .alloc [(.int .i64 (.ofNat 0)), (.int .i64 (.ofNat 0))], none⟩,
  ⟨none, .store 2 (.t 7) (.t 26), none⟩]
def f436r5 : List ROper := [
  ⟨some 27, .mv (.t 5), none⟩,
  ⟨some 28, .mv (.t 0), none⟩,
  ⟨some 29, .nilchk (.t 28), none⟩,
  ⟨some 30, .faddr 0 (.t 29), none⟩,
  ⟨some 31, .load 1 false (.t 30), none⟩,
  ⟨some 32, .faddr 0 (.t 7), none⟩,
  ⟨some 33, .load 1 false (.t 32), none⟩,
  ⟨some 34, .iaddr 5 (.t 31) (.t 33), none⟩,
  ⟨some 35, .faddr 3 (.t 34), none⟩,
  ⟨some 36, .load 1 false (.t 35), none⟩,
  ⟨some 37, .build [(.int .i64 (.ofNat 0)), (.int .i64 (.ofNat 0))] [(1, 1, (.t 36))], none⟩,
  ⟨some 38, .lit 2 true [(.int .i64 (.ofNat 0)), (.int .i64 (.ofNat 0))] 1 [(0, (.t 37))], none⟩,
  ⟨some 39, .append 2 true 16 (.t 27) (.t 38), none⟩,
  ⟨some 5, .mv (.t 39), none⟩]
def f436r6 : List ROper := [
  ⟨some 40, .bin .add (.t 23) (.c (.int .i64 (.ofNat 1))), none⟩,
  ⟨some 23, .mv (.t 40), none⟩]
def f436r7 : List ROper := [
  ⟨some 41, .mv (.t 1), none⟩,
  ⟨some 42, .build [(.int .i64 (.ofNat 0)), (.int .i64 (.ofNat 0)), (.int .i64 (.ofNat 0)), (.int .i64 (.ofNat 0)), (.int .i64 (.ofNat 0)), (.int .i64 (.ofNat 0)), (.int .i64 (.ofNat 0)), (.int .i64 (.ofNat 0)), (.int .i64 (.ofNat 0)), (.int .i64 (.ofNat 0)), (.int .i64 (.ofNat 0)), (.int .i64 (.ofNat 0)), (.int .i64 (.ofNat 0)), (.int .i64 (.ofNat 0)), (.int .i64 (.ofNat 0)), (.int .i64 (.ofNat 0)), (.int .i64 (.ofNat 0))] [(0, 1, (.c (.int .i64 (.ofNat 8)))), (1, 1, (.c (.int .i64 (.ofNat 10)))), (10, 1, (.c (.int .i64 (.ofNat 1)))), (11, 1, (.c (.int .i64 (.ofNat 1))))], none⟩,
  ⟨some 43, .build [(.str []), (.list 0 0 .no false []), (.int .i64 (.ofNat 0)), (.int .i64 (.ofNat 0)), (.int .i64 (.ofNat 0)), (.int .i64 (.ofNat 0)), (.int .i64 (.ofNat 0)), (.int .i64 (.ofNat 0)), (.int .i64 (.ofNat 0)), (.int .i64 (.ofNat 0)), (.int .i64 (.ofNat 0)), (.int .i64 (.ofNat 0)), (.int .i64 (.ofNat 0)), (.int .i64 (.ofNat 0)), (.int .i64 (.ofNat 0)), (.int .i64 (.ofNat 0)), (.int .i64 (.ofNat 0)), (.int .i64 (.ofNat 0)), (.int .i64 (.ofNat 0)), (.str []), (.list 0 0 .no false [])] [(0, 1, (.t 41)), (2, 17, (.t 42))], none⟩,
  ⟨some 8, .alloc [(.str []), (.list 0 0 .no false []), (.int .i64 (.ofNat 0)), (.int .i64 (.ofNat 0)), (.int .i64 (.ofNat 0)), (.int .i64 (.ofNat 0)), (.int .i64 (.ofNat 0)), (.int .i64 (.ofNat 0)), (.int .i64 (.ofNat 0)), (.int .i64 (.ofNat 0)), (.int .i64 (.ofNat 0)), (.int .i64 (.ofNat 0)), (.int .i64 (.ofNat 0)), (.int .i64 (.ofNat 0)), (.int .i64 (.ofNat 0)), (.int .i64 (.ofNat 0)), (.int .i64 (.ofNat 0)), (.int .i64 (.ofNat 0)), (.int .i64 (.ofNat 0)), (.str []), (.list 0 0 .no false [])], none⟩,
  ⟨none, .store 21 (.t 8) (.t 43), none⟩]
def f436r8 : List ROper := [
  ⟨some 44, .mv (.t 1), none⟩,
  ⟨some 45, .bin .neq (.t 44) (.c (.str [])), none⟩]
def f436r9 : List ROper := [
  ⟨some 46, .mv (.t 1), none⟩,
  ⟨some 47, .len .str (.t 46), none⟩,
  ⟨some 48, .build [(.int .i64 (.ofNat 0)), (.int .i64 (.ofNat 0)), (.int .i64 (.ofNat 0)), (.int .i64 (.ofNat 0))] [(0, 1, (.t 47))], none⟩,
  ⟨some 49, .lit 4 true [(.int .i64 (.ofNat 0)), (.int .i64 (.ofNat 0)), (.int .i64 (.ofNat 0)), (.int .i64 (.ofNat 0))] 1 [(0, (.t 48))], none⟩,
  ⟨some 50, .faddr 1 (.t 8), none⟩,
  ⟨none, .store 1 (.t 50) (.t 49), none⟩]
def f436r10 : List ROper := [
  ⟨some 52, .load 21 true (.t 8), none⟩,
  ⟨some 53, .mv (.t 5), none⟩,
  ⟨some 54, .mv (.t 0), none⟩,
  ⟨some 55, .call 462 [(.t 54)], none⟩,
  ⟨some 56, .call 307 [(.t 52), (.t 53), (.t 55)], none⟩,
  ⟨some 51, .mv (.t 56), none⟩,
  ⟨some 57, .extract (.t 51) 0, none⟩,
  ⟨some 58, .extract (.t 51) 1, none⟩,
  ⟨some 9, .mv (.t 57), none⟩,
  ⟨some 10, .mv (.t 58), none⟩]
def f436r11 : List ROper := [
  ⟨some 59, .mv (.t 9), none⟩,
  ⟨some 4, .mv (.t 59), none⟩]
def f436 : RFunc := ⟨[.t 4], (.seq (.region f436r0 [0, 1]) (.seq (.region f436r1 [0, 1, 5]) (.seq (.seq (.dregion f436r2 [] [] [0, 1, 5, 21, 22, 23]) (.block 0 (.loop [0, 1, 5, 21, 22, 23] (.seq (.region f436r3 [0, 1, 5, 21, 22, 23, 24]) (.seq (.cond (.t 24) .skip (.exit 0)) (.seq (.block 1 (.seq (.region f436r4 [0, 1, 5, 7, 21, 22, 23]) (.dregion f436r5 [] [] [0, 1, 5, 21, 22, 23]))) (.region f436r6 [0, 1, 5, 21, 22, 23]))))))) (.seq (.region f436r7 [0, 1, 5, 8]) (.seq (.seq (.region f436r8 [0, 1, 5, 8, 45]) (.cond (.t 45) (.region f436r9 [0, 5, 8]) .skip)) (.seq (.dregion f436r10 [] [(0, [1])] [9]) (.seq (.region f436r11 [4]) .ret))))))), false⟩

/-! quire/frame.length -/
def f437r0 : List ROper := [
  ⟨some 2, .mv (.c (.bool false)), none⟩]
def f437r1 : List ROper := [
  ⟨some 3, .mv (.t 0), none⟩,
  ⟨some 4, .bin .geq (.t 3) (.c (.int .i64 (.ofNat 0))), none⟩,
  ⟨some 5, .mv (.t 4), none⟩,
  ⟨some 6, .mv (.t 0), some (5, true)⟩,
  ⟨some 7, .bin .leq (.t 6) (.c (.int .i64 (.ofNat 4095))), some (5, true)⟩,
  ⟨some 8, .pick (.t 5) (.t 7) (.c (.bool false)), none⟩,
  ⟨some 2, .mv (.t 8), none⟩]
def f437 : RFunc := ⟨[.t 2], (.seq (.region f437r0 [0]) (.seq (.region f437r1 [2]) .ret)), true⟩

/-! quire/frame.places$1 -/
def f460r0 : List ROper := [
  ⟨some 6, .load 1 false (.t 1), none⟩,
  ⟨some 7, .len .slice (.t 6), none⟩,
  ⟨some 8, .mv (.c (.int .i64 (.ofNat 0))), none⟩]
def f460r1 : List ROper := [
  ⟨some 9, .bin .lss (.t 8) (.t 7), none⟩]
def f460r2 : List ROper := [
  ⟨some 10, .mv (.t 8), none⟩,
  ⟨some 11, .iaddr 5 (.t 6) (.t 8), none⟩,
  ⟨some 12, .load 5 true (.t 11), none⟩,
  ⟨some 4, .alloc [(.int .i64 (.ofNat 0)), (.int .i64 (.ofNat 0)), (.int .i64 (.ofNat 0)), (.int .i64 (.ofNat 0)), (.int .i64 (.ofNat 0))], none⟩,
  ⟨some 3, .mv (.t 10), none⟩,
  ⟨none, .store 5 (.t 4) (.t 12), none⟩]
def f460r3 : List ROper := [
  ⟨some 13, .faddr 4 (.t 4), none⟩,
  ⟨some 14, .load 1 false (.t 13), none⟩,
  ⟨some 15, .bin .quo (.t 14) (.c (.int .i64 (.ofNat 10))), none⟩,
  ⟨some 16, .mv (.c (.int .i64 (.ofNat 0))), none⟩]
def f460r4 : List ROper := [
  ⟨some 17, .bin .lss (.t 16) (.t 15), none⟩]
def f460r5 : List ROper := [
  ⟨some 18, .mv (.t 16), none⟩,
  ⟨some 5, .mv (.t 18), none⟩]
def f460r6 : List ROper := [
  ⟨some 19, .mv (.t 0), none⟩,
  ⟨some 20, .mv (.t 3), none⟩,
  ⟨some 21, .mv (.t 5), none⟩,
  ⟨some 22, .bin .mul (.t 21) (.c (.int .i64 (.ofNat 10))), none⟩,
  ⟨some 23, .callv (.t 19) [(.t 20), (.t 22)], none⟩,
  ⟨some 24, .un .not (.t 23), none⟩]
def f460r7 : List ROper := [
  ⟨some 25, .bin .add (.t 16) (.c (.int .i64 (.ofNat 1))), none⟩,
  ⟨some 16, .mv (.t 25), none⟩]
def f460r8 : List ROper := [
  ⟨some 26, .bin .add (.t 8) (.c (.int .i64 (.ofNat 1))), none⟩,
  ⟨some 8, .mv (.t 26), none⟩]
def f460 : RFunc := ⟨[], (.seq (.region f460r0 [0, 6, 7, 8]) (.block 0 (.loop [0, 6, 7, 8] (.seq (.region f460r1 [0, 6, 7, 8, 9]) (.seq (.cond (.t 9) .skip (.exit 0)) (.seq (.block 1 (.seq (.region f460r2 [0, 3, 4, 6, 7, 8]) (.seq (.region f460r3 [0, 3, 6, 7, 8, 15, 16]) (.block 2 (.loop [0, 3, 6, 7, 8, 15, 16] (.seq (.region f460r4 [0, 3, 6, 7, 8, 15, 16, 17]) (.seq (.cond (.t 17) .skip (.exit 2)) (.seq (.block 3 (.seq (.region f460r5 [0, 3, 5, 6, 7, 8, 15, 16]) (.seq (.region f460r6 [0, 3, 6, 7, 8, 15, 16, 24]) (.cond (.t 24) .ret .skip)))) (.region f460r7 [0, 3, 6, 7, 8, 15, 16]))))))))) (.region f460r8 [0, 6, 7, 8]))))))), false⟩

/-! strings.genSplit -/
def f461r0 : List ROper := [
  ⟨some 8, .mv (.c (.list 0 0 .no false [])), none⟩]
def f461r1 : List ROper := [
  ⟨some 12, .mv (.t 3), none⟩,
  ⟨some 13, .bin .eql (.t 12) (.c (.int .i64 (.ofNat 0))), none⟩]
def f461r2 : List ROper := [
  ⟨some 8, .mv (.c (.list 0 0 .no false [])), none⟩]
def f461r3 : List ROper := [
  ⟨some 14, .mv (.t 1), none⟩,
  ⟨some 15, .bin .eql (.t 14) (.c (.str [])), none⟩]
def f461r4 : List ROper := [
  ⟨some 16, .mv (.t 0), none⟩,
  ⟨some 17, .mv (.t 3), none⟩,
  ⟨some 18, .call 471 [(.t 16), (.t 17)], none⟩,
  ⟨some 8, .mv (.t 18), none⟩]
def f461r5 : List ROper := [
  ⟨some 19, .mv (.t 3), none⟩,
  ⟨some 20, .bin .lss (.t 19) (.c (.int .i64 (.ofNat 0))), none⟩]
def f461r6 : List ROper := [
  ⟨some 21, .mv (.t 0), none⟩,
  ⟨some 22, .mv (.t 1), none⟩,
  ⟨some 23, .call 44 [(.t 21), (.t 22)], none⟩,
  ⟨some 24, .bin .add (.t 23) (.c (.int .i64 (.ofNat 1))), none⟩,
  ⟨some 3, .mv (.t 24), none⟩]
def f461r7 : List ROper := [
  ⟨some 25, .mv (.t 3), none⟩,
  ⟨some 26, .mv (.t 0), none⟩,
  ⟨some 27, .len .str (.t 26), none⟩,
  ⟨some 28, .bin .add (.t 27) (.c (.int .i64 (.ofNat 1))), none⟩,
  ⟨some 29, .min [(.t 25), (.t 28)], none⟩,
  ⟨some 3, .mv (.t 29), none⟩]
def f461r8 : List ROper := [
  ⟨some 30, .mv (.t 3), none⟩,
  ⟨some 31, .mkslice 1 false 16 [(.str [])] (.t 30) (.t 30), none⟩,
  ⟨some 9, .mv (.t 31), none⟩]
def f461r9 : List ROper := [
  ⟨some 32, .mv (.t 3), none⟩,
  ⟨some 33, .bin .sub (.t 32) (.c (.int .i64 (.ofNat 1))), none⟩,
  ⟨some 3, .mv (.t 33), none⟩]
def f461r10 : List ROper := [
  ⟨some 10, .mv (.c (.int .i64 (.ofNat 0))), none⟩]
def f461r11 : List ROper := [
  ⟨some 34, .mv (.t 10), none⟩,
  ⟨some 35, .mv (.t 3), none⟩,
  ⟨some 36, .bin .lss (.t 34) (.t 35), none⟩]
def f461r12 : List ROper := [
  ⟨some 37, .mv (.t 0), none⟩,
  ⟨some 38, .mv (.t 1), none⟩,
  ⟨some 39, .call 65 [(.t 37), (.t 38)], none⟩,
  ⟨some 11, .mv (.t 39), none⟩]
def f461r13 : List ROper := [
  ⟨some 40, .mv (.t 11), none⟩,
  ⟨some 41, .bin .lss (.t 40) (.c (.int .i64 (.ofNat 0))), none⟩]
def f461r14 : List ROper := [
  ⟨some 42, .mv (.t 9), none⟩,
  ⟨some 43, .mv (.t 10), none⟩,
  ⟨some 44, .mv (.t 0), none⟩,
  ⟨some 45, .mv (.t 11), none⟩,
  ⟨some 46, .mv (.t 2), none⟩,
  ⟨some 47, .bin .add (.t 45) (.t 46), none⟩,
  ⟨some 48, .slice true 1 (.t 44) none (some (.t 47)) none, none⟩,
  ⟨some 49, .iaddr 1 (.t 42) (.t 43), none⟩,
  ⟨none, .store 1 (.t 49) (.t 48), none⟩]
def f461r15 : List ROper := [
  ⟨some 50, .mv (.t 0), none⟩,
  ⟨some 51, .mv (.t 11), none⟩,
  ⟨some 52, .mv (.t 1), none⟩,
  ⟨some 53, .len .str (.t 52), none⟩,
  ⟨some 54, .bin .add (.t 51) (.t 53), none⟩,
  ⟨some 55, .slice true 1 (.t 50) (some (.t 54)) none none, none⟩,
  ⟨some 0, .mv (.t 55), none⟩]
def f461r16 : List ROper := [
  ⟨some 56, .mv (.t 10), none⟩,
  ⟨some 57, .bin .add (.t 56) (.c (.int .i64 (.ofNat 1))), none⟩,
  ⟨some 10, .mv (.t 57), none⟩]
def f461r17 : List ROper := [
  ⟨some 58, .mv (.t 9), none⟩,
  ⟨some 59, .mv (.t 10), none⟩,
  ⟨some 60, .mv (.t 0), none⟩,
  ⟨some 61, .iaddr 1 (.t 58) (.t 59), none⟩,
  ⟨none, .store 1 (.t 61) (.t 60), none⟩]
def f461r18 : List ROper := [
  ⟨some 62, .mv (.t 9), none⟩,
  ⟨some 63, .mv (.t 10), none⟩,
  ⟨some 64, .bin .add (.t 63) (.c (.int .i64 (.ofNat 1))), none⟩,
  ⟨some 65, .slice false 1 (.t 62) none (some (.t 64)) none, none⟩,
  ⟨some 8, .mv (.t 65), none⟩]
def f461 : RFunc := ⟨[.t 8], (.seq (.region f461r0 [0, 1, 2, 3]) (.seq (.seq (.region f461r1 [0, 1, 2, 3, 13]) (.cond (.t 13) (.seq (.region f461r2 [8]) .ret) .skip)) (.seq (.seq (.region f461r3 [0, 1, 2, 3, 15]) (.cond (.t 15) (.seq (.region f461r4 [8]) .ret) .skip)) (.seq (.seq (.region f461r5 [0, 1, 2, 3, 20]) (.cond (.t 20) (.region f461r6 [0, 1, 2, 3]) .skip)) (.seq (.region f461r7 [0, 1, 2, 3]) (.seq (.region f461r8 [0, 1, 2, 3, 9]) (.seq (.region f461r9 [0, 1, 2, 3, 9]) (.seq (.region f461r10 [0, 1, 2, 3, 9, 10]) (.seq (.block 0 (.loop [0, 1, 2, 3, 9, 10] (.seq (.seq (.region f461r11 [0, 1, 2, 3, 9, 10, 36]) (.cond (.t 36) .skip (.exit 0))) (.block 1 (.seq (.region f461r12 [0, 1, 2, 3, 9, 10, 11]) (.seq (.seq (.region f461r13 [0, 1, 2, 3, 9, 10, 11, 41]) (.cond (.t 41) (.exit 0) .skip)) (.seq (.region f461r14 [0, 1, 2, 3, 9, 10, 11]) (.seq (.region f461r15 [0, 1, 2, 3, 9, 10]) (.region f461r16 [0, 1, 2, 3, 9, 10]))))))))) (.seq (.region f461r17 [9, 10]) (.seq (.region f461r18 [8]) .ret))))))))))), true⟩

/-! (*quire/frame.flow).rest -/
def f462r0 : List ROper := [
  ⟨some 2, .alloc [(.int .i64 (.ofNat 0)), (.int .i64 (.ofNat 0))], none⟩]
def f462r1 : List ROper := [
  ⟨some 3, .mv (.t 0), none⟩,
  ⟨some 4, .nilchk (.t 3), none⟩,
  ⟨some 5, .faddr 0 (.t 4), none⟩,
  ⟨some 6, .load 1 false (.t 5), none⟩,
  ⟨some 7, .len .slice (.t 6), none⟩,
  ⟨some 8, .bin .eql (.t 7) (.c (.int .i64 (.ofNat 0))), none⟩]
def f462r2 : List ROper := [
  ⟨some 9, .build [(.int .i64 (.ofNat 0)), (.int .i64 (.ofNat 0))] [], none⟩,
  ⟨none, .store 2 (.t 2) (.t 9), none⟩]
def f462r3 : List ROper := [
  ⟨some 10, .mv (.t 0), none⟩,
  ⟨some 11, .nilchk (.t 10), none⟩,
  ⟨some 12, .faddr 0 (.t 11), none⟩,
  ⟨some 13, .load 1 false (.t 12), none⟩,
  ⟨some 14, .mv (.t 0), none⟩,
  ⟨some 15, .nilchk (.t 14), none⟩,
  ⟨some 16, .faddr 0 (.t 15), none⟩,
  ⟨some 17, .load 1 false (.t 16), none⟩,
  ⟨some 18, .len .slice (.t 17), none⟩,
  ⟨some 19, .bin .sub (.t 18) (.c (.int .i64 (.ofNat 1))), none⟩,
  ⟨some 20, .iaddr 5 (.t 13) (.t 19), none⟩,
  ⟨some 21, .faddr 3 (.t 20), none⟩,
  ⟨some 22, .load 1 false (.t 21), none⟩,
  ⟨some 23, .build [(.int .i64 (.ofNat 0)), (.int .i64 (.ofNat 0))] [(1, 1, (.t 22))], none⟩,
  ⟨none, .store 2 (.t 2) (.t 23), none⟩]
def f462 : RFunc := ⟨[.cell 2 2 true], (.seq (.region f462r0 [0, 2]) (.seq (.seq (.region f462r1 [0, 2, 8]) (.cond (.t 8) (.seq (.region f462r2 [2]) .ret) .skip)) (.seq (.dregion f462r3 [] [] [2]) .ret))), false⟩

/-! strings.explode -/
def f471r0 : List ROper := [
  ⟨some 4, .mv (.c (.list 0 0 .no false [])), none⟩]
def f471r1 : List ROper := [
  ⟨some 10, .mv (.t 0), none⟩,
  ⟨some 11, .call 63 [(.t 10)], none⟩,
  ⟨some 5, .mv (.t 11), none⟩]
def f471r2 : List ROper := [
  ⟨some 12, .mv (.t 1), none⟩,
  ⟨some 13, .bin .lss (.t 12) (.c (.int .i64 (.ofNat 0))), none⟩,
  ⟨some 14, .mv (.t 13), none⟩,
  ⟨some 15, .mv (.t 1), some (14, false)⟩,
  ⟨some 16, .mv (.t 5), some (14, false)⟩,
  ⟨some 17, .bin .gtr (.t 15) (.t 16), some (14, false)⟩,
  ⟨some 18, .pick (.t 14) (.c (.bool true)) (.t 17), none⟩]
def f471r3 : List ROper := [
  ⟨some 19, .mv (.t 5), none⟩,
  ⟨some 1, .mv (.t 19), none⟩]
def f471r4 : List ROper := [
  ⟨some 20, .mv (.t 1), none⟩,
  ⟨some 21, .mkslice 1 false 16 [(.str [])] (.t 20) (.t 20), none⟩,
  ⟨some 6, .mv (.t 21), none⟩]
def f471r5 : List ROper := [
  ⟨some 7, .mv (.c (.int .i64 (.ofNat 0))), none⟩]
def f471r6 : List ROper := [
  ⟨some 22, .mv (.t 7), none⟩,
  ⟨some 23, .mv (.t 1), none⟩,
  ⟨some 24, .bin .sub (.t 23) (.c (.int .i64 (.ofNat 1))), none⟩,
  ⟨some 25, .bin .lss (.t 22) (.t 24), none⟩]
def f471r7 : List ROper := [
  ⟨some 29, .mv (.t 0), none⟩,
  ⟨some 30, .call 477 [(.t 29)], none⟩,
  ⟨some 28, .mv (.t 30), none⟩,
  ⟨some 31, .extract (.t 28) 0, none⟩,
  ⟨some 32, .extract (.t 28) 1, none⟩,
  ⟨some 8, .mv (.t 31), none⟩,
  ⟨some 9, .mv (.t 32), none⟩]
def f471r8 : List ROper := [
  ⟨some 33, .mv (.t 6), none⟩,
  ⟨some 34, .mv (.t 7), none⟩,
  ⟨some 35, .mv (.t 0), none⟩,
  ⟨some 36, .mv (.t 9), none⟩,
  ⟨some 37, .slice true 1 (.t 35) none (some (.t 36)) none, none⟩,
  ⟨some 38, .iaddr 1 (.t 33) (.t 34), none⟩,
  ⟨none, .store 1 (.t 38) (.t 37), none⟩]
def f471r9 : List ROper := [
  ⟨some 39, .mv (.t 0), none⟩,
  ⟨some 40, .mv (.t 9), none⟩,
  ⟨some 41, .slice true 1 (.t 39) (some (.t 40)) none none, none⟩,
  ⟨some 0, .mv (.t 41), none⟩]
def f471r10 : List ROper := [
  ⟨some 26, .mv (.t 7), none⟩,
  ⟨some 27, .bin .add (.t 26) (.c (.int .i64 (.ofNat 1))), none⟩,
  ⟨some 7, .mv (.t 27), none⟩]
def f471r11 : List ROper := [
  ⟨some 42, .mv (.t 1), none⟩,
  ⟨some 43, .bin .gtr (.t 42) (.c (.int .i64 (.ofNat 0))), none⟩]
def f471r12 : List ROper := [
  ⟨some 44, .mv (.t 6), none⟩,
  ⟨some 45, .mv (.t 1), none⟩,
  ⟨some 46, .bin .sub (.t 45) (.c (.int .i64 (.ofNat 1))), none⟩,
  ⟨some 47, .mv (.t 0), none⟩,
  ⟨some 48, .iaddr 1 (.t 44) (.t 46), none⟩,
  ⟨none, .store 1 (.t 48) (.t 47), none⟩]
def f471r13 : List ROper := [
  ⟨some 49, .mv (.t 6), none⟩,
  ⟨some 4, .mv (.t 49), none⟩]
def f471 : RFunc := ⟨[.t 4], (.seq (.region f471r0 [0, 1]) (.seq (.region f471r1 [0, 1, 5]) (.seq (.seq (.region f471r2 [0, 1, 5, 18]) (.cond (.t 18) (.region f471r3 [0, 1]) .skip)) (.seq (.region f471r4 [0, 1, 6]) (.seq (.seq (.region f471r5 [0, 1, 6, 7]) (.block 0 (.loop [0, 1, 6, 7] (.seq (.seq (.region f471r6 [0, 1, 6, 7, 25]) (.cond (.t 25) .skip (.exit 0))) (.seq (.block 1 (.seq (.region f471r7 [0, 1, 6, 7, 9]) (.seq (.region f471r8 [0, 1, 6, 7, 9]) (.region f471r9 [0, 1, 6, 7])))) (.region f471r10 [0, 1, 6, 7])))))) (.seq (.seq (.region f471r11 [0, 1, 6, 43]) (.cond (.t 43) (.region f471r12 [6]) .skip)) (.seq (.region f471r13 [4]) .ret))))))), true⟩

/-! unicode/utf8.DecodeRuneInString -/
def f477r0 : List ROper := [
  ⟨some 2, .mv (.c (.int .i32 (.ofNat 0))), none⟩,
  ⟨some 3, .mv (.c (.int .i64 (.ofNat 0))), none⟩]
def f477r1 : List ROper := [
  ⟨some 4, .mv (.t 0), none⟩,
  ⟨some 5, .bin .neq (.t 4) (.c (.str [])), none⟩,
  ⟨some 6, .mv (.t 5), none⟩,
  ⟨some 7, .mv (.t 0), some (6, true)⟩,
  ⟨some 8, .index (.t 7) (.c (.int .i64 (.ofNat 0))), some (6, true)⟩,
  ⟨some 9, .bin .lss (.t 8) (.c (.int .u8 (.ofNat 128))), some (6, true)⟩,
  ⟨some 10, .pick (.t 6) (.t 9) (.c (.bool false)), none⟩]
def f477r2 : List ROper := [
  ⟨some 11, .mv (.t 0), none⟩,
  ⟨some 12, .index (.t 11) (.c (.int .i64 (.ofNat 0))), none⟩,
  ⟨some 13, .i2i .i32 (.t 12), none⟩,
  ⟨some 2, .mv (.t 13), none⟩,
  ⟨some 3, .mv (.c (.int .i64 (.ofNat 1))), none⟩]
def f477r3 : List ROper := [
  ⟨some 15, .mv (.t 0), none⟩,
  ⟨some 16, .call 481 [(.t 15)], none⟩,
  ⟨some 14, .mv (.t 16), none⟩,
  ⟨some 17, .extract (.t 14) 0, none⟩,
  ⟨some 18, .extract (.t 14) 1, none⟩,
  ⟨some 2, .mv (.t 17), none⟩,
  ⟨some 3, .mv (.t 18), none⟩]
def f477 : RFunc := ⟨[.t 2, .t 3], (.seq (.region f477r0 [0]) (.seq (.seq (.region f477r1 [0, 10]) (.cond (.t 10) (.seq (.region f477r2 [2, 3]) .ret) (.region f477r3 [2, 3]))) .ret)), true⟩

/-! unicode/utf8.decodeRuneInStringSlow -/
def f481r0 : List ROper := [
  ⟨some 2, .mv (.c (.int .i32 (.ofNat 0))), none⟩,
  ⟨some 3, .mv (.c (.int .i64 (.ofNat 0))), none⟩]
def f481r1 : List ROper := [
  ⟨some 13, .mv (.t 0), none⟩,
  ⟨some 14, .len .str (.t 13), none⟩,
  ⟨some 4, .mv (.t 14), none⟩]
def f481r2 : List ROper := [
  ⟨some 15, .mv (.t 4), none⟩,
  ⟨some 16, .bin .lss (.t 15) (.c (.int .i64 (.ofNat 1))), none⟩]
def f481r3 : List ROper := [
  ⟨some 2, .mv (.c (.int .i32 (.ofNat 65533))), none⟩,
  ⟨some 3, .mv (.c (.int .i64 (.ofNat 0))), none⟩]
def f481r4 : List ROper := [
  ⟨some 17, .mv (.t 0), none⟩,
  ⟨some 18, .index (.t 17) (.c (.int .i64 (.ofNat 0))), none⟩,
  ⟨some 5, .mv (.t 18), none⟩]
def f481r5 : List ROper := [
  ⟨some 19, .mv (.t 5), none⟩,
  ⟨some 20, .fail, none⟩,
  ⟨some 21, .load 1 false (.t 20), none⟩,
  ⟨some 6, .mv (.t 21), none⟩]
def f481r6 : List ROper := [
  ⟨some 22, .mv (.t 6), none⟩,
  ⟨some 23, .bin .geq (.t 22) (.c (.int .u8 (.ofNat 240))), none⟩]
def f481r7 : List ROper := [
  ⟨some 24, .mv (.t 6), none⟩,
  ⟨some 25, .i2i .i32 (.t 24), none⟩,
  ⟨some 26, .bin .shl (.t 25) (.c (.int .u64 (.ofNat 31))), none⟩,
  ⟨some 27, .bin .shr (.t 26) (.c (.int .u64 (.ofNat 31))), none⟩,
  ⟨some 7, .mv (.t 27), none⟩]
def f481r8 : List ROper := [
  ⟨some 28, .mv (.t 0), none⟩,
  ⟨some 29, .index (.t 28) (.c (.int .i64 (.ofNat 0))), none⟩,
  ⟨some 30, .i2i .i32 (.t 29), none⟩,
  ⟨some 31, .mv (.t 7), none⟩,
  ⟨some 32, .bin .andNot (.t 30) (.t 31), none⟩,
  ⟨some 33, .mv (.t 7), none⟩,
  ⟨some 34, .bin .and (.c (.int .i32 (.ofNat 65533))) (.t 33), none⟩,
  ⟨some 35, .bin .or (.t 32) (.t 34), none⟩,
  ⟨some 2, .mv (.t 35), none⟩,
  ⟨some 3, .mv (.c (.int .i64 (.ofNat 1))), none⟩]
def f481r9 : List ROper := [
  ⟨some 36, .mv (.t 6), none⟩,
  ⟨some 37, .bin .and (.t 36) (.c (.int .u8 (.ofNat 7))), none⟩,
  ⟨some 38, .i2i .i64 (.t 37), none⟩,
  ⟨some 8, .mv (.t 38), none⟩]
def f481r10 : List ROper := [
  ⟨some 39, .mv (.t 6), none⟩,
  ⟨some 40, .bin .shr (.t 39) (.c (.int .u64 (.ofNat 4))), none⟩,
  ⟨some 41, .fail, none⟩,
  ⟨some 42, .load 2 true (.t 41), none⟩,
  ⟨some 9, .alloc [(.int .u8 (.ofNat 0)), (.int .u8 (.ofNat 0))], none⟩,
  ⟨none, .store 2 (.t 9) (.t 42), none⟩]
def f481r11 : List ROper := [
  ⟨some 43, .mv (.t 4), none⟩,
  ⟨some 44, .mv (.t 8), none⟩,
  ⟨some 45, .bin .lss (.t 43) (.t 44), none⟩]
def f481r12 : List ROper := [
  ⟨some 2, .mv (.c (.int .i32 (.ofNat 65533))), none⟩,
  ⟨some 3, .mv (.c (.int .i64 (.ofNat 1))), none⟩]
def f481r13 : List ROper := [
  ⟨some 46, .mv (.t 0), none⟩,
  ⟨some 47, .index (.t 46) (.c (.int .i64 (.ofNat 1))), none⟩,
  ⟨some 10, .mv (.t 47), none⟩]
def f481r14 : List ROper := [
  ⟨some 48, .mv (.t 10), none⟩,
  ⟨some 49, .faddr 0 (.t 9), none⟩,
  ⟨some 50, .load 1 false (.t 49), none⟩,
  ⟨some 51, .bin .lss (.t 48) (.t 50), none⟩,
  ⟨some 52, .mv (.t 51), none⟩,
  ⟨some 53, .faddr 1 (.t 9), some (52, false)⟩,
  ⟨some 54, .load 1 false (.t 53), some (52, false)⟩,
  ⟨some 55, .mv (.t 10), some (52, false)⟩,
  ⟨some 56, .bin .lss (.t 54) (.t 55), some (52, false)⟩,
  ⟨some 57, .pick (.t 52) (.c (.bool true)) (.t 56), none⟩]
def f481r15 : List ROper := [
  ⟨some 2, .mv (.c (.int .i32 (.ofNat 65533))), none⟩,
  ⟨some 3, .mv (.c (.int .i64 (.ofNat 1))), none⟩]
def f481r16 : List ROper := [
  ⟨some 58, .mv (.t 8), none⟩,
  ⟨some 59, .bin .leq (.t 58) (.c (.int .i64 (.ofNat 2))), none⟩]
def f481r17 : List ROper := [
  ⟨some 60, .mv (.t 5), none⟩,
  ⟨some 61, .bin .and (.t 60) (.c (.int .u8 (.ofNat 31))), none⟩,
  ⟨some 62, .i2i .i32 (.t 61), none⟩,
  ⟨some 63, .bin .shl (.t 62) (.c (.int .u64 (.ofNat 6))), none⟩,
  ⟨some 64, .mv (.t 10), none⟩,
  ⟨some 65, .bin .and (.t 64) (.c (.int .u8 (.ofNat 63))), none⟩,
  ⟨some 66, .i2i .i32 (.t 65), none⟩,
  ⟨some 67, .bin .or (.t 63) (.t 66), none⟩,
  ⟨some 2, .mv (.t 67), none⟩,
  ⟨some 3, .mv (.c (.int .i64 (.ofNat 2))), none⟩]
def f481r18 : List ROper := [
  ⟨some 68, .mv (.t 0), none⟩,
  ⟨some 69, .index (.t 68) (.c (.int .i64 (.ofNat 2))), none⟩,
  ⟨some 11, .mv (.t 69), none⟩]
def f481r19 : List ROper := [
  ⟨some 70, .mv (.t 11), none⟩,
  ⟨some 71, .bin .lss (.t 70) (.c (.int .u8 (.ofNat 128))), none⟩,
  ⟨some 72, .mv (.t 71), none⟩,
  ⟨some 73, .mv (.t 11), some (72, false)⟩,
  ⟨some 74, .bin .lss (.c (.int .u8 (.ofNat 191))) (.t 73), some (72, false)⟩,
  ⟨some 75, .pick (.t 72) (.c (.bool true)) (.t 74), none⟩]
def f481r20 : List ROper := [
  ⟨some 2, .mv (.c (.int .i32 (.ofNat 65533))), none⟩,
  ⟨some 3, .mv (.c (.int .i64 (.ofNat 1))), none⟩]
def f481r21 : List ROper := [
  ⟨some 76, .mv (.t 8), none⟩,
  ⟨some 77, .bin .leq (.t 76) (.c (.int .i64 (.ofNat 3))), none⟩]
def f481r22 : List ROper := [
  ⟨some 78, .mv (.t 5), none⟩,
  ⟨some 79, .bin .and (.t 78) (.c (.int .u8 (.ofNat 15))), none⟩,
  ⟨some 80, .i2i .i32 (.t 79), none⟩,
  ⟨some 81, .bin .shl (.t 80) (.c (.int .u64 (.ofNat 12))), none⟩,
  ⟨some 82, .mv (.t 10), none⟩,
  ⟨some 83, .bin .and (.t 82) (.c (.int .u8 (.ofNat 63))), none⟩,
  ⟨some 84, .i2i .i32 (.t 83), none⟩,
  ⟨some 85, .bin .shl (.t 84) (.c (.int .u64 (.ofNat 6))), none⟩,
  ⟨some 86, .bin .or (.t 81) (.t 85), none⟩,
  ⟨some 87, .mv (.t 11), none⟩,
  ⟨some 88, .bin .and (.t 87) (.c (.int .u8 (.ofNat 63))), none⟩,
  ⟨some 89, .i2i .i32 (.t 88), none⟩,
  ⟨some 90, .bin .or (.t 86) (.t 89), none⟩,
  ⟨some 2, .mv (.t 90), none⟩,
  ⟨some 3, .mv (.c (.int .i64 (.ofNat 3))), none⟩]
def f481r23 : List ROper := [
  ⟨some 91, .mv (.t 0), none⟩,
  ⟨some 92, .index (.t 91) (.c (.int .i64 (.ofNat 3))), none⟩,
  ⟨some 12, .mv (.t 92), none⟩]
def f481r24 : List ROper := [
  ⟨some 93, .mv (.t 12), none⟩,
  ⟨some 94, .bin .lss (.t 93) (.c (.int .u8 (.ofNat 128))), none⟩,
  ⟨some 95, .mv (.t 94), none⟩,
  ⟨some 96, .mv (.t 12), some (95, false)⟩,
  ⟨some 97, .bin .lss (.c (.int .u8 (.ofNat 191))) (.t 96), some (95, false)⟩,
  ⟨some 98, .pick (.t 95) (.c (.bool true)) (.t 97), none⟩]
def f481r25 : List ROper := [
  ⟨some 2, .mv (.c (.int .i32 (.ofNat 65533))), none⟩,
  ⟨some 3, .mv (.c (.int .i64 (.ofNat 1))), none⟩]
def f481r26 : List ROper := [
  ⟨some 99, .mv (.t 5), none⟩,
  ⟨some 100, .bin .and (.t 99) (.c (.int .u8 (.ofNat 7))), none⟩,
  ⟨some 101, .i2i .i32 (.t 100), none⟩,
  ⟨some 102, .bin .shl (.t 101) (.c (.int .u64 (.ofNat 18))), none⟩,
  ⟨some 103, .mv (.t 10), none⟩,
  ⟨some 104, .bin .and (.t 103) (.c (.int .u8 (.ofNat 63))), none⟩,
  ⟨some 105, .i2i .i32 (.t 104), none⟩,
  ⟨some 106, .bin .shl (.t 105) (.c (.int .u64 (.ofNat 12))), none⟩,
  ⟨some 107, .bin .or (.t 102) (.t 106), none⟩,
  ⟨some 108, .mv (.t 11), none⟩,
  ⟨some 109, .bin .and (.t 108) (.c (.int .u8 (.ofNat 63))), none⟩,
  ⟨some 110, .i2i .i32 (.t 109), none⟩,
  ⟨some 111, .bin .shl (.t 110) (.c (.int .u64 (.ofNat 6))), none⟩,
  ⟨some 112, .bin .or (.t 107) (.t 111), none⟩,
  ⟨some 113, .mv (.t 12), none⟩,
  ⟨some 114, .bin .and (.t 113) (.c (.int .u8 (.ofNat 63))), none⟩,
  ⟨some 115, .i2i .i32 (.t 114), none⟩,
  ⟨some 116, .bin .or (.t 112) (.t 115), none⟩,
  ⟨some 2, .mv (.t 116), none⟩,
  ⟨some 3, .mv (.c (.int .i64 (.ofNat 4))), none⟩]
def f481 : RFunc := ⟨[.t 2, .t 3], (.seq (.region f481r0 [0]) (.seq (.region f481r1 [0, 4]) (.seq (.seq (.region f481r2 [0, 4, 16]) (.cond (.t 16) (.seq (.region f481r3 [2, 3]) .ret) .skip)) (.seq (.region f481r4 [0, 4, 5]) (.seq (.region f481r5 [0, 4, 5, 6]) (.seq (.seq (.region f481r6 [0, 4, 5, 6, 23]) (.cond (.t 23) (.seq (.region f481r7 [0, 7]) (.seq (.region f481r8 [2, 3]) .ret)) .skip)) (.seq (.region f481r9 [0, 4, 5, 6, 8]) (.seq (.region f481r10 [0, 4, 5, 8, 9]) (.seq (.seq (.region f481r11 [0, 5, 8, 9, 45]) (.cond (.t 45) (.seq (.region f481r12 [2, 3]) .ret) .skip)) (.seq (.region f481r13 [0, 5, 8, 9, 10]) (.seq (.seq (.region f481r14 [0, 5, 8, 10, 57]) (.cond (.t 57) (.seq (.region f481r15 [2, 3]) .ret) .skip)) (.seq (.seq (.region f481r16 [0, 5, 8, 10, 59]) (.cond (.t 59) (.seq (.region f481r17 [2, 3]) .ret) .skip)) (.seq (.region f481r18 [0, 5, 8, 10, 11]) (.seq (.seq (.region f481r19 [0, 5, 8, 10, 11, 75]) (.cond (.t 75) (.seq (.region f481r20 [2, 3]) .ret) .skip)) (.seq (.seq (.region f481r21 [0, 5, 10, 11, 77]) (.cond (.t 77) (.seq (.region f481r22 [2, 3]) .ret) .skip)) (.seq (.region f481r23 [5, 10, 11, 12]) (.seq (.seq (.region f481r24 [5, 10, 11, 12, 98]) (.cond (.t 98) (.seq (.region f481r25 [2, 3]) .ret) .skip)) (.seq (.region f481r26 [2, 3]) .ret)))))))))))))))))), true⟩

def tree : TT := (.node 160 (.node 117 (.node 61 (.node 40 (.node 27 (.node 17 (.node 13 (.leaf 10 (.code f10)) (.leaf 13 (.code f13))) (.node 21 (.leaf 17 (.code f17)) (.node 23 (.leaf 21 (.code f21)) (.leaf 23 (.code f23))))) (.node 30 (.node 29 (.leaf 27 (.code f27)) (.leaf 29 (.code f29))) (.node 31 (.leaf 30 (.code f30)) (.node 32 (.leaf 31 (.code f31)) (.leaf 32 (.code f32)))))) (.node 51 (.node 42 (.node 41 (.leaf 40 (.code f40)) (.leaf 41 (.code f41))) (.node 43 (.leaf 42 (.code f42)) (.node 44 (.leaf 43 (.code f43)) (.leaf 44 (.code f44))))) (.node 55 (.node 54 (.leaf 51 (.code f51)) (.leaf 54 (.code f54))) (.node 56 (.leaf 55 (.code f55)) (.node 57 (.leaf 56 (.code f56)) (.leaf 57 (.code f57))))))) (.node 74 (.node 68 (.node 63 (.node 62 (.leaf 61 (.code f61)) (.leaf 62 (.code f62))) (.node 64 (.leaf 63 (.code f63)) (.node 65 (.leaf 64 (.prim countByteD)) (.leaf 65 (.code f65))))) (.node 70 (.node 69 (.leaf 68 (.code f68)) (.leaf 69 (.code f69))) (.node 72 (.leaf 70 (.code f70)) (.node 73 (.leaf 72 (.prim indexByteD)) (.leaf 73 (.code f73)))))) (.node 108 (.node 77 (.node 76 (.leaf 74 (.code f74)) (.leaf 76 (.code f76))) (.node 78 (.leaf 77 (.code f77)) (.node 106 (.leaf 78 (.code f78)) (.leaf 106 (.code f106))))) (.node 110 (.node 109 (.leaf 108 (.code f108)) (.leaf 109 (.code f109))) (.node 113 (.leaf 110 (.code f110)) (.node 114 (.leaf 113 (.code f113)) (.leaf 114 (.code f114)))))))) (.node 139 (.node 129 (.node 123 (.node 120 (.node 118 (.leaf 117 (.code f117)) (.leaf 118 (.code f118))) (.node 121 (.leaf 120 (.code f120)) (.node 122 (.leaf 121 (.code f121)) (.leaf 122 (.code f122))))) (.node 126 (.node 124 (.leaf 123 (.code f123)) (.leaf 124 (.code f124))) (.node 127 (.leaf 126 (.code f126)) (.node 128 (.leaf 127 (.code f127)) (.leaf 128 (.code f128)))))) (.node 134 (.node 131 (.node 130 (.leaf 129 (.code f129)) (.leaf 130 (.code f130))) (.node 132 (.leaf 131 (.code f131)) (.node 133 (.leaf 132 (.code f132)) (.leaf 133 (.code f133))))) (.node 136 (.node 135 (.leaf 134 (.code f134)) (.leaf 135 (.code f135))) (.node 137 (.leaf 136 (.code f136)) (.node 138 (.leaf 137 (.code f137)) (.leaf 138 (.code f138))))))) (.node 149 (.node 144 (.node 141 (.node 140 (.leaf 139 (.code f139)) (.leaf 140 (.code f140))) (.node 142 (.leaf 141 (.code f141)) (.node 143 (.leaf 142 (.code f142)) (.leaf 143 (.code f143))))) (.node 146 (.node 145 (.leaf 144 (.code f144)) (.leaf 145 (.code f145))) (.node 147 (.leaf 146 (.code f146)) (.node 148 (.leaf 147 (.code f147)) (.leaf 148 (.code f148)))))) (.node 154 (.node 151 (.node 150 (.leaf 149 (.code f149)) (.leaf 150 (.code f150))) (.node 152 (.leaf 151 (.code f151)) (.node 153 (.leaf 152 (.code f152)) (.leaf 153 (.code f153))))) (.node 157 (.node 155 (.leaf 154 (.code f154)) (.node 156 (.leaf 155 (.code f155)) (.leaf 156 (.code f156)))) (.node 158 (.leaf 157 (.code f157)) (.node 159 (.leaf 158 (.code f158)) (.leaf 159 (.code f159))))))))) (.node 289 (.node 266 (.node 234 (.node 165 (.node 162 (.node 161 (.leaf 160 (.code f160)) (.leaf 161 (.code f161))) (.node 163 (.leaf 162 (.code f162)) (.node 164 (.leaf 163 (.code f163)) (.leaf 164 (.code f164))))) (.node 167 (.node 166 (.leaf 165 (.code f165)) (.leaf 166 (.code f166))) (.node 211 (.leaf 167 (.code f167)) (.node 218 (.leaf 211 (.code f211)) (.leaf 218 (.code f218)))))) (.node 246 (.node 243 (.node 242 (.leaf 234 (.code f234)) (.leaf 242 (.code f242))) (.node 244 (.leaf 243 (.code f243)) (.node 245 (.leaf 244 (.code f244)) (.leaf 245 (.code f245))))) (.node 248 (.node 247 (.leaf 246 (.code f246)) (.leaf 247 (.code f247))) (.node 249 (.leaf 248 (.code f248)) (.node 265 (.leaf 249 (.code f249)) (.leaf 265 (.code f265))))))) (.node 278 (.node 271 (.node 268 (.node 267 (.leaf 266 (.code f266)) (.leaf 267 (.code f267))) (.node 269 (.leaf 268 (.code f268)) (.node 270 (.leaf 269 (.code f269)) (.leaf 270 (.code f270))))) (.node 275 (.node 272 (.leaf 271 (.code f271)) (.leaf 272 (.code f272))) (.node 276 (.leaf 275 (.code f275)) (.node 277 (.leaf 276 (.code f276)) (.leaf 277 (.code f277)))))) (.node 283 (.node 280 (.node 279 (.leaf 278 (.code f278)) (.leaf 279 (.code f279))) (.node 281 (.leaf 280 (.code f280)) (.node 282 (.leaf 281 (.code f281)) (.leaf 282 (.code f282))))) (.node 286 (.node 284 (.leaf 283 (.code f283)) (.node 285 (.leaf 284 (.code f284)) (.leaf 285 (.code f285)))) (.node 287 (.leaf 286 (.code f286)) (.node 288 (.leaf 287 (.code f287)) (.leaf 288 (.code f288)))))))) (.node 344 (.node 299 (.node 294 (.node 291 (.node 290 (.leaf 289 (.code f289)) (.leaf 290 (.code f290))) (.node 292 (.leaf 291 (.code f291)) (.node 293 (.leaf 292 (.code f292)) (.leaf 293 (.code f293))))) (.node 296 (.node 295 (.leaf 294 (.code f294)) (.leaf 295 (.code f295))) (.node 297 (.leaf 296 (.code f296)) (.node 298 (.leaf 297 (.code f297)) (.leaf 298 (.code f298)))))) (.node 322 (.node 319 (.node 307 (.leaf 299 (.code f299)) (.leaf 307 (.code f307))) (.node 320 (.leaf 319 (.code f319)) (.node 321 (.leaf 320 (.code f320)) (.leaf 321 (.code f321))))) (.node 331 (.node 330 (.leaf 322 (.code f322)) (.leaf 330 (.code f330))) (.node 332 (.leaf 331 (.code f331)) (.node 343 (.leaf 332 (.code f332)) (.leaf 343 (.code f343))))))) (.node 433 (.node 408 (.node 346 (.node 345 (.leaf 344 (.code f344)) (.leaf 345 (.code f345))) (.node 394 (.leaf 346 (.code f346)) (.node 407 (.leaf 394 (.code f394)) (.leaf 407 (.code f407))))) (.node 410 (.node 409 (.leaf 408 (.code f408)) (.leaf 409 (.code f409))) (.node 411 (.leaf 410 (.code f410)) (.node 412 (.leaf 411 (.code f411)) (.leaf 412 (.code f412)))))) (.node 460 (.node 435 (.node 434 (.leaf 433 (.code f433)) (.leaf 434 (.code f434))) (.node 436 (.leaf 435 (.code f435)) (.node 437 (.leaf 436 (.code f436)) (.leaf 437 (.code f437))))) (.node 471 (.node 461 (.leaf 460 (.code f460)) (.node 462 (.leaf 461 (.code f461)) (.leaf 462 (.code f462)))) (.node 477 (.leaf 471 (.code f471)) (.node 481 (.leaf 477 (.code f477)) (.leaf 481 (.code f481))))))))))

def fms : List (Nat × FuncId) := [(265, 213), (266, 214), (10, 119), (267, 215), (268, 216), (269, 217), (13, 89), (270, 219), (271, 220), (272, 70), (17, 170), (275, 235), (276, 236), (277, 237), (21, 202), (278, 238), (279, 239), (23, 151), (280, 101), (281, 102), (282, 246), (283, 139), (27, 113), (284, 140), (285, 141), (29, 164), (286, 142), (30, 165), (287, 143), (31, 166), (288, 144), (32, 167), (289, 145), (290, 146), (291, 147), (292, 148), (293, 149), (294, 183), (295, 184), (296, 185), (40, 114), (297, 186), (41, 115), (298, 187), (42, 116), (299, 221), (43, 117), (44, 106), (307, 33), (51, 210), (54, 160), (55, 161), (56, 201), (57, 203), (61, 162), (62, 163), (319, 63), (63, 152), (64, 154), (320, 65), (65, 107), (321, 66), (322, 68), (68, 197), (69, 198), (70, 199), (72, 200), (73, 155), (74, 227), (330, 93), (75, 190), (331, 94), (332, 97), (76, 191), (77, 192), (78, 222), (343, 129), (344, 130), (345, 131), (346, 132), (106, 64), (108, 96), (109, 133), (110, 212), (113, 95), (114, 67), (117, 91), (118, 92), (120, 172), (121, 98), (122, 211), (123, 99), (124, 234), (126, 90), (127, 134), (128, 135), (129, 136), (130, 137), (131, 120), (132, 121), (133, 122), (134, 123), (135, 124), (136, 125), (137, 126), (394, 5), (138, 127), (139, 245), (140, 118), (141, 173), (142, 174), (143, 168), (144, 169), (145, 249), (146, 250), (147, 204), (148, 205), (149, 206), (150, 207), (407, 19), (151, 208), (408, 20), (152, 209), (153, 251), (409, 21), (410, 22), (154, 252), (411, 23), (155, 218), (412, 24), (156, 228), (157, 229), (158, 230), (159, 231), (160, 232), (161, 233), (162, 188), (163, 242), (164, 243), (165, 244), (166, 247), (167, 248), (433, 46), (434, 47), (435, 48), (436, 49), (437, 50), (460, 80), (461, 81), (462, 82), (211, 128), (471, 105), (218, 138), (477, 153), (481, 189), (234, 171), (242, 175), (243, 176), (244, 177), (245, 178), (246, 179), (247, 180), (248, 181), (249, 182)]

def env : List (Nat × List Nat) := [(4, asciiSpaceL)]

end Go.D.Tab
