/- Of the claim for One: the walk of the law and the plain facts behind it. No conditions. The functions that the laws reach, as the interpreter takes them. Written by a program of this session (gen.py). -/
import Derived.Test.YtnajiilcdcffdaaVm6
section
set_option linter.unusedVariables false
namespace Go.Vm.Ytnajiilcdcffdaa
open Go.Vm
def tDFA : TD := .struct [.arr 256 (.int .u8), .slice (.slice (.int .i64)), .slice (.int .i64)]
def tSet : TD := .arr 4 (.int .u64)
/-- bosket/bosketlaw09.MiniOne -/
def v5 : VF where
  params := [tDFA, .int .u8]
  results := [.bool]
  ret := .bool
  tys := [tDFA, .int .u8, .ptr tDFA, .bool, .bool, .int .i64, .int .i64, .ptr tDFA, .int .i64, .int .i64, .slice (.int .i64), .int .i64, .int .i64, .ptr tDFA, .int .i64, .ptr tDFA, .int .i64, .ptr tDFA, .int .i64, .bool, .bool, tDFA, .bool, .bool, .bool, tDFA, .bool, .bool, .bool, .ptr (.slice (.slice (.int .i64))), .slice (.slice (.int .i64)), .int .i64, .int .u8, .int .i64, .int .i64, .int .i64, .ptr (.arr 256 (.int .u8)), .arr 256 (.int .u8), .slice (.int .i64), .ptr (.slice (.int .i64)), .slice (.int .i64), .slice (.int .i64), .ptr (.slice (.int .i64)), .slice (.int .i64), .int .i64, .ptr (.int .i64), .int .i64, .slice (.int .i64), .slice (.int .i64), tDFA, .int .i64, .int .i64, .bool, .int .i64, .int .i64, .int .i64, .int .i64, .int .i64, .bool, .int .i64, .int .i64, .ptr (.slice (.slice (.int .i64))), .slice (.slice (.int .i64)), .int .i64, .ptr (.slice (.int .i64)), .slice (.int .i64), .int .i64, .bool, .int .i64, .int .i64, .ptr (.slice (.slice (.int .i64))), .slice (.slice (.int .i64)), .int .i64, .ptr (.slice (.int .i64)), .slice (.int .i64), .int .i64, .ptr (.int .i64), .int .i64, .int .i64, .int .i64, .bool, .bool, .int .i64, .int .i64, .int .i64, .int .i64, .bool, .bool, .int .i64, .slice (.int .i64), .int .i64, .slice (.int .i64), .slice (.int .i64), .ptr (.slice (.slice (.int .i64))), .slice (.slice (.int .i64)), .slice (.int .i64), .slice (.slice (.int .i64)), .slice (.slice (.int .i64)), .ptr (.slice (.slice (.int .i64))), .tup [tDFA, .int .i64], tDFA, .tup [tDFA, .int .i64], tDFA, .int .i64, .tup [tDFA, .int .i64], tDFA, .tup [tDFA, .int .i64], tDFA, .int .i64, .tup [tDFA, .int .i64], tDFA, .tup [tDFA, .int .i64], tDFA, .int .i64, .int .i64, .bool, .bool, .int .i64, .bool, .bool, .bool, .int .i64, .bool, .bool, .bool, tDFA, tDFA, .bool, .bool, .bool, tDFA, tDFA, .bool, .bool]
  res := [.slot 4]
  ntmps := 134
  body :=
    .seq (.region false [⟨some 2, .box tDFA (.s 0), none⟩, ⟨some 4, .move (.c (.bool false)), none⟩] [1, 2]) <|
    .seq (.seq (.region false [⟨some 19, .call 7 [] .bool, none⟩, ⟨some 20, .un .not (.s 19), none⟩] [1, 2, 20]) <|
     .cond (.s 20) (.seq (.region false [⟨some 4, .move (.c (.bool false)), none⟩] [4]) <|
      .ret) (.skip)) <|
    .seq (.seq (.region false [⟨some 21, .load (.s 2), none⟩, ⟨some 22, .call 8 [.s 21] .bool, none⟩, ⟨some 23, .un .not (.s 22), none⟩, ⟨some 24, .move (.s 23), none⟩, ⟨some 25, .load (.s 2), some (24, false)⟩, ⟨some 26, .call 9 [.s 25] .bool, some (24, false)⟩, ⟨some 27, .un .not (.s 26), some (24, false)⟩, ⟨some 28, .pick (.s 24) (.c (.bool true)) (.s 27), none⟩] [1, 2, 28]) <|
     .cond (.s 28) (.seq (.region false [⟨some 4, .move (.c (.bool true)), none⟩] [4]) <|
      .ret) (.skip)) <|
    .seq (.region false [⟨some 29, .fieldAddr (.s 2) 1, none⟩, ⟨some 30, .load (.s 29), none⟩, ⟨some 31, .len (.s 30), none⟩, ⟨some 5, .move (.s 31), none⟩] [1, 2, 5]) <|
    .seq (.region false [⟨some 32, .move (.s 1), none⟩, ⟨some 33, .convInt .i64 (.s 32), none⟩, ⟨some 34, .move (.s 5), none⟩, ⟨some 35, .bin .rem (.s 33) (.s 34), none⟩, ⟨some 6, .move (.s 35), none⟩] [2, 5, 6]) <|
    .seq (.region true [⟨some 38, .buildSlice (.int .i64) 0 [], none⟩, ⟨some 39, .fieldAddr (.s 2) 2, none⟩, ⟨some 40, .load (.s 39), none⟩, ⟨some 41, .append 8 (.s 38) (.s 40), none⟩, ⟨some 42, .fieldAddr (.s 2) 2, none⟩, ⟨some 43, .load (.s 42), none⟩, ⟨some 44, .move (.s 6), none⟩, ⟨some 45, .indexAddr (.s 43) (.s 44), none⟩, ⟨some 46, .load (.s 45), none⟩, ⟨some 47, .buildSlice (.int .i64) 1 [(0, .s 46)], none⟩, ⟨some 48, .append 8 (.s 41) (.s 47), none⟩, ⟨some 36, .fieldAddr (.s 2) 0, none⟩, ⟨some 37, .load (.s 36), none⟩, ⟨some 49, .build tDFA [(0, .s 37), (2, .s 48)], none⟩, ⟨some 7, .alloc tDFA, none⟩, ⟨none, .store (.s 7) (.s 49), none⟩] [2, 5, 6, 7]) <|
    .seq (.seq (.region false [⟨some 8, .move (.c (.int .i64 0)), none⟩] [2, 5, 6, 7, 8]) <|
     .block 0 (.loop [2, 5, 6, 7, 8] (.seq (.seq (.region false [⟨some 50, .move (.s 8), none⟩, ⟨some 51, .move (.s 5), none⟩, ⟨some 52, .bin .leq (.s 50) (.s 51), none⟩] [2, 5, 6, 7, 8, 52]) <|
        .cond (.s 52) (.skip) (.exit 0)) <|
       .seq (.block 1 (.seq (.region false [⟨some 55, .move (.s 8), none⟩, ⟨some 9, .move (.s 55), none⟩] [2, 5, 6, 7, 8, 9]) <|
         .seq (.seq (.region false [⟨some 56, .move (.s 8), none⟩, ⟨some 57, .move (.s 5), none⟩, ⟨some 58, .bin .eql (.s 56) (.s 57), none⟩] [2, 5, 6, 7, 8, 9, 58]) <|
          .cond (.s 58) (.region false [⟨some 59, .move (.s 6), none⟩, ⟨some 9, .move (.s 59), none⟩] [2, 5, 6, 7, 8, 9]) (.skip)) <|
         .seq (.region false [⟨some 10, .move (.c .nil), none⟩] [2, 5, 6, 7, 8, 9, 10]) <|
         .seq (.seq (.region false [⟨some 11, .move (.c (.int .i64 0)), none⟩] [2, 5, 6, 7, 8, 9, 10, 11]) <|
          .block 2 (.loop [2, 5, 6, 7, 8, 9, 10, 11] (.seq (.seq (.region false [⟨some 60, .move (.s 11), none⟩, ⟨some 61, .fieldAddr (.s 2) 1, none⟩, ⟨some 62, .load (.s 61), none⟩, ⟨some 63, .move (.s 9), none⟩, ⟨some 64, .indexAddr (.s 62) (.s 63), none⟩, ⟨some 65, .load (.s 64), none⟩, ⟨some 66, .len (.s 65), none⟩, ⟨some 67, .bin .lss (.s 60) (.s 66), none⟩] [2, 5, 6, 7, 8, 9, 10, 11, 67]) <|
             .cond (.s 67) (.skip) (.exit 2)) <|
            .seq (.block 3 (.seq (.region false [⟨some 70, .fieldAddr (.s 2) 1, none⟩, ⟨some 71, .load (.s 70), none⟩, ⟨some 72, .move (.s 9), none⟩, ⟨some 73, .indexAddr (.s 71) (.s 72), none⟩, ⟨some 74, .load (.s 73), none⟩, ⟨some 75, .move (.s 11), none⟩, ⟨some 76, .indexAddr (.s 74) (.s 75), none⟩, ⟨some 77, .load (.s 76), none⟩, ⟨some 12, .move (.s 77), none⟩] [2, 5, 6, 7, 8, 9, 10, 11, 12]) <|
              .seq (.seq (.region false [⟨some 78, .move (.s 12), none⟩, ⟨some 79, .move (.s 6), none⟩, ⟨some 80, .bin .eql (.s 78) (.s 79), none⟩, ⟨some 81, .move (.s 80), none⟩, ⟨some 82, .move (.s 8), some (81, true)⟩, ⟨some 83, .move (.s 11), some (81, true)⟩, ⟨some 84, .bin .add (.s 82) (.s 83), some (81, true)⟩, ⟨some 85, .bin .rem (.s 84) (.c (.int .i64 2)), some (81, true)⟩, ⟨some 86, .bin .eql (.s 85) (.c (.int .i64 0)), some (81, true)⟩, ⟨some 87, .pick (.s 81) (.s 86) (.c (.bool false)), none⟩] [2, 5, 6, 7, 8, 9, 10, 11, 12, 87]) <|
               .cond (.s 87) (.region false [⟨some 88, .move (.s 5), none⟩, ⟨some 12, .move (.s 88), none⟩] [2, 5, 6, 7, 8, 9, 10, 11, 12]) (.skip)) <|
              .region false [⟨some 89, .move (.s 10), none⟩, ⟨some 90, .move (.s 12), none⟩, ⟨some 91, .buildSlice (.int .i64) 1 [(0, .s 90)], none⟩, ⟨some 92, .append 8 (.s 89) (.s 91), none⟩, ⟨some 10, .move (.s 92), none⟩] [2, 5, 6, 7, 8, 9, 10, 11])) <|
            .region false [⟨some 68, .move (.s 11), none⟩, ⟨some 69, .bin .add (.s 68) (.c (.int .i64 1)), none⟩, ⟨some 11, .move (.s 69), none⟩] [2, 5, 6, 7, 8, 9, 10, 11]))) <|
         .region false [⟨some 93, .fieldAddr (.s 7) 1, none⟩, ⟨some 94, .load (.s 93), none⟩, ⟨some 95, .move (.s 10), none⟩, ⟨some 96, .buildSlice (.slice (.int .i64)) 1 [(0, .s 95)], none⟩, ⟨some 97, .append 24 (.s 94) (.s 96), none⟩, ⟨some 98, .fieldAddr (.s 7) 1, none⟩, ⟨none, .store (.s 98) (.s 97), none⟩] [2, 5, 6, 7, 8])) <|
       .region false [⟨some 53, .move (.s 8), none⟩, ⟨some 54, .bin .add (.s 53) (.c (.int .i64 1)), none⟩, ⟨some 8, .move (.s 54), none⟩] [2, 5, 6, 7, 8]))) <|
    .seq (.region false [⟨some 100, .load (.s 2), none⟩, ⟨some 101, .call 10 [.s 100] (.tup [tDFA, .int .i64]), none⟩, ⟨some 99, .move (.s 101), none⟩, ⟨some 102, .extract (.s 99) 0, none⟩, ⟨some 103, .extract (.s 99) 1, none⟩, ⟨some 13, .alloc tDFA, none⟩, ⟨none, .store (.s 13) (.s 102), none⟩, ⟨some 14, .move (.s 103), none⟩] [7, 13, 14]) <|
    .seq (.region false [⟨some 105, .load (.s 7), none⟩, ⟨some 106, .call 10 [.s 105] (.tup [tDFA, .int .i64]), none⟩, ⟨some 104, .move (.s 106), none⟩, ⟨some 107, .extract (.s 104) 0, none⟩, ⟨some 108, .extract (.s 104) 1, none⟩, ⟨some 15, .alloc tDFA, none⟩, ⟨none, .store (.s 15) (.s 107), none⟩, ⟨some 16, .move (.s 108), none⟩] [13, 14, 15, 16]) <|
    .seq (.region false [⟨some 110, .load (.s 13), none⟩, ⟨some 111, .call 10 [.s 110] (.tup [tDFA, .int .i64]), none⟩, ⟨some 109, .move (.s 111), none⟩, ⟨some 112, .extract (.s 109) 0, none⟩, ⟨some 113, .extract (.s 109) 1, none⟩, ⟨some 17, .alloc tDFA, none⟩, ⟨none, .store (.s 17) (.s 112), none⟩, ⟨some 18, .move (.s 113), none⟩] [13, 14, 15, 16, 17, 18]) <|
    .seq (.region false [⟨some 114, .move (.s 14), none⟩, ⟨some 115, .bin .eql (.s 114) (.c (.int .i64 0)), none⟩, ⟨some 116, .move (.s 115), none⟩, ⟨some 117, .move (.s 16), some (116, true)⟩, ⟨some 118, .bin .eql (.s 117) (.c (.int .i64 0)), some (116, true)⟩, ⟨some 119, .pick (.s 116) (.s 118) (.c (.bool false)), none⟩, ⟨some 120, .move (.s 119), none⟩, ⟨some 121, .move (.s 18), some (120, true)⟩, ⟨some 122, .bin .eql (.s 121) (.c (.int .i64 0)), some (120, true)⟩, ⟨some 123, .pick (.s 120) (.s 122) (.c (.bool false)), none⟩, ⟨some 124, .move (.s 123), none⟩, ⟨some 125, .load (.s 13), some (124, true)⟩, ⟨some 126, .load (.s 15), some (124, true)⟩, ⟨some 127, .call 14 [.s 125, .s 126] .bool, some (124, true)⟩, ⟨some 128, .pick (.s 124) (.s 127) (.c (.bool false)), none⟩, ⟨some 129, .move (.s 128), none⟩, ⟨some 130, .load (.s 13), some (129, true)⟩, ⟨some 131, .load (.s 17), some (129, true)⟩, ⟨some 132, .call 14 [.s 130, .s 131] .bool, some (129, true)⟩, ⟨some 133, .pick (.s 129) (.s 132) (.c (.bool false)), none⟩, ⟨some 4, .move (.s 133), none⟩] [4]) <|
    .ret
/-- bosket/bosketlaw09.awake -/
def v7 : VF where
  params := []
  results := [.bool]
  ret := .bool
  tys := [.bool, .ptr tDFA, .int .i64, .tup [tDFA, .int .i64], .slice (.int .i64), .slice (.slice (.int .i64)), .slice (.int .i64), tDFA, .tup [tDFA, .int .i64], tDFA, .int .i64, .int .i64, .bool, .bool, .ptr (.slice (.slice (.int .i64))), .slice (.slice (.int .i64)), .int .i64, .bool, .bool, .bool, .ptr (.slice (.slice (.int .i64))), .slice (.slice (.int .i64)), .ptr (.slice (.int .i64)), .slice (.int .i64), .int .i64, .bool, .bool, .bool, .ptr (.slice (.slice (.int .i64))), .slice (.slice (.int .i64)), .ptr (.slice (.int .i64)), .slice (.int .i64), .ptr (.int .i64), .int .i64, .bool, .bool]
  res := [.slot 0]
  ntmps := 36
  body :=
    .seq (.region false [⟨some 0, .move (.c (.bool false)), none⟩] []) <|
    .seq (.region false [⟨some 4, .buildSlice (.int .i64) 1 [(0, .c (.int .i64 0))], none⟩, ⟨some 5, .buildSlice (.slice (.int .i64)) 1 [(0, .s 4)], none⟩, ⟨some 6, .buildSlice (.int .i64) 1 [(0, .c (.int .i64 (-1)))], none⟩, ⟨some 7, .build tDFA [(1, .s 5), (2, .s 6)], none⟩, ⟨some 8, .call 10 [.s 7] (.tup [tDFA, .int .i64]), none⟩, ⟨some 3, .move (.s 8), none⟩, ⟨some 9, .extract (.s 3) 0, none⟩, ⟨some 10, .extract (.s 3) 1, none⟩, ⟨some 1, .alloc tDFA, none⟩, ⟨none, .store (.s 1) (.s 9), none⟩, ⟨some 2, .move (.s 10), none⟩] [1, 2]) <|
    .seq (.region false [⟨some 11, .move (.s 2), none⟩, ⟨some 12, .bin .eql (.s 11) (.c (.int .i64 0)), none⟩, ⟨some 13, .move (.s 12), none⟩, ⟨some 14, .fieldAddr (.s 1) 1, some (13, true)⟩, ⟨some 15, .load (.s 14), some (13, true)⟩, ⟨some 16, .len (.s 15), some (13, true)⟩, ⟨some 17, .bin .eql (.s 16) (.c (.int .i64 1)), some (13, true)⟩, ⟨some 18, .pick (.s 13) (.s 17) (.c (.bool false)), none⟩, ⟨some 19, .move (.s 18), none⟩, ⟨some 20, .fieldAddr (.s 1) 1, some (19, true)⟩, ⟨some 21, .load (.s 20), some (19, true)⟩, ⟨some 22, .indexAddr (.s 21) (.c (.int .i64 0)), some (19, true)⟩, ⟨some 23, .load (.s 22), some (19, true)⟩, ⟨some 24, .len (.s 23), some (19, true)⟩, ⟨some 25, .bin .eql (.s 24) (.c (.int .i64 1)), some (19, true)⟩, ⟨some 26, .pick (.s 19) (.s 25) (.c (.bool false)), none⟩, ⟨some 27, .move (.s 26), none⟩, ⟨some 28, .fieldAddr (.s 1) 1, some (27, true)⟩, ⟨some 29, .load (.s 28), some (27, true)⟩, ⟨some 30, .indexAddr (.s 29) (.c (.int .i64 0)), some (27, true)⟩, ⟨some 31, .load (.s 30), some (27, true)⟩, ⟨some 32, .indexAddr (.s 31) (.c (.int .i64 0)), some (27, true)⟩, ⟨some 33, .load (.s 32), some (27, true)⟩, ⟨some 34, .bin .eql (.s 33) (.c (.int .i64 (-1))), some (27, true)⟩, ⟨some 35, .pick (.s 27) (.s 34) (.c (.bool false)), none⟩, ⟨some 0, .move (.s 35), none⟩] [0]) <|
    .ret
/-- bosket/bosketlaw08.Small -/
def v8 : VF where
  params := [tDFA]
  results := [.bool]
  ret := .bool
  tys := [tDFA, .ptr tDFA, .bool, .int .i64, .ptr (.slice (.slice (.int .i64))), .slice (.slice (.int .i64)), .int .i64, .bool, .bool, .ptr (.slice (.int .i64)), .slice (.int .i64), .int .i64, .bool, .bool, .int .i64, .ptr (.slice (.slice (.int .i64))), .slice (.slice (.int .i64)), .int .i64, .bool, .int .i64, .int .i64, .ptr (.slice (.slice (.int .i64))), .slice (.slice (.int .i64)), .int .i64, .ptr (.slice (.int .i64)), .slice (.int .i64), .int .i64, .bool]
  res := [.slot 2]
  ntmps := 28
  body :=
    .seq (.region false [⟨some 1, .box tDFA (.s 0), none⟩, ⟨some 2, .move (.c (.bool false)), none⟩] [1]) <|
    .seq (.seq (.region false [⟨some 4, .fieldAddr (.s 1) 1, none⟩, ⟨some 5, .load (.s 4), none⟩, ⟨some 6, .len (.s 5), none⟩, ⟨some 7, .bin .gtr (.s 6) (.c (.int .i64 20)), none⟩, ⟨some 8, .move (.s 7), none⟩, ⟨some 9, .fieldAddr (.s 1) 2, some (8, false)⟩, ⟨some 10, .load (.s 9), some (8, false)⟩, ⟨some 11, .len (.s 10), some (8, false)⟩, ⟨some 12, .bin .gtr (.s 11) (.c (.int .i64 30)), some (8, false)⟩, ⟨some 13, .pick (.s 8) (.c (.bool true)) (.s 12), none⟩] [1, 13]) <|
     .cond (.s 13) (.seq (.region false [⟨some 2, .move (.c (.bool false)), none⟩] [2]) <|
      .ret) (.skip)) <|
    .seq (.seq (.region false [⟨some 3, .move (.c (.int .i64 0)), none⟩] [1, 3]) <|
     .block 0 (.loop [1, 3] (.seq (.seq (.region false [⟨some 14, .move (.s 3), none⟩, ⟨some 15, .fieldAddr (.s 1) 1, none⟩, ⟨some 16, .load (.s 15), none⟩, ⟨some 17, .len (.s 16), none⟩, ⟨some 18, .bin .lss (.s 14) (.s 17), none⟩] [1, 3, 18]) <|
        .cond (.s 18) (.skip) (.exit 0)) <|
       .seq (.block 1 (.seq (.region false [⟨some 21, .fieldAddr (.s 1) 1, none⟩, ⟨some 22, .load (.s 21), none⟩, ⟨some 23, .move (.s 3), none⟩, ⟨some 24, .indexAddr (.s 22) (.s 23), none⟩, ⟨some 25, .load (.s 24), none⟩, ⟨some 26, .len (.s 25), none⟩, ⟨some 27, .bin .gtr (.s 26) (.c (.int .i64 256)), none⟩] [1, 3, 27]) <|
         .cond (.s 27) (.seq (.region false [⟨some 2, .move (.c (.bool false)), none⟩] [2]) <|
          .ret) (.skip))) <|
       .region false [⟨some 19, .move (.s 3), none⟩, ⟨some 20, .bin .add (.s 19) (.c (.int .i64 1)), none⟩, ⟨some 3, .move (.s 20), none⟩] [1, 3]))) <|
    .seq (.region false [⟨some 2, .move (.c (.bool true)), none⟩] [2]) <|
    .ret
/-- bosket/bosketref08.Right -/
def v9 : VF where
  params := [tDFA]
  results := [.bool]
  ret := .bool
  tys := [tDFA, .ptr tDFA, .bool, .int .i64, .int .i64, .int .i64, .ptr (.slice (.slice (.int .i64))), .slice (.slice (.int .i64)), .int .i64, .int .i64, .bool, .bool, .int .i64, .bool, .bool, .bool, .ptr (.slice (.int .i64)), .slice (.int .i64), .int .i64, .int .i64, .bool, .bool, .bool, tDFA, .bool, .bool, .bool, .int .i64, .int .i64, .bool, .int .i64, .int .i64, .ptr (.slice (.slice (.int .i64))), .slice (.slice (.int .i64)), .int .i64, .ptr (.slice (.int .i64)), .slice (.int .i64), .int .i64, tDFA, .int .i64, .bool, .bool, .ptr (.slice (.int .i64)), .slice (.int .i64), .int .i64, .ptr (.int .i64), .int .i64, .bool, .bool, .bool, .ptr (.slice (.int .i64)), .slice (.int .i64), .int .i64, .ptr (.int .i64), .int .i64, .bool, .bool, .int .i64, .ptr (.slice (.slice (.int .i64))), .slice (.slice (.int .i64)), .int .i64, .ptr (.slice (.int .i64)), .slice (.int .i64), .int .i64, .bool, .int .i64, .int .i64, .ptr (.slice (.slice (.int .i64))), .slice (.slice (.int .i64)), .int .i64, .ptr (.slice (.int .i64)), .slice (.int .i64), .int .i64, .ptr (.int .i64), .int .i64, .bool, .bool, .ptr (.slice (.slice (.int .i64))), .slice (.slice (.int .i64)), .int .i64, .ptr (.slice (.int .i64)), .slice (.int .i64), .int .i64, .ptr (.int .i64), .int .i64, .int .i64, .bool, .bool]
  res := [.slot 2]
  ntmps := 88
  body :=
    .seq (.region false [⟨some 1, .box tDFA (.s 0), none⟩, ⟨some 2, .move (.c (.bool false)), none⟩] [1]) <|
    .seq (.region false [⟨some 6, .fieldAddr (.s 1) 1, none⟩, ⟨some 7, .load (.s 6), none⟩, ⟨some 8, .len (.s 7), none⟩, ⟨some 3, .move (.s 8), none⟩] [1, 3]) <|
    .seq (.seq (.region false [⟨some 9, .move (.s 3), none⟩, ⟨some 10, .bin .lss (.s 9) (.c (.int .i64 1)), none⟩, ⟨some 11, .move (.s 10), none⟩, ⟨some 12, .move (.s 3), some (11, false)⟩, ⟨some 13, .bin .gtr (.s 12) (.c (.int .i64 32768)), some (11, false)⟩, ⟨some 14, .pick (.s 11) (.c (.bool true)) (.s 13), none⟩, ⟨some 15, .move (.s 14), none⟩, ⟨some 16, .fieldAddr (.s 1) 2, some (15, false)⟩, ⟨some 17, .load (.s 16), some (15, false)⟩, ⟨some 18, .len (.s 17), some (15, false)⟩, ⟨some 19, .move (.s 3), some (15, false)⟩, ⟨some 20, .bin .neq (.s 18) (.s 19), some (15, false)⟩, ⟨some 21, .pick (.s 15) (.c (.bool true)) (.s 20), none⟩, ⟨some 22, .move (.s 21), none⟩, ⟨some 23, .load (.s 1), some (22, false)⟩, ⟨some 24, .call 25 [.s 23] .bool, some (22, false)⟩, ⟨some 25, .un .not (.s 24), some (22, false)⟩, ⟨some 26, .pick (.s 22) (.c (.bool true)) (.s 25), none⟩] [1, 3, 26]) <|
     .cond (.s 26) (.seq (.region false [⟨some 2, .move (.c (.bool false)), none⟩] [2]) <|
      .ret) (.skip)) <|
    .seq (.seq (.region false [⟨some 4, .move (.c (.int .i64 0)), none⟩] [1, 3, 4]) <|
     .block 0 (.loop [1, 3, 4] (.seq (.seq (.region false [⟨some 27, .move (.s 4), none⟩, ⟨some 28, .move (.s 3), none⟩, ⟨some 29, .bin .lss (.s 27) (.s 28), none⟩] [1, 3, 4, 29]) <|
        .cond (.s 29) (.skip) (.exit 0)) <|
       .seq (.block 1 (.seq (.seq (.region true [⟨some 32, .fieldAddr (.s 1) 1, none⟩, ⟨some 33, .load (.s 32), none⟩, ⟨some 34, .move (.s 4), none⟩, ⟨some 35, .indexAddr (.s 33) (.s 34), none⟩, ⟨some 36, .load (.s 35), none⟩, ⟨some 37, .len (.s 36), none⟩, ⟨some 38, .load (.s 1), none⟩, ⟨some 39, .call 26 [.s 38] (.int .i64), none⟩, ⟨some 40, .bin .neq (.s 37) (.s 39), none⟩, ⟨some 41, .move (.s 40), none⟩, ⟨some 42, .fieldAddr (.s 1) 2, some (41, false)⟩, ⟨some 43, .load (.s 42), some (41, false)⟩, ⟨some 44, .move (.s 4), some (41, false)⟩, ⟨some 45, .indexAddr (.s 43) (.s 44), some (41, false)⟩, ⟨some 46, .load (.s 45), some (41, false)⟩, ⟨some 47, .bin .lss (.s 46) (.c (.int .i64 (-1))), some (41, false)⟩, ⟨some 48, .pick (.s 41) (.c (.bool true)) (.s 47), none⟩, ⟨some 49, .move (.s 48), none⟩, ⟨some 50, .fieldAddr (.s 1) 2, some (49, false)⟩, ⟨some 51, .load (.s 50), some (49, false)⟩, ⟨some 52, .move (.s 4), some (49, false)⟩, ⟨some 53, .indexAddr (.s 51) (.s 52), some (49, false)⟩, ⟨some 54, .load (.s 53), some (49, false)⟩, ⟨some 55, .bin .geq (.s 54) (.c (.int .i64 32768)), some (49, false)⟩, ⟨some 56, .pick (.s 49) (.c (.bool true)) (.s 55), none⟩] [1, 3, 4, 56]) <|
          .cond (.s 56) (.seq (.region false [⟨some 2, .move (.c (.bool false)), none⟩] [2]) <|
           .ret) (.skip)) <|
         .seq (.region false [⟨some 5, .move (.c (.int .i64 0)), none⟩] [1, 3, 4, 5]) <|
         .block 2 (.loop [1, 3, 4, 5] (.seq (.seq (.region false [⟨some 57, .move (.s 5), none⟩, ⟨some 58, .fieldAddr (.s 1) 1, none⟩, ⟨some 59, .load (.s 58), none⟩, ⟨some 60, .move (.s 4), none⟩, ⟨some 61, .indexAddr (.s 59) (.s 60), none⟩, ⟨some 62, .load (.s 61), none⟩, ⟨some 63, .len (.s 62), none⟩, ⟨some 64, .bin .lss (.s 57) (.s 63), none⟩] [1, 3, 4, 5, 64]) <|
            .cond (.s 64) (.skip) (.exit 2)) <|
           .seq (.block 3 (.seq (.region false [⟨some 67, .fieldAddr (.s 1) 1, none⟩, ⟨some 68, .load (.s 67), none⟩, ⟨some 69, .move (.s 4), none⟩, ⟨some 70, .indexAddr (.s 68) (.s 69), none⟩, ⟨some 71, .load (.s 70), none⟩, ⟨some 72, .move (.s 5), none⟩, ⟨some 73, .indexAddr (.s 71) (.s 72), none⟩, ⟨some 74, .load (.s 73), none⟩, ⟨some 75, .bin .lss (.s 74) (.c (.int .i64 (-1))), none⟩, ⟨some 76, .move (.s 75), none⟩, ⟨some 77, .fieldAddr (.s 1) 1, some (76, false)⟩, ⟨some 78, .load (.s 77), some (76, false)⟩, ⟨some 79, .move (.s 4), some (76, false)⟩, ⟨some 80, .indexAddr (.s 78) (.s 79), some (76, false)⟩, ⟨some 81, .load (.s 80), some (76, false)⟩, ⟨some 82, .move (.s 5), some (76, false)⟩, ⟨some 83, .indexAddr (.s 81) (.s 82), some (76, false)⟩, ⟨some 84, .load (.s 83), some (76, false)⟩, ⟨some 85, .move (.s 3), some (76, false)⟩, ⟨some 86, .bin .geq (.s 84) (.s 85), some (76, false)⟩, ⟨some 87, .pick (.s 76) (.c (.bool true)) (.s 86), none⟩] [1, 3, 4, 5, 87]) <|
             .cond (.s 87) (.seq (.region false [⟨some 2, .move (.c (.bool false)), none⟩] [2]) <|
              .ret) (.skip))) <|
           .region false [⟨some 65, .move (.s 5), none⟩, ⟨some 66, .bin .add (.s 65) (.c (.int .i64 1)), none⟩, ⟨some 5, .move (.s 66), none⟩] [1, 3, 4, 5])))) <|
       .region false [⟨some 30, .move (.s 4), none⟩, ⟨some 31, .bin .add (.s 30) (.c (.int .i64 1)), none⟩, ⟨some 4, .move (.s 31), none⟩] [1, 3, 4]))) <|
    .seq (.region false [⟨some 2, .move (.c (.bool true)), none⟩] [2]) <|
    .ret
/-- bosket/mini.Of -/
def v10 : VF where
  params := [tDFA]
  results := [tDFA, .int .i64]
  ret := .tup [tDFA, .int .i64]
  tys := [tDFA, .ptr tDFA, .ptr tDFA, .int .i64, .slice (.int .i64), .ptr tDFA, .int .i64, .slice (.int .i64), .bool, .int .i64, tDFA, .bool, .bool, tDFA, tDFA, tDFA, tDFA, tDFA, .slice (.int .i64), .ptr (.arr 256 (.int .u8)), .arr 256 (.int .u8), tDFA, .ptr (.slice (.slice (.int .i64))), .slice (.slice (.int .i64)), .int .i64, .int .i64, .bool, .int .i64, .slice (.int .i64), .int .i64, .ptr (.int .i64), .int .i64, .ptr (.slice (.slice (.int .i64))), .slice (.slice (.int .i64)), .int .i64, .bool, .ptr (.slice (.slice (.int .i64))), .slice (.slice (.int .i64)), .int .i64, .ptr (.slice (.int .i64)), .slice (.int .i64), .int .i64, .int .i64, .bool, .ptr (.int .i64), .int .i64, .int .i64, .bool, .slice (.int .i64), .int .i64, .ptr (.int .i64), .int .i64, .slice (.int .i64), .int .i64, .slice (.int .i64), .slice (.int .i64), .int .i64, .ptr (.slice (.slice (.int .i64))), .slice (.slice (.int .i64)), .slice (.int .i64), .slice (.slice (.int .i64)), .slice (.slice (.int .i64)), .ptr (.slice (.slice (.int .i64))), .ptr (.slice (.int .i64)), .slice (.int .i64), .ptr (.slice (.int .i64)), .slice (.int .i64), .int .i64, .ptr (.int .i64), .int .i64, .slice (.int .i64), .slice (.int .i64), .ptr (.slice (.int .i64)), .int .i64, tDFA, tDFA, tDFA]
  res := [.cell 2, .slot 3]
  ntmps := 77
  body :=
    .seq (.region false [⟨some 1, .box tDFA (.s 0), none⟩, ⟨some 2, .alloc tDFA, none⟩, ⟨some 3, .move (.c (.int .i64 0)), none⟩] [1, 2]) <|
    .seq (.seq (.region false [⟨some 10, .load (.s 1), none⟩, ⟨some 11, .call 27 [.s 10] .bool, none⟩, ⟨some 12, .un .not (.s 11), none⟩] [1, 2, 12]) <|
     .cond (.s 12) (.seq (.region false [⟨some 13, .build tDFA [], none⟩, ⟨none, .store (.s 2) (.s 13), none⟩, ⟨some 3, .move (.c (.int .i64 1)), none⟩] [2, 3]) <|
      .ret) (.skip)) <|
    .seq (.region false [⟨some 14, .load (.s 1), none⟩, ⟨some 15, .call 29 [.s 14] tDFA, none⟩, ⟨some 16, .call 28 [.s 15] tDFA, none⟩, ⟨none, .store (.s 1) (.s 16), none⟩] [1, 2]) <|
    .seq (.region false [⟨some 17, .load (.s 1), none⟩, ⟨some 18, .call 11 [.s 17] (.slice (.int .i64)), none⟩, ⟨some 4, .move (.s 18), none⟩] [1, 2, 4]) <|
    .seq (.region false [⟨some 19, .fieldAddr (.s 1) 0, none⟩, ⟨some 20, .load (.s 19), none⟩, ⟨some 21, .build tDFA [(0, .s 20)], none⟩, ⟨some 5, .alloc tDFA, none⟩, ⟨none, .store (.s 5) (.s 21), none⟩] [1, 2, 4, 5]) <|
    .seq (.seq (.region false [⟨some 22, .fieldAddr (.s 1) 1, none⟩, ⟨some 23, .load (.s 22), none⟩, ⟨some 24, .len (.s 23), none⟩, ⟨some 25, .move (.c (.int .i64 0)), none⟩] [1, 2, 4, 5, 24, 25]) <|
     .block 0 (.loop [1, 2, 4, 5, 24, 25] (.seq (.region false [⟨some 26, .bin .lss (.s 25) (.s 24), none⟩] [1, 2, 4, 5, 24, 25, 26]) <|
       .seq (.cond (.s 26) (.skip) (.exit 0)) <|
       .seq (.block 1 (.seq (.region false [⟨some 27, .move (.s 25), none⟩, ⟨some 6, .move (.s 27), none⟩] [1, 2, 4, 5, 6, 24, 25]) <|
         .seq (.seq (.region true [⟨some 28, .move (.s 4), none⟩, ⟨some 29, .move (.s 6), none⟩, ⟨some 30, .indexAddr (.s 28) (.s 29), none⟩, ⟨some 31, .load (.s 30), none⟩, ⟨some 32, .fieldAddr (.s 5) 1, none⟩, ⟨some 33, .load (.s 32), none⟩, ⟨some 34, .len (.s 33), none⟩, ⟨some 35, .bin .neq (.s 31) (.s 34), none⟩] [1, 2, 4, 5, 6, 24, 25, 35]) <|
          .cond (.s 35) (.exit 1) (.skip)) <|
         .seq (.region false [⟨some 7, .move (.c .nil), none⟩] [1, 2, 4, 5, 6, 7, 24, 25]) <|
         .seq (.seq (.region false [⟨some 36, .fieldAddr (.s 1) 1, none⟩, ⟨some 37, .load (.s 36), none⟩, ⟨some 38, .move (.s 6), none⟩, ⟨some 39, .indexAddr (.s 37) (.s 38), none⟩, ⟨some 40, .load (.s 39), none⟩, ⟨some 41, .len (.s 40), none⟩, ⟨some 42, .move (.c (.int .i64 0)), none⟩] [1, 2, 4, 5, 6, 7, 24, 25, 40, 41, 42]) <|
          .block 2 (.loop [1, 2, 4, 5, 6, 7, 24, 25, 40, 41, 42] (.seq (.region false [⟨some 43, .bin .lss (.s 42) (.s 41), none⟩] [1, 2, 4, 5, 6, 7, 24, 25, 40, 41, 42, 43]) <|
            .seq (.cond (.s 43) (.skip) (.exit 2)) <|
            .seq (.block 3 (.seq (.region false [⟨some 44, .indexAddr (.s 40) (.s 42), none⟩, ⟨some 45, .load (.s 44), none⟩, ⟨some 9, .move (.s 45), none⟩] [1, 2, 4, 5, 6, 7, 9, 24, 25, 40, 41, 42]) <|
              .seq (.seq (.region false [⟨some 46, .move (.s 9), none⟩, ⟨some 47, .bin .geq (.s 46) (.c (.int .i64 0)), none⟩] [1, 2, 4, 5, 6, 7, 9, 24, 25, 40, 41, 42, 47]) <|
               .cond (.s 47) (.region false [⟨some 48, .move (.s 4), none⟩, ⟨some 49, .move (.s 9), none⟩, ⟨some 50, .indexAddr (.s 48) (.s 49), none⟩, ⟨some 51, .load (.s 50), none⟩, ⟨some 9, .move (.s 51), none⟩] [1, 2, 4, 5, 6, 7, 9, 24, 25, 40, 41, 42]) (.skip)) <|
              .region false [⟨some 52, .move (.s 7), none⟩, ⟨some 53, .move (.s 9), none⟩, ⟨some 54, .buildSlice (.int .i64) 1 [(0, .s 53)], none⟩, ⟨some 55, .append 8 (.s 52) (.s 54), none⟩, ⟨some 7, .move (.s 55), none⟩] [1, 2, 4, 5, 6, 7, 24, 25, 40, 41, 42])) <|
            .region false [⟨some 56, .bin .add (.s 42) (.c (.int .i64 1)), none⟩, ⟨some 42, .move (.s 56), none⟩] [1, 2, 4, 5, 6, 7, 24, 25, 40, 41, 42]))) <|
         .seq (.region false [⟨some 57, .fieldAddr (.s 5) 1, none⟩, ⟨some 58, .load (.s 57), none⟩, ⟨some 59, .move (.s 7), none⟩, ⟨some 60, .buildSlice (.slice (.int .i64)) 1 [(0, .s 59)], none⟩, ⟨some 61, .append 24 (.s 58) (.s 60), none⟩, ⟨some 62, .fieldAddr (.s 5) 1, none⟩, ⟨none, .store (.s 62) (.s 61), none⟩] [1, 2, 4, 5, 6, 24, 25]) <|
         .region true [⟨some 63, .fieldAddr (.s 5) 2, none⟩, ⟨some 64, .load (.s 63), none⟩, ⟨some 65, .fieldAddr (.s 1) 2, none⟩, ⟨some 66, .load (.s 65), none⟩, ⟨some 67, .move (.s 6), none⟩, ⟨some 68, .indexAddr (.s 66) (.s 67), none⟩, ⟨some 69, .load (.s 68), none⟩, ⟨some 70, .buildSlice (.int .i64) 1 [(0, .s 69)], none⟩, ⟨some 71, .append 8 (.s 64) (.s 70), none⟩, ⟨some 72, .fieldAddr (.s 5) 2, none⟩, ⟨none, .store (.s 72) (.s 71), none⟩] [1, 2, 4, 5, 24, 25])) <|
       .region false [⟨some 73, .bin .add (.s 25) (.c (.int .i64 1)), none⟩, ⟨some 25, .move (.s 73), none⟩] [1, 2, 4, 5, 24, 25]))) <|
    .seq (.region false [⟨some 74, .load (.s 5), none⟩, ⟨some 75, .call 30 [.s 74] tDFA, none⟩, ⟨some 76, .call 28 [.s 75] tDFA, none⟩, ⟨none, .store (.s 2) (.s 76), none⟩, ⟨some 3, .move (.c (.int .i64 0)), none⟩] [2, 3]) <|
    .ret
/-- bosket/mini.Blocks -/
def v11 : VF where
  params := [tDFA]
  results := [.slice (.int .i64)]
  ret := .slice (.int .i64)
  tys := [tDFA, .ptr tDFA, .slice (.int .i64), .slice (.int .i64), .int .i64, .slice (.int .i64), .int .i64, tDFA, .bool, .bool, .tup [.slice (.int .i64), .int .i64], tDFA, tDFA, .slice (.int .i64), .tup [.slice (.int .i64), .int .i64], .slice (.int .i64), .int .i64, .tup [.slice (.int .i64), .int .i64], tDFA, .slice (.int .i64), .tup [.slice (.int .i64), .int .i64], .slice (.int .i64), .int .i64, .slice (.int .i64), .int .i64, .int .i64, .bool, .slice (.int .i64), .ptr (.slice (.slice (.int .i64))), .slice (.slice (.int .i64)), .int .i64, .slice (.int .i64), .int .i64]
  res := [.slot 2]
  ntmps := 33
  body :=
    .seq (.region false [⟨some 1, .box tDFA (.s 0), none⟩, ⟨some 2, .move (.c .nil), none⟩] [1]) <|
    .seq (.seq (.region false [⟨some 7, .load (.s 1), none⟩, ⟨some 8, .call 27 [.s 7] .bool, none⟩, ⟨some 9, .un .not (.s 8), none⟩] [1, 9]) <|
     .cond (.s 9) (.seq (.region false [⟨some 2, .move (.c .nil), none⟩] [2]) <|
      .ret) (.skip)) <|
    .seq (.region true [⟨some 11, .load (.s 1), none⟩, ⟨some 12, .load (.s 1), none⟩, ⟨some 13, .call 32 [.s 12] (.slice (.int .i64)), none⟩, ⟨some 14, .call 31 [.s 11, .s 13] (.tup [.slice (.int .i64), .int .i64]), none⟩, ⟨some 10, .move (.s 14), none⟩, ⟨some 15, .extract (.s 10) 0, none⟩, ⟨some 16, .extract (.s 10) 1, none⟩, ⟨some 3, .move (.s 15), none⟩, ⟨some 4, .move (.s 16), none⟩] [1, 3, 4]) <|
    .block 0 (.loop [1, 3, 4] (.block 1 (.seq (.region false [⟨some 18, .load (.s 1), none⟩, ⟨some 19, .move (.s 3), none⟩, ⟨some 20, .call 31 [.s 18, .s 19] (.tup [.slice (.int .i64), .int .i64]), none⟩, ⟨some 17, .move (.s 20), none⟩, ⟨some 21, .extract (.s 17) 0, none⟩, ⟨some 22, .extract (.s 17) 1, none⟩, ⟨some 5, .move (.s 21), none⟩, ⟨some 6, .move (.s 22), none⟩] [1, 4, 5, 6]) <|
       .seq (.region false [⟨some 23, .move (.s 5), none⟩, ⟨some 3, .move (.s 23), none⟩] [1, 3, 4, 6]) <|
       .seq (.seq (.region false [⟨some 24, .move (.s 6), none⟩, ⟨some 25, .move (.s 4), none⟩, ⟨some 26, .bin .eql (.s 24) (.s 25), none⟩] [1, 3, 6, 26]) <|
        .cond (.s 26) (.seq (.region false [⟨some 27, .move (.s 3), none⟩, ⟨some 28, .fieldAddr (.s 1) 1, none⟩, ⟨some 29, .load (.s 28), none⟩, ⟨some 30, .len (.s 29), none⟩, ⟨some 31, .slice (.s 27) none (some (.s 30)), none⟩, ⟨some 2, .move (.s 31), none⟩] [2]) <|
         .ret) (.skip)) <|
       .region false [⟨some 32, .move (.s 6), none⟩, ⟨some 4, .move (.s 32), none⟩] [1, 3, 4])))
/-- bosket/bosketref08.Same -/
def v14 : VF where
  params := [tDFA, tDFA]
  results := [.bool]
  ret := .bool
  tys := [tDFA, tDFA, .ptr tDFA, .ptr tDFA, .bool, .int .i64, .int .i64, .int .i64, .ptr (.arr 256 (.int .u8)), .arr 256 (.int .u8), .ptr (.arr 256 (.int .u8)), .arr 256 (.int .u8), .bool, .bool, .ptr (.slice (.slice (.int .i64))), .slice (.slice (.int .i64)), .int .i64, .ptr (.slice (.slice (.int .i64))), .slice (.slice (.int .i64)), .int .i64, .bool, .bool, .bool, .ptr (.slice (.int .i64)), .slice (.int .i64), .int .i64, .ptr (.slice (.int .i64)), .slice (.int .i64), .int .i64, .bool, .bool, .int .i64, .ptr (.slice (.int .i64)), .slice (.int .i64), .int .i64, .bool, .int .i64, .int .i64, .ptr (.slice (.int .i64)), .slice (.int .i64), .int .i64, .ptr (.int .i64), .int .i64, .ptr (.slice (.int .i64)), .slice (.int .i64), .int .i64, .ptr (.int .i64), .int .i64, .bool, .int .i64, .ptr (.slice (.slice (.int .i64))), .slice (.slice (.int .i64)), .int .i64, .bool, .int .i64, .int .i64, .ptr (.slice (.slice (.int .i64))), .slice (.slice (.int .i64)), .int .i64, .ptr (.slice (.int .i64)), .slice (.int .i64), .int .i64, .ptr (.slice (.slice (.int .i64))), .slice (.slice (.int .i64)), .int .i64, .ptr (.slice (.int .i64)), .slice (.int .i64), .int .i64, .bool, .int .i64, .ptr (.slice (.slice (.int .i64))), .slice (.slice (.int .i64)), .int .i64, .ptr (.slice (.int .i64)), .slice (.int .i64), .int .i64, .bool, .int .i64, .int .i64, .ptr (.slice (.slice (.int .i64))), .slice (.slice (.int .i64)), .int .i64, .ptr (.slice (.int .i64)), .slice (.int .i64), .int .i64, .ptr (.int .i64), .int .i64, .ptr (.slice (.slice (.int .i64))), .slice (.slice (.int .i64)), .int .i64, .ptr (.slice (.int .i64)), .slice (.int .i64), .int .i64, .ptr (.int .i64), .int .i64, .bool]
  res := [.slot 4]
  ntmps := 96
  body :=
    .seq (.region false [⟨some 2, .box tDFA (.s 0), none⟩, ⟨some 3, .box tDFA (.s 1), none⟩, ⟨some 4, .move (.c (.bool false)), none⟩] [2, 3]) <|
    .seq (.seq (.region false [⟨some 8, .fieldAddr (.s 2) 0, none⟩, ⟨some 9, .load (.s 8), none⟩, ⟨some 10, .fieldAddr (.s 3) 0, none⟩, ⟨some 11, .load (.s 10), none⟩, ⟨some 12, .bin .neq (.s 9) (.s 11), none⟩, ⟨some 13, .move (.s 12), none⟩, ⟨some 14, .fieldAddr (.s 2) 1, some (13, false)⟩, ⟨some 15, .load (.s 14), some (13, false)⟩, ⟨some 16, .len (.s 15), some (13, false)⟩, ⟨some 17, .fieldAddr (.s 3) 1, some (13, false)⟩, ⟨some 18, .load (.s 17), some (13, false)⟩, ⟨some 19, .len (.s 18), some (13, false)⟩, ⟨some 20, .bin .neq (.s 16) (.s 19), some (13, false)⟩, ⟨some 21, .pick (.s 13) (.c (.bool true)) (.s 20), none⟩, ⟨some 22, .move (.s 21), none⟩, ⟨some 23, .fieldAddr (.s 2) 2, some (22, false)⟩, ⟨some 24, .load (.s 23), some (22, false)⟩, ⟨some 25, .len (.s 24), some (22, false)⟩, ⟨some 26, .fieldAddr (.s 3) 2, some (22, false)⟩, ⟨some 27, .load (.s 26), some (22, false)⟩, ⟨some 28, .len (.s 27), some (22, false)⟩, ⟨some 29, .bin .neq (.s 25) (.s 28), some (22, false)⟩, ⟨some 30, .pick (.s 22) (.c (.bool true)) (.s 29), none⟩] [2, 3, 30]) <|
     .cond (.s 30) (.seq (.region false [⟨some 4, .move (.c (.bool false)), none⟩] [4]) <|
      .ret) (.skip)) <|
    .seq (.seq (.region false [⟨some 5, .move (.c (.int .i64 0)), none⟩] [2, 3, 5]) <|
     .block 0 (.loop [2, 3, 5] (.seq (.seq (.region false [⟨some 31, .move (.s 5), none⟩, ⟨some 32, .fieldAddr (.s 2) 2, none⟩, ⟨some 33, .load (.s 32), none⟩, ⟨some 34, .len (.s 33), none⟩, ⟨some 35, .bin .lss (.s 31) (.s 34), none⟩] [2, 3, 5, 35]) <|
        .cond (.s 35) (.skip) (.exit 0)) <|
       .seq (.block 1 (.seq (.region true [⟨some 38, .fieldAddr (.s 2) 2, none⟩, ⟨some 39, .load (.s 38), none⟩, ⟨some 40, .move (.s 5), none⟩, ⟨some 41, .indexAddr (.s 39) (.s 40), none⟩, ⟨some 42, .load (.s 41), none⟩, ⟨some 43, .fieldAddr (.s 3) 2, none⟩, ⟨some 44, .load (.s 43), none⟩, ⟨some 45, .move (.s 5), none⟩, ⟨some 46, .indexAddr (.s 44) (.s 45), none⟩, ⟨some 47, .load (.s 46), none⟩, ⟨some 48, .bin .neq (.s 42) (.s 47), none⟩] [2, 3, 5, 48]) <|
         .cond (.s 48) (.seq (.region false [⟨some 4, .move (.c (.bool false)), none⟩] [4]) <|
          .ret) (.skip))) <|
       .region false [⟨some 36, .move (.s 5), none⟩, ⟨some 37, .bin .add (.s 36) (.c (.int .i64 1)), none⟩, ⟨some 5, .move (.s 37), none⟩] [2, 3, 5]))) <|
    .seq (.seq (.region false [⟨some 6, .move (.c (.int .i64 0)), none⟩] [2, 3, 6]) <|
     .block 2 (.loop [2, 3, 6] (.seq (.seq (.region false [⟨some 49, .move (.s 6), none⟩, ⟨some 50, .fieldAddr (.s 2) 1, none⟩, ⟨some 51, .load (.s 50), none⟩, ⟨some 52, .len (.s 51), none⟩, ⟨some 53, .bin .lss (.s 49) (.s 52), none⟩] [2, 3, 6, 53]) <|
        .cond (.s 53) (.skip) (.exit 2)) <|
       .seq (.block 3 (.seq (.seq (.region true [⟨some 56, .fieldAddr (.s 2) 1, none⟩, ⟨some 57, .load (.s 56), none⟩, ⟨some 58, .move (.s 6), none⟩, ⟨some 59, .indexAddr (.s 57) (.s 58), none⟩, ⟨some 60, .load (.s 59), none⟩, ⟨some 61, .len (.s 60), none⟩, ⟨some 62, .fieldAddr (.s 3) 1, none⟩, ⟨some 63, .load (.s 62), none⟩, ⟨some 64, .move (.s 6), none⟩, ⟨some 65, .indexAddr (.s 63) (.s 64), none⟩, ⟨some 66, .load (.s 65), none⟩, ⟨some 67, .len (.s 66), none⟩, ⟨some 68, .bin .neq (.s 61) (.s 67), none⟩] [2, 3, 6, 68]) <|
          .cond (.s 68) (.seq (.region false [⟨some 4, .move (.c (.bool false)), none⟩] [4]) <|
           .ret) (.skip)) <|
         .seq (.region false [⟨some 7, .move (.c (.int .i64 0)), none⟩] [2, 3, 6, 7]) <|
         .block 4 (.loop [2, 3, 6, 7] (.seq (.seq (.region false [⟨some 69, .move (.s 7), none⟩, ⟨some 70, .fieldAddr (.s 2) 1, none⟩, ⟨some 71, .load (.s 70), none⟩, ⟨some 72, .move (.s 6), none⟩, ⟨some 73, .indexAddr (.s 71) (.s 72), none⟩, ⟨some 74, .load (.s 73), none⟩, ⟨some 75, .len (.s 74), none⟩, ⟨some 76, .bin .lss (.s 69) (.s 75), none⟩] [2, 3, 6, 7, 76]) <|
            .cond (.s 76) (.skip) (.exit 4)) <|
           .seq (.block 5 (.seq (.region true [⟨some 79, .fieldAddr (.s 2) 1, none⟩, ⟨some 80, .load (.s 79), none⟩, ⟨some 81, .move (.s 6), none⟩, ⟨some 82, .indexAddr (.s 80) (.s 81), none⟩, ⟨some 83, .load (.s 82), none⟩, ⟨some 84, .move (.s 7), none⟩, ⟨some 85, .indexAddr (.s 83) (.s 84), none⟩, ⟨some 86, .load (.s 85), none⟩, ⟨some 87, .fieldAddr (.s 3) 1, none⟩, ⟨some 88, .load (.s 87), none⟩, ⟨some 89, .move (.s 6), none⟩, ⟨some 90, .indexAddr (.s 88) (.s 89), none⟩, ⟨some 91, .load (.s 90), none⟩, ⟨some 92, .move (.s 7), none⟩, ⟨some 93, .indexAddr (.s 91) (.s 92), none⟩, ⟨some 94, .load (.s 93), none⟩, ⟨some 95, .bin .neq (.s 86) (.s 94), none⟩] [2, 3, 6, 7, 95]) <|
             .cond (.s 95) (.seq (.region false [⟨some 4, .move (.c (.bool false)), none⟩] [4]) <|
              .ret) (.skip))) <|
           .region false [⟨some 77, .move (.s 7), none⟩, ⟨some 78, .bin .add (.s 77) (.c (.int .i64 1)), none⟩, ⟨some 7, .move (.s 78), none⟩] [2, 3, 6, 7])))) <|
       .region false [⟨some 54, .move (.s 6), none⟩, ⟨some 55, .bin .add (.s 54) (.c (.int .i64 1)), none⟩, ⟨some 6, .move (.s 55), none⟩] [2, 3, 6]))) <|
    .seq (.region false [⟨some 4, .move (.c (.bool true)), none⟩] [4]) <|
    .ret
/-- bosket/bosketref08.gapless -/
def v25 : VF where
  params := [tDFA]
  results := [.bool]
  ret := .bool
  tys := [tDFA, .ptr tDFA, .bool, .int .i64, .bool, .int .i64, .int .i64, tDFA, .int .i64, .bool, .int .i64, .int .i64, .int .i64, .bool, .int .i64, .int .i64, .bool, .bool, .int .i64, .ptr (.arr 256 (.int .u8)), .ptr (.int .u8), .int .u8, .int .i64, .int .i64, .bool, .bool, .bool, .bool]
  res := [.slot 2]
  ntmps := 28
  body :=
    .seq (.region false [⟨some 1, .box tDFA (.s 0), none⟩, ⟨some 2, .move (.c (.bool false)), none⟩] [1]) <|
    .seq (.seq (.region false [⟨some 3, .move (.c (.int .i64 0)), none⟩] [1, 3]) <|
     .block 0 (.loop [1, 3] (.seq (.seq (.region false [⟨some 6, .move (.s 3), none⟩, ⟨some 7, .load (.s 1), none⟩, ⟨some 8, .call 26 [.s 7] (.int .i64), none⟩, ⟨some 9, .bin .lss (.s 6) (.s 8), none⟩] [1, 3, 9]) <|
        .cond (.s 9) (.skip) (.exit 0)) <|
       .seq (.block 1 (.seq (.region false [⟨some 4, .move (.c (.bool false)), none⟩] [1, 3, 4]) <|
         .seq (.seq (.region false [⟨some 5, .move (.c (.int .i64 0)), none⟩] [1, 3, 4, 5]) <|
          .block 2 (.loop [1, 3, 4, 5] (.seq (.seq (.region false [⟨some 12, .move (.s 5), none⟩, ⟨some 13, .bin .lss (.s 12) (.c (.int .i64 256)), none⟩] [1, 3, 4, 5, 13]) <|
             .cond (.s 13) (.skip) (.exit 2)) <|
            .seq (.block 3 (.region false [⟨some 16, .move (.s 4), none⟩, ⟨some 17, .move (.s 16), none⟩, ⟨some 18, .move (.s 5), some (17, false)⟩, ⟨some 19, .fieldAddr (.s 1) 0, some (17, false)⟩, ⟨some 20, .indexAddr (.s 19) (.s 18), some (17, false)⟩, ⟨some 21, .load (.s 20), some (17, false)⟩, ⟨some 22, .convInt .i64 (.s 21), some (17, false)⟩, ⟨some 23, .move (.s 3), some (17, false)⟩, ⟨some 24, .bin .eql (.s 22) (.s 23), some (17, false)⟩, ⟨some 25, .pick (.s 17) (.c (.bool true)) (.s 24), none⟩, ⟨some 4, .move (.s 25), none⟩] [1, 3, 4, 5])) <|
            .region false [⟨some 14, .move (.s 5), none⟩, ⟨some 15, .bin .add (.s 14) (.c (.int .i64 1)), none⟩, ⟨some 5, .move (.s 15), none⟩] [1, 3, 4, 5]))) <|
         .seq (.region false [⟨some 26, .move (.s 4), none⟩, ⟨some 27, .un .not (.s 26), none⟩] [1, 3, 27]) <|
         .cond (.s 27) (.seq (.region false [⟨some 2, .move (.c (.bool false)), none⟩] [2]) <|
          .ret) (.skip))) <|
       .region false [⟨some 10, .move (.s 3), none⟩, ⟨some 11, .bin .add (.s 10) (.c (.int .i64 1)), none⟩, ⟨some 3, .move (.s 11), none⟩] [1, 3]))) <|
    .seq (.region false [⟨some 2, .move (.c (.bool true)), none⟩] [2]) <|
    .ret
/-- bosket/bosketref08.classes -/
def v26 : VF where
  params := [tDFA]
  results := [.int .i64]
  ret := .int .i64
  tys := [tDFA, .ptr tDFA, .int .i64, .int .i64, .int .i64, .int .i64, .bool, .int .i64, .int .i64, .int .i64, .int .i64, .ptr (.arr 256 (.int .u8)), .ptr (.int .u8), .int .u8, .int .i64, .int .i64, .int .i64, .int .i64]
  res := [.slot 2]
  ntmps := 18
  body :=
    .seq (.region false [⟨some 1, .box tDFA (.s 0), none⟩, ⟨some 2, .move (.c (.int .i64 0)), none⟩] [1]) <|
    .seq (.region false [⟨some 3, .move (.c (.int .i64 0)), none⟩] [1, 3]) <|
    .seq (.seq (.region false [⟨some 4, .move (.c (.int .i64 0)), none⟩] [1, 3, 4]) <|
     .block 0 (.loop [1, 3, 4] (.seq (.seq (.region false [⟨some 5, .move (.s 4), none⟩, ⟨some 6, .bin .lss (.s 5) (.c (.int .i64 256)), none⟩] [1, 3, 4, 6]) <|
        .cond (.s 6) (.skip) (.exit 0)) <|
       .seq (.block 1 (.region false [⟨some 9, .move (.s 3), none⟩, ⟨some 10, .move (.s 4), none⟩, ⟨some 11, .fieldAddr (.s 1) 0, none⟩, ⟨some 12, .indexAddr (.s 11) (.s 10), none⟩, ⟨some 13, .load (.s 12), none⟩, ⟨some 14, .convInt .i64 (.s 13), none⟩, ⟨some 15, .bin .add (.s 14) (.c (.int .i64 1)), none⟩, ⟨some 16, .minmax true (.s 9) (.s 15), none⟩, ⟨some 3, .move (.s 16), none⟩] [1, 3, 4])) <|
       .region false [⟨some 7, .move (.s 4), none⟩, ⟨some 8, .bin .add (.s 7) (.c (.int .i64 1)), none⟩, ⟨some 4, .move (.s 8), none⟩] [1, 3, 4]))) <|
    .seq (.region false [⟨some 17, .move (.s 3), none⟩, ⟨some 2, .move (.s 17), none⟩] [2]) <|
    .ret
/-- bosket/dfa.Right -/
def v27 : VF where
  params := [tDFA]
  results := [.bool]
  ret := .bool
  tys := [tDFA, .ptr tDFA, .bool, .int .i64, .int .i64, .int .i64, .slice (.int .i64), .bool, .int .i64, .ptr (.slice (.slice (.int .i64))), .slice (.slice (.int .i64)), .int .i64, .int .i64, .bool, .bool, .int .i64, .bool, .bool, .bool, .ptr (.slice (.int .i64)), .slice (.int .i64), .int .i64, .int .i64, .bool, .bool, .ptr (.arr 256 (.int .u8)), .arr 256 (.int .u8), .int .i64, .ptr (.arr 256 (.int .u8)), .arr 256 (.int .u8), .int .i64, .bool, .bool, .ptr (.slice (.slice (.int .i64))), .slice (.slice (.int .i64)), .int .i64, .int .i64, .bool, .int .i64, .ptr (.slice (.int .i64)), .slice (.int .i64), .slice (.int .i64), .int .i64, .int .i64, .bool, .bool, .ptr (.slice (.int .i64)), .slice (.int .i64), .int .i64, .ptr (.int .i64), .int .i64, .bool, .bool, .bool, .ptr (.slice (.int .i64)), .slice (.int .i64), .int .i64, .ptr (.int .i64), .int .i64, .bool, .bool, .slice (.int .i64), .int .i64, .int .i64, .bool, .ptr (.int .i64), .int .i64, .int .i64, .bool, .bool, .int .i64, .int .i64, .bool, .bool, .int .i64, .int .i64]
  res := [.slot 2]
  ntmps := 76
  body :=
    .seq (.region false [⟨some 1, .box tDFA (.s 0), none⟩, ⟨some 2, .move (.c (.bool false)), none⟩] [1]) <|
    .seq (.region false [⟨some 9, .fieldAddr (.s 1) 1, none⟩, ⟨some 10, .load (.s 9), none⟩, ⟨some 11, .len (.s 10), none⟩, ⟨some 3, .move (.s 11), none⟩] [1, 3]) <|
    .seq (.seq (.region false [⟨some 12, .move (.s 3), none⟩, ⟨some 13, .bin .eql (.s 12) (.c (.int .i64 0)), none⟩, ⟨some 14, .move (.s 13), none⟩, ⟨some 15, .move (.s 3), some (14, false)⟩, ⟨some 16, .bin .gtr (.s 15) (.c (.int .i64 32768)), some (14, false)⟩, ⟨some 17, .pick (.s 14) (.c (.bool true)) (.s 16), none⟩, ⟨some 18, .move (.s 17), none⟩, ⟨some 19, .fieldAddr (.s 1) 2, some (18, false)⟩, ⟨some 20, .load (.s 19), some (18, false)⟩, ⟨some 21, .len (.s 20), some (18, false)⟩, ⟨some 22, .move (.s 3), some (18, false)⟩, ⟨some 23, .bin .neq (.s 21) (.s 22), some (18, false)⟩, ⟨some 24, .pick (.s 18) (.c (.bool true)) (.s 23), none⟩] [1, 3, 24]) <|
     .cond (.s 24) (.seq (.region false [⟨some 2, .move (.c (.bool false)), none⟩] [2]) <|
      .ret) (.skip)) <|
    .seq (.region false [⟨some 25, .fieldAddr (.s 1) 0, none⟩, ⟨some 26, .load (.s 25), none⟩, ⟨some 27, .call 42 [.s 26] (.int .i64), none⟩, ⟨some 4, .move (.s 27), none⟩] [1, 3, 4]) <|
    .seq (.seq (.region false [⟨some 28, .fieldAddr (.s 1) 0, none⟩, ⟨some 29, .load (.s 28), none⟩, ⟨some 30, .move (.s 4), none⟩, ⟨some 31, .call 43 [.s 29, .s 30] .bool, none⟩, ⟨some 32, .un .not (.s 31), none⟩] [1, 3, 4, 32]) <|
     .cond (.s 32) (.seq (.region false [⟨some 2, .move (.c (.bool false)), none⟩] [2]) <|
      .ret) (.skip)) <|
    .seq (.seq (.region false [⟨some 33, .fieldAddr (.s 1) 1, none⟩, ⟨some 34, .load (.s 33), none⟩, ⟨some 35, .len (.s 34), none⟩, ⟨some 36, .move (.c (.int .i64 0)), none⟩] [1, 3, 4, 34, 35, 36]) <|
     .block 0 (.loop [1, 3, 4, 34, 35, 36] (.seq (.region false [⟨some 37, .bin .lss (.s 36) (.s 35), none⟩] [1, 3, 4, 34, 35, 36, 37]) <|
       .seq (.cond (.s 37) (.skip) (.exit 0)) <|
       .seq (.block 1 (.seq (.region false [⟨some 38, .move (.s 36), none⟩, ⟨some 39, .indexAddr (.s 34) (.s 36), none⟩, ⟨some 40, .load (.s 39), none⟩, ⟨some 5, .move (.s 38), none⟩, ⟨some 6, .move (.s 40), none⟩] [1, 3, 4, 5, 6, 34, 35, 36]) <|
         .seq (.seq (.region false [⟨some 41, .move (.s 6), none⟩, ⟨some 42, .len (.s 41), none⟩, ⟨some 43, .move (.s 4), none⟩, ⟨some 44, .bin .neq (.s 42) (.s 43), none⟩, ⟨some 45, .move (.s 44), none⟩, ⟨some 46, .fieldAddr (.s 1) 2, some (45, false)⟩, ⟨some 47, .load (.s 46), some (45, false)⟩, ⟨some 48, .move (.s 5), some (45, false)⟩, ⟨some 49, .indexAddr (.s 47) (.s 48), some (45, false)⟩, ⟨some 50, .load (.s 49), some (45, false)⟩, ⟨some 51, .bin .lss (.s 50) (.c (.int .i64 (-1))), some (45, false)⟩, ⟨some 52, .pick (.s 45) (.c (.bool true)) (.s 51), none⟩, ⟨some 53, .move (.s 52), none⟩, ⟨some 54, .fieldAddr (.s 1) 2, some (53, false)⟩, ⟨some 55, .load (.s 54), some (53, false)⟩, ⟨some 56, .move (.s 5), some (53, false)⟩, ⟨some 57, .indexAddr (.s 55) (.s 56), some (53, false)⟩, ⟨some 58, .load (.s 57), some (53, false)⟩, ⟨some 59, .bin .geq (.s 58) (.c (.int .i64 32768)), some (53, false)⟩, ⟨some 60, .pick (.s 53) (.c (.bool true)) (.s 59), none⟩] [1, 3, 4, 6, 34, 35, 36, 60]) <|
          .cond (.s 60) (.seq (.region false [⟨some 2, .move (.c (.bool false)), none⟩] [2]) <|
           .ret) (.skip)) <|
         .seq (.region false [⟨some 61, .move (.s 6), none⟩, ⟨some 62, .len (.s 61), none⟩, ⟨some 63, .move (.c (.int .i64 0)), none⟩] [1, 3, 4, 34, 35, 36, 61, 62, 63]) <|
         .block 2 (.loop [1, 3, 4, 34, 35, 36, 61, 62, 63] (.seq (.region false [⟨some 64, .bin .lss (.s 63) (.s 62), none⟩] [1, 3, 4, 34, 35, 36, 61, 62, 63, 64]) <|
           .seq (.cond (.s 64) (.skip) (.exit 2)) <|
           .seq (.block 3 (.seq (.region false [⟨some 65, .indexAddr (.s 61) (.s 63), none⟩, ⟨some 66, .load (.s 65), none⟩, ⟨some 8, .move (.s 66), none⟩] [1, 3, 4, 8, 34, 35, 36, 61, 62, 63]) <|
             .seq (.region false [⟨some 67, .move (.s 8), none⟩, ⟨some 68, .bin .lss (.s 67) (.c (.int .i64 (-1))), none⟩, ⟨some 69, .move (.s 68), none⟩, ⟨some 70, .move (.s 8), some (69, false)⟩, ⟨some 71, .move (.s 3), some (69, false)⟩, ⟨some 72, .bin .geq (.s 70) (.s 71), some (69, false)⟩, ⟨some 73, .pick (.s 69) (.c (.bool true)) (.s 72), none⟩] [1, 3, 4, 34, 35, 36, 61, 62, 63, 73]) <|
             .cond (.s 73) (.seq (.region false [⟨some 2, .move (.c (.bool false)), none⟩] [2]) <|
              .ret) (.skip))) <|
           .region false [⟨some 74, .bin .add (.s 63) (.c (.int .i64 1)), none⟩, ⟨some 63, .move (.s 74), none⟩] [1, 3, 4, 34, 35, 36, 61, 62, 63])))) <|
       .region false [⟨some 75, .bin .add (.s 36) (.c (.int .i64 1)), none⟩, ⟨some 36, .move (.s 75), none⟩] [1, 3, 4, 34, 35, 36]))) <|
    .seq (.region false [⟨some 2, .move (.c (.bool true)), none⟩] [2]) <|
    .ret
/-- bosket/dfa.Order -/
def v28 : VF where
  params := [tDFA]
  results := [tDFA]
  ret := tDFA
  tys := [tDFA, .ptr tDFA, .ptr tDFA, .slice (.int .i64), .int .i64, .ptr tDFA, .slice (.int .i64), .int .i64, .slice (.int .i64), .bool, .int .i64, .ptr (.slice (.slice (.int .i64))), .slice (.slice (.int .i64)), .int .i64, .slice (.int .i64), .slice (.int .i64), .int .i64, .int .i64, .bool, .int .i64, .slice (.int .i64), .int .i64, .ptr (.int .i64), .int .i64, .ptr (.arr 256 (.int .u8)), .arr 256 (.int .u8), tDFA, .ptr (.slice (.slice (.int .i64))), .slice (.slice (.int .i64)), .int .i64, .bool, tDFA, .slice (.int .i64), .slice (.int .i64), .ptr (.int .i64), .int .i64, .slice (.int .i64), .int .i64, .bool, .int .i64, .int .i64, .ptr (.slice (.slice (.int .i64))), .slice (.slice (.int .i64)), .slice (.int .i64), .int .i64, .ptr (.int .i64), .int .i64, .ptr (.slice (.int .i64)), .slice (.int .i64), .int .i64, .slice (.int .i64), .ptr (.slice (.slice (.int .i64))), .slice (.slice (.int .i64)), .slice (.int .i64), .int .i64, .ptr (.int .i64), .int .i64, .ptr (.slice (.int .i64)), .slice (.int .i64), .int .i64, .int .i64, .bool, .ptr (.int .i64), .int .i64, .int .i64, .bool, .bool, .slice (.int .i64), .int .i64, .ptr (.int .i64), .int .i64, .bool, .bool, .slice (.int .i64), .int .i64, .slice (.int .i64), .int .i64, .ptr (.int .i64), .slice (.int .i64), .int .i64, .slice (.int .i64), .slice (.int .i64), .int .i64, .bool, .slice (.int .i64), .int .i64, .ptr (.int .i64), .int .i64, .slice (.int .i64), .int .i64, .slice (.int .i64), .slice (.int .i64), .int .i64, .ptr (.slice (.slice (.int .i64))), .slice (.slice (.int .i64)), .slice (.int .i64), .slice (.slice (.int .i64)), .slice (.slice (.int .i64)), .ptr (.slice (.slice (.int .i64))), .ptr (.slice (.int .i64)), .slice (.int .i64), .ptr (.slice (.int .i64)), .slice (.int .i64), .slice (.int .i64), .int .i64, .ptr (.int .i64), .int .i64, .ptr (.int .i64), .int .i64, .slice (.int .i64), .slice (.int .i64), .ptr (.slice (.int .i64)), tDFA]
  res := [.cell 2]
  ntmps := 113
  body :=
    .seq (.region false [⟨some 1, .box tDFA (.s 0), none⟩, ⟨some 2, .alloc tDFA, none⟩] [1, 2]) <|
    .seq (.region false [⟨some 11, .fieldAddr (.s 1) 1, none⟩, ⟨some 12, .load (.s 11), none⟩, ⟨some 13, .len (.s 12), none⟩, ⟨some 14, .makeSlice (.int .i64) 8 (.s 13) (.s 13), none⟩, ⟨some 3, .move (.s 14), none⟩] [1, 2, 3]) <|
    .seq (.seq (.region false [⟨some 15, .move (.s 3), none⟩, ⟨some 16, .len (.s 15), none⟩, ⟨some 17, .move (.c (.int .i64 0)), none⟩] [1, 2, 3, 16, 17]) <|
     .block 0 (.loop [1, 2, 3, 16, 17] (.seq (.region false [⟨some 18, .bin .lss (.s 17) (.s 16), none⟩] [1, 2, 3, 16, 17, 18]) <|
       .seq (.cond (.s 18) (.skip) (.exit 0)) <|
       .seq (.block 1 (.seq (.region false [⟨some 19, .move (.s 17), none⟩, ⟨some 4, .move (.s 19), none⟩] [1, 2, 3, 4, 16, 17]) <|
         .region false [⟨some 20, .move (.s 3), none⟩, ⟨some 21, .move (.s 4), none⟩, ⟨some 22, .indexAddr (.s 20) (.s 21), none⟩, ⟨none, .store (.s 22) (.c (.int .i64 (-1))), none⟩] [1, 2, 3, 16, 17])) <|
       .region false [⟨some 23, .bin .add (.s 17) (.c (.int .i64 1)), none⟩, ⟨some 17, .move (.s 23), none⟩] [1, 2, 3, 16, 17]))) <|
    .seq (.region false [⟨some 24, .fieldAddr (.s 1) 0, none⟩, ⟨some 25, .load (.s 24), none⟩, ⟨some 26, .build tDFA [(0, .s 25)], none⟩, ⟨some 5, .alloc tDFA, none⟩, ⟨none, .store (.s 5) (.s 26), none⟩] [1, 2, 3, 5]) <|
    .seq (.seq (.region false [⟨some 27, .fieldAddr (.s 1) 1, none⟩, ⟨some 28, .load (.s 27), none⟩, ⟨some 29, .len (.s 28), none⟩, ⟨some 30, .bin .eql (.s 29) (.c (.int .i64 0)), none⟩] [1, 2, 3, 5, 30]) <|
     .cond (.s 30) (.seq (.region false [⟨some 31, .load (.s 5), none⟩, ⟨none, .store (.s 2) (.s 31), none⟩] [2]) <|
      .ret) (.skip)) <|
    .seq (.region false [⟨some 32, .buildSlice (.int .i64) 1 [(0, .c (.int .i64 0))], none⟩, ⟨some 6, .move (.s 32), none⟩] [1, 2, 3, 5, 6]) <|
    .seq (.region false [⟨some 33, .move (.s 3), none⟩, ⟨some 34, .indexAddr (.s 33) (.c (.int .i64 0)), none⟩, ⟨none, .store (.s 34) (.c (.int .i64 0)), none⟩] [1, 2, 3, 5, 6]) <|
    .seq (.seq (.region false [⟨some 7, .move (.c (.int .i64 0)), none⟩] [1, 2, 3, 5, 6, 7]) <|
     .block 2 (.loop [1, 2, 3, 5, 6, 7] (.seq (.seq (.region false [⟨some 35, .move (.s 7), none⟩, ⟨some 36, .move (.s 6), none⟩, ⟨some 37, .len (.s 36), none⟩, ⟨some 38, .bin .lss (.s 35) (.s 37), none⟩] [1, 2, 3, 5, 6, 7, 38]) <|
        .cond (.s 38) (.skip) (.exit 2)) <|
       .seq (.block 3 (.seq (.region true [⟨some 41, .fieldAddr (.s 1) 1, none⟩, ⟨some 42, .load (.s 41), none⟩, ⟨some 43, .move (.s 6), none⟩, ⟨some 44, .move (.s 7), none⟩, ⟨some 45, .indexAddr (.s 43) (.s 44), none⟩, ⟨some 46, .load (.s 45), none⟩, ⟨some 47, .indexAddr (.s 42) (.s 46), none⟩, ⟨some 48, .load (.s 47), none⟩, ⟨some 49, .len (.s 48), none⟩, ⟨some 50, .makeSlice (.int .i64) 8 (.c (.int .i64 0)) (.s 49), none⟩, ⟨some 8, .move (.s 50), none⟩] [1, 2, 3, 5, 6, 7, 8]) <|
         .seq (.seq (.region true [⟨some 51, .fieldAddr (.s 1) 1, none⟩, ⟨some 52, .load (.s 51), none⟩, ⟨some 53, .move (.s 6), none⟩, ⟨some 54, .move (.s 7), none⟩, ⟨some 55, .indexAddr (.s 53) (.s 54), none⟩, ⟨some 56, .load (.s 55), none⟩, ⟨some 57, .indexAddr (.s 52) (.s 56), none⟩, ⟨some 58, .load (.s 57), none⟩, ⟨some 59, .len (.s 58), none⟩, ⟨some 60, .move (.c (.int .i64 0)), none⟩] [1, 2, 3, 5, 6, 7, 8, 58, 59, 60]) <|
          .block 4 (.loop [1, 2, 3, 5, 6, 7, 8, 58, 59, 60] (.seq (.region false [⟨some 61, .bin .lss (.s 60) (.s 59), none⟩] [1, 2, 3, 5, 6, 7, 8, 58, 59, 60, 61]) <|
            .seq (.cond (.s 61) (.skip) (.exit 4)) <|
            .seq (.block 5 (.seq (.region false [⟨some 62, .indexAddr (.s 58) (.s 60), none⟩, ⟨some 63, .load (.s 62), none⟩, ⟨some 10, .move (.s 63), none⟩] [1, 2, 3, 5, 6, 7, 8, 10, 58, 59, 60]) <|
              .seq (.seq (.region false [⟨some 64, .move (.s 10), none⟩, ⟨some 65, .bin .geq (.s 64) (.c (.int .i64 0)), none⟩, ⟨some 66, .move (.s 65), none⟩, ⟨some 67, .move (.s 3), some (66, true)⟩, ⟨some 68, .move (.s 10), some (66, true)⟩, ⟨some 69, .indexAddr (.s 67) (.s 68), some (66, true)⟩, ⟨some 70, .load (.s 69), some (66, true)⟩, ⟨some 71, .bin .eql (.s 70) (.c (.int .i64 (-1))), some (66, true)⟩, ⟨some 72, .pick (.s 66) (.s 71) (.c (.bool false)), none⟩] [1, 2, 3, 5, 6, 7, 8, 10, 58, 59, 60, 72]) <|
               .cond (.s 72) (.seq (.region false [⟨some 73, .move (.s 3), none⟩, ⟨some 74, .move (.s 10), none⟩, ⟨some 75, .move (.s 6), none⟩, ⟨some 76, .len (.s 75), none⟩, ⟨some 77, .indexAddr (.s 73) (.s 74), none⟩, ⟨none, .store (.s 77) (.s 76), none⟩] [1, 2, 3, 5, 6, 7, 8, 10, 58, 59, 60]) <|
                .region false [⟨some 78, .move (.s 6), none⟩, ⟨some 79, .move (.s 10), none⟩, ⟨some 80, .buildSlice (.int .i64) 1 [(0, .s 79)], none⟩, ⟨some 81, .append 8 (.s 78) (.s 80), none⟩, ⟨some 6, .move (.s 81), none⟩] [1, 2, 3, 5, 6, 7, 8, 10, 58, 59, 60]) (.skip)) <|
              .seq (.seq (.region false [⟨some 82, .move (.s 10), none⟩, ⟨some 83, .bin .geq (.s 82) (.c (.int .i64 0)), none⟩] [1, 2, 3, 5, 6, 7, 8, 10, 58, 59, 60, 83]) <|
               .cond (.s 83) (.region false [⟨some 84, .move (.s 3), none⟩, ⟨some 85, .move (.s 10), none⟩, ⟨some 86, .indexAddr (.s 84) (.s 85), none⟩, ⟨some 87, .load (.s 86), none⟩, ⟨some 10, .move (.s 87), none⟩] [1, 2, 3, 5, 6, 7, 8, 10, 58, 59, 60]) (.skip)) <|
              .region false [⟨some 88, .move (.s 8), none⟩, ⟨some 89, .move (.s 10), none⟩, ⟨some 90, .buildSlice (.int .i64) 1 [(0, .s 89)], none⟩, ⟨some 91, .append 8 (.s 88) (.s 90), none⟩, ⟨some 8, .move (.s 91), none⟩] [1, 2, 3, 5, 6, 7, 8, 58, 59, 60])) <|
            .region false [⟨some 92, .bin .add (.s 60) (.c (.int .i64 1)), none⟩, ⟨some 60, .move (.s 92), none⟩] [1, 2, 3, 5, 6, 7, 8, 58, 59, 60]))) <|
         .seq (.region false [⟨some 93, .fieldAddr (.s 5) 1, none⟩, ⟨some 94, .load (.s 93), none⟩, ⟨some 95, .move (.s 8), none⟩, ⟨some 96, .buildSlice (.slice (.int .i64)) 1 [(0, .s 95)], none⟩, ⟨some 97, .append 24 (.s 94) (.s 96), none⟩, ⟨some 98, .fieldAddr (.s 5) 1, none⟩, ⟨none, .store (.s 98) (.s 97), none⟩] [1, 2, 3, 5, 6, 7]) <|
         .region true [⟨some 99, .fieldAddr (.s 5) 2, none⟩, ⟨some 100, .load (.s 99), none⟩, ⟨some 101, .fieldAddr (.s 1) 2, none⟩, ⟨some 102, .load (.s 101), none⟩, ⟨some 103, .move (.s 6), none⟩, ⟨some 104, .move (.s 7), none⟩, ⟨some 105, .indexAddr (.s 103) (.s 104), none⟩, ⟨some 106, .load (.s 105), none⟩, ⟨some 107, .indexAddr (.s 102) (.s 106), none⟩, ⟨some 108, .load (.s 107), none⟩, ⟨some 109, .buildSlice (.int .i64) 1 [(0, .s 108)], none⟩, ⟨some 110, .append 8 (.s 100) (.s 109), none⟩, ⟨some 111, .fieldAddr (.s 5) 2, none⟩, ⟨none, .store (.s 111) (.s 110), none⟩] [1, 2, 3, 5, 6, 7])) <|
       .region false [⟨some 39, .move (.s 7), none⟩, ⟨some 40, .bin .add (.s 39) (.c (.int .i64 1)), none⟩, ⟨some 7, .move (.s 40), none⟩] [1, 2, 3, 5, 6, 7]))) <|
    .seq (.region false [⟨some 112, .load (.s 5), none⟩, ⟨none, .store (.s 2) (.s 112), none⟩] [2]) <|
    .ret
/-- bosket/dfa.Trim -/
def v29 : VF where
  params := [tDFA]
  results := [tDFA]
  ret := tDFA
  tys := [tDFA, .ptr tDFA, .ptr tDFA, .slice .bool, .ptr tDFA, .bool, .slice (.int .i64), .slice (.int .i64), .int .i64, .int .i64, tDFA, .slice .bool, .ptr (.arr 256 (.int .u8)), .arr 256 (.int .u8), .ptr (.slice (.int .i64)), .slice (.int .i64), .slice (.int .i64), tDFA, .ptr (.slice (.slice (.int .i64))), .slice (.slice (.int .i64)), .int .i64, .int .i64, .bool, .ptr (.slice (.int .i64)), .slice (.int .i64), .slice (.int .i64), .slice (.int .i64), .slice (.int .i64), .int .i64, .int .i64, .bool, .int .i64, .ptr (.int .i64), .int .i64, .int .i64, .bool, .bool, .int .i64, .slice .bool, .int .i64, .bool, .bool, .bool, .slice .bool, .int .i64, .ptr .bool, .bool, .bool, .bool, .slice (.int .i64), .int .i64, .ptr (.int .i64), .int .i64, .ptr (.slice (.slice (.int .i64))), .slice (.slice (.int .i64)), .slice (.int .i64), .slice (.slice (.int .i64)), .slice (.slice (.int .i64)), .ptr (.slice (.slice (.int .i64))), .int .i64, tDFA]
  res := [.cell 2]
  ntmps := 61
  body :=
    .seq (.region false [⟨some 1, .box tDFA (.s 0), none⟩, ⟨some 2, .alloc tDFA, none⟩] [1, 2]) <|
    .seq (.region false [⟨some 10, .load (.s 1), none⟩, ⟨some 11, .call 44 [.s 10] (.slice .bool), none⟩, ⟨some 3, .move (.s 11), none⟩] [1, 2, 3]) <|
    .seq (.region true [⟨some 12, .fieldAddr (.s 1) 0, none⟩, ⟨some 13, .load (.s 12), none⟩, ⟨some 14, .fieldAddr (.s 1) 2, none⟩, ⟨some 15, .load (.s 14), none⟩, ⟨some 16, .call 45 [.s 15] (.slice (.int .i64)), none⟩, ⟨some 17, .build tDFA [(0, .s 13), (2, .s 16)], none⟩, ⟨some 4, .alloc tDFA, none⟩, ⟨none, .store (.s 4) (.s 17), none⟩] [1, 2, 3, 4]) <|
    .seq (.seq (.region false [⟨some 18, .fieldAddr (.s 1) 1, none⟩, ⟨some 19, .load (.s 18), none⟩, ⟨some 20, .len (.s 19), none⟩, ⟨some 21, .move (.c (.int .i64 0)), none⟩] [2, 3, 4, 19, 20, 21]) <|
     .block 0 (.loop [2, 3, 4, 19, 20, 21] (.seq (.region false [⟨some 22, .bin .lss (.s 21) (.s 20), none⟩] [2, 3, 4, 19, 20, 21, 22]) <|
       .seq (.cond (.s 22) (.skip) (.exit 0)) <|
       .seq (.block 1 (.seq (.region false [⟨some 23, .indexAddr (.s 19) (.s 21), none⟩, ⟨some 24, .load (.s 23), none⟩, ⟨some 6, .move (.s 24), none⟩] [2, 3, 4, 6, 19, 20, 21]) <|
         .seq (.region false [⟨some 25, .move (.s 6), none⟩, ⟨some 26, .call 45 [.s 25] (.slice (.int .i64)), none⟩, ⟨some 7, .move (.s 26), none⟩] [2, 3, 4, 7, 19, 20, 21]) <|
         .seq (.seq (.region false [⟨some 27, .move (.s 7), none⟩, ⟨some 28, .len (.s 27), none⟩, ⟨some 29, .move (.c (.int .i64 0)), none⟩] [2, 3, 4, 7, 19, 20, 21, 27, 28, 29]) <|
          .block 2 (.loop [2, 3, 4, 7, 19, 20, 21, 27, 28, 29] (.seq (.region false [⟨some 30, .bin .lss (.s 29) (.s 28), none⟩] [2, 3, 4, 7, 19, 20, 21, 27, 28, 29, 30]) <|
            .seq (.cond (.s 30) (.skip) (.exit 2)) <|
            .seq (.block 3 (.seq (.region false [⟨some 31, .move (.s 29), none⟩, ⟨some 32, .indexAddr (.s 27) (.s 29), none⟩, ⟨some 33, .load (.s 32), none⟩, ⟨some 8, .move (.s 31), none⟩, ⟨some 9, .move (.s 33), none⟩] [2, 3, 4, 7, 8, 9, 19, 20, 21, 27, 28, 29]) <|
              .seq (.region false [⟨some 34, .move (.s 9), none⟩, ⟨some 35, .bin .geq (.s 34) (.c (.int .i64 0)), none⟩, ⟨some 36, .move (.s 35), none⟩, ⟨some 37, .move (.s 9), some (36, true)⟩, ⟨some 38, .move (.s 3), some (36, true)⟩, ⟨some 39, .len (.s 38), some (36, true)⟩, ⟨some 40, .bin .lss (.s 37) (.s 39), some (36, true)⟩, ⟨some 41, .pick (.s 36) (.s 40) (.c (.bool false)), none⟩, ⟨some 42, .move (.s 41), none⟩, ⟨some 43, .move (.s 3), some (42, true)⟩, ⟨some 44, .move (.s 9), some (42, true)⟩, ⟨some 45, .indexAddr (.s 43) (.s 44), some (42, true)⟩, ⟨some 46, .load (.s 45), some (42, true)⟩, ⟨some 47, .un .not (.s 46), some (42, true)⟩, ⟨some 48, .pick (.s 42) (.s 47) (.c (.bool false)), none⟩] [2, 3, 4, 7, 8, 19, 20, 21, 27, 28, 29, 48]) <|
              .cond (.s 48) (.region false [⟨some 49, .move (.s 7), none⟩, ⟨some 50, .move (.s 8), none⟩, ⟨some 51, .indexAddr (.s 49) (.s 50), none⟩, ⟨none, .store (.s 51) (.c (.int .i64 (-1))), none⟩] [2, 3, 4, 7, 19, 20, 21, 27, 28, 29]) (.skip))) <|
            .region false [⟨some 52, .bin .add (.s 29) (.c (.int .i64 1)), none⟩, ⟨some 29, .move (.s 52), none⟩] [2, 3, 4, 7, 19, 20, 21, 27, 28, 29]))) <|
         .region false [⟨some 53, .fieldAddr (.s 4) 1, none⟩, ⟨some 54, .load (.s 53), none⟩, ⟨some 55, .move (.s 7), none⟩, ⟨some 56, .buildSlice (.slice (.int .i64)) 1 [(0, .s 55)], none⟩, ⟨some 57, .append 24 (.s 54) (.s 56), none⟩, ⟨some 58, .fieldAddr (.s 4) 1, none⟩, ⟨none, .store (.s 58) (.s 57), none⟩] [2, 3, 4, 19, 20, 21])) <|
       .region false [⟨some 59, .bin .add (.s 21) (.c (.int .i64 1)), none⟩, ⟨some 21, .move (.s 59), none⟩] [2, 3, 4, 19, 20, 21]))) <|
    .seq (.region false [⟨some 60, .load (.s 4), none⟩, ⟨none, .store (.s 2) (.s 60), none⟩] [2]) <|
    .ret
/-- bosket/mini.classes -/
def v30 : VF where
  params := [tDFA]
  results := [tDFA]
  ret := tDFA
  tys := [tDFA, .ptr tDFA, .ptr tDFA, .ptr tDFA, .map .str (.int .i64), .slice (.int .i64), .slice (.int .i64), .slice .bool, .int .i64, .int .i64, .str, .int .i64, .bool, .bool, .slice (.int .i64), .slice (.int .i64), .bool, .int .i64, .ptr (.slice (.int .i64)), .slice (.int .i64), tDFA, .map .str (.int .i64), .ptr (.arr 256 (.int .u8)), .arr 256 (.int .u8), .int .i64, .slice (.int .i64), .slice (.int .i64), .int .i64, .slice .bool, .int .i64, .bool, .int .i64, .int .i64, .ptr (.arr 256 (.int .u8)), .ptr (.int .u8), .int .u8, .int .i64, .slice .bool, .int .i64, .ptr .bool, .bool, .bool, tDFA, .int .i64, .str, .tup [.int .i64, .bool], .map .str (.int .i64), .str, .tup [.int .i64, .bool], .int .i64, .bool, .bool, .bool, .slice (.int .i64), .int .i64, .map .str (.int .i64), .str, .int .i64, .slice (.int .i64), .int .i64, .slice (.int .i64), .slice (.int .i64), .slice (.int .i64), .int .i64, .slice .bool, .int .i64, .int .i64, .ptr (.int .i64), .ptr .bool, .int .i64, .slice (.int .i64), .int .i64, .ptr (.int .i64), .int .i64, .int .u8, .ptr (.arr 256 (.int .u8)), .ptr (.int .u8), .int .i64, .ptr (.slice (.slice (.int .i64))), .slice (.slice (.int .i64)), .int .i64, .int .i64, .bool, .ptr (.slice (.int .i64)), .slice (.int .i64), .slice (.int .i64), .int .i64, .int .i64, .bool, .ptr (.int .i64), .int .i64, .slice (.int .i64), .slice (.int .i64), .int .i64, .ptr (.int .i64), .int .i64, .slice (.int .i64), .slice (.int .i64), .int .i64, .ptr (.slice (.slice (.int .i64))), .slice (.slice (.int .i64)), .slice (.int .i64), .slice (.slice (.int .i64)), .slice (.slice (.int .i64)), .ptr (.slice (.slice (.int .i64))), .int .i64, tDFA]
  res := [.cell 2]
  ntmps := 107
  body :=
    .seq (.region false [⟨some 1, .box tDFA (.s 0), none⟩, ⟨some 2, .alloc tDFA, none⟩] [1, 2]) <|
    .seq (.region false [⟨some 18, .fieldAddr (.s 1) 2, none⟩, ⟨some 19, .load (.s 18), none⟩, ⟨some 20, .build tDFA [(2, .s 19)], none⟩, ⟨some 3, .alloc tDFA, none⟩, ⟨none, .store (.s 3) (.s 20), none⟩] [1, 2, 3]) <|
    .seq (.region false [⟨some 21, .makeMap, none⟩, ⟨some 4, .move (.s 21), none⟩] [1, 2, 3, 4]) <|
    .seq (.region false [⟨some 5, .move (.c .nil), none⟩] [1, 2, 3, 4, 5]) <|
    .seq (.region false [⟨some 22, .fieldAddr (.s 1) 0, none⟩, ⟨some 23, .load (.s 22), none⟩, ⟨some 24, .call 42 [.s 23] (.int .i64), none⟩, ⟨some 25, .makeSlice (.int .i64) 8 (.s 24) (.s 24), none⟩, ⟨some 6, .move (.s 25), none⟩] [1, 2, 3, 4, 5, 6]) <|
    .seq (.region false [⟨some 26, .move (.s 6), none⟩, ⟨some 27, .len (.s 26), none⟩, ⟨some 28, .makeSlice .bool 1 (.s 27) (.s 27), none⟩, ⟨some 7, .move (.s 28), none⟩] [1, 2, 3, 4, 5, 6, 7]) <|
    .seq (.seq (.region false [⟨some 29, .move (.c (.int .i64 0)), none⟩] [1, 2, 3, 4, 5, 6, 7, 29]) <|
     .block 0 (.loop [1, 2, 3, 4, 5, 6, 7, 29] (.seq (.region false [⟨some 30, .bin .lss (.s 29) (.c (.int .i64 256)), none⟩] [1, 2, 3, 4, 5, 6, 7, 29, 30]) <|
       .seq (.cond (.s 30) (.skip) (.exit 0)) <|
       .seq (.block 1 (.seq (.region false [⟨some 31, .move (.s 29), none⟩, ⟨some 8, .move (.s 31), none⟩] [1, 2, 3, 4, 5, 6, 7, 8, 29]) <|
         .seq (.region false [⟨some 32, .move (.s 8), none⟩, ⟨some 33, .fieldAddr (.s 1) 0, none⟩, ⟨some 34, .indexAddr (.s 33) (.s 32), none⟩, ⟨some 35, .load (.s 34), none⟩, ⟨some 36, .convInt .i64 (.s 35), none⟩, ⟨some 9, .move (.s 36), none⟩] [1, 2, 3, 4, 5, 6, 7, 8, 9, 29]) <|
         .seq (.seq (.region false [⟨some 37, .move (.s 7), none⟩, ⟨some 38, .move (.s 9), none⟩, ⟨some 39, .indexAddr (.s 37) (.s 38), none⟩, ⟨some 40, .load (.s 39), none⟩, ⟨some 41, .un .not (.s 40), none⟩] [1, 2, 3, 4, 5, 6, 7, 8, 9, 29, 41]) <|
          .cond (.s 41) (.seq (.region false [⟨some 42, .load (.s 1), none⟩, ⟨some 43, .move (.s 9), none⟩, ⟨some 44, .call 46 [.s 42, .s 43] .str, none⟩, ⟨some 10, .move (.s 44), none⟩] [1, 2, 3, 4, 5, 6, 7, 8, 9, 10, 29]) <|
           .seq (.region false [⟨some 46, .move (.s 4), none⟩, ⟨some 47, .move (.s 10), none⟩, ⟨some 48, .lookup (.int .i64) (.s 46) (.s 47) true, none⟩, ⟨some 45, .move (.s 48), none⟩, ⟨some 49, .extract (.s 45) 0, none⟩, ⟨some 50, .extract (.s 45) 1, none⟩, ⟨some 11, .move (.s 49), none⟩, ⟨some 12, .move (.s 50), none⟩] [1, 2, 3, 4, 5, 6, 7, 8, 9, 10, 11, 12, 29]) <|
           .seq (.seq (.region false [⟨some 51, .move (.s 12), none⟩, ⟨some 52, .un .not (.s 51), none⟩] [1, 2, 3, 4, 5, 6, 7, 8, 9, 10, 11, 29, 52]) <|
            .cond (.s 52) (.seq (.region false [⟨some 53, .move (.s 5), none⟩, ⟨some 54, .len (.s 53), none⟩, ⟨some 11, .move (.s 54), none⟩] [1, 2, 3, 4, 5, 6, 7, 8, 9, 10, 11, 29]) <|
             .seq (.region false [⟨some 55, .move (.s 4), none⟩, ⟨some 56, .move (.s 10), none⟩, ⟨some 57, .move (.s 11), none⟩, ⟨none, .mapUpdate (.s 55) (.s 56) (.s 57), none⟩] [1, 2, 3, 4, 5, 6, 7, 8, 9, 11, 29]) <|
             .region false [⟨some 58, .move (.s 5), none⟩, ⟨some 59, .move (.s 9), none⟩, ⟨some 60, .buildSlice (.int .i64) 1 [(0, .s 59)], none⟩, ⟨some 61, .append 8 (.s 58) (.s 60), none⟩, ⟨some 5, .move (.s 61), none⟩] [1, 2, 3, 4, 5, 6, 7, 8, 9, 11, 29]) (.skip)) <|
           .region false [⟨some 62, .move (.s 6), none⟩, ⟨some 63, .move (.s 9), none⟩, ⟨some 64, .move (.s 7), none⟩, ⟨some 65, .move (.s 9), none⟩, ⟨some 66, .move (.s 11), none⟩, ⟨some 67, .indexAddr (.s 62) (.s 63), none⟩, ⟨none, .store (.s 67) (.s 66), none⟩, ⟨some 68, .indexAddr (.s 64) (.s 65), none⟩, ⟨none, .store (.s 68) (.c (.bool true)), none⟩] [1, 2, 3, 4, 5, 6, 7, 8, 9, 29]) (.skip)) <|
         .region false [⟨some 69, .move (.s 8), none⟩, ⟨some 70, .move (.s 6), none⟩, ⟨some 71, .move (.s 9), none⟩, ⟨some 72, .indexAddr (.s 70) (.s 71), none⟩, ⟨some 73, .load (.s 72), none⟩, ⟨some 74, .convInt .u8 (.s 73), none⟩, ⟨some 75, .fieldAddr (.s 3) 0, none⟩, ⟨some 76, .indexAddr (.s 75) (.s 69), none⟩, ⟨none, .store (.s 76) (.s 74), none⟩] [1, 2, 3, 4, 5, 6, 7, 29])) <|
       .region false [⟨some 77, .bin .add (.s 29) (.c (.int .i64 1)), none⟩, ⟨some 29, .move (.s 77), none⟩] [1, 2, 3, 4, 5, 6, 7, 29]))) <|
    .seq (.seq (.region false [⟨some 78, .fieldAddr (.s 1) 1, none⟩, ⟨some 79, .load (.s 78), none⟩, ⟨some 80, .len (.s 79), none⟩, ⟨some 81, .move (.c (.int .i64 0)), none⟩] [2, 3, 5, 79, 80, 81]) <|
     .block 2 (.loop [2, 3, 5, 79, 80, 81] (.seq (.region false [⟨some 82, .bin .lss (.s 81) (.s 80), none⟩] [2, 3, 5, 79, 80, 81, 82]) <|
       .seq (.cond (.s 82) (.skip) (.exit 2)) <|
       .seq (.block 3 (.seq (.region false [⟨some 83, .indexAddr (.s 79) (.s 81), none⟩, ⟨some 84, .load (.s 83), none⟩, ⟨some 14, .move (.s 84), none⟩] [2, 3, 5, 14, 79, 80, 81]) <|
         .seq (.region false [⟨some 15, .move (.c .nil), none⟩] [2, 3, 5, 14, 15, 79, 80, 81]) <|
         .seq (.seq (.region false [⟨some 85, .move (.s 5), none⟩, ⟨some 86, .len (.s 85), none⟩, ⟨some 87, .move (.c (.int .i64 0)), none⟩] [2, 3, 5, 14, 15, 79, 80, 81, 85, 86, 87]) <|
          .block 4 (.loop [2, 3, 5, 14, 15, 79, 80, 81, 85, 86, 87] (.seq (.region false [⟨some 88, .bin .lss (.s 87) (.s 86), none⟩] [2, 3, 5, 14, 15, 79, 80, 81, 85, 86, 87, 88]) <|
            .seq (.cond (.s 88) (.skip) (.exit 4)) <|
            .seq (.block 5 (.seq (.region false [⟨some 89, .indexAddr (.s 85) (.s 87), none⟩, ⟨some 90, .load (.s 89), none⟩, ⟨some 17, .move (.s 90), none⟩] [2, 3, 5, 14, 15, 17, 79, 80, 81, 85, 86, 87]) <|
              .region false [⟨some 91, .move (.s 15), none⟩, ⟨some 92, .move (.s 14), none⟩, ⟨some 93, .move (.s 17), none⟩, ⟨some 94, .indexAddr (.s 92) (.s 93), none⟩, ⟨some 95, .load (.s 94), none⟩, ⟨some 96, .buildSlice (.int .i64) 1 [(0, .s 95)], none⟩, ⟨some 97, .append 8 (.s 91) (.s 96), none⟩, ⟨some 15, .move (.s 97), none⟩] [2, 3, 5, 14, 15, 79, 80, 81, 85, 86, 87])) <|
            .region false [⟨some 98, .bin .add (.s 87) (.c (.int .i64 1)), none⟩, ⟨some 87, .move (.s 98), none⟩] [2, 3, 5, 14, 15, 79, 80, 81, 85, 86, 87]))) <|
         .region false [⟨some 99, .fieldAddr (.s 3) 1, none⟩, ⟨some 100, .load (.s 99), none⟩, ⟨some 101, .move (.s 15), none⟩, ⟨some 102, .buildSlice (.slice (.int .i64)) 1 [(0, .s 101)], none⟩, ⟨some 103, .append 24 (.s 100) (.s 102), none⟩, ⟨some 104, .fieldAddr (.s 3) 1, none⟩, ⟨none, .store (.s 104) (.s 103), none⟩] [2, 3, 5, 79, 80, 81])) <|
       .region false [⟨some 105, .bin .add (.s 81) (.c (.int .i64 1)), none⟩, ⟨some 81, .move (.s 105), none⟩] [2, 3, 5, 79, 80, 81]))) <|
    .seq (.region false [⟨some 106, .load (.s 3), none⟩, ⟨none, .store (.s 2) (.s 106), none⟩] [2]) <|
    .ret
/-- bosket/mini.split -/
def v31 : VF where
  params := [tDFA, .slice (.int .i64)]
  results := [.slice (.int .i64), .int .i64]
  ret := .tup [.slice (.int .i64), .int .i64]
  tys := [tDFA, .slice (.int .i64), .ptr tDFA, .bool, .slice (.int .i64), .int .i64, .map .str (.int .i64), .slice (.int .i64), .int .i64, .str, .int .i64, .bool, .map .str (.int .i64), .slice (.int .i64), .int .i64, .slice (.int .i64), .slice (.int .i64), .int .i64, .int .i64, .bool, .int .i64, tDFA, .slice (.int .i64), .int .i64, .str, .tup [.int .i64, .bool], .map .str (.int .i64), .str, .tup [.int .i64, .bool], .int .i64, .bool, .bool, .bool, .map .str (.int .i64), .int .i64, .map .str (.int .i64), .str, .int .i64, .slice (.int .i64), .int .i64, .int .i64, .ptr (.int .i64), .int .i64, .slice (.int .i64), .map .str (.int .i64), .int .i64]
  res := [.slot 4, .slot 5]
  ntmps := 46
  body :=
    .seq (.region false [⟨some 2, .box tDFA (.s 0), none⟩, ⟨some 4, .move (.c .nil), none⟩, ⟨some 5, .move (.c (.int .i64 0)), none⟩] [1, 2]) <|
    .seq (.region false [⟨some 12, .makeMap, none⟩, ⟨some 6, .move (.s 12), none⟩] [1, 2, 6]) <|
    .seq (.region false [⟨some 13, .move (.s 1), none⟩, ⟨some 14, .len (.s 13), none⟩, ⟨some 15, .makeSlice (.int .i64) 8 (.s 14) (.s 14), none⟩, ⟨some 7, .move (.s 15), none⟩] [1, 2, 6, 7]) <|
    .seq (.seq (.region false [⟨some 16, .move (.s 1), none⟩, ⟨some 17, .len (.s 16), none⟩, ⟨some 18, .move (.c (.int .i64 0)), none⟩] [1, 2, 6, 7, 17, 18]) <|
     .block 0 (.loop [1, 2, 6, 7, 17, 18] (.seq (.region false [⟨some 19, .bin .lss (.s 18) (.s 17), none⟩] [1, 2, 6, 7, 17, 18, 19]) <|
       .seq (.cond (.s 19) (.skip) (.exit 0)) <|
       .seq (.block 1 (.seq (.region false [⟨some 20, .move (.s 18), none⟩, ⟨some 8, .move (.s 20), none⟩] [1, 2, 6, 7, 8, 17, 18]) <|
         .seq (.region false [⟨some 21, .load (.s 2), none⟩, ⟨some 22, .move (.s 1), none⟩, ⟨some 23, .move (.s 8), none⟩, ⟨some 24, .call 47 [.s 21, .s 22, .s 23] .str, none⟩, ⟨some 9, .move (.s 24), none⟩] [1, 2, 6, 7, 8, 9, 17, 18]) <|
         .seq (.region false [⟨some 26, .move (.s 6), none⟩, ⟨some 27, .move (.s 9), none⟩, ⟨some 28, .lookup (.int .i64) (.s 26) (.s 27) true, none⟩, ⟨some 25, .move (.s 28), none⟩, ⟨some 29, .extract (.s 25) 0, none⟩, ⟨some 30, .extract (.s 25) 1, none⟩, ⟨some 10, .move (.s 29), none⟩, ⟨some 11, .move (.s 30), none⟩] [1, 2, 6, 7, 8, 9, 10, 11, 17, 18]) <|
         .seq (.seq (.region false [⟨some 31, .move (.s 11), none⟩, ⟨some 32, .un .not (.s 31), none⟩] [1, 2, 6, 7, 8, 9, 10, 17, 18, 32]) <|
          .cond (.s 32) (.seq (.region false [⟨some 33, .move (.s 6), none⟩, ⟨some 34, .len (.s 33), none⟩, ⟨some 10, .move (.s 34), none⟩] [1, 2, 6, 7, 8, 9, 10, 17, 18]) <|
           .region false [⟨some 35, .move (.s 6), none⟩, ⟨some 36, .move (.s 9), none⟩, ⟨some 37, .move (.s 10), none⟩, ⟨none, .mapUpdate (.s 35) (.s 36) (.s 37), none⟩] [1, 2, 6, 7, 8, 10, 17, 18]) (.skip)) <|
         .region false [⟨some 38, .move (.s 7), none⟩, ⟨some 39, .move (.s 8), none⟩, ⟨some 40, .move (.s 10), none⟩, ⟨some 41, .indexAddr (.s 38) (.s 39), none⟩, ⟨none, .store (.s 41) (.s 40), none⟩] [1, 2, 6, 7, 17, 18])) <|
       .region false [⟨some 42, .bin .add (.s 18) (.c (.int .i64 1)), none⟩, ⟨some 18, .move (.s 42), none⟩] [1, 2, 6, 7, 17, 18]))) <|
    .seq (.region false [⟨some 43, .move (.s 7), none⟩, ⟨some 44, .move (.s 6), none⟩, ⟨some 45, .len (.s 44), none⟩, ⟨some 4, .move (.s 43), none⟩, ⟨some 5, .move (.s 45), none⟩] [4, 5]) <|
    .ret
/-- bosket/mini.blocks -/
def v32 : VF where
  params := [tDFA]
  results := [.slice (.int .i64)]
  ret := .slice (.int .i64)
  tys := [tDFA, .ptr tDFA, .slice (.int .i64), .slice (.int .i64), .int .i64, .int .i64, .ptr (.slice (.slice (.int .i64))), .slice (.slice (.int .i64)), .int .i64, .int .i64, .slice (.int .i64), .ptr (.slice (.int .i64)), .slice (.int .i64), .int .i64, .int .i64, .bool, .int .i64, .ptr (.int .i64), .int .i64, .slice (.int .i64), .int .i64, .int .i64, .int .i64, .ptr (.int .i64), .int .i64, .slice (.int .i64)]
  res := [.slot 2]
  ntmps := 26
  body :=
    .seq (.region false [⟨some 1, .box tDFA (.s 0), none⟩, ⟨some 2, .move (.c .nil), none⟩] [1]) <|
    .seq (.region false [⟨some 6, .fieldAddr (.s 1) 1, none⟩, ⟨some 7, .load (.s 6), none⟩, ⟨some 8, .len (.s 7), none⟩, ⟨some 9, .bin .add (.s 8) (.c (.int .i64 1)), none⟩, ⟨some 10, .makeSlice (.int .i64) 8 (.s 9) (.s 9), none⟩, ⟨some 3, .move (.s 10), none⟩] [1, 3]) <|
    .seq (.seq (.region false [⟨some 11, .fieldAddr (.s 1) 2, none⟩, ⟨some 12, .load (.s 11), none⟩, ⟨some 13, .len (.s 12), none⟩, ⟨some 14, .move (.c (.int .i64 0)), none⟩] [3, 12, 13, 14]) <|
     .block 0 (.loop [3, 12, 13, 14] (.seq (.region false [⟨some 15, .bin .lss (.s 14) (.s 13), none⟩] [3, 12, 13, 14, 15]) <|
       .seq (.cond (.s 15) (.skip) (.exit 0)) <|
       .seq (.block 1 (.seq (.region false [⟨some 16, .move (.s 14), none⟩, ⟨some 17, .indexAddr (.s 12) (.s 14), none⟩, ⟨some 18, .load (.s 17), none⟩, ⟨some 4, .move (.s 16), none⟩, ⟨some 5, .move (.s 18), none⟩] [3, 4, 5, 12, 13, 14]) <|
         .region false [⟨some 19, .move (.s 3), none⟩, ⟨some 20, .move (.s 4), none⟩, ⟨some 21, .move (.s 5), none⟩, ⟨some 22, .bin .add (.s 21) (.c (.int .i64 1)), none⟩, ⟨some 23, .indexAddr (.s 19) (.s 20), none⟩, ⟨none, .store (.s 23) (.s 22), none⟩] [3, 12, 13, 14])) <|
       .region false [⟨some 24, .bin .add (.s 14) (.c (.int .i64 1)), none⟩, ⟨some 14, .move (.s 24), none⟩] [3, 12, 13, 14]))) <|
    .seq (.region false [⟨some 25, .move (.s 3), none⟩, ⟨some 2, .move (.s 25), none⟩] [2]) <|
    .ret
/-- bosket/byteset.Count -/
def v42 : VF where
  params := [.arr 256 (.int .u8)]
  results := [.int .i64]
  ret := .int .i64
  tys := [.arr 256 (.int .u8), .ptr (.arr 256 (.int .u8)), .int .i64, .int .i64, .bool, .int .u8, .arr 256 (.int .u8), .int .i64, .bool, .int .u8, .int .i64, .int .u8, .int .i64, .int .i64, .int .i64, .int .i64, .int .i64]
  res := [.slot 2]
  ntmps := 17
  body :=
    .seq (.region false [⟨some 1, .box (.arr 256 (.int .u8)) (.s 0), none⟩, ⟨some 2, .move (.c (.int .i64 0)), none⟩] [1]) <|
    .seq (.region false [⟨some 3, .move (.c (.int .i64 0)), none⟩] [1, 3]) <|
    .seq (.seq (.region false [⟨some 6, .load (.s 1), none⟩, ⟨some 7, .move (.c (.int .i64 0)), none⟩] [3, 6, 7]) <|
     .block 0 (.loop [3, 6, 7] (.seq (.region false [⟨some 8, .bin .lss (.s 7) (.c (.int .i64 256)), none⟩] [3, 6, 7, 8]) <|
       .seq (.cond (.s 8) (.skip) (.exit 0)) <|
       .seq (.block 1 (.seq (.region false [⟨some 9, .index (.s 6) (.s 7), none⟩, ⟨some 5, .move (.s 9), none⟩] [3, 5, 6, 7]) <|
         .region false [⟨some 10, .move (.s 3), none⟩, ⟨some 11, .move (.s 5), none⟩, ⟨some 12, .convInt .i64 (.s 11), none⟩, ⟨some 13, .bin .add (.s 12) (.c (.int .i64 1)), none⟩, ⟨some 14, .minmax true (.s 10) (.s 13), none⟩, ⟨some 3, .move (.s 14), none⟩] [3, 6, 7])) <|
       .region false [⟨some 15, .bin .add (.s 7) (.c (.int .i64 1)), none⟩, ⟨some 7, .move (.s 15), none⟩] [3, 6, 7]))) <|
    .seq (.region false [⟨some 16, .move (.s 3), none⟩, ⟨some 2, .move (.s 16), none⟩] [2]) <|
    .ret
/-- bosket/dfa.gapless -/
def v43 : VF where
  params := [.arr 256 (.int .u8), .int .i64]
  results := [.bool]
  ret := .bool
  tys := [.arr 256 (.int .u8), .int .i64, .ptr (.arr 256 (.int .u8)), .bool, .bool, .slice .bool, .bool, .int .u8, .bool, .bool, .int .i64, .slice .bool, .arr 256 (.int .u8), .int .i64, .bool, .int .u8, .slice .bool, .int .u8, .ptr .bool, .int .i64, .slice .bool, .int .i64, .int .i64, .bool, .ptr .bool, .bool, .bool, .bool, .int .i64]
  res := [.slot 4]
  ntmps := 29
  body :=
    .seq (.region false [⟨some 2, .box (.arr 256 (.int .u8)) (.s 0), none⟩, ⟨some 4, .move (.c (.bool false)), none⟩] [1, 2]) <|
    .seq (.region false [⟨some 10, .move (.s 1), none⟩, ⟨some 11, .makeSlice .bool 1 (.s 10) (.s 10), none⟩, ⟨some 5, .move (.s 11), none⟩] [2, 5]) <|
    .seq (.seq (.region false [⟨some 12, .load (.s 2), none⟩, ⟨some 13, .move (.c (.int .i64 0)), none⟩] [5, 12, 13]) <|
     .block 0 (.loop [5, 12, 13] (.seq (.region false [⟨some 14, .bin .lss (.s 13) (.c (.int .i64 256)), none⟩] [5, 12, 13, 14]) <|
       .seq (.cond (.s 14) (.skip) (.exit 0)) <|
       .seq (.block 1 (.seq (.region false [⟨some 15, .index (.s 12) (.s 13), none⟩, ⟨some 7, .move (.s 15), none⟩] [5, 7, 12, 13]) <|
         .region false [⟨some 16, .move (.s 5), none⟩, ⟨some 17, .move (.s 7), none⟩, ⟨some 18, .indexAddr (.s 16) (.s 17), none⟩, ⟨none, .store (.s 18) (.c (.bool true)), none⟩] [5, 12, 13])) <|
       .region false [⟨some 19, .bin .add (.s 13) (.c (.int .i64 1)), none⟩, ⟨some 13, .move (.s 19), none⟩] [5, 12, 13]))) <|
    .seq (.seq (.region false [⟨some 20, .move (.s 5), none⟩, ⟨some 21, .len (.s 20), none⟩, ⟨some 22, .move (.c (.int .i64 0)), none⟩] [20, 21, 22]) <|
     .block 2 (.loop [20, 21, 22] (.seq (.region false [⟨some 23, .bin .lss (.s 22) (.s 21), none⟩] [20, 21, 22, 23]) <|
       .seq (.cond (.s 23) (.skip) (.exit 2)) <|
       .seq (.block 3 (.seq (.region false [⟨some 24, .indexAddr (.s 20) (.s 22), none⟩, ⟨some 25, .load (.s 24), none⟩, ⟨some 9, .move (.s 25), none⟩] [9, 20, 21, 22]) <|
         .seq (.region false [⟨some 26, .move (.s 9), none⟩, ⟨some 27, .un .not (.s 26), none⟩] [20, 21, 22, 27]) <|
         .cond (.s 27) (.seq (.region false [⟨some 4, .move (.c (.bool false)), none⟩] [4]) <|
          .ret) (.skip))) <|
       .region false [⟨some 28, .bin .add (.s 22) (.c (.int .i64 1)), none⟩, ⟨some 22, .move (.s 28), none⟩] [20, 21, 22]))) <|
    .seq (.region false [⟨some 4, .move (.c (.bool true)), none⟩] [4]) <|
    .ret
/-- bosket/dfa.Alive -/
def v44 : VF where
  params := [tDFA]
  results := [.slice .bool]
  ret := .slice .bool
  tys := [tDFA, .ptr tDFA, .slice .bool, .slice .bool, .int .i64, .bool, .int .i64, .slice (.int .i64), .bool, .int .i64, .ptr (.slice (.slice (.int .i64))), .slice (.slice (.int .i64)), .int .i64, .slice .bool, .slice .bool, .int .i64, .int .i64, .bool, .int .i64, .slice .bool, .int .i64, tDFA, .int .i64, .int .i64, .bool, .ptr .bool, .int .i64, .bool, .ptr (.slice (.slice (.int .i64))), .slice (.slice (.int .i64)), .int .i64, .int .i64, .bool, .int .i64, .ptr (.slice (.int .i64)), .slice (.int .i64), .slice .bool, .int .i64, .ptr .bool, .bool, .slice (.int .i64), .int .i64, .int .i64, .bool, .ptr (.int .i64), .int .i64, .int .i64, .bool, .bool, .int .i64, .slice .bool, .int .i64, .bool, .bool, .bool, .slice .bool, .int .i64, .ptr .bool, .bool, .bool, .slice .bool, .int .i64, .ptr .bool, .int .i64, .int .i64, .slice .bool]
  res := [.slot 2]
  ntmps := 66
  body :=
    .seq (.region false [⟨some 1, .box tDFA (.s 0), none⟩, ⟨some 2, .move (.c .nil), none⟩] [1]) <|
    .seq (.region false [⟨some 10, .fieldAddr (.s 1) 1, none⟩, ⟨some 11, .load (.s 10), none⟩, ⟨some 12, .len (.s 11), none⟩, ⟨some 13, .makeSlice .bool 1 (.s 12) (.s 12), none⟩, ⟨some 3, .move (.s 13), none⟩] [1, 3]) <|
    .seq (.seq (.region false [⟨some 14, .move (.s 3), none⟩, ⟨some 15, .len (.s 14), none⟩, ⟨some 16, .move (.c (.int .i64 0)), none⟩] [1, 3, 15, 16]) <|
     .block 0 (.loop [1, 3, 15, 16] (.seq (.region false [⟨some 17, .bin .lss (.s 16) (.s 15), none⟩] [1, 3, 15, 16, 17]) <|
       .seq (.cond (.s 17) (.skip) (.exit 0)) <|
       .seq (.block 1 (.seq (.region false [⟨some 18, .move (.s 16), none⟩, ⟨some 4, .move (.s 18), none⟩] [1, 3, 4, 15, 16]) <|
         .region false [⟨some 19, .move (.s 3), none⟩, ⟨some 20, .move (.s 4), none⟩, ⟨some 21, .load (.s 1), none⟩, ⟨some 22, .move (.s 4), none⟩, ⟨some 23, .call 49 [.s 21, .s 22] (.int .i64), none⟩, ⟨some 24, .bin .geq (.s 23) (.c (.int .i64 0)), none⟩, ⟨some 25, .indexAddr (.s 19) (.s 20), none⟩, ⟨none, .store (.s 25) (.s 24), none⟩] [1, 3, 15, 16])) <|
       .region false [⟨some 26, .bin .add (.s 16) (.c (.int .i64 1)), none⟩, ⟨some 16, .move (.s 26), none⟩] [1, 3, 15, 16]))) <|
    .seq (.seq (.region false [⟨some 5, .move (.c (.bool true)), none⟩] [1, 3, 5]) <|
     .block 2 (.loop [1, 3, 5] (.seq (.seq (.region false [⟨some 27, .move (.s 5), none⟩] [1, 3, 27]) <|
        .cond (.s 27) (.skip) (.exit 2)) <|
       .block 3 (.seq (.region false [⟨some 5, .move (.c (.bool false)), none⟩] [1, 3, 5]) <|
        .seq (.skip) <|
        .seq (.region false [⟨some 28, .fieldAddr (.s 1) 1, none⟩, ⟨some 29, .load (.s 28), none⟩, ⟨some 30, .len (.s 29), none⟩, ⟨some 31, .move (.c (.int .i64 0)), none⟩] [1, 3, 5, 29, 30, 31]) <|
        .block 4 (.loop [1, 3, 5, 29, 30, 31] (.seq (.region false [⟨some 32, .bin .lss (.s 31) (.s 30), none⟩] [1, 3, 5, 29, 30, 31, 32]) <|
          .seq (.cond (.s 32) (.skip) (.exit 4)) <|
          .seq (.block 5 (.seq (.region false [⟨some 33, .move (.s 31), none⟩, ⟨some 34, .indexAddr (.s 29) (.s 31), none⟩, ⟨some 35, .load (.s 34), none⟩, ⟨some 6, .move (.s 33), none⟩, ⟨some 7, .move (.s 35), none⟩] [1, 3, 5, 6, 7, 29, 30, 31]) <|
            .seq (.seq (.region false [⟨some 36, .move (.s 3), none⟩, ⟨some 37, .move (.s 6), none⟩, ⟨some 38, .indexAddr (.s 36) (.s 37), none⟩, ⟨some 39, .load (.s 38), none⟩] [1, 3, 5, 6, 7, 29, 30, 31, 39]) <|
             .cond (.s 39) (.exit 5) (.skip)) <|
            .seq (.region false [⟨some 40, .move (.s 7), none⟩, ⟨some 41, .len (.s 40), none⟩, ⟨some 42, .move (.c (.int .i64 0)), none⟩] [1, 3, 5, 6, 29, 30, 31, 40, 41, 42]) <|
            .block 6 (.loop [1, 3, 5, 6, 29, 30, 31, 40, 41, 42] (.seq (.region false [⟨some 43, .bin .lss (.s 42) (.s 41), none⟩] [1, 3, 5, 6, 29, 30, 31, 40, 41, 42, 43]) <|
              .seq (.cond (.s 43) (.skip) (.exit 6)) <|
              .seq (.block 7 (.seq (.region false [⟨some 44, .indexAddr (.s 40) (.s 42), none⟩, ⟨some 45, .load (.s 44), none⟩, ⟨some 9, .move (.s 45), none⟩] [1, 3, 5, 6, 9, 29, 30, 31, 40, 41, 42]) <|
                .seq (.region false [⟨some 46, .move (.s 9), none⟩, ⟨some 47, .bin .geq (.s 46) (.c (.int .i64 0)), none⟩, ⟨some 48, .move (.s 47), none⟩, ⟨some 49, .move (.s 9), some (48, true)⟩, ⟨some 50, .move (.s 3), some (48, true)⟩, ⟨some 51, .len (.s 50), some (48, true)⟩, ⟨some 52, .bin .lss (.s 49) (.s 51), some (48, true)⟩, ⟨some 53, .pick (.s 48) (.s 52) (.c (.bool false)), none⟩, ⟨some 54, .move (.s 53), none⟩, ⟨some 55, .move (.s 3), some (54, true)⟩, ⟨some 56, .move (.s 9), some (54, true)⟩, ⟨some 57, .indexAddr (.s 55) (.s 56), some (54, true)⟩, ⟨some 58, .load (.s 57), some (54, true)⟩, ⟨some 59, .pick (.s 54) (.s 58) (.c (.bool false)), none⟩] [1, 3, 5, 6, 29, 30, 31, 40, 41, 42, 59]) <|
                .cond (.s 59) (.seq (.region false [⟨some 60, .move (.s 3), none⟩, ⟨some 61, .move (.s 6), none⟩, ⟨some 62, .indexAddr (.s 60) (.s 61), none⟩, ⟨none, .store (.s 62) (.c (.bool true)), none⟩, ⟨some 5, .move (.c (.bool true)), none⟩] [1, 3, 5, 29, 30, 31]) <|
                 .exit 5) (.skip))) <|
              .region false [⟨some 63, .bin .add (.s 42) (.c (.int .i64 1)), none⟩, ⟨some 42, .move (.s 63), none⟩] [1, 3, 5, 6, 29, 30, 31, 40, 41, 42])))) <|
          .region false [⟨some 64, .bin .add (.s 31) (.c (.int .i64 1)), none⟩, ⟨some 31, .move (.s 64), none⟩] [1, 3, 5, 29, 30, 31])))))) <|
    .seq (.region false [⟨some 65, .move (.s 3), none⟩, ⟨some 2, .move (.s 65), none⟩] [2]) <|
    .ret
/-- slices.Clone[[]int,int] -/
def v45 : VF where
  params := [.slice (.int .i64)]
  results := [.slice (.int .i64)]
  ret := .slice (.int .i64)
  tys := [.slice (.int .i64), .bool, .slice (.int .i64), .slice (.int .i64), .bool, .slice (.int .i64), .slice (.int .i64), .slice (.int .i64)]
  res := [.slot 2]
  ntmps := 8
  body :=
    .seq (.region false [⟨some 2, .move (.c .nil), none⟩] [0]) <|
    .seq (.seq (.region false [⟨some 3, .move (.s 0), none⟩, ⟨some 4, .bin .eql (.s 3) (.c .nil), none⟩] [0, 4]) <|
     .cond (.s 4) (.seq (.region false [⟨some 2, .move (.c .nil), none⟩] [2]) <|
      .ret) (.skip)) <|
    .seq (.region false [⟨some 5, .buildSlice (.int .i64) 0 [], none⟩, ⟨some 6, .move (.s 0), none⟩, ⟨some 7, .append 8 (.s 5) (.s 6), none⟩, ⟨some 2, .move (.s 7), none⟩] [2]) <|
    .ret
/-- bosket/mini.column -/
def v46 : VF where
  params := [tDFA, .int .i64]
  results := [.str]
  ret := .str
  tys := [tDFA, .int .i64, .ptr tDFA, .bool, .str, .str, .bool, .slice (.int .i64), .ptr (.slice (.slice (.int .i64))), .slice (.slice (.int .i64)), .int .i64, .int .i64, .bool, .ptr (.slice (.int .i64)), .slice (.int .i64), .str, .slice (.int .i64), .int .i64, .ptr (.int .i64), .int .i64, .int .i64, .str, .str, .int .i64, .str]
  res := [.slot 4]
  ntmps := 25
  body :=
    .seq (.region false [⟨some 2, .box tDFA (.s 0), none⟩, ⟨some 4, .move (.c (.str [])), none⟩] [1, 2]) <|
    .seq (.region false [⟨some 5, .move (.c (.str [])), none⟩] [1, 2, 5]) <|
    .seq (.seq (.region false [⟨some 8, .fieldAddr (.s 2) 1, none⟩, ⟨some 9, .load (.s 8), none⟩, ⟨some 10, .len (.s 9), none⟩, ⟨some 11, .move (.c (.int .i64 0)), none⟩] [1, 5, 9, 10, 11]) <|
     .block 0 (.loop [1, 5, 9, 10, 11] (.seq (.region false [⟨some 12, .bin .lss (.s 11) (.s 10), none⟩] [1, 5, 9, 10, 11, 12]) <|
       .seq (.cond (.s 12) (.skip) (.exit 0)) <|
       .seq (.block 1 (.seq (.region false [⟨some 13, .indexAddr (.s 9) (.s 11), none⟩, ⟨some 14, .load (.s 13), none⟩, ⟨some 7, .move (.s 14), none⟩] [1, 5, 7, 9, 10, 11]) <|
         .region false [⟨some 15, .move (.s 5), none⟩, ⟨some 16, .move (.s 7), none⟩, ⟨some 17, .move (.s 1), none⟩, ⟨some 18, .indexAddr (.s 16) (.s 17), none⟩, ⟨some 19, .load (.s 18), none⟩, ⟨some 20, .bin .add (.s 19) (.c (.int .i64 1)), none⟩, ⟨some 21, .call 55 [.s 20] .str, none⟩, ⟨some 22, .bin .add (.s 15) (.s 21), none⟩, ⟨some 5, .move (.s 22), none⟩] [1, 5, 9, 10, 11])) <|
       .region false [⟨some 23, .bin .add (.s 11) (.c (.int .i64 1)), none⟩, ⟨some 11, .move (.s 23), none⟩] [1, 5, 9, 10, 11]))) <|
    .seq (.region false [⟨some 24, .move (.s 5), none⟩, ⟨some 4, .move (.s 24), none⟩] [4]) <|
    .ret
/-- bosket/mini.row -/
def v47 : VF where
  params := [tDFA, .slice (.int .i64), .int .i64]
  results := [.str]
  ret := .str
  tys := [tDFA, .slice (.int .i64), .int .i64, .ptr tDFA, .bool, .bool, .str, .str, .int .i64, .int .i64, .slice (.int .i64), .int .i64, .ptr (.int .i64), .int .i64, .str, .ptr (.arr 256 (.int .u8)), .arr 256 (.int .u8), .int .i64, .int .i64, .bool, .int .i64, .ptr (.slice (.slice (.int .i64))), .slice (.slice (.int .i64)), .int .i64, .int .i64, .ptr (.slice (.slice (.int .i64))), .slice (.slice (.int .i64)), .int .i64, .bool, .bool, .ptr (.slice (.slice (.int .i64))), .slice (.slice (.int .i64)), .int .i64, .ptr (.slice (.int .i64)), .slice (.int .i64), .int .i64, .ptr (.int .i64), .int .i64, .bool, .bool, .ptr (.slice (.slice (.int .i64))), .slice (.slice (.int .i64)), .int .i64, .ptr (.slice (.int .i64)), .slice (.int .i64), .int .i64, .ptr (.int .i64), .int .i64, .str, .slice (.int .i64), .int .i64, .ptr (.int .i64), .int .i64, .str, .str, .int .i64, .str]
  res := [.slot 6]
  ntmps := 57
  body :=
    .seq (.region false [⟨some 3, .box tDFA (.s 0), none⟩, ⟨some 6, .move (.c (.str [])), none⟩] [1, 2, 3]) <|
    .seq (.region false [⟨some 10, .move (.s 1), none⟩, ⟨some 11, .move (.s 2), none⟩, ⟨some 12, .indexAddr (.s 10) (.s 11), none⟩, ⟨some 13, .load (.s 12), none⟩, ⟨some 14, .call 55 [.s 13] .str, none⟩, ⟨some 7, .move (.s 14), none⟩] [1, 2, 3, 7]) <|
    .seq (.seq (.region false [⟨some 15, .fieldAddr (.s 3) 0, none⟩, ⟨some 16, .load (.s 15), none⟩, ⟨some 17, .call 42 [.s 16] (.int .i64), none⟩, ⟨some 18, .move (.c (.int .i64 0)), none⟩] [1, 2, 3, 7, 17, 18]) <|
     .block 0 (.loop [1, 2, 3, 7, 17, 18] (.seq (.region false [⟨some 19, .bin .lss (.s 18) (.s 17), none⟩] [1, 2, 3, 7, 17, 18, 19]) <|
       .seq (.cond (.s 19) (.skip) (.exit 0)) <|
       .seq (.block 1 (.seq (.region false [⟨some 20, .move (.s 18), none⟩, ⟨some 8, .move (.s 20), none⟩] [1, 2, 3, 7, 8, 17, 18]) <|
         .seq (.region false [⟨some 21, .fieldAddr (.s 3) 1, none⟩, ⟨some 22, .load (.s 21), none⟩, ⟨some 23, .len (.s 22), none⟩, ⟨some 9, .move (.s 23), none⟩] [1, 2, 3, 7, 8, 9, 17, 18]) <|
         .seq (.seq (.region false [⟨some 24, .move (.s 2), none⟩, ⟨some 25, .fieldAddr (.s 3) 1, none⟩, ⟨some 26, .load (.s 25), none⟩, ⟨some 27, .len (.s 26), none⟩, ⟨some 28, .bin .lss (.s 24) (.s 27), none⟩, ⟨some 29, .move (.s 28), none⟩, ⟨some 30, .fieldAddr (.s 3) 1, some (29, true)⟩, ⟨some 31, .load (.s 30), some (29, true)⟩, ⟨some 32, .move (.s 2), some (29, true)⟩, ⟨some 33, .indexAddr (.s 31) (.s 32), some (29, true)⟩, ⟨some 34, .load (.s 33), some (29, true)⟩, ⟨some 35, .move (.s 8), some (29, true)⟩, ⟨some 36, .indexAddr (.s 34) (.s 35), some (29, true)⟩, ⟨some 37, .load (.s 36), some (29, true)⟩, ⟨some 38, .bin .geq (.s 37) (.c (.int .i64 0)), some (29, true)⟩, ⟨some 39, .pick (.s 29) (.s 38) (.c (.bool false)), none⟩] [1, 2, 3, 7, 8, 9, 17, 18, 39]) <|
          .cond (.s 39) (.region false [⟨some 40, .fieldAddr (.s 3) 1, none⟩, ⟨some 41, .load (.s 40), none⟩, ⟨some 42, .move (.s 2), none⟩, ⟨some 43, .indexAddr (.s 41) (.s 42), none⟩, ⟨some 44, .load (.s 43), none⟩, ⟨some 45, .move (.s 8), none⟩, ⟨some 46, .indexAddr (.s 44) (.s 45), none⟩, ⟨some 47, .load (.s 46), none⟩, ⟨some 9, .move (.s 47), none⟩] [1, 2, 3, 7, 9, 17, 18]) (.skip)) <|
         .region false [⟨some 48, .move (.s 7), none⟩, ⟨some 49, .move (.s 1), none⟩, ⟨some 50, .move (.s 9), none⟩, ⟨some 51, .indexAddr (.s 49) (.s 50), none⟩, ⟨some 52, .load (.s 51), none⟩, ⟨some 53, .call 55 [.s 52] .str, none⟩, ⟨some 54, .bin .add (.s 48) (.s 53), none⟩, ⟨some 7, .move (.s 54), none⟩] [1, 2, 3, 7, 17, 18])) <|
       .region false [⟨some 55, .bin .add (.s 18) (.c (.int .i64 1)), none⟩, ⟨some 18, .move (.s 55), none⟩] [1, 2, 3, 7, 17, 18]))) <|
    .seq (.region false [⟨some 56, .move (.s 7), none⟩, ⟨some 6, .move (.s 56), none⟩] [6]) <|
    .ret
/-- bosket/dfa.Mark -/
def v49 : VF where
  params := [tDFA, .int .i64]
  results := [.int .i64]
  ret := .int .i64
  tys := [tDFA, .int .i64, .ptr tDFA, .bool, .int .i64, .int .i64, .bool, .bool, .int .i64, .ptr (.slice (.int .i64)), .slice (.int .i64), .int .i64, .bool, .bool, .ptr (.slice (.int .i64)), .slice (.int .i64), .int .i64, .ptr (.int .i64), .int .i64]
  res := [.slot 4]
  ntmps := 19
  body :=
    .seq (.region false [⟨some 2, .box tDFA (.s 0), none⟩, ⟨some 4, .move (.c (.int .i64 0)), none⟩] [1, 2]) <|
    .seq (.seq (.region false [⟨some 5, .move (.s 1), none⟩, ⟨some 6, .bin .lss (.s 5) (.c (.int .i64 0)), none⟩, ⟨some 7, .move (.s 6), none⟩, ⟨some 8, .move (.s 1), some (7, false)⟩, ⟨some 9, .fieldAddr (.s 2) 2, some (7, false)⟩, ⟨some 10, .load (.s 9), some (7, false)⟩, ⟨some 11, .len (.s 10), some (7, false)⟩, ⟨some 12, .bin .geq (.s 8) (.s 11), some (7, false)⟩, ⟨some 13, .pick (.s 7) (.c (.bool true)) (.s 12), none⟩] [1, 2, 13]) <|
     .cond (.s 13) (.seq (.region false [⟨some 4, .move (.c (.int .i64 (-1))), none⟩] [4]) <|
      .ret) (.skip)) <|
    .seq (.region false [⟨some 14, .fieldAddr (.s 2) 2, none⟩, ⟨some 15, .load (.s 14), none⟩, ⟨some 16, .move (.s 1), none⟩, ⟨some 17, .indexAddr (.s 15) (.s 16), none⟩, ⟨some 18, .load (.s 17), none⟩, ⟨some 4, .move (.s 18), none⟩] [4]) <|
    .ret
/-- bosket/mini.word -/
def v55 : VF where
  params := [.int .i64]
  results := [.str]
  ret := .str
  tys := [.int .i64, .bool, .str, .int .i64, .int .i64, .int .u8, .int .i64, .int .u8, .slice (.int .u8), .str]
  res := [.slot 2]
  ntmps := 10
  body :=
    .seq (.region false [⟨some 2, .move (.c (.str [])), none⟩] [0]) <|
    .seq (.region false [⟨some 3, .move (.s 0), none⟩, ⟨some 4, .bin .shr (.s 3) (.c (.int .u64 8)), none⟩, ⟨some 5, .convInt .u8 (.s 4), none⟩, ⟨some 6, .move (.s 0), none⟩, ⟨some 7, .convInt .u8 (.s 6), none⟩, ⟨some 8, .buildSlice (.int .u8) 2 [(0, .s 5), (1, .s 7)], none⟩, ⟨some 9, .convStr (.s 8), none⟩, ⟨some 2, .move (.s 9), none⟩] [2]) <|
    .ret
def sig : Nat → Option (List TD × TD)
  | 5 => some (v5.params, v5.ret)
  | 7 => some (v7.params, v7.ret)
  | 8 => some (v8.params, v8.ret)
  | 9 => some (v9.params, v9.ret)
  | 10 => some (v10.params, v10.ret)
  | 11 => some (v11.params, v11.ret)
  | 14 => some (v14.params, v14.ret)
  | 25 => some (v25.params, v25.ret)
  | 26 => some (v26.params, v26.ret)
  | 27 => some (v27.params, v27.ret)
  | 28 => some (v28.params, v28.ret)
  | 29 => some (v29.params, v29.ret)
  | 30 => some (v30.params, v30.ret)
  | 31 => some (v31.params, v31.ret)
  | 32 => some (v32.params, v32.ret)
  | 42 => some (v42.params, v42.ret)
  | 43 => some (v43.params, v43.ret)
  | 44 => some (v44.params, v44.ret)
  | 45 => some (v45.params, v45.ret)
  | 46 => some (v46.params, v46.ret)
  | 47 => some (v47.params, v47.ret)
  | 49 => some (v49.params, v49.ret)
  | 55 => some (v55.params, v55.ret)
  | _ => none
def code : Nat → Option VFn
  | 5 => some (.code v5)
  | 7 => some (.code v7)
  | 8 => some (.code v8)
  | 9 => some (.code v9)
  | 10 => some (.code v10)
  | 11 => some (.code v11)
  | 14 => some (.code v14)
  | 25 => some (.code v25)
  | 26 => some (.code v26)
  | 27 => some (.code v27)
  | 28 => some (.code v28)
  | 29 => some (.code v29)
  | 30 => some (.code v30)
  | 31 => some (.code v31)
  | 32 => some (.code v32)
  | 42 => some (.code v42)
  | 43 => some (.code v43)
  | 44 => some (.code v44)
  | 45 => some (.code v45)
  | 46 => some (.code v46)
  | 47 => some (.code v47)
  | 49 => some (.code v49)
  | 55 => some (.code v55)
  | _ => none
end Go.Vm.Ytnajiilcdcffdaa
end
