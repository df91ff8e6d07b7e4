/- The code of functions, compiled (printed by wip/tools/kp.py). -/
import Derived.Test.YtcoepjbipbihfaaGreatDoorProg
import Derived.Test.YtcoepjbipbihfaaGreatDoorM3
namespace Go.Proofs.YtcoepjbipbihfaaGreatDoor
set_option linter.unusedSimpArgs false
set_option linter.unusedVariables false
open Go Go.Fw
/-- bobbin/bobbinlaw11.large -/
def a_bobbinlaw11_largeb1 : ACode :=
              .seq (
               .seq (
                .ops [⟨some 59, .val (.tmp 7), none⟩,
                  ⟨some 60, .fieldAddr 1 (.tmp 5), none⟩,
                  ⟨some 61, .load false 1 (.tmp 60), none⟩,
                  ⟨some 62, .len 1 (.tmp 61), none⟩,
                  ⟨some 63, .bin .lss .num (.tmp 59) (.tmp 62), none⟩,
                  ⟨some 64, .val (.tmp 63), none⟩,
                  ⟨some 65, .val (.tmp 3), some (64, true)⟩,
                  ⟨some 66, .bin .lss .num (.tmp 65) (.val (.lit (.int .i64 1500))), some (64, true)⟩,
                  ⟨some 67, .pick (.tmp 64) (.tmp 66) (.val (.lit (.bool false))), none⟩]) (
               .cond (.tmp 67) (
                 .skip) (
                 .exit 4))) (
              .seq (
               .block 5 (
                 .ops [⟨some 70, .val (.tmp 3), none⟩,
                   ⟨some 71, .fieldAddr 1 (.tmp 5), none⟩,
                   ⟨some 72, .load false 1 (.tmp 71), none⟩,
                   ⟨some 73, .val (.tmp 7), none⟩,
                   ⟨some 74, .indexAddr 6 (.tmp 72) (.tmp 73), none⟩,
                   ⟨some 75, .fieldAddr 5 (.tmp 74), none⟩,
                   ⟨some 76, .load false 1 (.tmp 75), none⟩,
                   ⟨some 77, .len 1 (.tmp 76), none⟩,
                   ⟨some 78, .bin .add .num (.tmp 70) (.tmp 77), none⟩,
                   ⟨some 3, .val (.tmp 78), none⟩])) (
              .ops [⟨some 68, .val (.tmp 7), none⟩,
                ⟨some 69, .bin .add .num (.tmp 68) (.val (.lit (.int .i64 1))), none⟩,
                ⟨some 7, .val (.tmp 69), none⟩]))

def a_bobbinlaw11_largeb2 : ACode :=
               .seq (
                .seq (
                 .ops [⟨some 38, .val (.tmp 6), none⟩,
                   ⟨some 39, .fieldAddr 0 (.tmp 5), none⟩,
                   ⟨some 40, .load false 1 (.tmp 39), none⟩,
                   ⟨some 41, .len 1 (.tmp 40), none⟩,
                   ⟨some 42, .bin .lss .num (.tmp 38) (.tmp 41), none⟩,
                   ⟨some 43, .val (.tmp 42), none⟩,
                   ⟨some 44, .val (.tmp 3), some (43, true)⟩,
                   ⟨some 45, .bin .lss .num (.tmp 44) (.val (.lit (.int .i64 1500))), some (43, true)⟩,
                   ⟨some 46, .pick (.tmp 43) (.tmp 45) (.val (.lit (.bool false))), none⟩]) (
                .cond (.tmp 46) (
                  .skip) (
                  .exit 2))) (
               .seq (
                .block 3 (
                  .ops [⟨some 49, .val (.tmp 3), none⟩,
                    ⟨some 50, .bin .add .num (.tmp 49) (.val (.lit (.int .i64 1))), none⟩,
                    ⟨some 51, .fieldAddr 0 (.tmp 5), none⟩,
                    ⟨some 52, .load false 1 (.tmp 51), none⟩,
                    ⟨some 53, .val (.tmp 6), none⟩,
                    ⟨some 54, .indexAddr 2 (.tmp 52) (.tmp 53), none⟩,
                    ⟨some 55, .fieldAddr 1 (.tmp 54), none⟩,
                    ⟨some 56, .load false 1 (.tmp 55), none⟩,
                    ⟨some 57, .len 1 (.tmp 56), none⟩,
                    ⟨some 58, .bin .add .num (.tmp 50) (.tmp 57), none⟩,
                    ⟨some 3, .val (.tmp 58), none⟩])) (
               .ops [⟨some 47, .val (.tmp 6), none⟩,
                 ⟨some 48, .bin .add .num (.tmp 47) (.val (.lit (.int .i64 1))), none⟩,
                 ⟨some 6, .val (.tmp 48), none⟩]))

def a_bobbinlaw11_largeb3 : ACode :=
       .seq (
        .seq (
         .ops [⟨some 8, .val (.tmp 4), none⟩,
           ⟨some 9, .fieldAddr 4 (.tmp 1), none⟩,
           ⟨some 10, .iload false 1 (.tmp 9), none⟩,
           ⟨some 11, .len 1 (.tmp 10), none⟩,
           ⟨some 12, .bin .lss .num (.tmp 8) (.tmp 11), none⟩,
           ⟨some 13, .val (.tmp 12), none⟩,
           ⟨some 14, .val (.tmp 3), some (13, true)⟩,
           ⟨some 15, .bin .lss .num (.tmp 14) (.val (.lit (.int .i64 1500))), some (13, true)⟩,
           ⟨some 16, .pick (.tmp 13) (.tmp 15) (.val (.lit (.bool false))), none⟩]) (
        .cond (.tmp 16) (
          .skip) (
          .exit 0))) (
       .seq (
        .block 1 (
          .seq (
           .ops [⟨some 19, .fieldAddr 4 (.tmp 1), none⟩,
             ⟨some 20, .iload false 1 (.tmp 19), none⟩,
             ⟨some 21, .val (.tmp 4), none⟩,
             ⟨some 22, .indexAddr 4 (.tmp 20) (.tmp 21), none⟩,
             ⟨some 23, .load true 4 (.tmp 22), none⟩,
             ⟨some 5, .alloc [(.sl .nil 0 []), (.sl .nil 0 []), (.sl .nil 0 []), (.sl .nil 0 [])], none⟩,
             ⟨none, .store 4 (.tmp 5) (.tmp 23), none⟩]) (
          .seq (
           .ops [⟨some 24, .val (.tmp 3), none⟩,
             ⟨some 25, .bin .add .num (.tmp 24) (.val (.lit (.int .i64 2))), none⟩,
             ⟨some 26, .fieldAddr 2 (.tmp 5), none⟩,
             ⟨some 27, .load false 1 (.tmp 26), none⟩,
             ⟨some 28, .len 1 (.tmp 27), none⟩,
             ⟨some 29, .bin .add .num (.tmp 25) (.tmp 28), none⟩,
             ⟨some 30, .fieldAddr 3 (.tmp 5), none⟩,
             ⟨some 31, .load false 1 (.tmp 30), none⟩,
             ⟨some 32, .len 1 (.tmp 31), none⟩,
             ⟨some 33, .bin .add .num (.tmp 29) (.tmp 32), none⟩,
             ⟨some 34, .fieldAddr 1 (.tmp 5), none⟩,
             ⟨some 35, .load false 1 (.tmp 34), none⟩,
             ⟨some 36, .len 1 (.tmp 35), none⟩,
             ⟨some 37, .bin .add .num (.tmp 33) (.tmp 36), none⟩,
             ⟨some 3, .val (.tmp 37), none⟩]) (
          .seq (
           .seq (
            .ops [⟨some 6, .val (.val (.lit (.int .i64 0))), none⟩]) (
           .block 2 (
             .loop a_bobbinlaw11_largeb2))) (
          .seq (
           .ops [⟨some 7, .val (.val (.lit (.int .i64 0))), none⟩]) (
          .block 4 (
            .loop a_bobbinlaw11_largeb1))))))) (
       .ops [⟨some 17, .val (.tmp 4), none⟩,
         ⟨some 18, .bin .add .num (.tmp 17) (.val (.lit (.int .i64 1))), none⟩,
         ⟨some 4, .val (.tmp 18), none⟩]))

def a_bobbinlaw11_large : ACode :=
  .seq (
   .ops [⟨some 1, .box true (.tmp 0), none⟩,
     ⟨some 2, .val (.val (.lit (.bool false))), none⟩]) (
  .seq (
   .ops [⟨some 3, .val (.val (.lit (.int .i64 0))), none⟩]) (
  .seq (
   .seq (
    .ops [⟨some 4, .val (.val (.lit (.int .i64 0))), none⟩]) (
   .block 0 (
     .loop a_bobbinlaw11_largeb3))) (
  .seq (
   .ops [⟨some 79, .val (.tmp 3), none⟩,
     ⟨some 80, .bin .geq .num (.tmp 79) (.val (.lit (.int .i64 1500))), none⟩,
     ⟨some 2, .val (.tmp 80), none⟩]) (
  .ret))))

theorem c_bobbinlaw11_large : codeOf Tryz.prog { bz := [1], il := [10, 20] } 7 = some (a_bobbinlaw11_large, [.tmp 2], 81) := by kernel_rfl

/-- bobbin/bobbinlaw11.FlowMay -/
def a_bobbinlaw11_FlowMayb1 : ACode :=
       .seq (
        .seq (
         .ops [⟨some 60, .val (.tmp 7), none⟩,
           ⟨some 61, .fieldAddr 2 (.tmp 2), none⟩,
           ⟨some 62, .iload false 1 (.tmp 61), none⟩,
           ⟨some 63, .len 1 (.tmp 62), none⟩,
           ⟨some 64, .bin .lss .num (.tmp 60) (.tmp 63), none⟩]) (
        .cond (.tmp 64) (
          .skip) (
          .exit 4))) (
       .seq (
        .block 5 (
          .seq (
           .seq (
            .ops [⟨some 67, .fieldAddr 2 (.tmp 2), none⟩,
              ⟨some 68, .iload false 1 (.tmp 67), none⟩,
              ⟨some 69, .val (.tmp 7), none⟩,
              ⟨some 70, .indexAddr 5 (.tmp 68) (.tmp 69), none⟩,
              ⟨some 71, .iload true 5 (.tmp 70), none⟩,
              ⟨some 72, .pcall (.val (.fn (.func 8) [] [])) [(.tmp 71)], none⟩,
              ⟨some 73, .fieldAddr 2 (.tmp 2), none⟩,
              ⟨some 74, .iload false 1 (.tmp 73), none⟩,
              ⟨some 75, .val (.tmp 7), none⟩,
              ⟨some 76, .indexAddr 5 (.tmp 74) (.tmp 75), none⟩,
              ⟨some 77, .iload true 5 (.tmp 76), none⟩,
              ⟨some 78, .pcall (.val (.fn (.func 9) [] [])) [(.tmp 77)], none⟩,
              ⟨some 79, .bin .neq .bool (.tmp 72) (.tmp 78), none⟩,
              ⟨some 80, .val (.tmp 79), none⟩,
              ⟨some 81, .fieldAddr 2 (.tmp 2), some (80, false)⟩,
              ⟨some 82, .iload false 1 (.tmp 81), some (80, false)⟩,
              ⟨some 83, .val (.tmp 7), some (80, false)⟩,
              ⟨some 84, .indexAddr 5 (.tmp 82) (.tmp 83), some (80, false)⟩,
              ⟨some 85, .iload true 5 (.tmp 84), some (80, false)⟩,
              ⟨some 86, .fieldAddr 2 (.tmp 2), some (80, false)⟩,
              ⟨some 87, .iload false 1 (.tmp 86), some (80, false)⟩,
              ⟨some 88, .val (.tmp 7), some (80, false)⟩,
              ⟨some 89, .indexAddr 5 (.tmp 87) (.tmp 88), some (80, false)⟩,
              ⟨some 90, .iload true 5 (.tmp 89), some (80, false)⟩,
              ⟨some 91, .pcall (.val (.fn (.func 10) [] [])) [(.tmp 85), (.tmp 90)], some (80, false)⟩,
              ⟨some 92, .un .not (.tmp 91), some (80, false)⟩,
              ⟨some 93, .pick (.tmp 80) (.val (.lit (.bool true))) (.tmp 92), none⟩]) (
           .cond (.tmp 93) (
             .seq (
              .ops [⟨some 4, .val (.val (.lit (.bool false))), none⟩]) (
             .ret)) (
             .skip))) (
          .seq (
           .ops [⟨some 94, .val (.tmp 7), none⟩,
             ⟨some 95, .fieldAddr 2 (.tmp 3), none⟩,
             ⟨some 96, .iload false 1 (.tmp 95), none⟩,
             ⟨some 97, .len 1 (.tmp 96), none⟩,
             ⟨some 98, .bin .lss .num (.tmp 94) (.tmp 97), none⟩,
             ⟨some 99, .val (.tmp 98), none⟩,
             ⟨some 100, .fieldAddr 2 (.tmp 2), some (99, true)⟩,
             ⟨some 101, .iload false 1 (.tmp 100), some (99, true)⟩,
             ⟨some 102, .val (.tmp 7), some (99, true)⟩,
             ⟨some 103, .indexAddr 5 (.tmp 101) (.tmp 102), some (99, true)⟩,
             ⟨some 104, .iload true 5 (.tmp 103), some (99, true)⟩,
             ⟨some 105, .fieldAddr 2 (.tmp 3), some (99, true)⟩,
             ⟨some 106, .iload false 1 (.tmp 105), some (99, true)⟩,
             ⟨some 107, .val (.tmp 7), some (99, true)⟩,
             ⟨some 108, .indexAddr 5 (.tmp 106) (.tmp 107), some (99, true)⟩,
             ⟨some 109, .iload true 5 (.tmp 108), some (99, true)⟩,
             ⟨some 110, .pcall (.val (.fn (.func 10) [] [])) [(.tmp 104), (.tmp 109)], some (99, true)⟩,
             ⟨some 111, .fieldAddr 2 (.tmp 2), some (99, true)⟩,
             ⟨some 112, .iload false 1 (.tmp 111), some (99, true)⟩,
             ⟨some 113, .val (.tmp 7), some (99, true)⟩,
             ⟨some 114, .indexAddr 5 (.tmp 112) (.tmp 113), some (99, true)⟩,
             ⟨some 115, .iload true 5 (.tmp 114), some (99, true)⟩,
             ⟨some 116, .fieldAddr 2 (.tmp 3), some (99, true)⟩,
             ⟨some 117, .iload false 1 (.tmp 116), some (99, true)⟩,
             ⟨some 118, .val (.tmp 7), some (99, true)⟩,
             ⟨some 119, .indexAddr 5 (.tmp 117) (.tmp 118), some (99, true)⟩,
             ⟨some 120, .iload true 5 (.tmp 119), some (99, true)⟩,
             ⟨some 121, .pcall (.val (.fn (.func 11) [] [])) [(.tmp 115), (.tmp 120)], some (99, true)⟩,
             ⟨some 122, .bin .neq .bool (.tmp 110) (.tmp 121), some (99, true)⟩,
             ⟨some 123, .pick (.tmp 99) (.tmp 122) (.val (.lit (.bool false))), none⟩]) (
          .cond (.tmp 123) (
            .seq (
             .ops [⟨some 4, .val (.val (.lit (.bool false))), none⟩]) (
            .ret)) (
            .skip))))) (
       .ops [⟨some 65, .val (.tmp 7), none⟩,
         ⟨some 66, .bin .add .num (.tmp 65) (.val (.lit (.int .i64 1))), none⟩,
         ⟨some 7, .val (.tmp 66), none⟩]))

def a_bobbinlaw11_FlowMayb2 : ACode :=
       .seq (
        .seq (
         .ops [⟨some 47, .val (.tmp 6), none⟩,
           ⟨some 48, .fieldAddr 2 (.tmp 3), none⟩,
           ⟨some 49, .iload false 1 (.tmp 48), none⟩,
           ⟨some 50, .len 1 (.tmp 49), none⟩,
           ⟨some 51, .bin .lss .num (.tmp 47) (.tmp 50), none⟩]) (
        .cond (.tmp 51) (
          .skip) (
          .exit 2))) (
       .seq (
        .block 3 (
          .seq (
           .ops [⟨some 54, .fieldAddr 2 (.tmp 3), none⟩,
             ⟨some 55, .iload false 1 (.tmp 54), none⟩,
             ⟨some 56, .val (.tmp 6), none⟩,
             ⟨some 57, .indexAddr 5 (.tmp 55) (.tmp 56), none⟩,
             ⟨some 58, .load true 5 (.tmp 57), none⟩,
             ⟨some 59, .call (.val (.fn (.func 7) [] [])) [(.tmp 58)], none⟩]) (
          .cond (.tmp 59) (
            .seq (
             .ops [⟨some 4, .val (.val (.lit (.bool true))), none⟩]) (
            .ret)) (
            .skip)))) (
       .ops [⟨some 52, .val (.tmp 6), none⟩,
         ⟨some 53, .bin .add .num (.tmp 52) (.val (.lit (.int .i64 1))), none⟩,
         ⟨some 6, .val (.tmp 53), none⟩]))

def a_bobbinlaw11_FlowMayb3 : ACode :=
       .seq (
        .seq (
         .ops [⟨some 34, .val (.tmp 5), none⟩,
           ⟨some 35, .fieldAddr 2 (.tmp 2), none⟩,
           ⟨some 36, .iload false 1 (.tmp 35), none⟩,
           ⟨some 37, .len 1 (.tmp 36), none⟩,
           ⟨some 38, .bin .lss .num (.tmp 34) (.tmp 37), none⟩]) (
        .cond (.tmp 38) (
          .skip) (
          .exit 0))) (
       .seq (
        .block 1 (
          .seq (
           .ops [⟨some 41, .fieldAddr 2 (.tmp 2), none⟩,
             ⟨some 42, .iload false 1 (.tmp 41), none⟩,
             ⟨some 43, .val (.tmp 5), none⟩,
             ⟨some 44, .indexAddr 5 (.tmp 42) (.tmp 43), none⟩,
             ⟨some 45, .load true 5 (.tmp 44), none⟩,
             ⟨some 46, .call (.val (.fn (.func 7) [] [])) [(.tmp 45)], none⟩]) (
          .cond (.tmp 46) (
            .seq (
             .ops [⟨some 4, .val (.val (.lit (.bool true))), none⟩]) (
            .ret)) (
            .skip)))) (
       .ops [⟨some 39, .val (.tmp 5), none⟩,
         ⟨some 40, .bin .add .num (.tmp 39) (.val (.lit (.int .i64 1))), none⟩,
         ⟨some 5, .val (.tmp 40), none⟩]))

def a_bobbinlaw11_FlowMay : ACode :=
  .seq (
   .ops [⟨some 2, .box true (.tmp 0), none⟩,
     ⟨some 3, .box true (.tmp 1), none⟩,
     ⟨some 4, .val (.val (.lit (.bool false))), none⟩]) (
  .seq (
   .seq (
    .ops [⟨some 8, .fieldAddr 2 (.tmp 2), none⟩,
      ⟨some 9, .iload false 1 (.tmp 8), none⟩,
      ⟨some 10, .len 1 (.tmp 9), none⟩,
      ⟨some 11, .fieldAddr 2 (.tmp 3), none⟩,
      ⟨some 12, .iload false 1 (.tmp 11), none⟩,
      ⟨some 13, .len 1 (.tmp 12), none⟩,
      ⟨some 14, .bin .add .num (.tmp 10) (.tmp 13), none⟩,
      ⟨some 15, .bin .gtr .num (.tmp 14) (.val (.lit (.int .i64 20))), none⟩,
      ⟨some 16, .val (.tmp 15), none⟩,
      ⟨some 17, .fieldAddr 0 (.tmp 2), some (16, false)⟩,
      ⟨some 18, .iload false 1 (.tmp 17), some (16, false)⟩,
      ⟨some 19, .len 1 (.tmp 18), some (16, false)⟩,
      ⟨some 20, .fieldAddr 1 (.tmp 2), some (16, false)⟩,
      ⟨some 21, .iload false 1 (.tmp 20), some (16, false)⟩,
      ⟨some 22, .len 1 (.tmp 21), some (16, false)⟩,
      ⟨some 23, .bin .add .num (.tmp 19) (.tmp 22), some (16, false)⟩,
      ⟨some 24, .fieldAddr 0 (.tmp 3), some (16, false)⟩,
      ⟨some 25, .iload false 1 (.tmp 24), some (16, false)⟩,
      ⟨some 26, .len 1 (.tmp 25), some (16, false)⟩,
      ⟨some 27, .bin .add .num (.tmp 23) (.tmp 26), some (16, false)⟩,
      ⟨some 28, .fieldAddr 1 (.tmp 3), some (16, false)⟩,
      ⟨some 29, .iload false 1 (.tmp 28), some (16, false)⟩,
      ⟨some 30, .len 1 (.tmp 29), some (16, false)⟩,
      ⟨some 31, .bin .add .num (.tmp 27) (.tmp 30), some (16, false)⟩,
      ⟨some 32, .bin .gtr .num (.tmp 31) (.val (.lit (.int .i64 300))), some (16, false)⟩,
      ⟨some 33, .pick (.tmp 16) (.val (.lit (.bool true))) (.tmp 32), none⟩]) (
   .cond (.tmp 33) (
     .seq (
      .ops [⟨some 4, .val (.val (.lit (.bool true))), none⟩]) (
     .ret)) (
     .skip))) (
  .seq (
   .seq (
    .ops [⟨some 5, .val (.val (.lit (.int .i64 0))), none⟩]) (
   .block 0 (
     .loop a_bobbinlaw11_FlowMayb3))) (
  .seq (
   .seq (
    .ops [⟨some 6, .val (.val (.lit (.int .i64 0))), none⟩]) (
   .block 2 (
     .loop a_bobbinlaw11_FlowMayb2))) (
  .seq (
   .seq (
    .ops [⟨some 7, .val (.val (.lit (.int .i64 0))), none⟩]) (
   .block 4 (
     .loop a_bobbinlaw11_FlowMayb1))) (
  .seq (
   .ops [⟨some 124, .iload true 3 (.tmp 2), none⟩,
     ⟨some 126, .iload true 3 (.tmp 2), none⟩,
     ⟨some 125, .call (.val (.fn (.func 12) [] [])) [(.tmp 124)], none⟩,
     ⟨some 127, .call (.val (.fn (.func 13) [] [])) [(.tmp 126)], none⟩,
     ⟨some 128, .bin .eql .bool (.tmp 125) (.tmp 127), none⟩,
     ⟨some 129, .val (.tmp 128), none⟩,
     ⟨some 130, .iload true 3 (.tmp 2), some (129, true)⟩,
     ⟨some 131, .iload true 3 (.tmp 3), some (129, true)⟩,
     ⟨some 133, .iload true 3 (.tmp 2), some (129, true)⟩,
     ⟨some 134, .iload true 3 (.tmp 3), some (129, true)⟩,
     ⟨some 132, .call (.val (.fn (.func 14) [] [])) [(.tmp 130), (.tmp 131)], some (129, true)⟩,
     ⟨some 135, .call (.val (.fn (.func 15) [] [])) [(.tmp 133), (.tmp 134)], some (129, true)⟩,
     ⟨some 136, .bin .eql .bool (.tmp 132) (.tmp 135), some (129, true)⟩,
     ⟨some 137, .pick (.tmp 129) (.tmp 136) (.val (.lit (.bool false))), none⟩,
     ⟨some 4, .val (.tmp 137), none⟩]) (
  .ret))))))

theorem c_bobbinlaw11_FlowMay : codeOf Tryz.prog { pc := [72, 78, 91, 110, 121], bz := [2, 3], il := [9, 12, 18, 21, 25, 29, 36, 42, 49, 55, 62, 68, 74, 82, 87, 96, 101, 106, 112, 117, 124, 126, 130, 131, 133, 134, 71, 77, 85, 90, 104, 109, 115, 120] } 3 = some (a_bobbinlaw11_FlowMay, [.tmp 4], 138) := by kernel_rfl

end Go.Proofs.YtcoepjbipbihfaaGreatDoor
