/- The code of functions, compiled (printed by wip/tools/kp.py). -/
import Derived.Test.YtefejpckppabpaaGreatDoorProg
import Derived.Test.YtefejpckppabpaaGreatDoorM3
namespace Go.Proofs.YtefejpckppabpaaGreatDoor
set_option linter.unusedSimpArgs false
set_option linter.unusedVariables false
open Go Go.Fw
/-- bobbin/bobbinlaw29.large -/
def a_bobbinlaw29_largeb1 : ACode :=
       .seq (
        .seq (
         .ops [⟨some 55, .val (.tmp 6), none⟩,
           ⟨some 56, .fieldAddr 2 (.tmp 1), none⟩,
           ⟨some 57, .iload false 1 (.tmp 56), none⟩,
           ⟨some 58, .len 1 (.tmp 57), none⟩,
           ⟨some 59, .bin .lss .num (.tmp 55) (.tmp 58), none⟩,
           ⟨some 60, .val (.tmp 59), none⟩,
           ⟨some 61, .val (.tmp 3), some (60, true)⟩,
           ⟨some 62, .bin .lss .num (.tmp 61) (.val (.lit (.int .i64 4000))), some (60, true)⟩,
           ⟨some 63, .pick (.tmp 60) (.tmp 62) (.val (.lit (.bool false))), none⟩]) (
        .cond (.tmp 63) (
          .skip) (
          .exit 4))) (
       .seq (
        .block 5 (
          .ops [⟨some 66, .val (.tmp 3), none⟩,
            ⟨some 67, .bin .add .num (.tmp 66) (.val (.lit (.int .i64 5))), none⟩,
            ⟨some 68, .fieldAddr 2 (.tmp 1), none⟩,
            ⟨some 69, .iload false 1 (.tmp 68), none⟩,
            ⟨some 70, .val (.tmp 6), none⟩,
            ⟨some 71, .indexAddr 6 (.tmp 69) (.tmp 70), none⟩,
            ⟨some 72, .fieldAddr 0 (.tmp 71), none⟩,
            ⟨some 77, .fieldAddr 2 (.tmp 1), none⟩,
            ⟨some 78, .iload false 1 (.tmp 77), none⟩,
            ⟨some 79, .val (.tmp 6), none⟩,
            ⟨some 80, .indexAddr 6 (.tmp 78) (.tmp 79), none⟩,
            ⟨some 81, .fieldAddr 5 (.tmp 80), none⟩,
            ⟨some 73, .load false 1 (.tmp 72), none⟩,
            ⟨some 74, .len 0 (.tmp 73), none⟩,
            ⟨some 75, .bin .quo .num (.tmp 74) (.val (.lit (.int .i64 64))), none⟩,
            ⟨some 76, .bin .add .num (.tmp 67) (.tmp 75), none⟩,
            ⟨some 82, .load false 1 (.tmp 81), none⟩,
            ⟨some 83, .len 1 (.tmp 82), none⟩,
            ⟨some 84, .bin .add .num (.tmp 76) (.tmp 83), none⟩,
            ⟨some 3, .val (.tmp 84), none⟩])) (
       .ops [⟨some 64, .val (.tmp 6), none⟩,
         ⟨some 65, .bin .add .num (.tmp 64) (.val (.lit (.int .i64 1))), none⟩,
         ⟨some 6, .val (.tmp 65), none⟩]))

def a_bobbinlaw29_largeb2 : ACode :=
       .seq (
        .seq (
         .ops [⟨some 35, .val (.tmp 5), none⟩,
           ⟨some 36, .fieldAddr 1 (.tmp 1), none⟩,
           ⟨some 37, .iload false 1 (.tmp 36), none⟩,
           ⟨some 38, .len 1 (.tmp 37), none⟩,
           ⟨some 39, .bin .lss .num (.tmp 35) (.tmp 38), none⟩,
           ⟨some 40, .val (.tmp 39), none⟩,
           ⟨some 41, .val (.tmp 3), some (40, true)⟩,
           ⟨some 42, .bin .lss .num (.tmp 41) (.val (.lit (.int .i64 4000))), some (40, true)⟩,
           ⟨some 43, .pick (.tmp 40) (.tmp 42) (.val (.lit (.bool false))), none⟩]) (
        .cond (.tmp 43) (
          .skip) (
          .exit 2))) (
       .seq (
        .block 3 (
          .ops [⟨some 46, .val (.tmp 3), none⟩,
            ⟨some 47, .fieldAddr 1 (.tmp 1), none⟩,
            ⟨some 48, .iload false 1 (.tmp 47), none⟩,
            ⟨some 49, .val (.tmp 5), none⟩,
            ⟨some 50, .indexAddr 1 (.tmp 48) (.tmp 49), none⟩,
            ⟨some 51, .load false 1 (.tmp 50), none⟩,
            ⟨some 52, .len 0 (.tmp 51), none⟩,
            ⟨some 53, .bin .quo .num (.tmp 52) (.val (.lit (.int .i64 64))), none⟩,
            ⟨some 54, .bin .add .num (.tmp 46) (.tmp 53), none⟩,
            ⟨some 3, .val (.tmp 54), none⟩])) (
       .ops [⟨some 44, .val (.tmp 5), none⟩,
         ⟨some 45, .bin .add .num (.tmp 44) (.val (.lit (.int .i64 1))), none⟩,
         ⟨some 5, .val (.tmp 45), none⟩]))

def a_bobbinlaw29_largeb3 : ACode :=
       .seq (
        .seq (
         .ops [⟨some 14, .val (.tmp 4), none⟩,
           ⟨some 15, .fieldAddr 0 (.tmp 1), none⟩,
           ⟨some 16, .iload false 1 (.tmp 15), none⟩,
           ⟨some 17, .len 1 (.tmp 16), none⟩,
           ⟨some 18, .bin .lss .num (.tmp 14) (.tmp 17), none⟩,
           ⟨some 19, .val (.tmp 18), none⟩,
           ⟨some 20, .val (.tmp 3), some (19, true)⟩,
           ⟨some 21, .bin .lss .num (.tmp 20) (.val (.lit (.int .i64 4000))), some (19, true)⟩,
           ⟨some 22, .pick (.tmp 19) (.tmp 21) (.val (.lit (.bool false))), none⟩]) (
        .cond (.tmp 22) (
          .skip) (
          .exit 0))) (
       .seq (
        .block 1 (
          .ops [⟨some 25, .val (.tmp 3), none⟩,
            ⟨some 26, .fieldAddr 0 (.tmp 1), none⟩,
            ⟨some 27, .iload false 1 (.tmp 26), none⟩,
            ⟨some 28, .val (.tmp 4), none⟩,
            ⟨some 29, .indexAddr 3 (.tmp 27) (.tmp 28), none⟩,
            ⟨some 30, .fieldAddr 0 (.tmp 29), none⟩,
            ⟨some 31, .load false 1 (.tmp 30), none⟩,
            ⟨some 32, .len 0 (.tmp 31), none⟩,
            ⟨some 33, .bin .quo .num (.tmp 32) (.val (.lit (.int .i64 64))), none⟩,
            ⟨some 34, .bin .add .num (.tmp 25) (.tmp 33), none⟩,
            ⟨some 3, .val (.tmp 34), none⟩])) (
       .ops [⟨some 23, .val (.tmp 4), none⟩,
         ⟨some 24, .bin .add .num (.tmp 23) (.val (.lit (.int .i64 1))), none⟩,
         ⟨some 4, .val (.tmp 24), none⟩]))

def a_bobbinlaw29_large : ACode :=
  .seq (
   .ops [⟨some 1, .box true (.tmp 0), none⟩,
     ⟨some 2, .val (.val (.lit (.bool false))), none⟩]) (
  .seq (
   .ops [⟨some 7, .fieldAddr 0 (.tmp 1), none⟩,
     ⟨some 8, .iload false 1 (.tmp 7), none⟩,
     ⟨some 9, .len 1 (.tmp 8), none⟩,
     ⟨some 10, .fieldAddr 1 (.tmp 1), none⟩,
     ⟨some 11, .iload false 1 (.tmp 10), none⟩,
     ⟨some 12, .len 1 (.tmp 11), none⟩,
     ⟨some 13, .bin .add .num (.tmp 9) (.tmp 12), none⟩,
     ⟨some 3, .val (.tmp 13), none⟩]) (
  .seq (
   .seq (
    .ops [⟨some 4, .val (.val (.lit (.int .i64 0))), none⟩]) (
   .block 0 (
     .loop a_bobbinlaw29_largeb3))) (
  .seq (
   .seq (
    .ops [⟨some 5, .val (.val (.lit (.int .i64 0))), none⟩]) (
   .block 2 (
     .loop a_bobbinlaw29_largeb2))) (
  .seq (
   .seq (
    .ops [⟨some 6, .val (.val (.lit (.int .i64 0))), none⟩]) (
   .block 4 (
     .loop a_bobbinlaw29_largeb1))) (
  .seq (
   .ops [⟨some 85, .val (.tmp 3), none⟩,
     ⟨some 86, .bin .geq .num (.tmp 85) (.val (.lit (.int .i64 4000))), none⟩,
     ⟨some 2, .val (.tmp 86), none⟩]) (
  .ret))))))

theorem c_bobbinlaw29_large : codeOf Tryz.prog { bz := [1], il := [8, 11, 16, 27, 37, 48, 57, 69, 78] } 6 = some (a_bobbinlaw29_large, [.tmp 2], 87) := by kernel_rfl

/-- bobbin/bobbinlaw29.BytesMay -/
def a_bobbinlaw29_BytesMayb1 : ACode :=
       .seq (
        .seq (
         .ops [⟨some 39, .val (.tmp 7), none⟩,
           ⟨some 40, .fieldAddr 2 (.tmp 3), none⟩,
           ⟨some 41, .iload false 1 (.tmp 40), none⟩,
           ⟨some 42, .len 1 (.tmp 41), none⟩,
           ⟨some 43, .bin .leq .num (.tmp 39) (.tmp 42), none⟩,
           ⟨some 44, .val (.tmp 43), none⟩,
           ⟨some 45, .val (.tmp 7), some (44, true)⟩,
           ⟨some 46, .bin .lss .num (.tmp 45) (.val (.lit (.int .i64 30))), some (44, true)⟩,
           ⟨some 47, .pick (.tmp 44) (.tmp 46) (.val (.lit (.bool false))), none⟩]) (
        .cond (.tmp 47) (
          .skip) (
          .exit 0))) (
       .seq (
        .block 1 (
          .seq (
           .ops [⟨some 50, .val (.tmp 7), none⟩,
             ⟨some 8, .val (.tmp 50), none⟩]) (
          .seq (
           .seq (
            .ops [⟨some 51, .val (.tmp 7), none⟩,
              ⟨some 52, .bin .lss .num (.tmp 51) (.val (.lit (.int .i64 0))), none⟩]) (
           .cond (.tmp 52) (
             .ops [⟨some 53, .val (.tmp 2), none⟩,
               ⟨some 8, .val (.tmp 53), none⟩]) (
             .skip))) (
          .seq (
           .ops [⟨some 55, .iload true 3 (.tmp 3), none⟩,
             ⟨some 56, .val (.tmp 8), none⟩,
             ⟨some 57, .call (.val (.fn (.func 11) [] [])) [(.tmp 55), (.tmp 56)], none⟩,
             ⟨some 54, .val (.tmp 57), none⟩,
             ⟨some 58, .extract (.tmp 54) 0, none⟩,
             ⟨some 59, .extract (.tmp 54) 1, none⟩,
             ⟨some 9, .val (.tmp 58), none⟩,
             ⟨some 10, .val (.tmp 59), none⟩]) (
          .seq (
           .ops [⟨some 61, .iload true 3 (.tmp 3), none⟩,
             ⟨some 62, .val (.tmp 8), none⟩,
             ⟨some 63, .call (.val (.fn (.func 12) [] [])) [(.tmp 61), (.tmp 62)], none⟩,
             ⟨some 60, .val (.tmp 63), none⟩,
             ⟨some 64, .extract (.tmp 60) 0, none⟩,
             ⟨some 65, .extract (.tmp 60) 1, none⟩,
             ⟨some 11, .val (.tmp 64), none⟩,
             ⟨some 12, .val (.tmp 65), none⟩]) (
          .seq (
           .ops [⟨some 66, .val (.tmp 9), none⟩,
             ⟨some 67, .val (.tmp 11), none⟩,
             ⟨some 68, .call (.val (.fn (.func 13) [] [])) [(.tmp 66), (.tmp 67)], none⟩,
             ⟨some 69, .un .not (.tmp 68), none⟩,
             ⟨some 70, .val (.tmp 69), none⟩,
             ⟨some 71, .val (.tmp 10), some (70, false)⟩,
             ⟨some 72, .val (.tmp 12), some (70, false)⟩,
             ⟨some 73, .bin .neq .num (.tmp 71) (.tmp 72), some (70, false)⟩,
             ⟨some 74, .pick (.tmp 70) (.val (.lit (.bool true))) (.tmp 73), none⟩]) (
          .cond (.tmp 74) (
            .seq (
             .ops [⟨some 6, .val (.val (.lit (.bool false))), none⟩]) (
            .ret)) (
            .skip)))))))) (
       .ops [⟨some 48, .val (.tmp 7), none⟩,
         ⟨some 49, .bin .add .num (.tmp 48) (.val (.lit (.int .i64 1))), none⟩,
         ⟨some 7, .val (.tmp 49), none⟩]))

def a_bobbinlaw29_BytesMay : ACode :=
  .seq (
   .ops [⟨some 3, .box true (.tmp 0), none⟩,
     ⟨some 4, .box true (.tmp 1), none⟩,
     ⟨some 6, .val (.val (.lit (.bool false))), none⟩]) (
  .seq (
   .seq (
    .ops [⟨some 13, .iload true 3 (.tmp 3), none⟩,
      ⟨some 14, .call (.val (.fn (.func 6) [] [])) [(.tmp 13)], none⟩,
      ⟨some 15, .val (.tmp 14), none⟩,
      ⟨some 16, .iload true 3 (.tmp 4), some (15, false)⟩,
      ⟨some 17, .call (.val (.fn (.func 6) [] [])) [(.tmp 16)], some (15, false)⟩,
      ⟨some 18, .pick (.tmp 15) (.val (.lit (.bool true))) (.tmp 17), none⟩]) (
   .cond (.tmp 18) (
     .seq (
      .ops [⟨some 6, .val (.val (.lit (.bool true))), none⟩]) (
     .ret)) (
     .skip))) (
  .seq (
   .seq (
    .ops [⟨some 19, .iload true 3 (.tmp 3), none⟩,
      ⟨some 21, .iload true 3 (.tmp 3), none⟩,
      ⟨some 20, .call (.val (.fn (.func 7) [] [])) [(.tmp 19)], none⟩,
      ⟨some 22, .call (.val (.fn (.func 8) [] [])) [(.tmp 21)], none⟩,
      ⟨some 23, .bin .neq .bool (.tmp 20) (.tmp 22), none⟩,
      ⟨some 24, .val (.tmp 23), none⟩,
      ⟨some 25, .iload true 3 (.tmp 3), some (24, false)⟩,
      ⟨some 26, .iload true 3 (.tmp 4), some (24, false)⟩,
      ⟨some 28, .iload true 3 (.tmp 3), some (24, false)⟩,
      ⟨some 29, .iload true 3 (.tmp 4), some (24, false)⟩,
      ⟨some 27, .call (.val (.fn (.func 9) [] [])) [(.tmp 25), (.tmp 26)], some (24, false)⟩,
      ⟨some 30, .call (.val (.fn (.func 10) [] [])) [(.tmp 28), (.tmp 29)], some (24, false)⟩,
      ⟨some 31, .bin .neq .bool (.tmp 27) (.tmp 30), some (24, false)⟩,
      ⟨some 32, .pick (.tmp 24) (.val (.lit (.bool true))) (.tmp 31), none⟩,
      ⟨some 33, .val (.tmp 32), none⟩,
      ⟨some 34, .iload true 3 (.tmp 3), some (33, false)⟩,
      ⟨some 35, .iload true 3 (.tmp 3), some (33, false)⟩,
      ⟨some 36, .call (.val (.fn (.func 9) [] [])) [(.tmp 34), (.tmp 35)], some (33, false)⟩,
      ⟨some 37, .un .not (.tmp 36), some (33, false)⟩,
      ⟨some 38, .pick (.tmp 33) (.val (.lit (.bool true))) (.tmp 37), none⟩]) (
   .cond (.tmp 38) (
     .seq (
      .ops [⟨some 6, .val (.val (.lit (.bool false))), none⟩]) (
     .ret)) (
     .skip))) (
  .seq (
   .seq (
    .ops [⟨some 7, .val (.val (.lit (.int .i64 (-1)))), none⟩]) (
   .block 0 (
     .loop a_bobbinlaw29_BytesMayb1))) (
  .seq (
   .ops [⟨some 6, .val (.val (.lit (.bool true))), none⟩]) (
  .ret)))))

theorem c_bobbinlaw29_BytesMay : codeOf Tryz.prog { bz := [3, 4], il := [13, 16, 19, 21, 25, 26, 28, 29, 34, 35, 41, 55, 61] } 3 = some (a_bobbinlaw29_BytesMay, [.tmp 6], 75) := by kernel_rfl

end Go.Proofs.YtefejpckppabpaaGreatDoor
