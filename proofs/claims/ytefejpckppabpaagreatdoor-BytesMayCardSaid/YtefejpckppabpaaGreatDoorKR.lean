/- The code of functions, compiled (printed by wip/tools/kp.py). -/
import Derived.Test.YtefejpckppabpaaGreatDoorProg
import Derived.Test.YtefejpckppabpaaGreatDoorM3
namespace Go.Proofs.YtefejpckppabpaaGreatDoor
set_option linter.unusedSimpArgs false
set_option linter.unusedVariables false
open Go Go.Fw
/-- bobbin/bobbinref12.Ints -/
def a_bobbinref12_Intsb1 : ACode :=
       .seq (
        .seq (
         .ops [⟨some 11, .val (.tmp 5), none⟩,
           ⟨some 12, .val (.tmp 0), none⟩,
           ⟨some 13, .len 1 (.tmp 12), none⟩,
           ⟨some 14, .bin .lss .num (.tmp 11) (.tmp 13), none⟩]) (
        .cond (.tmp 14) (
          .skip) (
          .exit 0))) (
       .seq (
        .block 1 (
          .seq (
           .ops [⟨some 17, .val (.tmp 0), none⟩,
             ⟨some 18, .val (.tmp 5), none⟩,
             ⟨some 19, .indexAddr 1 (.tmp 17) (.tmp 18), none⟩,
             ⟨some 21, .val (.tmp 1), none⟩,
             ⟨some 22, .val (.tmp 5), none⟩,
             ⟨some 23, .indexAddr 1 (.tmp 21) (.tmp 22), none⟩,
             ⟨some 20, .load false 1 (.tmp 19), none⟩,
             ⟨some 24, .load false 1 (.tmp 23), none⟩,
             ⟨some 25, .bin .neq .num (.tmp 20) (.tmp 24), none⟩]) (
          .cond (.tmp 25) (
            .seq (
             .ops [⟨some 4, .val (.val (.lit (.bool false))), none⟩]) (
            .ret)) (
            .skip)))) (
       .ops [⟨some 15, .val (.tmp 5), none⟩,
         ⟨some 16, .bin .add .num (.tmp 15) (.val (.lit (.int .i64 1))), none⟩,
         ⟨some 5, .val (.tmp 16), none⟩]))

def a_bobbinref12_Ints : ACode :=
  .seq (
   .ops [⟨some 4, .val (.val (.lit (.bool false))), none⟩]) (
  .seq (
   .seq (
    .ops [⟨some 6, .val (.tmp 0), none⟩,
      ⟨some 7, .len 1 (.tmp 6), none⟩,
      ⟨some 8, .val (.tmp 1), none⟩,
      ⟨some 9, .len 1 (.tmp 8), none⟩,
      ⟨some 10, .bin .neq .num (.tmp 7) (.tmp 9), none⟩]) (
   .cond (.tmp 10) (
     .seq (
      .ops [⟨some 4, .val (.val (.lit (.bool false))), none⟩]) (
     .ret)) (
     .skip))) (
  .seq (
   .seq (
    .ops [⟨some 5, .val (.val (.lit (.int .i64 0))), none⟩]) (
   .block 0 (
     .loop a_bobbinref12_Intsb1))) (
  .seq (
   .ops [⟨some 4, .val (.val (.lit (.bool true))), none⟩]) (
  .ret))))

theorem c_bobbinref12_Ints : codeOf Tryz.prog {  } 13 = some (a_bobbinref12_Ints, [.tmp 4], 26) := by kernel_rfl

/-- bobbin/bobbinref29.Pops -/
def a_bobbinref29_Pops : ACode :=
  .seq (
   .ops [⟨some 2, .box true (.tmp 0), none⟩,
     ⟨some 3, .box true (.tmp 1), none⟩,
     ⟨some 4, .val (.val (.lit (.int .i64 0))), none⟩]) (
  .seq (
   .seq (
    .ops [⟨some 5, .fieldAddr 0 (.tmp 3), none⟩,
      ⟨some 6, .iload false 1 (.tmp 5), none⟩]) (
   .block 0 (
     .seq (
      .seq (
       .ops [⟨some 8, .bin .eql .num (.tmp 6) (.val (.lit (.int .u8 3))), none⟩,
         ⟨some 7, .val (.tmp 8), none⟩]) (
      .cond (.tmp 7) (
        .skip) (
        .seq (
         .ops [⟨some 9, .bin .eql .num (.tmp 6) (.val (.lit (.int .u8 4))), none⟩,
           ⟨some 7, .val (.tmp 9), none⟩]) (
        .cond (.tmp 7) (
          .skip) (
          .seq (
           .ops [⟨some 10, .bin .eql .num (.tmp 6) (.val (.lit (.int .u8 6))), none⟩,
             ⟨some 7, .val (.tmp 10), none⟩]) (
          .cond (.tmp 7) (
            .skip) (
            .seq (
             .ops [⟨some 11, .bin .eql .num (.tmp 6) (.val (.lit (.int .u8 10))), none⟩,
               ⟨some 7, .val (.tmp 11), none⟩]) (
            .cond (.tmp 7) (
              .skip) (
              .seq (
               .ops [⟨some 12, .bin .eql .num (.tmp 6) (.val (.lit (.int .u8 13))), none⟩,
                 ⟨some 7, .val (.tmp 12), none⟩]) (
              .cond (.tmp 7) (
                .skip) (
                .ops [⟨some 13, .bin .eql .num (.tmp 6) (.val (.lit (.int .u8 14))), none⟩,
                  ⟨some 7, .val (.tmp 13), none⟩]))))))))))) (
     .cond (.tmp 7) (
       .seq (
        .ops [⟨some 4, .val (.val (.lit (.int .i64 1))), none⟩]) (
       .ret)) (
       .seq (
        .seq (
         .ops [⟨some 15, .bin .eql .num (.tmp 6) (.val (.lit (.int .u8 5))), none⟩,
           ⟨some 14, .val (.tmp 15), none⟩]) (
        .cond (.tmp 14) (
          .skip) (
          .ops [⟨some 16, .bin .eql .num (.tmp 6) (.val (.lit (.int .u8 7))), none⟩,
            ⟨some 14, .val (.tmp 16), none⟩]))) (
       .cond (.tmp 14) (
         .seq (
          .ops [⟨some 4, .val (.val (.lit (.int .i64 2))), none⟩]) (
         .ret)) (
         .seq (
          .ops [⟨some 18, .bin .eql .num (.tmp 6) (.val (.lit (.int .u8 11))), none⟩,
            ⟨some 17, .val (.tmp 18), none⟩]) (
         .cond (.tmp 17) (
           .seq (
            .ops [⟨some 19, .fieldAddr 2 (.tmp 2), none⟩,
              ⟨some 20, .iload false 1 (.tmp 19), none⟩,
              ⟨some 21, .fieldAddr 1 (.tmp 3), none⟩,
              ⟨some 22, .iload false 1 (.tmp 21), none⟩,
              ⟨some 23, .indexAddr 6 (.tmp 20) (.tmp 22), none⟩,
              ⟨some 24, .fieldAddr 2 (.tmp 23), none⟩,
              ⟨some 25, .load false 1 (.tmp 24), none⟩,
              ⟨some 4, .val (.tmp 25), none⟩]) (
           .ret)) (
           .skip))))))))) (
  .seq (
   .ops [⟨some 4, .val (.val (.lit (.int .i64 0))), none⟩]) (
  .ret)))

theorem c_bobbinref29_Pops : codeOf Tryz.prog { bz := [2, 3], il := [6, 20, 22] } 18 = some (a_bobbinref29_Pops, [.tmp 4], 26) := by kernel_rfl

/-- bobbin/bobbinref29.Pushes -/
def a_bobbinref29_Pushes : ACode :=
  .seq (
   .ops [⟨some 1, .box true (.tmp 0), none⟩,
     ⟨some 2, .val (.val (.lit (.int .i64 0))), none⟩]) (
  .seq (
   .seq (
    .ops [⟨some 3, .fieldAddr 0 (.tmp 1), none⟩,
      ⟨some 4, .iload false 1 (.tmp 3), none⟩]) (
   .block 0 (
     .seq (
      .seq (
       .ops [⟨some 6, .bin .eql .num (.tmp 4) (.val (.lit (.int .u8 1))), none⟩,
         ⟨some 5, .val (.tmp 6), none⟩]) (
      .cond (.tmp 5) (
        .skip) (
        .seq (
         .ops [⟨some 7, .bin .eql .num (.tmp 4) (.val (.lit (.int .u8 2))), none⟩,
           ⟨some 5, .val (.tmp 7), none⟩]) (
        .cond (.tmp 5) (
          .skip) (
          .seq (
           .ops [⟨some 8, .bin .eql .num (.tmp 4) (.val (.lit (.int .u8 4))), none⟩,
             ⟨some 5, .val (.tmp 8), none⟩]) (
          .cond (.tmp 5) (
            .skip) (
            .seq (
             .ops [⟨some 9, .bin .eql .num (.tmp 4) (.val (.lit (.int .u8 5))), none⟩,
               ⟨some 5, .val (.tmp 9), none⟩]) (
            .cond (.tmp 5) (
              .skip) (
              .seq (
               .ops [⟨some 10, .bin .eql .num (.tmp 4) (.val (.lit (.int .u8 6))), none⟩,
                 ⟨some 5, .val (.tmp 10), none⟩]) (
              .cond (.tmp 5) (
                .skip) (
                .ops [⟨some 11, .bin .eql .num (.tmp 4) (.val (.lit (.int .u8 11))), none⟩,
                  ⟨some 5, .val (.tmp 11), none⟩]))))))))))) (
     .cond (.tmp 5) (
       .seq (
        .ops [⟨some 2, .val (.val (.lit (.int .i64 1))), none⟩]) (
       .ret)) (
       .skip))))) (
  .seq (
   .ops [⟨some 2, .val (.val (.lit (.int .i64 0))), none⟩]) (
  .ret)))

theorem c_bobbinref29_Pushes : codeOf Tryz.prog { bz := [1], il := [4] } 19 = some (a_bobbinref29_Pushes, [.tmp 2], 12) := by kernel_rfl

/-- bobbin/bobbinref29.within -/
def a_bobbinref29_within : ACode :=
  .seq (
   .ops [⟨some 4, .val (.val (.lit (.bool false))), none⟩]) (
  .seq (
   .ops [⟨some 5, .val (.tmp 0), none⟩,
     ⟨some 6, .bin .geq .num (.tmp 5) (.val (.lit (.int .i64 0))), none⟩,
     ⟨some 7, .val (.tmp 6), none⟩,
     ⟨some 8, .val (.tmp 0), some (7, true)⟩,
     ⟨some 9, .val (.tmp 1), some (7, true)⟩,
     ⟨some 10, .bin .lss .num (.tmp 8) (.tmp 9), some (7, true)⟩,
     ⟨some 11, .pick (.tmp 7) (.tmp 10) (.val (.lit (.bool false))), none⟩,
     ⟨some 4, .val (.tmp 11), none⟩]) (
  .ret))

theorem c_bobbinref29_within : codeOf Tryz.prog {  } 36 = some (a_bobbinref29_within, [.tmp 4], 12) := by kernel_rfl

/-- bobbin/bobbinref29.named -/
def a_bobbinref29_named : ACode :=
  .seq (
   .ops [⟨some 3, .box true (.tmp 0), none⟩,
     ⟨some 4, .box true (.tmp 1), none⟩,
     ⟨some 5, .box true (.tmp 2), none⟩,
     ⟨some 6, .val (.val (.lit (.bool false))), none⟩]) (
  .seq (
   .seq (
    .ops [⟨some 7, .fieldAddr 0 (.tmp 5), none⟩,
      ⟨some 8, .iload false 1 (.tmp 7), none⟩]) (
   .block 0 (
     .seq (
      .ops [⟨some 10, .bin .eql .num (.tmp 8) (.val (.lit (.int .u8 1))), none⟩,
        ⟨some 9, .val (.tmp 10), none⟩]) (
     .cond (.tmp 9) (
       .seq (
        .ops [⟨some 6, .val (.val (.lit (.bool true))), none⟩]) (
       .ret)) (
       .seq (
        .seq (
         .ops [⟨some 12, .bin .eql .num (.tmp 8) (.val (.lit (.int .u8 2))), none⟩,
           ⟨some 11, .val (.tmp 12), none⟩]) (
        .cond (.tmp 11) (
          .skip) (
          .ops [⟨some 13, .bin .eql .num (.tmp 8) (.val (.lit (.int .u8 3))), none⟩,
            ⟨some 11, .val (.tmp 13), none⟩]))) (
       .cond (.tmp 11) (
         .seq (
          .ops [⟨some 14, .fieldAddr 1 (.tmp 5), none⟩,
            ⟨some 15, .iload false 1 (.tmp 14), none⟩,
            ⟨some 16, .fieldAddr 3 (.tmp 4), none⟩,
            ⟨some 17, .iload false 1 (.tmp 16), none⟩,
            ⟨some 18, .call (.val (.fn (.func 36) [] [])) [(.tmp 15), (.tmp 17)], none⟩,
            ⟨some 6, .val (.tmp 18), none⟩]) (
         .ret)) (
         .seq (
          .ops [⟨some 20, .bin .eql .num (.tmp 8) (.val (.lit (.int .u8 4))), none⟩,
            ⟨some 19, .val (.tmp 20), none⟩]) (
         .cond (.tmp 19) (
           .seq (
            .ops [⟨some 21, .fieldAddr 1 (.tmp 5), none⟩,
              ⟨some 22, .iload false 1 (.tmp 21), none⟩,
              ⟨some 23, .bin .eql .num (.tmp 22) (.val (.lit (.int .i64 5))), none⟩,
              ⟨some 24, .val (.tmp 23), none⟩,
              ⟨some 25, .fieldAddr 1 (.tmp 5), some (24, false)⟩,
              ⟨some 26, .iload false 1 (.tmp 25), some (24, false)⟩,
              ⟨some 27, .bin .eql .num (.tmp 26) (.val (.lit (.int .i64 6))), some (24, false)⟩,
              ⟨some 28, .pick (.tmp 24) (.val (.lit (.bool true))) (.tmp 27), none⟩,
              ⟨some 6, .val (.tmp 28), none⟩]) (
           .ret)) (
           .seq (
            .ops [⟨some 30, .bin .eql .num (.tmp 8) (.val (.lit (.int .u8 5))), none⟩,
              ⟨some 29, .val (.tmp 30), none⟩]) (
           .cond (.tmp 29) (
             .seq (
              .ops [⟨some 31, .fieldAddr 1 (.tmp 5), none⟩,
                ⟨some 32, .iload false 1 (.tmp 31), none⟩,
                ⟨some 33, .bin .geq .num (.tmp 32) (.val (.lit (.int .i64 7))), none⟩,
                ⟨some 34, .val (.tmp 33), none⟩,
                ⟨some 35, .fieldAddr 1 (.tmp 5), some (34, true)⟩,
                ⟨some 36, .iload false 1 (.tmp 35), some (34, true)⟩,
                ⟨some 37, .bin .leq .num (.tmp 36) (.val (.lit (.int .i64 17))), some (34, true)⟩,
                ⟨some 38, .pick (.tmp 34) (.tmp 37) (.val (.lit (.bool false))), none⟩,
                ⟨some 6, .val (.tmp 38), none⟩]) (
             .ret)) (
             .seq (
              .seq (
               .ops [⟨some 40, .bin .eql .num (.tmp 8) (.val (.lit (.int .u8 6))), none⟩,
                 ⟨some 39, .val (.tmp 40), none⟩]) (
              .cond (.tmp 39) (
                .skip) (
                .ops [⟨some 41, .bin .eql .num (.tmp 8) (.val (.lit (.int .u8 7))), none⟩,
                  ⟨some 39, .val (.tmp 41), none⟩]))) (
             .cond (.tmp 39) (
               .seq (
                .ops [⟨some 42, .fieldAddr 1 (.tmp 5), none⟩,
                  ⟨some 43, .iload false 1 (.tmp 42), none⟩,
                  ⟨some 44, .fieldAddr 0 (.tmp 3), none⟩,
                  ⟨some 45, .iload false 1 (.tmp 44), none⟩,
                  ⟨some 46, .len 1 (.tmp 45), none⟩,
                  ⟨some 47, .call (.val (.fn (.func 36) [] [])) [(.tmp 43), (.tmp 46)], none⟩,
                  ⟨some 6, .val (.tmp 47), none⟩]) (
               .ret)) (
               .seq (
                .seq (
                 .ops [⟨some 49, .bin .eql .num (.tmp 8) (.val (.lit (.int .u8 8))), none⟩,
                   ⟨some 48, .val (.tmp 49), none⟩]) (
                .cond (.tmp 48) (
                  .skip) (
                  .ops [⟨some 50, .bin .eql .num (.tmp 8) (.val (.lit (.int .u8 9))), none⟩,
                    ⟨some 48, .val (.tmp 50), none⟩]))) (
               .cond (.tmp 48) (
                 .seq (
                  .ops [⟨some 51, .fieldAddr 1 (.tmp 5), none⟩,
                    ⟨some 52, .iload false 1 (.tmp 51), none⟩,
                    ⟨some 53, .fieldAddr 1 (.tmp 3), none⟩,
                    ⟨some 54, .iload false 1 (.tmp 53), none⟩,
                    ⟨some 55, .len 1 (.tmp 54), none⟩,
                    ⟨some 56, .call (.val (.fn (.func 36) [] [])) [(.tmp 52), (.tmp 55)], none⟩,
                    ⟨some 6, .val (.tmp 56), none⟩]) (
                 .ret)) (
                 .seq (
                  .seq (
                   .ops [⟨some 58, .bin .eql .num (.tmp 8) (.val (.lit (.int .u8 10))), none⟩,
                     ⟨some 57, .val (.tmp 58), none⟩]) (
                  .cond (.tmp 57) (
                    .skip) (
                    .ops [⟨some 59, .bin .eql .num (.tmp 8) (.val (.lit (.int .u8 14))), none⟩,
                      ⟨some 57, .val (.tmp 59), none⟩]))) (
                 .cond (.tmp 57) (
                   .seq (
                    .ops [⟨some 60, .fieldAddr 1 (.tmp 5), none⟩,
                      ⟨some 61, .iload false 1 (.tmp 60), none⟩,
                      ⟨some 62, .bin .eql .num (.tmp 61) (.val (.lit (.int .i64 0))), none⟩,
                      ⟨some 6, .val (.tmp 62), none⟩]) (
                   .ret)) (
                   .seq (
                    .ops [⟨some 64, .bin .eql .num (.tmp 8) (.val (.lit (.int .u8 11))), none⟩,
                      ⟨some 63, .val (.tmp 64), none⟩]) (
                   .cond (.tmp 63) (
                     .seq (
                      .ops [⟨some 65, .fieldAddr 1 (.tmp 5), none⟩,
                        ⟨some 66, .iload false 1 (.tmp 65), none⟩,
                        ⟨some 67, .fieldAddr 2 (.tmp 3), none⟩,
                        ⟨some 68, .iload false 1 (.tmp 67), none⟩,
                        ⟨some 69, .len 1 (.tmp 68), none⟩,
                        ⟨some 70, .call (.val (.fn (.func 36) [] [])) [(.tmp 66), (.tmp 69)], none⟩,
                        ⟨some 71, .val (.tmp 70), none⟩,
                        ⟨some 72, .fieldAddr 2 (.tmp 3), some (71, true)⟩,
                        ⟨some 73, .iload false 1 (.tmp 72), some (71, true)⟩,
                        ⟨some 74, .fieldAddr 1 (.tmp 5), some (71, true)⟩,
                        ⟨some 75, .iload false 1 (.tmp 74), some (71, true)⟩,
                        ⟨some 76, .indexAddr 6 (.tmp 73) (.tmp 75), some (71, true)⟩,
                        ⟨some 77, .fieldAddr 1 (.tmp 76), some (71, true)⟩,
                        ⟨some 78, .load false 1 (.tmp 77), some (71, true)⟩,
                        ⟨some 79, .un .not (.tmp 78), some (71, true)⟩,
                        ⟨some 80, .pick (.tmp 71) (.tmp 79) (.val (.lit (.bool false))), none⟩,
                        ⟨some 6, .val (.tmp 80), none⟩]) (
                     .ret)) (
                     .seq (
                      .seq (
                       .ops [⟨some 82, .bin .eql .num (.tmp 8) (.val (.lit (.int .u8 12))), none⟩,
                         ⟨some 81, .val (.tmp 82), none⟩]) (
                      .cond (.tmp 81) (
                        .skip) (
                        .ops [⟨some 83, .bin .eql .num (.tmp 8) (.val (.lit (.int .u8 13))), none⟩,
                          ⟨some 81, .val (.tmp 83), none⟩]))) (
                     .cond (.tmp 81) (
                       .seq (
                        .ops [⟨some 84, .fieldAddr 1 (.tmp 5), none⟩,
                          ⟨some 85, .iload false 1 (.tmp 84), none⟩,
                          ⟨some 86, .fieldAddr 5 (.tmp 4), none⟩,
                          ⟨some 87, .iload false 1 (.tmp 86), none⟩,
                          ⟨some 88, .len 1 (.tmp 87), none⟩,
                          ⟨some 89, .call (.val (.fn (.func 36) [] [])) [(.tmp 85), (.tmp 88)], none⟩,
                          ⟨some 6, .val (.tmp 89), none⟩]) (
                       .ret)) (
                       .skip))))))))))))))))))))) (
  .seq (
   .ops [⟨some 6, .val (.val (.lit (.bool false))), none⟩]) (
  .ret)))

theorem c_bobbinref29_named : codeOf Tryz.prog { bz := [3, 4, 5], il := [8, 15, 17, 22, 26, 32, 36, 43, 45, 52, 54, 61, 66, 68, 73, 75, 85, 87] } 28 = some (a_bobbinref29_named, [.tmp 6], 90) := by kernel_rfl

/-- bobbin/bobbinref29.heights -/
def a_bobbinref29_heightsb1 : ACode :=
                    .seq (
                     .seq (
                      .ops [⟨some 117, .val (.tmp 14), none⟩,
                        ⟨some 118, .val (.tmp 13), none⟩,
                        ⟨some 119, .len 1 (.tmp 118), none⟩,
                        ⟨some 120, .bin .lss .num (.tmp 117) (.tmp 119), none⟩]) (
                     .cond (.tmp 120) (
                       .skip) (
                       .exit 6))) (
                    .seq (
                     .block 7 (
                       .seq (
                        .seq (
                         .ops [⟨some 123, .val (.tmp 6), none⟩,
                           ⟨some 124, .val (.tmp 13), none⟩,
                           ⟨some 125, .val (.tmp 14), none⟩,
                           ⟨some 126, .indexAddr 1 (.tmp 124) (.tmp 125), none⟩,
                           ⟨some 127, .load false 1 (.tmp 126), none⟩,
                           ⟨some 128, .indexAddr 1 (.tmp 123) (.tmp 127), none⟩,
                           ⟨some 129, .load false 1 (.tmp 128), none⟩,
                           ⟨some 130, .bin .geq .num (.tmp 129) (.val (.lit (.int .i64 0))), none⟩,
                           ⟨some 131, .val (.tmp 130), none⟩,
                           ⟨some 132, .val (.tmp 6), some (131, true)⟩,
                           ⟨some 133, .val (.tmp 13), some (131, true)⟩,
                           ⟨some 134, .val (.tmp 14), some (131, true)⟩,
                           ⟨some 135, .indexAddr 1 (.tmp 133) (.tmp 134), some (131, true)⟩,
                           ⟨some 136, .load false 1 (.tmp 135), some (131, true)⟩,
                           ⟨some 137, .indexAddr 1 (.tmp 132) (.tmp 136), some (131, true)⟩,
                           ⟨some 138, .load false 1 (.tmp 137), some (131, true)⟩,
                           ⟨some 139, .val (.tmp 12), some (131, true)⟩,
                           ⟨some 140, .bin .neq .num (.tmp 138) (.tmp 139), some (131, true)⟩,
                           ⟨some 141, .pick (.tmp 131) (.tmp 140) (.val (.lit (.bool false))), none⟩]) (
                        .cond (.tmp 141) (
                          .seq (
                           .ops [⟨some 4, .val (.val (.sl .nil 0 [])), none⟩,
                             ⟨some 5, .val (.val (.lit (.bool false))), none⟩]) (
                          .ret)) (
                          .skip))) (
                       .ops [⟨some 142, .val (.tmp 6), none⟩,
                         ⟨some 143, .val (.tmp 13), none⟩,
                         ⟨some 144, .val (.tmp 14), none⟩,
                         ⟨some 145, .indexAddr 1 (.tmp 143) (.tmp 144), none⟩,
                         ⟨some 146, .load false 1 (.tmp 145), none⟩,
                         ⟨some 147, .val (.tmp 12), none⟩,
                         ⟨some 148, .indexAddr 1 (.tmp 142) (.tmp 146), none⟩,
                         ⟨none, .store 1 (.tmp 148) (.tmp 147), none⟩]))) (
                    .ops [⟨some 121, .val (.tmp 14), none⟩,
                      ⟨some 122, .bin .add .num (.tmp 121) (.val (.lit (.int .i64 1))), none⟩,
                      ⟨some 14, .val (.tmp 122), none⟩]))

def a_rh_c : ACode :=
                 .seq (
                  .ops [⟨some 67, .val (.tmp 12), none⟩,
                    ⟨some 68, .bin .lss .num (.tmp 67) (.val (.lit (.int .i64 0))), none⟩,
                    ⟨some 69, .val (.tmp 68), none⟩,
                    ⟨some 70, .val (.tmp 6), some (69, false)⟩,
                    ⟨some 71, .val (.tmp 10), some (69, false)⟩,
                    ⟨some 72, .indexAddr 1 (.tmp 70) (.tmp 71), some (69, false)⟩,
                    ⟨some 74, .fieldAddr 4 (.tmp 3), some (69, false)⟩,
                    ⟨some 75, .iload false 1 (.tmp 74), some (69, false)⟩,
                    ⟨some 73, .load false 1 (.tmp 72), some (69, false)⟩,
                    ⟨some 76, .bin .gtr .num (.tmp 73) (.tmp 75), some (69, false)⟩,
                    ⟨some 77, .pick (.tmp 69) (.val (.lit (.bool true))) (.tmp 76), none⟩,
                    ⟨some 78, .val (.tmp 77), none⟩,
                    ⟨some 79, .val (.tmp 12), some (78, false)⟩,
                    ⟨some 83, .fieldAddr 4 (.tmp 3), some (78, false)⟩,
                    ⟨some 84, .iload false 1 (.tmp 83), some (78, false)⟩,
                    ⟨some 80, .load true 2 (.tmp 11), some (78, false)⟩,
                    ⟨some 81, .call (.val (.fn (.func 19) [] [])) [(.tmp 80)], some (78, false)⟩,
                    ⟨some 82, .bin .add .num (.tmp 79) (.tmp 81), some (78, false)⟩,
                    ⟨some 85, .bin .gtr .num (.tmp 82) (.tmp 84), some (78, false)⟩,
                    ⟨some 86, .pick (.tmp 78) (.val (.lit (.bool true))) (.tmp 85), none⟩]) (
                 .cond (.tmp 86) (
                   .seq (
                    .ops [⟨some 4, .val (.val (.sl .nil 0 [])), none⟩,
                      ⟨some 5, .val (.val (.lit (.bool false))), none⟩]) (
                   .ret)) (
                   .skip))

def a_rh_n1 : ACode :=
                 .seq (
                  .ops [⟨some 91, .fieldAddr 0 (.tmp 11), none⟩,
                    ⟨some 92, .load false 1 (.tmp 91), none⟩,
                    ⟨some 93, .bin .neq .num (.tmp 92) (.val (.lit (.int .u8 12))), none⟩,
                    ⟨some 94, .val (.tmp 93), none⟩,
                    ⟨some 95, .fieldAddr 0 (.tmp 11), some (94, true)⟩,
                    ⟨some 96, .load false 1 (.tmp 95), some (94, true)⟩,
                    ⟨some 97, .bin .neq .num (.tmp 96) (.val (.lit (.int .u8 14))), some (94, true)⟩,
                    ⟨some 98, .pick (.tmp 94) (.tmp 97) (.val (.lit (.bool false))), none⟩]) (
                 .cond (.tmp 98) (
                   .ops [⟨some 99, .val (.tmp 13), none⟩,
                     ⟨some 100, .val (.tmp 10), none⟩,
                     ⟨some 101, .bin .add .num (.tmp 100) (.val (.lit (.int .i64 1))), none⟩,
                     ⟨some 102, .bslice false 1 1 [(.lit (.int .i64 0))] [(0, 1, (.tmp 101))], none⟩,
                     ⟨some 103, .append false 1 8 (.tmp 99) (.tmp 102), none⟩,
                     ⟨some 13, .val (.tmp 103), none⟩]) (
                   .skip))

def a_rh_n2 : ACode :=
                 .seq (
                  .ops [⟨some 104, .fieldAddr 0 (.tmp 11), none⟩,
                    ⟨some 105, .load false 1 (.tmp 104), none⟩,
                    ⟨some 106, .bin .eql .num (.tmp 105) (.val (.lit (.int .u8 12))), none⟩,
                    ⟨some 107, .val (.tmp 106), none⟩,
                    ⟨some 108, .fieldAddr 0 (.tmp 11), some (107, false)⟩,
                    ⟨some 109, .load false 1 (.tmp 108), some (107, false)⟩,
                    ⟨some 110, .bin .eql .num (.tmp 109) (.val (.lit (.int .u8 13))), some (107, false)⟩,
                    ⟨some 111, .pick (.tmp 107) (.val (.lit (.bool true))) (.tmp 110), none⟩]) (
                 .cond (.tmp 111) (
                   .ops [⟨some 112, .val (.tmp 13), none⟩,
                     ⟨some 113, .fieldAddr 1 (.tmp 11), none⟩,
                     ⟨some 114, .load false 1 (.tmp 113), none⟩,
                     ⟨some 115, .bslice false 1 1 [(.lit (.int .i64 0))] [(0, 1, (.tmp 114))], none⟩,
                     ⟨some 116, .append false 1 8 (.tmp 112) (.tmp 115), none⟩,
                     ⟨some 13, .val (.tmp 116), none⟩]) (
                   .skip))

def a_rh_s : ACode :=
                 .seq (
                  .ops [⟨some 40, .val (.tmp 6), none⟩,
                    ⟨some 41, .val (.tmp 10), none⟩,
                    ⟨some 42, .indexAddr 1 (.tmp 40) (.tmp 41), none⟩,
                    ⟨some 43, .load false 1 (.tmp 42), none⟩,
                    ⟨some 44, .bin .lss .num (.tmp 43) (.val (.lit (.int .i64 0))), none⟩,
                    ⟨some 45, .val (.tmp 44), none⟩,
                    ⟨some 46, .val (.tmp 8), some (45, false)⟩,
                    ⟨some 47, .val (.tmp 10), some (45, false)⟩,
                    ⟨some 48, .indexAddr 1 (.tmp 46) (.tmp 47), some (45, false)⟩,
                    ⟨some 49, .load false 1 (.tmp 48), some (45, false)⟩,
                    ⟨some 50, .pick (.tmp 45) (.val (.lit (.bool true))) (.tmp 49), none⟩]) (
                 .cond (.tmp 50) (
                   .exit 5) (
                   .skip))

def a_bobbinref29_heightsb2 : ACode :=
             .seq (
              .seq (
               .ops [⟨some 33, .val (.tmp 10), none⟩,
                 ⟨some 34, .fieldAddr 5 (.tmp 3), none⟩,
                 ⟨some 35, .iload false 1 (.tmp 34), none⟩,
                 ⟨some 36, .len 1 (.tmp 35), none⟩,
                 ⟨some 37, .bin .lss .num (.tmp 33) (.tmp 36), none⟩]) (
              .cond (.tmp 37) (
                .skip) (
                .exit 4))) (
             .seq (
              .block 5 (
                .seq a_rh_s (
                .seq (
                 .ops [⟨some 51, .val (.tmp 8), none⟩,
                   ⟨some 52, .val (.tmp 10), none⟩,
                   ⟨some 53, .indexAddr 1 (.tmp 51) (.tmp 52), none⟩,
                   ⟨none, .store 1 (.tmp 53) (.val (.lit (.bool true))), none⟩]) (
                .seq (
                 .ops [⟨some 9, .val (.val (.lit (.bool true))), none⟩]) (
                .seq (
                 .ops [⟨some 54, .fieldAddr 5 (.tmp 3), none⟩,
                   ⟨some 55, .iload false 1 (.tmp 54), none⟩,
                   ⟨some 56, .val (.tmp 10), none⟩,
                   ⟨some 57, .indexAddr 2 (.tmp 55) (.tmp 56), none⟩,
                   ⟨some 58, .load true 2 (.tmp 57), none⟩,
                   ⟨some 11, .alloc [(.lit (.int .u8 0)), (.lit (.int .i64 0))], none⟩,
                   ⟨none, .store 2 (.tmp 11) (.tmp 58), none⟩]) (
                .seq (
                 .ops [⟨some 59, .val (.tmp 6), none⟩,
                   ⟨some 60, .val (.tmp 10), none⟩,
                   ⟨some 61, .indexAddr 1 (.tmp 59) (.tmp 60), none⟩,
                   ⟨some 63, .iload true 3 (.tmp 2), none⟩,
                   ⟨some 62, .load false 1 (.tmp 61), none⟩,
                   ⟨some 64, .load true 2 (.tmp 11), none⟩,
                   ⟨some 65, .pcall (.val (.fn (.func 18) [] [])) [(.tmp 63), (.tmp 64)], none⟩,
                   ⟨some 66, .bin .sub .num (.tmp 62) (.tmp 65), none⟩,
                   ⟨some 12, .val (.tmp 66), none⟩]) (
                .seq a_rh_c (
                .seq (
                 .ops [⟨some 87, .val (.tmp 12), none⟩,
                   ⟨some 88, .load true 2 (.tmp 11), none⟩,
                   ⟨some 89, .call (.val (.fn (.func 19) [] [])) [(.tmp 88)], none⟩,
                   ⟨some 90, .bin .add .num (.tmp 87) (.tmp 89), none⟩,
                   ⟨some 12, .val (.tmp 90), none⟩]) (
                .seq (
                 .ops [⟨some 13, .val (.val (.sl .nil 0 [])), none⟩]) (
                .seq a_rh_n1 (
                .seq a_rh_n2 (
                .seq (
                 .ops [⟨some 14, .val (.val (.lit (.int .i64 0))), none⟩]) (
                .block 6 (
                  .loop a_bobbinref29_heightsb1)))))))))))))) (
             .ops [⟨some 38, .val (.tmp 10), none⟩,
               ⟨some 39, .bin .add .num (.tmp 38) (.val (.lit (.int .i64 1))), none⟩,
               ⟨some 10, .val (.tmp 39), none⟩]))

def a_bobbinref29_heightsb3 : ACode :=
       .seq (
        .seq (
         .ops [⟨some 32, .val (.tmp 9), none⟩]) (
        .cond (.tmp 32) (
          .skip) (
          .exit 2))) (
       .block 3 (
         .seq (
          .ops [⟨some 9, .val (.val (.lit (.bool false))), none⟩]) (
         .seq (
          .ops [⟨some 10, .val (.val (.lit (.int .i64 0))), none⟩]) (
         .block 4 (
           .loop a_bobbinref29_heightsb2)))))

def a_bobbinref29_heightsb4 : ACode :=
       .seq (
        .seq (
         .ops [⟨some 19, .val (.tmp 7), none⟩,
           ⟨some 20, .val (.tmp 6), none⟩,
           ⟨some 21, .len 1 (.tmp 20), none⟩,
           ⟨some 22, .bin .lss .num (.tmp 19) (.tmp 21), none⟩]) (
        .cond (.tmp 22) (
          .skip) (
          .exit 0))) (
       .seq (
        .block 1 (
          .ops [⟨some 25, .val (.tmp 6), none⟩,
            ⟨some 26, .val (.tmp 7), none⟩,
            ⟨some 27, .indexAddr 1 (.tmp 25) (.tmp 26), none⟩,
            ⟨none, .store 1 (.tmp 27) (.val (.lit (.int .i64 (-1)))), none⟩])) (
       .ops [⟨some 23, .val (.tmp 7), none⟩,
         ⟨some 24, .bin .add .num (.tmp 23) (.val (.lit (.int .i64 1))), none⟩,
         ⟨some 7, .val (.tmp 24), none⟩]))

def a_bobbinref29_heights : ACode :=
  .seq (
   .ops [⟨some 2, .box true (.tmp 0), none⟩,
     ⟨some 3, .box true (.tmp 1), none⟩,
     ⟨some 4, .val (.val (.sl .nil 0 [])), none⟩,
     ⟨some 5, .val (.val (.lit (.bool false))), none⟩]) (
  .seq (
   .ops [⟨some 15, .fieldAddr 5 (.tmp 3), none⟩,
     ⟨some 16, .iload false 1 (.tmp 15), none⟩,
     ⟨some 17, .len 1 (.tmp 16), none⟩,
     ⟨some 18, .mkslice 1 8 [(.lit (.int .i64 0))] (.tmp 17) (.tmp 17), none⟩,
     ⟨some 6, .val (.tmp 18), none⟩]) (
  .seq (
   .seq (
    .ops [⟨some 7, .val (.val (.lit (.int .i64 1))), none⟩]) (
   .block 0 (
     .loop a_bobbinref29_heightsb4))) (
  .seq (
   .ops [⟨some 28, .fieldAddr 5 (.tmp 3), none⟩,
     ⟨some 29, .iload false 1 (.tmp 28), none⟩,
     ⟨some 30, .len 1 (.tmp 29), none⟩,
     ⟨some 31, .mkslice 1 1 [(.lit (.bool false))] (.tmp 30) (.tmp 30), none⟩,
     ⟨some 8, .val (.tmp 31), none⟩]) (
  .seq (
   .seq (
    .ops [⟨some 9, .val (.val (.lit (.bool true))), none⟩]) (
   .block 2 (
     .loop a_bobbinref29_heightsb3))) (
  .seq (
   .ops [⟨some 149, .val (.tmp 6), none⟩,
     ⟨some 4, .val (.tmp 149), none⟩,
     ⟨some 5, .val (.val (.lit (.bool true))), none⟩]) (
  .ret))))))

theorem c_bobbinref29_heights : codeOf Tryz.prog { pc := [65], bz := [2, 3], il := [16, 29, 35, 55, 63, 75, 84] } 29 = some (a_bobbinref29_heights, [.tmp 4, .tmp 5], 150) := by kernel_rfl

/-- bobbin/bobbinref29.May -/
def a_bobbinref29_Mayb1 : ACode :=
               .seq (
                .seq (
                 .ops [⟨some 91, .val (.tmp 9), none⟩,
                   ⟨some 92, .val (.tmp 8), none⟩,
                   ⟨some 93, .bin .lss .num (.tmp 91) (.tmp 92), none⟩]) (
                .cond (.tmp 93) (
                  .skip) (
                  .exit 4))) (
               .seq (
                .block 5 (
                  .seq (
                   .ops [⟨some 96, .iload true 3 (.tmp 1), none⟩,
                     ⟨some 98, .fieldAddr 5 (.tmp 7), none⟩,
                     ⟨some 100, .val (.tmp 9), none⟩,
                     ⟨some 97, .load true 6 (.tmp 7), none⟩,
                     ⟨some 99, .load false 1 (.tmp 98), none⟩,
                     ⟨some 101, .indexAddr 2 (.tmp 99) (.tmp 100), none⟩,
                     ⟨some 102, .load true 2 (.tmp 101), none⟩,
                     ⟨some 103, .call (.val (.fn (.func 28) [] [])) [(.tmp 96), (.tmp 97), (.tmp 102)], none⟩,
                     ⟨some 104, .un .not (.tmp 103), none⟩]) (
                  .cond (.tmp 104) (
                    .seq (
                     .ops [⟨some 2, .val (.val (.lit (.bool false))), none⟩]) (
                    .ret)) (
                    .skip)))) (
               .ops [⟨some 94, .val (.tmp 9), none⟩,
                 ⟨some 95, .bin .add .num (.tmp 94) (.val (.lit (.int .i64 1))), none⟩,
                 ⟨some 9, .val (.tmp 95), none⟩]))

def a_rm_h : ACode :=
           .seq (
            .ops [⟨some 63, .fieldAddr 3 (.tmp 7), none⟩,
              ⟨some 64, .load false 1 (.tmp 63), none⟩,
              ⟨some 65, .fieldAddr 2 (.tmp 7), none⟩,
              ⟨some 66, .load false 1 (.tmp 65), none⟩,
              ⟨some 67, .bin .lss .num (.tmp 64) (.tmp 66), none⟩,
              ⟨some 68, .val (.tmp 67), none⟩,
              ⟨some 69, .fieldAddr 3 (.tmp 7), some (68, false)⟩,
              ⟨some 70, .load false 1 (.tmp 69), some (68, false)⟩,
              ⟨some 71, .bin .gtr .num (.tmp 70) (.val (.lit (.int .i64 65536))), some (68, false)⟩,
              ⟨some 72, .pick (.tmp 68) (.val (.lit (.bool true))) (.tmp 71), none⟩,
              ⟨some 73, .val (.tmp 72), none⟩,
              ⟨some 74, .fieldAddr 4 (.tmp 7), some (73, false)⟩,
              ⟨some 75, .load false 1 (.tmp 74), some (73, false)⟩,
              ⟨some 76, .bin .lss .num (.tmp 75) (.val (.lit (.int .i64 0))), some (73, false)⟩,
              ⟨some 77, .pick (.tmp 73) (.val (.lit (.bool true))) (.tmp 76), none⟩,
              ⟨some 78, .val (.tmp 77), none⟩,
              ⟨some 79, .fieldAddr 4 (.tmp 7), some (78, false)⟩,
              ⟨some 80, .load false 1 (.tmp 79), some (78, false)⟩,
              ⟨some 81, .bin .gtr .num (.tmp 80) (.val (.lit (.int .i64 65536))), some (78, false)⟩,
              ⟨some 82, .pick (.tmp 78) (.val (.lit (.bool true))) (.tmp 81), none⟩,
              ⟨some 83, .val (.tmp 82), none⟩,
              ⟨some 84, .val (.tmp 8), some (83, false)⟩,
              ⟨some 85, .bin .lss .num (.tmp 84) (.val (.lit (.int .i64 1))), some (83, false)⟩,
              ⟨some 86, .pick (.tmp 83) (.val (.lit (.bool true))) (.tmp 85), none⟩,
              ⟨some 87, .val (.tmp 86), none⟩,
              ⟨some 88, .val (.tmp 8), some (87, false)⟩,
              ⟨some 89, .bin .gtr .num (.tmp 88) (.val (.lit (.int .i64 524288))), some (87, false)⟩,
              ⟨some 90, .pick (.tmp 87) (.val (.lit (.bool true))) (.tmp 89), none⟩]) (
           .cond (.tmp 90) (
             .seq (
              .ops [⟨some 2, .val (.val (.lit (.bool false))), none⟩]) (
             .ret)) (
             .skip))

def a_rm_c : ACode :=
           .seq (
            .ops [⟨some 9, .val (.val (.lit (.int .i64 0))), none⟩]) (
           .block 4 (
             .loop a_bobbinref29_Mayb1))

def a_rm_l : ACode :=
           .seq (
            .ops [⟨some 105, .fieldAddr 5 (.tmp 7), none⟩,
              ⟨some 106, .load false 1 (.tmp 105), none⟩,
              ⟨some 107, .val (.tmp 8), none⟩,
              ⟨some 108, .bin .sub .num (.tmp 107) (.val (.lit (.int .i64 1))), none⟩,
              ⟨some 109, .indexAddr 2 (.tmp 106) (.tmp 108), none⟩,
              ⟨some 110, .fieldAddr 0 (.tmp 109), none⟩,
              ⟨some 111, .load false 1 (.tmp 110), none⟩,
              ⟨some 112, .bin .neq .num (.tmp 111) (.val (.lit (.int .u8 12))), none⟩,
              ⟨some 113, .val (.tmp 112), none⟩,
              ⟨some 114, .fieldAddr 5 (.tmp 7), some (113, true)⟩,
              ⟨some 115, .load false 1 (.tmp 114), some (113, true)⟩,
              ⟨some 116, .val (.tmp 8), some (113, true)⟩,
              ⟨some 117, .bin .sub .num (.tmp 116) (.val (.lit (.int .i64 1))), some (113, true)⟩,
              ⟨some 118, .indexAddr 2 (.tmp 115) (.tmp 117), some (113, true)⟩,
              ⟨some 119, .fieldAddr 0 (.tmp 118), some (113, true)⟩,
              ⟨some 120, .load false 1 (.tmp 119), some (113, true)⟩,
              ⟨some 121, .bin .neq .num (.tmp 120) (.val (.lit (.int .u8 14))), some (113, true)⟩,
              ⟨some 122, .pick (.tmp 113) (.tmp 121) (.val (.lit (.bool false))), none⟩]) (
           .cond (.tmp 122) (
             .seq (
              .ops [⟨some 2, .val (.val (.lit (.bool false))), none⟩]) (
             .ret)) (
             .skip))

def a_rm_g : ACode :=
          .seq (
           .ops [⟨some 124, .iload true 3 (.tmp 1), none⟩,
             ⟨some 125, .load true 6 (.tmp 7), none⟩,
             ⟨some 126, .call (.val (.fn (.func 29) [] [])) [(.tmp 124), (.tmp 125)], none⟩,
             ⟨some 123, .val (.tmp 126), none⟩,
             ⟨some 127, .extract (.tmp 123) 0, none⟩,
             ⟨some 128, .extract (.tmp 123) 1, none⟩,
             ⟨some 10, .val (.tmp 127), none⟩,
             ⟨some 11, .val (.tmp 128), none⟩]) (
          .seq (
           .ops [⟨some 129, .val (.tmp 11), none⟩,
             ⟨some 130, .un .not (.tmp 129), none⟩]) (
          .cond (.tmp 130) (
            .seq (
             .ops [⟨some 2, .val (.val (.lit (.bool false))), none⟩]) (
            .ret)) (
            .skip)))

def a_bobbinref29_Mayb2 : ACode :=
       .seq (
        .seq (
         .ops [⟨some 48, .val (.tmp 6), none⟩,
           ⟨some 49, .fieldAddr 2 (.tmp 1), none⟩,
           ⟨some 50, .iload false 1 (.tmp 49), none⟩,
           ⟨some 51, .len 1 (.tmp 50), none⟩,
           ⟨some 52, .bin .lss .num (.tmp 48) (.tmp 51), none⟩]) (
        .cond (.tmp 52) (
          .skip) (
          .exit 2))) (
       .seq (
        .block 3 (
          .seq (
           .ops [⟨some 55, .fieldAddr 2 (.tmp 1), none⟩,
             ⟨some 56, .iload false 1 (.tmp 55), none⟩,
             ⟨some 57, .val (.tmp 6), none⟩,
             ⟨some 58, .indexAddr 6 (.tmp 56) (.tmp 57), none⟩,
             ⟨some 59, .load true 6 (.tmp 58), none⟩,
             ⟨some 7, .alloc [(.lit (.string ⟨#[]⟩)), (.lit (.bool false)), (.lit (.int .i64 0)), (.lit (.int .i64 0)), (.lit (.int .i64 0)), (.sl .nil 0 [])], none⟩,
             ⟨none, .store 6 (.tmp 7) (.tmp 59), none⟩]) (
          .seq (
           .ops [⟨some 60, .fieldAddr 5 (.tmp 7), none⟩,
             ⟨some 61, .load false 1 (.tmp 60), none⟩,
             ⟨some 62, .len 1 (.tmp 61), none⟩,
             ⟨some 8, .val (.tmp 62), none⟩]) (
          .seq a_rm_h (
          .seq a_rm_c (
          .seq a_rm_l a_rm_g)))))) (
       .ops [⟨some 53, .val (.tmp 6), none⟩,
         ⟨some 54, .bin .add .num (.tmp 53) (.val (.lit (.int .i64 1))), none⟩,
         ⟨some 6, .val (.tmp 54), none⟩]))

def a_bobbinref29_Mayb3 : ACode :=
       .seq (
        .seq (
         .ops [⟨some 17, .val (.tmp 4), none⟩,
           ⟨some 18, .fieldAddr 2 (.tmp 1), none⟩,
           ⟨some 19, .iload false 1 (.tmp 18), none⟩,
           ⟨some 20, .len 1 (.tmp 19), none⟩,
           ⟨some 21, .bin .lss .num (.tmp 17) (.tmp 20), none⟩]) (
        .cond (.tmp 21) (
          .skip) (
          .exit 0))) (
       .seq (
        .block 1 (
          .seq (
           .ops [⟨some 24, .fieldAddr 2 (.tmp 1), none⟩,
             ⟨some 25, .iload false 1 (.tmp 24), none⟩,
             ⟨some 26, .val (.tmp 4), none⟩,
             ⟨some 27, .indexAddr 6 (.tmp 25) (.tmp 26), none⟩,
             ⟨some 28, .load true 6 (.tmp 27), none⟩,
             ⟨some 5, .alloc [(.lit (.string ⟨#[]⟩)), (.lit (.bool false)), (.lit (.int .i64 0)), (.lit (.int .i64 0)), (.lit (.int .i64 0)), (.sl .nil 0 [])], none⟩,
             ⟨none, .store 6 (.tmp 5) (.tmp 28), none⟩]) (
          .ops [⟨some 29, .fieldAddr 2 (.tmp 3), none⟩,
            ⟨some 30, .load false 1 (.tmp 29), none⟩,
            ⟨some 31, .fieldAddr 0 (.tmp 5), none⟩,
            ⟨some 32, .load false 1 (.tmp 31), none⟩,
            ⟨some 33, .fieldAddr 1 (.tmp 5), none⟩,
            ⟨some 34, .load false 1 (.tmp 33), none⟩,
            ⟨some 35, .fieldAddr 2 (.tmp 5), none⟩,
            ⟨some 36, .load false 1 (.tmp 35), none⟩,
            ⟨some 37, .fieldAddr 2 (.tmp 5), none⟩,
            ⟨some 38, .load false 1 (.tmp 37), none⟩,
            ⟨some 39, .build [(.lit (.int .u8 0)), (.lit (.int .i64 0)), (.lit (.int .i64 0)), (.lit (.int .i64 0)), (.lit (.int .i64 0)), (.sl .nil 0 [])] [(0, 1, (.val (.lit (.int .u8 11))))], none⟩,
            ⟨some 40, .bslice false 6 1 [(.lit (.int .u8 0)), (.lit (.int .i64 0)), (.lit (.int .i64 0)), (.lit (.int .i64 0)), (.lit (.int .i64 0)), (.sl .nil 0 [])] [(0, 6, (.tmp 39))], none⟩,
            ⟨some 41, .build [(.lit (.string ⟨#[]⟩)), (.lit (.bool false)), (.lit (.int .i64 0)), (.lit (.int .i64 0)), (.sl .nil 0 [])] [(0, 1, (.tmp 32)), (1, 1, (.tmp 34)), (2, 1, (.tmp 36)), (3, 1, (.tmp 38)), (4, 1, (.tmp 40))], none⟩,
            ⟨some 42, .bslice false 5 1 [(.lit (.string ⟨#[]⟩)), (.lit (.bool false)), (.lit (.int .i64 0)), (.lit (.int .i64 0)), (.sl .nil 0 [])] [(0, 5, (.tmp 41))], none⟩,
            ⟨some 43, .append false 5 64 (.tmp 30) (.tmp 42), none⟩,
            ⟨some 44, .fieldAddr 2 (.tmp 3), none⟩,
            ⟨none, .store 1 (.tmp 44) (.tmp 43), none⟩]))) (
       .ops [⟨some 22, .val (.tmp 4), none⟩,
         ⟨some 23, .bin .add .num (.tmp 22) (.val (.lit (.int .i64 1))), none⟩,
         ⟨some 4, .val (.tmp 23), none⟩]))

def a_bobbinref29_May : ACode :=
  .seq (
   .ops [⟨some 1, .box true (.tmp 0), none⟩,
     ⟨some 2, .val (.val (.lit (.bool false))), none⟩]) (
  .seq (
   .ops [⟨some 12, .fieldAddr 0 (.tmp 1), none⟩,
     ⟨some 13, .iload false 1 (.tmp 12), none⟩,
     ⟨some 14, .fieldAddr 1 (.tmp 1), none⟩,
     ⟨some 15, .iload false 1 (.tmp 14), none⟩,
     ⟨some 16, .build [(.sl .nil 0 []), (.sl .nil 0 []), (.sl .nil 0 [])] [(0, 1, (.tmp 13)), (1, 1, (.tmp 15))], none⟩,
     ⟨some 3, .alloc [(.sl .nil 0 []), (.sl .nil 0 []), (.sl .nil 0 [])], none⟩,
     ⟨none, .store 3 (.tmp 3) (.tmp 16), none⟩]) (
  .seq (
   .seq (
    .ops [⟨some 4, .val (.val (.lit (.int .i64 0))), none⟩]) (
   .block 0 (
     .loop a_bobbinref29_Mayb3))) (
  .seq (
   .seq (
    .ops [⟨some 45, .load true 3 (.tmp 3), none⟩,
      ⟨some 46, .call (.val (.fn (.func 27) [] [])) [(.tmp 45)], none⟩,
      ⟨some 47, .un .not (.tmp 46), none⟩]) (
   .cond (.tmp 47) (
     .seq (
      .ops [⟨some 2, .val (.val (.lit (.bool false))), none⟩]) (
     .ret)) (
     .skip))) (
  .seq (
   .seq (
    .ops [⟨some 6, .val (.val (.lit (.int .i64 0))), none⟩]) (
   .block 2 (
     .loop a_bobbinref29_Mayb2))) (
  .seq (
   .ops [⟨some 2, .val (.val (.lit (.bool true))), none⟩]) (
  .ret))))))

theorem c_bobbinref29_May : codeOf Tryz.prog { bz := [1], il := [13, 15, 19, 25, 50, 56, 96, 124] } 8 = some (a_bobbinref29_May, [.tmp 2], 131) := by kernel_rfl

/-- bobbin/bobbinref29.Heights -/
def a_bobbinref29_Heights : ACode :=
  .seq (
   .ops [⟨some 2, .box true (.tmp 0), none⟩,
     ⟨some 4, .val (.val (.sl .nil 0 [])), none⟩,
     ⟨some 5, .val (.val (.lit (.int .i64 0))), none⟩]) (
  .seq (
   .seq (
    .ops [⟨some 8, .iload true 3 (.tmp 2), none⟩,
      ⟨some 9, .call (.val (.fn (.func 8) [] [])) [(.tmp 8)], none⟩,
      ⟨some 10, .un .not (.tmp 9), none⟩,
      ⟨some 11, .val (.tmp 10), none⟩,
      ⟨some 12, .val (.tmp 1), some (11, false)⟩,
      ⟨some 13, .fieldAddr 2 (.tmp 2), some (11, false)⟩,
      ⟨some 14, .iload false 1 (.tmp 13), some (11, false)⟩,
      ⟨some 15, .len 1 (.tmp 14), some (11, false)⟩,
      ⟨some 16, .call (.val (.fn (.func 36) [] [])) [(.tmp 12), (.tmp 15)], some (11, false)⟩,
      ⟨some 17, .un .not (.tmp 16), some (11, false)⟩,
      ⟨some 18, .pick (.tmp 11) (.val (.lit (.bool true))) (.tmp 17), none⟩]) (
   .cond (.tmp 18) (
     .seq (
      .ops [⟨some 4, .val (.val (.sl .nil 0 [])), none⟩,
        ⟨some 5, .val (.val (.lit (.int .i64 4))), none⟩]) (
     .ret)) (
     .skip))) (
  .seq (
   .ops [⟨some 20, .iload true 3 (.tmp 2), none⟩,
     ⟨some 21, .fieldAddr 2 (.tmp 2), none⟩,
     ⟨some 22, .iload false 1 (.tmp 21), none⟩,
     ⟨some 23, .val (.tmp 1), none⟩,
     ⟨some 24, .indexAddr 6 (.tmp 22) (.tmp 23), none⟩,
     ⟨some 25, .load true 6 (.tmp 24), none⟩,
     ⟨some 26, .call (.val (.fn (.func 29) [] [])) [(.tmp 20), (.tmp 25)], none⟩,
     ⟨some 19, .val (.tmp 26), none⟩,
     ⟨some 27, .extract (.tmp 19) 0, none⟩,
     ⟨some 28, .extract (.tmp 19) 1, none⟩,
     ⟨some 6, .val (.tmp 27), none⟩,
     ⟨some 7, .val (.tmp 28), none⟩]) (
  .seq (
   .ops [⟨some 29, .val (.tmp 6), none⟩,
     ⟨some 4, .val (.tmp 29), none⟩,
     ⟨some 5, .val (.val (.lit (.int .i64 0))), none⟩]) (
  .ret))))

theorem c_bobbinref29_Heights : codeOf Tryz.prog { bz := [2], il := [8, 14, 20, 22] } 12 = some (a_bobbinref29_Heights, [.tmp 4, .tmp 5], 30) := by kernel_rfl

/-- bobbin/bobbinref29.Same -/
def a_bobbinref29_Sameb1 : ACode :=
              .seq (
               .seq (
                .ops [⟨some 89, .val (.tmp 8), none⟩,
                  ⟨some 90, .fieldAddr 5 (.tmp 6), none⟩,
                  ⟨some 91, .load false 1 (.tmp 90), none⟩,
                  ⟨some 92, .len 1 (.tmp 91), none⟩,
                  ⟨some 93, .bin .lss .num (.tmp 89) (.tmp 92), none⟩]) (
               .cond (.tmp 93) (
                 .skip) (
                 .exit 2))) (
              .seq (
               .block 3 (
                 .seq (
                  .ops [⟨some 96, .fieldAddr 5 (.tmp 6), none⟩,
                    ⟨some 98, .val (.tmp 8), none⟩,
                    ⟨some 101, .fieldAddr 5 (.tmp 7), none⟩,
                    ⟨some 103, .val (.tmp 8), none⟩,
                    ⟨some 97, .load false 1 (.tmp 96), none⟩,
                    ⟨some 99, .indexAddr 2 (.tmp 97) (.tmp 98), none⟩,
                    ⟨some 100, .load true 2 (.tmp 99), none⟩,
                    ⟨some 102, .load false 1 (.tmp 101), none⟩,
                    ⟨some 104, .indexAddr 2 (.tmp 102) (.tmp 103), none⟩,
                    ⟨some 105, .load true 2 (.tmp 104), none⟩,
                    ⟨some 106, .eqS true [(0, 0), (1, 0)] (.tmp 100) (.tmp 105), none⟩]) (
                 .cond (.tmp 106) (
                   .seq (
                    .ops [⟨some 4, .val (.val (.lit (.bool false))), none⟩]) (
                   .ret)) (
                   .skip)))) (
              .ops [⟨some 94, .val (.tmp 8), none⟩,
                ⟨some 95, .bin .add .num (.tmp 94) (.val (.lit (.int .i64 1))), none⟩,
                ⟨some 8, .val (.tmp 95), none⟩]))

def a_rs_h : ACode :=
           .seq (
            .ops [⟨some 47, .fieldAddr 0 (.tmp 6), none⟩,
              ⟨some 48, .load false 1 (.tmp 47), none⟩,
              ⟨some 49, .fieldAddr 0 (.tmp 7), none⟩,
              ⟨some 50, .load false 1 (.tmp 49), none⟩,
              ⟨some 51, .bin .neq .num (.tmp 48) (.tmp 50), none⟩,
              ⟨some 52, .val (.tmp 51), none⟩,
              ⟨some 53, .fieldAddr 1 (.tmp 6), some (52, false)⟩,
              ⟨some 54, .load false 1 (.tmp 53), some (52, false)⟩,
              ⟨some 55, .fieldAddr 1 (.tmp 7), some (52, false)⟩,
              ⟨some 56, .load false 1 (.tmp 55), some (52, false)⟩,
              ⟨some 57, .bin .neq .bool (.tmp 54) (.tmp 56), some (52, false)⟩,
              ⟨some 58, .pick (.tmp 52) (.val (.lit (.bool true))) (.tmp 57), none⟩,
              ⟨some 59, .val (.tmp 58), none⟩,
              ⟨some 60, .fieldAddr 2 (.tmp 6), some (59, false)⟩,
              ⟨some 61, .load false 1 (.tmp 60), some (59, false)⟩,
              ⟨some 62, .fieldAddr 2 (.tmp 7), some (59, false)⟩,
              ⟨some 63, .load false 1 (.tmp 62), some (59, false)⟩,
              ⟨some 64, .bin .neq .num (.tmp 61) (.tmp 63), some (59, false)⟩,
              ⟨some 65, .pick (.tmp 59) (.val (.lit (.bool true))) (.tmp 64), none⟩,
              ⟨some 66, .val (.tmp 65), none⟩,
              ⟨some 67, .fieldAddr 3 (.tmp 6), some (66, false)⟩,
              ⟨some 68, .load false 1 (.tmp 67), some (66, false)⟩,
              ⟨some 69, .fieldAddr 3 (.tmp 7), some (66, false)⟩,
              ⟨some 70, .load false 1 (.tmp 69), some (66, false)⟩,
              ⟨some 71, .bin .neq .num (.tmp 68) (.tmp 70), some (66, false)⟩,
              ⟨some 72, .pick (.tmp 66) (.val (.lit (.bool true))) (.tmp 71), none⟩,
              ⟨some 73, .val (.tmp 72), none⟩,
              ⟨some 74, .fieldAddr 4 (.tmp 6), some (73, false)⟩,
              ⟨some 75, .load false 1 (.tmp 74), some (73, false)⟩,
              ⟨some 76, .fieldAddr 4 (.tmp 7), some (73, false)⟩,
              ⟨some 77, .load false 1 (.tmp 76), some (73, false)⟩,
              ⟨some 78, .bin .neq .num (.tmp 75) (.tmp 77), some (73, false)⟩,
              ⟨some 79, .pick (.tmp 73) (.val (.lit (.bool true))) (.tmp 78), none⟩,
              ⟨some 80, .val (.tmp 79), none⟩,
              ⟨some 81, .fieldAddr 5 (.tmp 6), some (80, false)⟩,
              ⟨some 82, .load false 1 (.tmp 81), some (80, false)⟩,
              ⟨some 83, .len 1 (.tmp 82), some (80, false)⟩,
              ⟨some 84, .fieldAddr 5 (.tmp 7), some (80, false)⟩,
              ⟨some 85, .load false 1 (.tmp 84), some (80, false)⟩,
              ⟨some 86, .len 1 (.tmp 85), some (80, false)⟩,
              ⟨some 87, .bin .neq .num (.tmp 83) (.tmp 86), some (80, false)⟩,
              ⟨some 88, .pick (.tmp 80) (.val (.lit (.bool true))) (.tmp 87), none⟩]) (
           .cond (.tmp 88) (
             .seq (
              .ops [⟨some 4, .val (.val (.lit (.bool false))), none⟩]) (
             .ret)) (
             .skip))

def a_bobbinref29_Sameb2 : ACode :=
       .seq (
        .seq (
         .ops [⟨some 30, .val (.tmp 5), none⟩,
           ⟨some 31, .fieldAddr 2 (.tmp 2), none⟩,
           ⟨some 32, .iload false 1 (.tmp 31), none⟩,
           ⟨some 33, .len 1 (.tmp 32), none⟩,
           ⟨some 34, .bin .lss .num (.tmp 30) (.tmp 33), none⟩]) (
        .cond (.tmp 34) (
          .skip) (
          .exit 0))) (
       .seq (
        .block 1 (
          .seq (
           .ops [⟨some 37, .fieldAddr 2 (.tmp 2), none⟩,
             ⟨some 38, .iload false 1 (.tmp 37), none⟩,
             ⟨some 39, .val (.tmp 5), none⟩,
             ⟨some 40, .indexAddr 6 (.tmp 38) (.tmp 39), none⟩,
             ⟨some 41, .load true 6 (.tmp 40), none⟩,
             ⟨some 6, .alloc [(.lit (.string ⟨#[]⟩)), (.lit (.bool false)), (.lit (.int .i64 0)), (.lit (.int .i64 0)), (.lit (.int .i64 0)), (.sl .nil 0 [])], none⟩,
             ⟨none, .store 6 (.tmp 6) (.tmp 41), none⟩]) (
          .seq (
           .ops [⟨some 42, .fieldAddr 2 (.tmp 3), none⟩,
             ⟨some 43, .iload false 1 (.tmp 42), none⟩,
             ⟨some 44, .val (.tmp 5), none⟩,
             ⟨some 45, .indexAddr 6 (.tmp 43) (.tmp 44), none⟩,
             ⟨some 46, .load true 6 (.tmp 45), none⟩,
             ⟨some 7, .alloc [(.lit (.string ⟨#[]⟩)), (.lit (.bool false)), (.lit (.int .i64 0)), (.lit (.int .i64 0)), (.lit (.int .i64 0)), (.sl .nil 0 [])], none⟩,
             ⟨none, .store 6 (.tmp 7) (.tmp 46), none⟩]) (
          .seq a_rs_h (
          .seq (
           .ops [⟨some 8, .val (.val (.lit (.int .i64 0))), none⟩]) (
          .block 2 (
            .loop a_bobbinref29_Sameb1))))))) (
       .ops [⟨some 35, .val (.tmp 5), none⟩,
         ⟨some 36, .bin .add .num (.tmp 35) (.val (.lit (.int .i64 1))), none⟩,
         ⟨some 5, .val (.tmp 36), none⟩]))

def a_bobbinref29_Same : ACode :=
  .seq (
   .ops [⟨some 2, .box true (.tmp 0), none⟩,
     ⟨some 3, .box true (.tmp 1), none⟩,
     ⟨some 4, .val (.val (.lit (.bool false))), none⟩]) (
  .seq (
   .seq (
    .ops [⟨some 9, .fieldAddr 0 (.tmp 2), none⟩,
      ⟨some 10, .iload false 1 (.tmp 9), none⟩,
      ⟨some 11, .fieldAddr 1 (.tmp 2), none⟩,
      ⟨some 12, .iload false 1 (.tmp 11), none⟩,
      ⟨some 13, .build [(.sl .nil 0 []), (.sl .nil 0 []), (.sl .nil 0 [])] [(0, 1, (.tmp 10)), (1, 1, (.tmp 12))], none⟩,
      ⟨some 14, .fieldAddr 0 (.tmp 3), none⟩,
      ⟨some 15, .iload false 1 (.tmp 14), none⟩,
      ⟨some 16, .fieldAddr 1 (.tmp 3), none⟩,
      ⟨some 17, .iload false 1 (.tmp 16), none⟩,
      ⟨some 18, .build [(.sl .nil 0 []), (.sl .nil 0 []), (.sl .nil 0 [])] [(0, 1, (.tmp 15)), (1, 1, (.tmp 17))], none⟩,
      ⟨some 19, .call (.val (.fn (.func 35) [] [])) [(.tmp 13), (.tmp 18)], none⟩,
      ⟨some 20, .un .not (.tmp 19), none⟩,
      ⟨some 21, .val (.tmp 20), none⟩,
      ⟨some 22, .fieldAddr 2 (.tmp 2), some (21, false)⟩,
      ⟨some 23, .iload false 1 (.tmp 22), some (21, false)⟩,
      ⟨some 24, .len 1 (.tmp 23), some (21, false)⟩,
      ⟨some 25, .fieldAddr 2 (.tmp 3), some (21, false)⟩,
      ⟨some 26, .iload false 1 (.tmp 25), some (21, false)⟩,
      ⟨some 27, .len 1 (.tmp 26), some (21, false)⟩,
      ⟨some 28, .bin .neq .num (.tmp 24) (.tmp 27), some (21, false)⟩,
      ⟨some 29, .pick (.tmp 21) (.val (.lit (.bool true))) (.tmp 28), none⟩]) (
   .cond (.tmp 29) (
     .seq (
      .ops [⟨some 4, .val (.val (.lit (.bool false))), none⟩]) (
     .ret)) (
     .skip))) (
  .seq (
   .seq (
    .ops [⟨some 5, .val (.val (.lit (.int .i64 0))), none⟩]) (
   .block 0 (
     .loop a_bobbinref29_Sameb2))) (
  .seq (
   .ops [⟨some 4, .val (.val (.lit (.bool true))), none⟩]) (
  .ret))))

theorem c_bobbinref29_Same : codeOf Tryz.prog { bz := [2, 3], il := [10, 12, 15, 17, 23, 26, 32, 38, 43] } 10 = some (a_bobbinref29_Same, [.tmp 4], 107) := by kernel_rfl

end Go.Proofs.YtefejpckppabpaaGreatDoor
