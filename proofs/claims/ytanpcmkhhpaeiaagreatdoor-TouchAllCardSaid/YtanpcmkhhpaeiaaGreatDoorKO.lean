/- The code of functions, compiled (printed by wip/tools/kp.py). -/
import Derived.Test.YtanpcmkhhpaeiaaGreatDoorProg
import Derived.Test.YtanpcmkhhpaeiaaGreatDoorM3
namespace Go.Proofs.YtanpcmkhhpaeiaaGreatDoor
set_option linter.unusedSimpArgs false
set_option linter.unusedVariables false
open Go Go.Fw
/-- bobbin/bobbinlaw18.TouchOwn -/
def a_bobbinlaw18_TouchOwnb1 : ACode :=
                     .seq (
                      .seq (
                       .ops [⟨some 151, .val (.tmp 14), none⟩,
                         ⟨some 152, .fieldAddr 2 (.tmp 1), none⟩,
                         ⟨some 153, .iload false 1 (.tmp 152), none⟩,
                         ⟨some 154, .val (.tmp 5), none⟩,
                         ⟨some 155, .indexAddr 5 (.tmp 153) (.tmp 154), none⟩,
                         ⟨some 156, .fieldAddr 4 (.tmp 155), none⟩,
                         ⟨some 157, .load false 1 (.tmp 156), none⟩,
                         ⟨some 158, .len 1 (.tmp 157), none⟩,
                         ⟨some 159, .bin .lss .num (.tmp 151) (.tmp 158), none⟩]) (
                      .cond (.tmp 159) (
                        .skip) (
                        .exit 8))) (
                     .seq (
                      .block 9 (
                        .seq (
                         .ops [⟨some 162, .fieldAddr 2 (.tmp 1), none⟩,
                           ⟨some 163, .iload false 1 (.tmp 162), none⟩,
                           ⟨some 164, .val (.tmp 5), none⟩,
                           ⟨some 165, .indexAddr 5 (.tmp 163) (.tmp 164), none⟩,
                           ⟨some 166, .fieldAddr 4 (.tmp 165), none⟩,
                           ⟨some 167, .load false 1 (.tmp 166), none⟩,
                           ⟨some 168, .val (.tmp 14), none⟩,
                           ⟨some 169, .indexAddr 6 (.tmp 167) (.tmp 168), none⟩,
                           ⟨some 170, .load true 6 (.tmp 169), none⟩,
                           ⟨some 15, .alloc [(.lit (.int .u8 0)), (.lit (.int .i64 0)), (.lit (.int .i64 0)), (.lit (.int .i64 0)), (.lit (.int .i64 0)), (.sl .nil 0 [])], none⟩,
                           ⟨none, .store 6 (.tmp 15) (.tmp 170), none⟩]) (
                        .seq (
                         .ops [⟨some 171, .fieldAddr 0 (.tmp 15), none⟩,
                           ⟨some 173, .val (.tmp 8), none⟩,
                           ⟨some 174, .val (.tmp 9), none⟩,
                           ⟨some 175, .indexAddr 1 (.tmp 173) (.tmp 174), none⟩,
                           ⟨some 172, .load false 1 (.tmp 171), none⟩,
                           ⟨some 176, .load false 1 (.tmp 175), none⟩,
                           ⟨some 177, .bin .eql .num (.tmp 172) (.tmp 176), none⟩,
                           ⟨some 178, .val (.tmp 177), none⟩,
                           ⟨some 179, .fieldAddr 4 (.tmp 15), some (178, true)⟩,
                           ⟨some 182, .val (.tmp 7), some (178, true)⟩,
                           ⟨some 183, .val (.tmp 9), some (178, true)⟩,
                           ⟨some 184, .indexAddr 1 (.tmp 182) (.tmp 183), some (178, true)⟩,
                           ⟨some 180, .load false 1 (.tmp 179), some (178, true)⟩,
                           ⟨some 181, .bslice false 1 1 [(.lit (.int .i64 0))] [(0, 1, (.tmp 180))], some (178, true)⟩,
                           ⟨some 185, .load false 1 (.tmp 184), some (178, true)⟩,
                           ⟨some 186, .call (.val (.fn (.func 25) [] [])) [(.tmp 181), (.tmp 185)], some (178, true)⟩,
                           ⟨some 187, .un .not (.tmp 186), some (178, true)⟩,
                           ⟨some 188, .pick (.tmp 178) (.tmp 187) (.val (.lit (.bool false))), none⟩]) (
                        .cond (.tmp 188) (
                          .seq (
                           .ops [⟨some 2, .val (.val (.lit (.bool false))), none⟩]) (
                          .ret)) (
                          .skip))))) (
                     .ops [⟨some 160, .val (.tmp 14), none⟩,
                       ⟨some 161, .bin .add .num (.tmp 160) (.val (.lit (.int .i64 1))), none⟩,
                       ⟨some 14, .val (.tmp 161), none⟩]))

def a_bobbinlaw18_TouchOwnb2 : ACode :=
                              .seq (
                               .seq (
                                .ops [⟨some 85, .val (.tmp 12), none⟩,
                                  ⟨some 86, .fieldAddr 2 (.tmp 1), none⟩,
                                  ⟨some 87, .iload false 1 (.tmp 86), none⟩,
                                  ⟨some 88, .val (.tmp 5), none⟩,
                                  ⟨some 89, .indexAddr 5 (.tmp 87) (.tmp 88), none⟩,
                                  ⟨some 90, .fieldAddr 4 (.tmp 89), none⟩,
                                  ⟨some 91, .load false 1 (.tmp 90), none⟩,
                                  ⟨some 92, .len 1 (.tmp 91), none⟩,
                                  ⟨some 93, .bin .lss .num (.tmp 85) (.tmp 92), none⟩]) (
                               .cond (.tmp 93) (
                                 .skip) (
                                 .exit 6))) (
                              .seq (
                               .block 7 (
                                 .seq (
                                  .ops [⟨some 96, .fieldAddr 2 (.tmp 1), none⟩,
                                    ⟨some 97, .iload false 1 (.tmp 96), none⟩,
                                    ⟨some 98, .val (.tmp 5), none⟩,
                                    ⟨some 99, .indexAddr 5 (.tmp 97) (.tmp 98), none⟩,
                                    ⟨some 100, .fieldAddr 4 (.tmp 99), none⟩,
                                    ⟨some 101, .load false 1 (.tmp 100), none⟩,
                                    ⟨some 102, .val (.tmp 12), none⟩,
                                    ⟨some 103, .indexAddr 6 (.tmp 101) (.tmp 102), none⟩,
                                    ⟨some 104, .load true 6 (.tmp 103), none⟩,
                                    ⟨some 13, .alloc [(.lit (.int .u8 0)), (.lit (.int .i64 0)), (.lit (.int .i64 0)), (.lit (.int .i64 0)), (.lit (.int .i64 0)), (.sl .nil 0 [])], none⟩,
                                    ⟨none, .store 6 (.tmp 13) (.tmp 104), none⟩]) (
                                 .ops [⟨some 105, .val (.tmp 11), none⟩,
                                   ⟨some 106, .val (.tmp 105), none⟩,
                                   ⟨some 107, .fieldAddr 0 (.tmp 13), some (106, false)⟩,
                                   ⟨some 109, .val (.tmp 8), some (106, false)⟩,
                                   ⟨some 110, .val (.tmp 9), some (106, false)⟩,
                                   ⟨some 111, .indexAddr 1 (.tmp 109) (.tmp 110), some (106, false)⟩,
                                   ⟨some 108, .load false 1 (.tmp 107), some (106, false)⟩,
                                   ⟨some 112, .load false 1 (.tmp 111), some (106, false)⟩,
                                   ⟨some 113, .bin .eql .num (.tmp 108) (.tmp 112), some (106, false)⟩,
                                   ⟨some 114, .val (.tmp 113), some (106, false)⟩,
                                   ⟨some 115, .fieldAddr 4 (.tmp 13), some (114, true)⟩,
                                   ⟨some 117, .val (.tmp 7), some (114, true)⟩,
                                   ⟨some 118, .val (.tmp 9), some (114, true)⟩,
                                   ⟨some 119, .indexAddr 1 (.tmp 117) (.tmp 118), some (114, true)⟩,
                                   ⟨some 121, .val (.tmp 10), some (114, true)⟩,
                                   ⟨some 116, .load false 1 (.tmp 115), some (114, true)⟩,
                                   ⟨some 120, .load false 1 (.tmp 119), some (114, true)⟩,
                                   ⟨some 122, .indexAddr 1 (.tmp 120) (.tmp 121), some (114, true)⟩,
                                   ⟨some 123, .load false 1 (.tmp 122), some (114, true)⟩,
                                   ⟨some 124, .bin .eql .num (.tmp 116) (.tmp 123), some (114, true)⟩,
                                   ⟨some 125, .pick (.tmp 114) (.tmp 124) (.val (.lit (.bool false))), some (106, false)⟩,
                                   ⟨some 126, .pick (.tmp 106) (.val (.lit (.bool true))) (.tmp 125), none⟩,
                                   ⟨some 11, .val (.tmp 126), none⟩]))) (
                              .ops [⟨some 94, .val (.tmp 12), none⟩,
                                ⟨some 95, .bin .add .num (.tmp 94) (.val (.lit (.int .i64 1))), none⟩,
                                ⟨some 12, .val (.tmp 95), none⟩]))

def a_bobbinlaw18_TouchOwnb3 : ACode :=
                      .seq (
                       .seq (
                        .ops [⟨some 76, .val (.tmp 10), none⟩,
                          ⟨some 77, .val (.tmp 7), none⟩,
                          ⟨some 78, .val (.tmp 9), none⟩,
                          ⟨some 79, .indexAddr 1 (.tmp 77) (.tmp 78), none⟩,
                          ⟨some 80, .load false 1 (.tmp 79), none⟩,
                          ⟨some 81, .len 1 (.tmp 80), none⟩,
                          ⟨some 82, .bin .lss .num (.tmp 76) (.tmp 81), none⟩]) (
                       .cond (.tmp 82) (
                         .skip) (
                         .exit 4))) (
                      .seq (
                       .block 5 (
                         .seq (
                          .ops [⟨some 11, .val (.val (.lit (.bool false))), none⟩]) (
                         .seq (
                          .seq (
                           .ops [⟨some 12, .val (.val (.lit (.int .i64 0))), none⟩]) (
                          .block 6 (
                            .loop a_bobbinlaw18_TouchOwnb2))) (
                         .seq (
                          .ops [⟨some 127, .val (.tmp 11), none⟩,
                            ⟨some 128, .un .not (.tmp 127), none⟩,
                            ⟨some 129, .val (.tmp 128), none⟩,
                            ⟨some 130, .val (.tmp 10), some (129, false)⟩,
                            ⟨some 131, .bin .gtr .num (.tmp 130) (.val (.lit (.int .i64 0))), some (129, false)⟩,
                            ⟨some 132, .val (.tmp 131), some (129, false)⟩,
                            ⟨some 133, .val (.tmp 7), some (132, true)⟩,
                            ⟨some 134, .val (.tmp 9), some (132, true)⟩,
                            ⟨some 135, .indexAddr 1 (.tmp 133) (.tmp 134), some (132, true)⟩,
                            ⟨some 137, .val (.tmp 10), some (132, true)⟩,
                            ⟨some 140, .val (.tmp 7), some (132, true)⟩,
                            ⟨some 141, .val (.tmp 9), some (132, true)⟩,
                            ⟨some 142, .indexAddr 1 (.tmp 140) (.tmp 141), some (132, true)⟩,
                            ⟨some 144, .val (.tmp 10), some (132, true)⟩,
                            ⟨some 145, .bin .sub .num (.tmp 144) (.val (.lit (.int .i64 1))), some (132, true)⟩,
                            ⟨some 136, .load false 1 (.tmp 135), some (132, true)⟩,
                            ⟨some 138, .indexAddr 1 (.tmp 136) (.tmp 137), some (132, true)⟩,
                            ⟨some 139, .load false 1 (.tmp 138), some (132, true)⟩,
                            ⟨some 143, .load false 1 (.tmp 142), some (132, true)⟩,
                            ⟨some 146, .indexAddr 1 (.tmp 143) (.tmp 145), some (132, true)⟩,
                            ⟨some 147, .load false 1 (.tmp 146), some (132, true)⟩,
                            ⟨some 148, .bin .leq .num (.tmp 139) (.tmp 147), some (132, true)⟩,
                            ⟨some 149, .pick (.tmp 132) (.tmp 148) (.val (.lit (.bool false))), some (129, false)⟩,
                            ⟨some 150, .pick (.tmp 129) (.val (.lit (.bool true))) (.tmp 149), none⟩]) (
                         .cond (.tmp 150) (
                           .seq (
                            .ops [⟨some 2, .val (.val (.lit (.bool false))), none⟩]) (
                           .ret)) (
                           .skip)))))) (
                      .ops [⟨some 83, .val (.tmp 10), none⟩,
                        ⟨some 84, .bin .add .num (.tmp 83) (.val (.lit (.int .i64 1))), none⟩,
                        ⟨some 10, .val (.tmp 84), none⟩]))

def a_bobbinlaw18_TouchOwnb4 : ACode :=
              .seq (
               .seq (
                .ops [⟨some 70, .val (.tmp 9), none⟩,
                  ⟨some 71, .val (.tmp 7), none⟩,
                  ⟨some 72, .len 1 (.tmp 71), none⟩,
                  ⟨some 73, .bin .lss .num (.tmp 70) (.tmp 72), none⟩]) (
               .cond (.tmp 73) (
                 .skip) (
                 .exit 2))) (
              .seq (
               .block 3 (
                 .seq (
                  .seq (
                   .ops [⟨some 10, .val (.val (.lit (.int .i64 0))), none⟩]) (
                  .block 4 (
                    .loop a_bobbinlaw18_TouchOwnb3))) (
                 .seq (
                  .ops [⟨some 14, .val (.val (.lit (.int .i64 0))), none⟩]) (
                 .block 8 (
                   .loop a_bobbinlaw18_TouchOwnb1))))) (
              .ops [⟨some 74, .val (.tmp 9), none⟩,
                ⟨some 75, .bin .add .num (.tmp 74) (.val (.lit (.int .i64 1))), none⟩,
                ⟨some 9, .val (.tmp 75), none⟩]))

def a_own_x : ACode :=
           .seq (
            .ops [⟨some 32, .fieldAddr 2 (.tmp 1), none⟩,
              ⟨some 33, .iload false 1 (.tmp 32), none⟩,
              ⟨some 34, .val (.tmp 5), none⟩,
              ⟨some 35, .indexAddr 5 (.tmp 33) (.tmp 34), none⟩,
              ⟨some 36, .fieldAddr 1 (.tmp 35), none⟩,
              ⟨some 37, .load false 1 (.tmp 36), none⟩]) (
           .cond (.tmp 37) (
             .seq (
              .seq (
               .ops [⟨some 38, .val (.tmp 4), none⟩,
                 ⟨some 39, .val (.tmp 3), none⟩,
                 ⟨some 40, .len 1 (.tmp 39), none⟩,
                 ⟨some 41, .bin .geq .num (.tmp 38) (.tmp 40), none⟩,
                 ⟨some 42, .val (.tmp 41), none⟩,
                 ⟨some 43, .val (.tmp 3), some (42, false)⟩,
                 ⟨some 44, .val (.tmp 4), some (42, false)⟩,
                 ⟨some 45, .indexAddr 1 (.tmp 43) (.tmp 44), some (42, false)⟩,
                 ⟨some 46, .load false 1 (.tmp 45), some (42, false)⟩,
                 ⟨some 47, .val (.tmp 5), some (42, false)⟩,
                 ⟨some 48, .bin .neq .num (.tmp 46) (.tmp 47), some (42, false)⟩,
                 ⟨some 49, .pick (.tmp 42) (.val (.lit (.bool true))) (.tmp 48), none⟩]) (
              .cond (.tmp 49) (
                .seq (
                 .ops [⟨some 2, .val (.val (.lit (.bool false))), none⟩]) (
                .ret)) (
                .skip))) (
             .ops [⟨some 50, .val (.tmp 4), none⟩,
               ⟨some 51, .bin .add .num (.tmp 50) (.val (.lit (.int .i64 1))), none⟩,
               ⟨some 4, .val (.tmp 51), none⟩])) (
             .skip))

def a_own_y : ACode :=
          .seq (
           .ops [⟨some 52, .fieldAddr 2 (.tmp 1), none⟩,
             ⟨some 53, .iload false 1 (.tmp 52), none⟩,
             ⟨some 54, .val (.tmp 5), none⟩,
             ⟨some 55, .indexAddr 5 (.tmp 53) (.tmp 54), none⟩,
             ⟨some 56, .load true 5 (.tmp 55), none⟩,
             ⟨some 57, .call (.val (.fn (.func 19) [] [])) [(.tmp 56)], none⟩,
             ⟨some 6, .alloc [(.sl .nil 0 []), (.sl .nil 0 []), (.sl .nil 0 []), (.sl .nil 0 []), (.sl .nil 0 [])], none⟩,
             ⟨none, .store 5 (.tmp 6) (.tmp 57), none⟩]) (
          .seq (
           .ops [⟨some 58, .fieldAddr 0 (.tmp 6), none⟩,
             ⟨some 59, .load false 1 (.tmp 58), none⟩,
             ⟨some 60, .fieldAddr 1 (.tmp 6), none⟩,
             ⟨some 61, .load false 1 (.tmp 60), none⟩,
             ⟨some 62, .fieldAddr 2 (.tmp 6), none⟩,
             ⟨some 63, .load false 1 (.tmp 62), none⟩,
             ⟨some 64, .fieldAddr 3 (.tmp 6), none⟩,
             ⟨some 65, .load false 1 (.tmp 64), none⟩,
             ⟨some 66, .fieldAddr 4 (.tmp 6), none⟩,
             ⟨some 67, .load false 1 (.tmp 66), none⟩,
             ⟨some 68, .bslice false 1 5 [(.sl .nil 0 []), (.sl .nil 0 []), (.sl .nil 0 []), (.sl .nil 0 []), (.sl .nil 0 [])] [(0, 1, (.tmp 59)), (1, 1, (.tmp 61)), (2, 1, (.tmp 63)), (3, 1, (.tmp 65)), (4, 1, (.tmp 67))], none⟩,
             ⟨some 7, .val (.tmp 68), none⟩]) (
          .seq (
           .ops [⟨some 69, .bslice false 1 5 [(.lit (.int .u8 0)), (.lit (.int .u8 0)), (.lit (.int .u8 0)), (.lit (.int .u8 0)), (.lit (.int .u8 0))] [(0, 1, (.val (.lit (.int .u8 5)))), (1, 1, (.val (.lit (.int .u8 6)))), (2, 1, (.val (.lit (.int .u8 7)))), (3, 1, (.val (.lit (.int .u8 8)))), (4, 1, (.val (.lit (.int .u8 10))))], none⟩,
             ⟨some 8, .val (.tmp 69), none⟩]) (
          .seq (
           .ops [⟨some 9, .val (.val (.lit (.int .i64 0))), none⟩]) (
          .block 2 (
            .loop a_bobbinlaw18_TouchOwnb4)))))

def a_bobbinlaw18_TouchOwnb5 : ACode :=
       .seq (
        .seq (
         .ops [⟨some 25, .val (.tmp 5), none⟩,
           ⟨some 26, .fieldAddr 2 (.tmp 1), none⟩,
           ⟨some 27, .iload false 1 (.tmp 26), none⟩,
           ⟨some 28, .len 1 (.tmp 27), none⟩,
           ⟨some 29, .bin .lss .num (.tmp 25) (.tmp 28), none⟩]) (
        .cond (.tmp 29) (
          .skip) (
          .exit 0))) (
       .seq (
        .block 1 (
          .seq a_own_x a_own_y)) (
       .ops [⟨some 30, .val (.tmp 5), none⟩,
         ⟨some 31, .bin .add .num (.tmp 30) (.val (.lit (.int .i64 1))), none⟩,
         ⟨some 5, .val (.tmp 31), none⟩]))

def a_bobbinlaw18_TouchOwn : ACode :=
  .seq (
   .ops [⟨some 1, .box true (.tmp 0), none⟩,
     ⟨some 2, .val (.val (.lit (.bool false))), none⟩]) (
  .seq (
   .seq (
    .ops [⟨some 16, .iload true 3 (.tmp 1), none⟩,
      ⟨some 17, .call (.val (.fn (.func 10) [] [])) [(.tmp 16)], none⟩,
      ⟨some 18, .val (.tmp 17), none⟩,
      ⟨some 19, .call (.val (.fn (.func 11) [] [])) [], some (18, false)⟩,
      ⟨some 20, .un .not (.tmp 19), some (18, false)⟩,
      ⟨some 21, .pick (.tmp 18) (.val (.lit (.bool true))) (.tmp 20), none⟩]) (
   .cond (.tmp 21) (
     .seq (
      .ops [⟨some 22, .call (.val (.fn (.func 11) [] [])) [], none⟩,
        ⟨some 2, .val (.tmp 22), none⟩]) (
     .ret)) (
     .skip))) (
  .seq (
   .ops [⟨some 23, .iload true 3 (.tmp 1), none⟩,
     ⟨some 24, .call (.val (.fn (.func 15) [] [])) [(.tmp 23)], none⟩,
     ⟨some 3, .val (.tmp 24), none⟩]) (
  .seq (
   .ops [⟨some 4, .val (.val (.lit (.int .i64 0))), none⟩]) (
  .seq (
   .seq (
    .ops [⟨some 5, .val (.val (.lit (.int .i64 0))), none⟩]) (
   .block 0 (
     .loop a_bobbinlaw18_TouchOwnb5))) (
  .seq (
   .ops [⟨some 189, .val (.tmp 4), none⟩,
     ⟨some 190, .val (.tmp 3), none⟩,
     ⟨some 191, .len 1 (.tmp 190), none⟩,
     ⟨some 192, .bin .eql .num (.tmp 189) (.tmp 191), none⟩,
     ⟨some 2, .val (.tmp 192), none⟩]) (
  .ret))))))

theorem c_bobbinlaw18_TouchOwn : codeOf Tryz.prog { bz := [1], il := [16, 23, 27, 33, 53, 87, 97, 153, 163] } 8 = some (a_bobbinlaw18_TouchOwn, [.tmp 2], 193) := by kernel_rfl

end Go.Proofs.YtanpcmkhhpaeiaaGreatDoor
