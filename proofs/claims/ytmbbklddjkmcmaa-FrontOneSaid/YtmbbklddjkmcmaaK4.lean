/- The code of functions, compiled (printed by wip/tools/kp.py). -/
import Derived.Test.YtmbbklddjkmcmaaProg
import Derived.Test.YtmbbklddjkmcmaaM3
namespace Go.Proofs.Ytmbbklddjkmcmaa
set_option linter.unusedSimpArgs false
set_option linter.unusedVariables false
open Go Go.Fw
/-- bobbin/bobbinlaw13.FrontOne -/
def a_bobbinlaw13_Oneb1 : ACode :=
              .seq (
               .seq (
                .ops [⟨some 204, .val (.tmp 21), none⟩,
                  ⟨some 205, .val (.tmp 0), none⟩,
                  ⟨some 206, .len 1 (.tmp 205), none⟩,
                  ⟨some 207, .bin .lss .num (.tmp 204) (.tmp 206), none⟩]) (
               .cond (.tmp 207) (
                 .skip) (
                 .exit 8))) (
              .seq (
               .block 9 (
                 .seq (
                  .ops [⟨some 210, .val (.tmp 17), none⟩,
                    ⟨some 211, .val (.tmp 21), none⟩,
                    ⟨some 212, .indexAddr 1 (.tmp 210) (.tmp 211), none⟩,
                    ⟨some 213, .load false 1 (.tmp 212), none⟩,
                    ⟨some 214, .val (.tmp 18), none⟩,
                    ⟨some 215, .call (.val (.fn (.func 36) [] [])) [(.tmp 213), (.tmp 214)], none⟩,
                    ⟨some 216, .val (.tmp 215), none⟩,
                    ⟨some 217, .val (.tmp 7), some (216, true)⟩,
                    ⟨some 218, .val (.tmp 21), some (216, true)⟩,
                    ⟨some 219, .call (.val (.fn (.func 21) [] [])) [(.tmp 217), (.tmp 218)], some (216, true)⟩,
                    ⟨some 220, .un .not (.tmp 219), some (216, true)⟩,
                    ⟨some 221, .val (.tmp 220), some (216, true)⟩,
                    ⟨some 222, .val (.tmp 7), some (221, false)⟩,
                    ⟨some 223, .val (.tmp 18), some (221, false)⟩,
                    ⟨some 224, .call (.val (.fn (.func 21) [] [])) [(.tmp 222), (.tmp 223)], some (221, false)⟩,
                    ⟨some 225, .un .not (.tmp 224), some (221, false)⟩,
                    ⟨some 226, .pick (.tmp 221) (.val (.lit (.bool true))) (.tmp 225), some (216, true)⟩,
                    ⟨some 227, .val (.tmp 226), some (216, true)⟩,
                    ⟨some 228, .val (.tmp 18), some (227, false)⟩,
                    ⟨some 229, .bin .neq .num (.tmp 228) (.val (.lit (.int .i64 0))), some (227, false)⟩,
                    ⟨some 230, .val (.tmp 229), some (227, false)⟩,
                    ⟨some 231, .val (.tmp 19), some (230, true)⟩,
                    ⟨some 232, .bin .lss .num (.tmp 231) (.val (.lit (.int .i64 2))), some (230, true)⟩,
                    ⟨some 233, .pick (.tmp 230) (.tmp 232) (.val (.lit (.bool false))), some (227, false)⟩,
                    ⟨some 234, .pick (.tmp 227) (.val (.lit (.bool true))) (.tmp 233), some (216, true)⟩,
                    ⟨some 235, .pick (.tmp 216) (.tmp 234) (.val (.lit (.bool false))), none⟩]) (
                 .cond (.tmp 235) (
                   .seq (
                    .ops [⟨some 6, .val (.val (.lit (.bool false))), none⟩]) (
                   .ret)) (
                   .skip)))) (
              .ops [⟨some 208, .val (.tmp 21), none⟩,
                ⟨some 209, .bin .add .num (.tmp 208) (.val (.lit (.int .i64 1))), none⟩,
                ⟨some 21, .val (.tmp 209), none⟩]))

def a_bobbinlaw13_Oneb2 : ACode :=
               .seq (
                .seq (
                 .ops [⟨some 151, .val (.tmp 20), none⟩,
                   ⟨some 152, .val (.tmp 0), none⟩,
                   ⟨some 153, .len 1 (.tmp 152), none⟩,
                   ⟨some 154, .bin .lss .num (.tmp 151) (.tmp 153), none⟩]) (
                .cond (.tmp 154) (
                  .skip) (
                  .exit 6))) (
               .seq (
                .block 7 (
                  .seq (
                   .seq (
                    .ops [⟨some 157, .val (.tmp 7), none⟩,
                      ⟨some 158, .val (.tmp 20), none⟩,
                      ⟨some 159, .call (.val (.fn (.func 21) [] [])) [(.tmp 157), (.tmp 158)], none⟩,
                      ⟨some 160, .un .not (.tmp 159), none⟩,
                      ⟨some 161, .val (.tmp 160), none⟩,
                      ⟨some 162, .val (.tmp 0), some (161, false)⟩,
                      ⟨some 163, .val (.tmp 20), some (161, false)⟩,
                      ⟨some 164, .indexAddr 1 (.tmp 162) (.tmp 163), some (161, false)⟩,
                      ⟨some 165, .load false 1 (.tmp 164), some (161, false)⟩,
                      ⟨some 166, .val (.tmp 18), some (161, false)⟩,
                      ⟨some 167, .call (.val (.fn (.func 36) [] [])) [(.tmp 165), (.tmp 166)], some (161, false)⟩,
                      ⟨some 168, .un .not (.tmp 167), some (161, false)⟩,
                      ⟨some 169, .pick (.tmp 161) (.val (.lit (.bool true))) (.tmp 168), none⟩]) (
                   .cond (.tmp 169) (
                     .exit 7) (
                     .skip))) (
                  .seq (
                   .ops [⟨some 170, .val (.tmp 19), none⟩,
                     ⟨some 171, .bin .add .num (.tmp 170) (.val (.lit (.int .i64 1))), none⟩,
                     ⟨some 19, .val (.tmp 171), none⟩]) (
                  .seq (
                   .ops [⟨some 172, .val (.tmp 9), none⟩,
                     ⟨some 173, .val (.tmp 18), none⟩,
                     ⟨some 174, .call (.val (.fn (.func 36) [] [])) [(.tmp 172), (.tmp 173)], none⟩,
                     ⟨some 175, .un .not (.tmp 174), none⟩,
                     ⟨some 176, .val (.tmp 175), none⟩,
                     ⟨some 177, .val (.tmp 18), some (176, true)⟩,
                     ⟨some 178, .bin .eql .num (.tmp 177) (.val (.lit (.int .i64 0))), some (176, true)⟩,
                     ⟨some 179, .val (.tmp 178), some (176, true)⟩,
                     ⟨some 180, .val (.tmp 13), some (179, true)⟩,
                     ⟨some 181, .val (.tmp 20), some (179, true)⟩,
                     ⟨some 182, .indexAddr 1 (.tmp 180) (.tmp 181), some (179, true)⟩,
                     ⟨some 183, .load false 1 (.tmp 182), some (179, true)⟩,
                     ⟨some 184, .bin .neq .num (.tmp 183) (.val (.lit (.int .i64 0))), some (179, true)⟩,
                     ⟨some 185, .pick (.tmp 179) (.tmp 184) (.val (.lit (.bool false))), some (176, true)⟩,
                     ⟨some 186, .val (.tmp 185), some (176, true)⟩,
                     ⟨some 187, .val (.tmp 18), some (186, false)⟩,
                     ⟨some 188, .bin .neq .num (.tmp 187) (.val (.lit (.int .i64 0))), some (186, false)⟩,
                     ⟨some 189, .val (.tmp 188), some (186, false)⟩,
                     ⟨some 190, .val (.tmp 13), some (189, true)⟩,
                     ⟨some 191, .val (.tmp 20), some (189, true)⟩,
                     ⟨some 192, .indexAddr 1 (.tmp 190) (.tmp 191), some (189, true)⟩,
                     ⟨some 194, .val (.tmp 13), some (189, true)⟩,
                     ⟨some 195, .val (.tmp 7), some (189, true)⟩,
                     ⟨some 196, .val (.tmp 18), some (189, true)⟩,
                     ⟨some 197, .pcall (.val (.fn (.func 22) [] [])) [(.tmp 195), (.tmp 196)], some (189, true)⟩,
                     ⟨some 198, .indexAddr 1 (.tmp 194) (.tmp 197), some (189, true)⟩,
                     ⟨some 193, .load false 1 (.tmp 192), some (189, true)⟩,
                     ⟨some 199, .load false 1 (.tmp 198), some (189, true)⟩,
                     ⟨some 200, .bin .neq .num (.tmp 193) (.tmp 199), some (189, true)⟩,
                     ⟨some 201, .pick (.tmp 189) (.tmp 200) (.val (.lit (.bool false))), some (186, false)⟩,
                     ⟨some 202, .pick (.tmp 186) (.val (.lit (.bool true))) (.tmp 201), some (176, true)⟩,
                     ⟨some 203, .pick (.tmp 176) (.tmp 202) (.val (.lit (.bool false))), none⟩]) (
                  .cond (.tmp 203) (
                    .seq (
                     .ops [⟨some 6, .val (.val (.lit (.bool false))), none⟩]) (
                    .ret)) (
                    .skip)))))) (
               .ops [⟨some 155, .val (.tmp 20), none⟩,
                 ⟨some 156, .bin .add .num (.tmp 155) (.val (.lit (.int .i64 1))), none⟩,
                 ⟨some 20, .val (.tmp 156), none⟩]))

def a_bobbinlaw13_Oneb3 : ACode :=
       .seq (
        .seq (
         .ops [⟨some 145, .val (.tmp 18), none⟩,
           ⟨some 146, .val (.tmp 0), none⟩,
           ⟨some 147, .len 1 (.tmp 146), none⟩,
           ⟨some 148, .bin .lss .num (.tmp 145) (.tmp 147), none⟩]) (
        .cond (.tmp 148) (
          .skip) (
          .exit 4))) (
       .seq (
        .block 5 (
          .seq (
           .ops [⟨some 19, .val (.val (.lit (.int .i64 0))), none⟩]) (
          .seq (
           .seq (
            .ops [⟨some 20, .val (.val (.lit (.int .i64 0))), none⟩]) (
           .block 6 (
             .loop a_bobbinlaw13_Oneb2))) (
          .seq (
           .ops [⟨some 21, .val (.val (.lit (.int .i64 0))), none⟩]) (
          .block 8 (
            .loop a_bobbinlaw13_Oneb1)))))) (
       .ops [⟨some 149, .val (.tmp 18), none⟩,
         ⟨some 150, .bin .add .num (.tmp 149) (.val (.lit (.int .i64 1))), none⟩,
         ⟨some 18, .val (.tmp 150), none⟩]))

def a_bobbinlaw13_Oneb4 : ACode :=
       .seq (
        .seq (
         .ops [⟨some 106, .val (.tmp 15), none⟩,
           ⟨some 107, .val (.tmp 14), none⟩,
           ⟨some 108, .len 1 (.tmp 107), none⟩,
           ⟨some 109, .bin .lss .num (.tmp 106) (.tmp 108), none⟩]) (
        .cond (.tmp 109) (
          .skip) (
          .exit 2))) (
       .seq (
        .block 3 (
          .seq (
           .ops [⟨some 112, .val (.tmp 14), none⟩,
             ⟨some 113, .val (.tmp 15), none⟩,
             ⟨some 114, .indexAddr 1 (.tmp 112) (.tmp 113), none⟩,
             ⟨some 115, .load false 1 (.tmp 114), none⟩,
             ⟨some 16, .val (.tmp 115), none⟩]) (
          .seq (
           .ops [⟨some 116, .val (.tmp 13), none⟩,
             ⟨some 117, .val (.tmp 16), none⟩,
             ⟨some 118, .val (.tmp 16), none⟩,
             ⟨some 119, .indexAddr 1 (.tmp 116) (.tmp 117), none⟩,
             ⟨none, .store 1 (.tmp 119) (.tmp 118), none⟩]) (
          .seq (
           .ops [⟨some 120, .val (.tmp 16), none⟩,
             ⟨some 121, .bin .neq .num (.tmp 120) (.val (.lit (.int .i64 0))), none⟩,
             ⟨some 122, .val (.tmp 121), none⟩,
             ⟨some 123, .val (.tmp 1), some (122, true)⟩,
             ⟨some 124, .val (.tmp 16), some (122, true)⟩,
             ⟨some 125, .call (.val (.fn (.func 36) [] [])) [(.tmp 123), (.tmp 124)], some (122, true)⟩,
             ⟨some 126, .un .not (.tmp 125), some (122, true)⟩,
             ⟨some 127, .pick (.tmp 122) (.tmp 126) (.val (.lit (.bool false))), none⟩,
             ⟨some 128, .val (.tmp 127), none⟩,
             ⟨some 129, .val (.tmp 9), some (128, true)⟩,
             ⟨some 130, .val (.tmp 16), some (128, true)⟩,
             ⟨some 131, .call (.val (.fn (.func 36) [] [])) [(.tmp 129), (.tmp 130)], some (128, true)⟩,
             ⟨some 132, .un .not (.tmp 131), some (128, true)⟩,
             ⟨some 133, .pick (.tmp 128) (.tmp 132) (.val (.lit (.bool false))), none⟩]) (
          .cond (.tmp 133) (
            .ops [⟨some 134, .val (.tmp 13), none⟩,
              ⟨some 135, .val (.tmp 16), none⟩,
              ⟨some 136, .val (.tmp 13), none⟩,
              ⟨some 137, .val (.tmp 7), none⟩,
              ⟨some 138, .val (.tmp 16), none⟩,
              ⟨some 139, .call (.val (.fn (.func 22) [] [])) [(.tmp 137), (.tmp 138)], none⟩,
              ⟨some 140, .indexAddr 1 (.tmp 136) (.tmp 139), none⟩,
              ⟨some 141, .load false 1 (.tmp 140), none⟩,
              ⟨some 142, .indexAddr 1 (.tmp 134) (.tmp 135), none⟩,
              ⟨none, .store 1 (.tmp 142) (.tmp 141), none⟩]) (
            .skip)))))) (
       .ops [⟨some 110, .val (.tmp 15), none⟩,
         ⟨some 111, .bin .add .num (.tmp 110) (.val (.lit (.int .i64 1))), none⟩,
         ⟨some 15, .val (.tmp 111), none⟩]))

def a_bobbinlaw13_Oneb5 : ACode :=
       .seq (
        .seq (
         .ops [⟨some 72, .val (.tmp 12), none⟩,
           ⟨some 73, .val (.tmp 9), none⟩,
           ⟨some 74, .len 1 (.tmp 73), none⟩,
           ⟨some 75, .bin .lss .num (.tmp 72) (.tmp 74), none⟩]) (
        .cond (.tmp 75) (
          .skip) (
          .exit 0))) (
       .seq (
        .block 1 (
          .seq (
           .ops [⟨some 78, .val (.tmp 11), none⟩,
             ⟨some 79, .val (.tmp 9), none⟩,
             ⟨some 80, .val (.tmp 12), none⟩,
             ⟨some 81, .indexAddr 1 (.tmp 79) (.tmp 80), none⟩,
             ⟨some 82, .load false 1 (.tmp 81), none⟩,
             ⟨some 83, .call (.val (.fn (.func 36) [] [])) [(.tmp 78), (.tmp 82)], none⟩,
             ⟨some 84, .un .not (.tmp 83), none⟩,
             ⟨some 85, .val (.tmp 84), none⟩,
             ⟨some 86, .val (.tmp 12), some (85, false)⟩,
             ⟨some 87, .bin .gtr .num (.tmp 86) (.val (.lit (.int .i64 0))), some (85, false)⟩,
             ⟨some 88, .val (.tmp 87), some (85, false)⟩,
             ⟨some 89, .val (.tmp 9), some (88, true)⟩,
             ⟨some 90, .val (.tmp 12), some (88, true)⟩,
             ⟨some 91, .indexAddr 1 (.tmp 89) (.tmp 90), some (88, true)⟩,
             ⟨some 93, .val (.tmp 9), some (88, true)⟩,
             ⟨some 94, .val (.tmp 12), some (88, true)⟩,
             ⟨some 95, .bin .sub .num (.tmp 94) (.val (.lit (.int .i64 1))), some (88, true)⟩,
             ⟨some 96, .indexAddr 1 (.tmp 93) (.tmp 95), some (88, true)⟩,
             ⟨some 92, .load false 1 (.tmp 91), some (88, true)⟩,
             ⟨some 97, .load false 1 (.tmp 96), some (88, true)⟩,
             ⟨some 98, .bin .leq .num (.tmp 92) (.tmp 97), some (88, true)⟩,
             ⟨some 99, .pick (.tmp 88) (.tmp 98) (.val (.lit (.bool false))), some (85, false)⟩,
             ⟨some 100, .pick (.tmp 85) (.val (.lit (.bool true))) (.tmp 99), none⟩]) (
          .cond (.tmp 100) (
            .seq (
             .ops [⟨some 6, .val (.val (.lit (.bool false))), none⟩]) (
            .ret)) (
            .skip)))) (
       .ops [⟨some 76, .val (.tmp 12), none⟩,
         ⟨some 77, .bin .add .num (.tmp 76) (.val (.lit (.int .i64 1))), none⟩,
         ⟨some 12, .val (.tmp 77), none⟩]))

def a_bobbinlaw13_One : ACode :=
  .seq (
   .ops [⟨some 6, .val (.val (.lit (.bool false))), none⟩]) (
  .seq (
   .seq (
    .ops [⟨some 22, .call (.val (.fn (.func 28) [] [])) [], none⟩,
      ⟨some 23, .un .not (.tmp 22), none⟩,
      ⟨some 24, .val (.tmp 23), none⟩,
      ⟨some 25, .val (.tmp 0), some (24, false)⟩,
      ⟨some 26, .val (.tmp 1), some (24, false)⟩,
      ⟨some 27, .call (.val (.fn (.func 32) [] [])) [(.tmp 25), (.tmp 26)], some (24, false)⟩,
      ⟨some 28, .pick (.tmp 24) (.val (.lit (.bool true))) (.tmp 27), none⟩,
      ⟨some 29, .val (.tmp 28), none⟩,
      ⟨some 30, .val (.tmp 2), some (29, false)⟩,
      ⟨some 31, .len 1 (.tmp 30), some (29, false)⟩,
      ⟨some 32, .bin .gtr .num (.tmp 31) (.val (.lit (.int .i64 400))), some (29, false)⟩,
      ⟨some 33, .pick (.tmp 29) (.val (.lit (.bool true))) (.tmp 32), none⟩]) (
   .cond (.tmp 33) (
     .seq (
      .ops [⟨some 34, .call (.val (.fn (.func 28) [] [])) [], none⟩,
        ⟨some 6, .val (.tmp 34), none⟩]) (
     .ret)) (
     .skip))) (
  .seq (
   .ops [⟨some 36, .val (.tmp 0), none⟩,
     ⟨some 37, .call (.val (.fn (.func 16) [] [])) [(.tmp 36)], none⟩,
     ⟨some 35, .val (.tmp 37), none⟩,
     ⟨some 38, .extract (.tmp 35) 0, none⟩,
     ⟨some 39, .extract (.tmp 35) 1, none⟩,
     ⟨some 7, .val (.tmp 38), none⟩,
     ⟨some 8, .val (.tmp 39), none⟩]) (
  .seq (
   .ops [⟨some 40, .val (.tmp 0), none⟩,
     ⟨some 41, .val (.tmp 1), none⟩,
     ⟨some 42, .call (.val (.fn (.func 30) [] [])) [(.tmp 40), (.tmp 41)], none⟩,
     ⟨some 9, .val (.tmp 42), none⟩]) (
  .seq (
   .seq (
    .ops [⟨some 43, .val (.tmp 8), none⟩,
      ⟨some 44, .bin .neq .num (.tmp 43) (.val (.lit (.int .i64 0))), none⟩]) (
   .cond (.tmp 44) (
     .seq (
      .ops [⟨some 45, .val (.tmp 9), none⟩,
        ⟨some 46, .len 1 (.tmp 45), none⟩,
        ⟨some 47, .bin .eql .num (.tmp 46) (.val (.lit (.int .i64 0))), none⟩,
        ⟨some 6, .val (.tmp 47), none⟩]) (
     .ret)) (
     .skip))) (
  .seq (
   .ops [⟨some 48, .val (.tmp 0), none⟩,
     ⟨some 49, .bslice false 1 0 [] [], none⟩,
     ⟨some 50, .val (.tmp 1), none⟩,
     ⟨some 51, .append false 1 8 (.tmp 49) (.tmp 50), none⟩,
     ⟨some 52, .val (.tmp 9), none⟩,
     ⟨some 53, .append false 1 8 (.tmp 51) (.tmp 52), none⟩,
     ⟨some 54, .call (.val (.fn (.func 30) [] [])) [(.tmp 48), (.tmp 53)], none⟩,
     ⟨some 10, .val (.tmp 54), none⟩]) (
  .seq (
   .ops [⟨some 55, .val (.tmp 0), none⟩,
     ⟨some 56, .bslice false 1 0 [] [], none⟩,
     ⟨some 57, .val (.tmp 1), none⟩,
     ⟨some 58, .append false 1 8 (.tmp 56) (.tmp 57), none⟩,
     ⟨some 59, .val (.tmp 2), none⟩,
     ⟨some 60, .append false 1 8 (.tmp 58) (.tmp 59), none⟩,
     ⟨some 61, .call (.val (.fn (.func 30) [] [])) [(.tmp 55), (.tmp 60)], none⟩,
     ⟨some 11, .val (.tmp 61), none⟩]) (
  .seq (
   .seq (
    .ops [⟨some 62, .val (.tmp 10), none⟩,
      ⟨some 63, .val (.tmp 9), none⟩,
      ⟨some 64, .call (.val (.fn (.func 31) [] [])) [(.tmp 62), (.tmp 63)], none⟩,
      ⟨some 65, .un .not (.tmp 64), none⟩,
      ⟨some 66, .val (.tmp 65), none⟩,
      ⟨some 67, .val (.tmp 0), some (66, false)⟩,
      ⟨some 68, .call (.val (.fn (.func 30) [] [])) [(.tmp 67), (.val (.sl .nil 0 []))], some (66, false)⟩,
      ⟨some 69, .len 1 (.tmp 68), some (66, false)⟩,
      ⟨some 70, .bin .neq .num (.tmp 69) (.val (.lit (.int .i64 0))), some (66, false)⟩,
      ⟨some 71, .pick (.tmp 66) (.val (.lit (.bool true))) (.tmp 70), none⟩]) (
   .cond (.tmp 71) (
     .seq (
      .ops [⟨some 6, .val (.val (.lit (.bool false))), none⟩]) (
     .ret)) (
     .skip))) (
  .seq (
   .seq (
    .ops [⟨some 12, .val (.val (.lit (.int .i64 0))), none⟩]) (
   .block 0 (
     .loop a_bobbinlaw13_Oneb5))) (
  .seq (
   .ops [⟨some 101, .val (.tmp 0), none⟩,
     ⟨some 102, .len 1 (.tmp 101), none⟩,
     ⟨some 103, .mkslice 1 8 [(.lit (.int .i64 0))] (.tmp 102) (.tmp 102), none⟩,
     ⟨some 13, .val (.tmp 103), none⟩]) (
  .seq (
   .ops [⟨some 104, .val (.tmp 7), none⟩,
     ⟨some 105, .call (.val (.fn (.func 19) [] [])) [(.tmp 104)], none⟩,
     ⟨some 14, .val (.tmp 105), none⟩]) (
  .seq (
   .seq (
    .ops [⟨some 15, .val (.val (.lit (.int .i64 0))), none⟩]) (
   .block 2 (
     .loop a_bobbinlaw13_Oneb4))) (
  .seq (
   .ops [⟨some 143, .val (.tmp 0), none⟩,
     ⟨some 144, .call (.val (.fn (.func 34) [] [])) [(.tmp 143)], none⟩,
     ⟨some 17, .val (.tmp 144), none⟩]) (
  .seq (
   .seq (
    .ops [⟨some 18, .val (.val (.lit (.int .i64 0))), none⟩]) (
   .block 4 (
     .loop a_bobbinlaw13_Oneb3))) (
  .seq (
   .ops [⟨some 6, .val (.val (.lit (.bool true))), none⟩]) (
  .ret)))))))))))))))

theorem c_bobbinlaw13_One : codeOf Try.prog { pc := [197] } 13 = some (a_bobbinlaw13_One, [.tmp 6], 236) := by kernel_rfl

end Go.Proofs.Ytmbbklddjkmcmaa
