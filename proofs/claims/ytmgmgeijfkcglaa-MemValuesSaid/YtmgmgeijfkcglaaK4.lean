/- The code of functions, compiled (printed by wip/tools/pk.sh). -/
import Derived.Test.YtmgmgeijfkcglaaK3
namespace Go.Proofs.Ytmgmgeijfkcglaa
open Go Go.Fw
/-- bobbin/bobbinlaw08.MemValues -/
def a3 : ACode :=
  .seq (
   .ops [⟨some 6, .val (.val (.lit (.bool false))), none⟩]) (
  .seq (
   .ops [⟨some 16, .val (.tmp 0), none⟩,
     ⟨some 17, .val (.tmp 1), none⟩,
     ⟨some 18, .call (.val (.fn (.func 11) [] [])) [(.tmp 16), (.tmp 17)], none⟩,
     ⟨some 15, .val (.tmp 18), none⟩,
     ⟨some 19, .extract (.tmp 15) 0, none⟩,
     ⟨some 20, .extract (.tmp 15) 1, none⟩,
     ⟨some 7, .val (.tmp 19), none⟩,
     ⟨some 8, .val (.tmp 20), none⟩]) (
  .seq (
   .ops [⟨some 22, .val (.tmp 0), none⟩,
     ⟨some 23, .val (.tmp 1), none⟩,
     ⟨some 24, .call (.val (.fn (.func 12) [] [])) [(.tmp 22), (.tmp 23)], none⟩,
     ⟨some 21, .val (.tmp 24), none⟩,
     ⟨some 25, .extract (.tmp 21) 0, none⟩,
     ⟨some 26, .extract (.tmp 21) 1, none⟩,
     ⟨some 9, .val (.tmp 25), none⟩,
     ⟨some 10, .val (.tmp 26), none⟩]) (
  .seq (
   .ops [⟨some 28, .val (.tmp 0), none⟩,
     ⟨some 29, .val (.tmp 1), none⟩,
     ⟨some 30, .val (.tmp 2), none⟩,
     ⟨some 31, .call (.val (.fn (.func 13) [] [])) [(.tmp 28), (.tmp 29), (.tmp 30)], none⟩,
     ⟨some 27, .val (.tmp 31), none⟩,
     ⟨some 32, .extract (.tmp 27) 0, none⟩,
     ⟨some 33, .extract (.tmp 27) 1, none⟩,
     ⟨some 11, .val (.tmp 32), none⟩,
     ⟨some 12, .val (.tmp 33), none⟩]) (
  .seq (
   .ops [⟨some 35, .val (.tmp 0), none⟩,
     ⟨some 36, .val (.tmp 1), none⟩,
     ⟨some 37, .val (.tmp 2), none⟩,
     ⟨some 38, .call (.val (.fn (.func 14) [] [])) [(.tmp 35), (.tmp 36), (.tmp 37)], none⟩,
     ⟨some 34, .val (.tmp 38), none⟩,
     ⟨some 39, .extract (.tmp 34) 0, none⟩,
     ⟨some 40, .extract (.tmp 34) 1, none⟩,
     ⟨some 13, .val (.tmp 39), none⟩,
     ⟨some 14, .val (.tmp 40), none⟩]) (
  .seq (
   .ops [⟨some 41, .val (.tmp 7), none⟩,
     ⟨some 42, .val (.tmp 9), none⟩,
     ⟨some 43, .bin .eql .num (.tmp 41) (.tmp 42), none⟩,
     ⟨some 44, .val (.tmp 43), none⟩,
     ⟨some 45, .val (.tmp 8), some (44, true)⟩,
     ⟨some 46, .val (.tmp 10), some (44, true)⟩,
     ⟨some 47, .bin .eql .bool (.tmp 45) (.tmp 46), some (44, true)⟩,
     ⟨some 48, .pick (.tmp 44) (.tmp 47) (.val (.lit (.bool false))), none⟩,
     ⟨some 49, .val (.tmp 48), none⟩,
     ⟨some 50, .val (.tmp 11), some (49, true)⟩,
     ⟨some 51, .val (.tmp 13), some (49, true)⟩,
     ⟨some 52, .bin .eql .num (.tmp 50) (.tmp 51), some (49, true)⟩,
     ⟨some 53, .pick (.tmp 49) (.tmp 52) (.val (.lit (.bool false))), none⟩,
     ⟨some 54, .val (.tmp 53), none⟩,
     ⟨some 55, .val (.tmp 12), some (54, true)⟩,
     ⟨some 56, .val (.tmp 14), some (54, true)⟩,
     ⟨some 57, .bin .eql .bool (.tmp 55) (.tmp 56), some (54, true)⟩,
     ⟨some 58, .pick (.tmp 54) (.tmp 57) (.val (.lit (.bool false))), none⟩,
     ⟨some 59, .val (.tmp 58), none⟩,
     ⟨some 60, .call (.val (.fn (.func 15) [] [])) [], some (59, true)⟩,
     ⟨some 61, .pick (.tmp 59) (.tmp 60) (.val (.lit (.bool false))), none⟩,
     ⟨some 6, .val (.tmp 61), none⟩]) (
  .ret))))))

theorem c3 : codeOf Try.prog {  } 3 = some (a3, [.tmp 6], 62) := by kernel_rfl

/-- bobbin/bobbinref08.Unary -/
def a12 : ACode :=
  .seq (
   .ops [⟨some 4, .val (.val (.lit (.int .i64 0))), none⟩,
     ⟨some 5, .val (.val (.lit (.bool false))), none⟩]) (
  .seq (
   .seq (
    .ops [⟨some 6, .val (.tmp 0), none⟩]) (
   .block 0 (
     .seq (
      .ops [⟨some 8, .bin .eql .num (.tmp 6) (.val (.lit (.int .u8 5))), none⟩,
        ⟨some 7, .val (.tmp 8), none⟩]) (
     .cond (.tmp 7) (
       .seq (
        .ops [⟨some 9, .val (.tmp 1), none⟩,
          ⟨some 10, .un .neg (.tmp 9), none⟩,
          ⟨some 4, .val (.tmp 10), none⟩,
          ⟨some 5, .val (.val (.lit (.bool true))), none⟩]) (
       .ret)) (
       .seq (
        .ops [⟨some 12, .bin .eql .num (.tmp 6) (.val (.lit (.int .u8 6))), none⟩,
          ⟨some 11, .val (.tmp 12), none⟩]) (
       .cond (.tmp 11) (
         .seq (
          .ops [⟨some 13, .val (.tmp 1), none⟩,
            ⟨some 14, .bin .eql .num (.tmp 13) (.val (.lit (.int .i64 0))), none⟩,
            ⟨some 15, .call (.val (.fn (.func 35) [] [])) [(.tmp 14)], none⟩,
            ⟨some 16, .extract (.tmp 15) 0, none⟩,
            ⟨some 17, .extract (.tmp 15) 1, none⟩,
            ⟨some 4, .val (.tmp 16), none⟩,
            ⟨some 5, .val (.tmp 17), none⟩]) (
         .ret)) (
         .skip))))))) (
  .seq (
   .ops [⟨some 4, .val (.val (.lit (.int .i64 0))), none⟩,
     ⟨some 5, .val (.val (.lit (.bool false))), none⟩]) (
  .ret)))

theorem c12 : codeOf Try.prog {  } 12 = some (a12, [.tmp 4, .tmp 5], 18) := by kernel_rfl

/-- bobbin/bobbinref08.Binary -/
def a14 : ACode :=
  .seq (
   .ops [⟨some 6, .val (.val (.lit (.int .i64 0))), none⟩,
     ⟨some 7, .val (.val (.lit (.bool false))), none⟩]) (
  .seq (
   .seq (
    .ops [⟨some 8, .val (.tmp 0), none⟩]) (
   .block 0 (
     .seq (
      .ops [⟨some 10, .bin .eql .num (.tmp 8) (.val (.lit (.int .u8 7))), none⟩,
        ⟨some 9, .val (.tmp 10), none⟩]) (
     .cond (.tmp 9) (
       .seq (
        .ops [⟨some 11, .val (.tmp 1), none⟩,
          ⟨some 12, .val (.tmp 2), none⟩,
          ⟨some 13, .bin .add .num (.tmp 11) (.tmp 12), none⟩,
          ⟨some 6, .val (.tmp 13), none⟩,
          ⟨some 7, .val (.val (.lit (.bool true))), none⟩]) (
       .ret)) (
       .seq (
        .ops [⟨some 15, .bin .eql .num (.tmp 8) (.val (.lit (.int .u8 8))), none⟩,
          ⟨some 14, .val (.tmp 15), none⟩]) (
       .cond (.tmp 14) (
         .seq (
          .ops [⟨some 16, .val (.tmp 1), none⟩,
            ⟨some 17, .val (.tmp 2), none⟩,
            ⟨some 18, .bin .sub .num (.tmp 16) (.tmp 17), none⟩,
            ⟨some 6, .val (.tmp 18), none⟩,
            ⟨some 7, .val (.val (.lit (.bool true))), none⟩]) (
         .ret)) (
         .seq (
          .ops [⟨some 20, .bin .eql .num (.tmp 8) (.val (.lit (.int .u8 9))), none⟩,
            ⟨some 19, .val (.tmp 20), none⟩]) (
         .cond (.tmp 19) (
           .seq (
            .ops [⟨some 21, .val (.tmp 1), none⟩,
              ⟨some 22, .val (.tmp 2), none⟩,
              ⟨some 23, .bin .mul .num (.tmp 21) (.tmp 22), none⟩,
              ⟨some 6, .val (.tmp 23), none⟩,
              ⟨some 7, .val (.val (.lit (.bool true))), none⟩]) (
           .ret)) (
           .seq (
            .ops [⟨some 25, .bin .eql .num (.tmp 8) (.val (.lit (.int .u8 10))), none⟩,
              ⟨some 24, .val (.tmp 25), none⟩]) (
           .cond (.tmp 24) (
             .seq (
              .seq (
               .ops [⟨some 26, .val (.tmp 2), none⟩,
                 ⟨some 27, .bin .eql .num (.tmp 26) (.val (.lit (.int .i64 0))), none⟩]) (
              .cond (.tmp 27) (
                .seq (
                 .ops [⟨some 6, .val (.val (.lit (.int .i64 0))), none⟩,
                   ⟨some 7, .val (.val (.lit (.bool false))), none⟩]) (
                .ret)) (
                .skip))) (
             .seq (
              .seq (
               .ops [⟨some 28, .val (.tmp 2), none⟩,
                 ⟨some 29, .bin .eql .num (.tmp 28) (.val (.lit (.int .i64 (-1)))), none⟩]) (
              .cond (.tmp 29) (
                .seq (
                 .ops [⟨some 30, .val (.tmp 1), none⟩,
                   ⟨some 31, .un .neg (.tmp 30), none⟩,
                   ⟨some 6, .val (.tmp 31), none⟩,
                   ⟨some 7, .val (.val (.lit (.bool true))), none⟩]) (
                .ret)) (
                .skip))) (
             .seq (
              .ops [⟨some 32, .val (.tmp 1), none⟩,
                ⟨some 33, .val (.tmp 2), none⟩,
                ⟨some 34, .bin .quo .num (.tmp 32) (.tmp 33), none⟩,
                ⟨some 6, .val (.tmp 34), none⟩,
                ⟨some 7, .val (.val (.lit (.bool true))), none⟩]) (
             .ret)))) (
             .seq (
              .ops [⟨some 36, .bin .eql .num (.tmp 8) (.val (.lit (.int .u8 11))), none⟩,
                ⟨some 35, .val (.tmp 36), none⟩]) (
             .cond (.tmp 35) (
               .seq (
                .seq (
                 .ops [⟨some 37, .val (.tmp 2), none⟩,
                   ⟨some 38, .bin .eql .num (.tmp 37) (.val (.lit (.int .i64 0))), none⟩]) (
                .cond (.tmp 38) (
                  .seq (
                   .ops [⟨some 6, .val (.val (.lit (.int .i64 0))), none⟩,
                     ⟨some 7, .val (.val (.lit (.bool false))), none⟩]) (
                  .ret)) (
                  .skip))) (
               .seq (
                .seq (
                 .ops [⟨some 39, .val (.tmp 2), none⟩,
                   ⟨some 40, .bin .eql .num (.tmp 39) (.val (.lit (.int .i64 (-1)))), none⟩]) (
                .cond (.tmp 40) (
                  .seq (
                   .ops [⟨some 6, .val (.val (.lit (.int .i64 0))), none⟩,
                     ⟨some 7, .val (.val (.lit (.bool true))), none⟩]) (
                  .ret)) (
                  .skip))) (
               .seq (
                .ops [⟨some 41, .val (.tmp 1), none⟩,
                  ⟨some 42, .val (.tmp 2), none⟩,
                  ⟨some 43, .bin .rem .num (.tmp 41) (.tmp 42), none⟩,
                  ⟨some 6, .val (.tmp 43), none⟩,
                  ⟨some 7, .val (.val (.lit (.bool true))), none⟩]) (
               .ret)))) (
               .seq (
                .ops [⟨some 45, .bin .eql .num (.tmp 8) (.val (.lit (.int .u8 12))), none⟩,
                  ⟨some 44, .val (.tmp 45), none⟩]) (
               .cond (.tmp 44) (
                 .seq (
                  .ops [⟨some 46, .val (.tmp 1), none⟩,
                    ⟨some 47, .val (.tmp 2), none⟩,
                    ⟨some 48, .bin .lss .num (.tmp 46) (.tmp 47), none⟩,
                    ⟨some 49, .call (.val (.fn (.func 35) [] [])) [(.tmp 48)], none⟩,
                    ⟨some 50, .extract (.tmp 49) 0, none⟩,
                    ⟨some 51, .extract (.tmp 49) 1, none⟩,
                    ⟨some 6, .val (.tmp 50), none⟩,
                    ⟨some 7, .val (.tmp 51), none⟩]) (
                 .ret)) (
                 .seq (
                  .ops [⟨some 53, .bin .eql .num (.tmp 8) (.val (.lit (.int .u8 13))), none⟩,
                    ⟨some 52, .val (.tmp 53), none⟩]) (
                 .cond (.tmp 52) (
                   .seq (
                    .ops [⟨some 54, .val (.tmp 1), none⟩,
                      ⟨some 55, .val (.tmp 2), none⟩,
                      ⟨some 56, .bin .leq .num (.tmp 54) (.tmp 55), none⟩,
                      ⟨some 57, .call (.val (.fn (.func 35) [] [])) [(.tmp 56)], none⟩,
                      ⟨some 58, .extract (.tmp 57) 0, none⟩,
                      ⟨some 59, .extract (.tmp 57) 1, none⟩,
                      ⟨some 6, .val (.tmp 58), none⟩,
                      ⟨some 7, .val (.tmp 59), none⟩]) (
                   .ret)) (
                   .seq (
                    .ops [⟨some 61, .bin .eql .num (.tmp 8) (.val (.lit (.int .u8 14))), none⟩,
                      ⟨some 60, .val (.tmp 61), none⟩]) (
                   .cond (.tmp 60) (
                     .seq (
                      .ops [⟨some 62, .val (.tmp 1), none⟩,
                        ⟨some 63, .val (.tmp 2), none⟩,
                        ⟨some 64, .bin .eql .num (.tmp 62) (.tmp 63), none⟩,
                        ⟨some 65, .call (.val (.fn (.func 35) [] [])) [(.tmp 64)], none⟩,
                        ⟨some 66, .extract (.tmp 65) 0, none⟩,
                        ⟨some 67, .extract (.tmp 65) 1, none⟩,
                        ⟨some 6, .val (.tmp 66), none⟩,
                        ⟨some 7, .val (.tmp 67), none⟩]) (
                     .ret)) (
                     .seq (
                      .ops [⟨some 69, .bin .eql .num (.tmp 8) (.val (.lit (.int .u8 15))), none⟩,
                        ⟨some 68, .val (.tmp 69), none⟩]) (
                     .cond (.tmp 68) (
                       .seq (
                        .ops [⟨some 70, .val (.tmp 1), none⟩,
                          ⟨some 71, .val (.tmp 2), none⟩,
                          ⟨some 72, .bin .neq .num (.tmp 70) (.tmp 71), none⟩,
                          ⟨some 73, .call (.val (.fn (.func 35) [] [])) [(.tmp 72)], none⟩,
                          ⟨some 74, .extract (.tmp 73) 0, none⟩,
                          ⟨some 75, .extract (.tmp 73) 1, none⟩,
                          ⟨some 6, .val (.tmp 74), none⟩,
                          ⟨some 7, .val (.tmp 75), none⟩]) (
                       .ret)) (
                       .seq (
                        .ops [⟨some 77, .bin .eql .num (.tmp 8) (.val (.lit (.int .u8 16))), none⟩,
                          ⟨some 76, .val (.tmp 77), none⟩]) (
                       .cond (.tmp 76) (
                         .seq (
                          .ops [⟨some 78, .val (.tmp 1), none⟩,
                            ⟨some 79, .bin .neq .num (.tmp 78) (.val (.lit (.int .i64 0))), none⟩,
                            ⟨some 80, .val (.tmp 79), none⟩,
                            ⟨some 81, .val (.tmp 2), some (80, true)⟩,
                            ⟨some 82, .bin .neq .num (.tmp 81) (.val (.lit (.int .i64 0))), some (80, true)⟩,
                            ⟨some 83, .pick (.tmp 80) (.tmp 82) (.val (.lit (.bool false))), none⟩,
                            ⟨some 84, .call (.val (.fn (.func 35) [] [])) [(.tmp 83)], none⟩,
                            ⟨some 85, .extract (.tmp 84) 0, none⟩,
                            ⟨some 86, .extract (.tmp 84) 1, none⟩,
                            ⟨some 6, .val (.tmp 85), none⟩,
                            ⟨some 7, .val (.tmp 86), none⟩]) (
                         .ret)) (
                         .seq (
                          .ops [⟨some 88, .bin .eql .num (.tmp 8) (.val (.lit (.int .u8 17))), none⟩,
                            ⟨some 87, .val (.tmp 88), none⟩]) (
                         .cond (.tmp 87) (
                           .seq (
                            .ops [⟨some 89, .val (.tmp 1), none⟩,
                              ⟨some 90, .bin .neq .num (.tmp 89) (.val (.lit (.int .i64 0))), none⟩,
                              ⟨some 91, .val (.tmp 90), none⟩,
                              ⟨some 92, .val (.tmp 2), some (91, false)⟩,
                              ⟨some 93, .bin .neq .num (.tmp 92) (.val (.lit (.int .i64 0))), some (91, false)⟩,
                              ⟨some 94, .pick (.tmp 91) (.val (.lit (.bool true))) (.tmp 93), none⟩,
                              ⟨some 95, .call (.val (.fn (.func 35) [] [])) [(.tmp 94)], none⟩,
                              ⟨some 96, .extract (.tmp 95) 0, none⟩,
                              ⟨some 97, .extract (.tmp 95) 1, none⟩,
                              ⟨some 6, .val (.tmp 96), none⟩,
                              ⟨some 7, .val (.tmp 97), none⟩]) (
                           .ret)) (
                           .skip))))))))))))))))))))))))) (
  .seq (
   .ops [⟨some 6, .val (.val (.lit (.int .i64 0))), none⟩,
     ⟨some 7, .val (.val (.lit (.bool false))), none⟩]) (
  .ret)))

theorem c14 : codeOf Try.prog {  } 14 = some (a14, [.tmp 6, .tmp 7], 98) := by kernel_rfl

/-- bobbin/bobbinref08.truth -/
def a35 : ACode :=
  .seq (
   .ops [⟨some 2, .val (.val (.lit (.int .i64 0))), none⟩,
     ⟨some 3, .val (.val (.lit (.bool false))), none⟩]) (
  .seq (
   .seq (
    .ops [⟨some 4, .val (.tmp 0), none⟩]) (
   .cond (.tmp 4) (
     .seq (
      .ops [⟨some 2, .val (.val (.lit (.int .i64 1))), none⟩,
        ⟨some 3, .val (.val (.lit (.bool true))), none⟩]) (
     .ret)) (
     .skip))) (
  .seq (
   .ops [⟨some 2, .val (.val (.lit (.int .i64 0))), none⟩,
     ⟨some 3, .val (.val (.lit (.bool true))), none⟩]) (
  .ret)))

theorem c35 : codeOf Try.prog {  } 35 = some (a35, [.tmp 2, .tmp 3], 5) := by kernel_rfl

end Go.Proofs.Ytmgmgeijfkcglaa

