/- The code of functions, compiled (printed by wip/tools/kp.py). -/
import Derived.Test.YtanpcmkhhpaeiaaGreatDoorProg
import Derived.Test.YtanpcmkhhpaeiaaGreatDoorM3
namespace Go.Proofs.YtanpcmkhhpaeiaaGreatDoor
set_option linter.unusedSimpArgs false
set_option linter.unusedVariables false
open Go Go.Fw
/-- bobbin/bobbinlaw18.TouchTells -/
def a_bobbinlaw18_TouchTellsb1 : ACode :=
              .seq (
               .seq (
                .ops [⟨some 62, .val (.tmp 9), none⟩,
                  ⟨some 63, .fieldAddr 2 (.tmp 1), none⟩,
                  ⟨some 64, .iload false 1 (.tmp 63), none⟩,
                  ⟨some 65, .len 1 (.tmp 64), none⟩,
                  ⟨some 66, .bin .lss .num (.tmp 62) (.tmp 65), none⟩]) (
               .cond (.tmp 66) (
                 .skip) (
                 .exit 4))) (
              .seq (
               .block 5 (
                 .seq (
                  .ops [⟨some 69, .fieldAddr 2 (.tmp 1), none⟩,
                    ⟨some 70, .iload false 1 (.tmp 69), none⟩,
                    ⟨some 71, .val (.tmp 9), none⟩,
                    ⟨some 72, .indexAddr 5 (.tmp 70) (.tmp 71), none⟩,
                    ⟨some 76, .fieldAddr 2 (.tmp 1), none⟩,
                    ⟨some 77, .iload false 1 (.tmp 76), none⟩,
                    ⟨some 78, .val (.tmp 9), none⟩,
                    ⟨some 79, .indexAddr 5 (.tmp 77) (.tmp 78), none⟩,
                    ⟨some 80, .iload true 5 (.tmp 79), none⟩,
                    ⟨some 73, .load true 5 (.tmp 72), none⟩,
                    ⟨some 74, .call (.val (.fn (.func 19) [] [])) [(.tmp 73)], none⟩,
                    ⟨some 75, .call (.val (.fn (.func 18) [] [])) [(.tmp 74)], none⟩,
                    ⟨some 81, .call (.val (.fn (.func 20) [] [])) [(.tmp 80)], none⟩,
                    ⟨some 82, .call (.val (.fn (.func 17) [] [])) [(.tmp 75), (.tmp 81)], none⟩,
                    ⟨some 83, .un .not (.tmp 82), none⟩]) (
                 .cond (.tmp 83) (
                   .seq (
                    .ops [⟨some 2, .val (.val (.lit (.bool false))), none⟩]) (
                   .ret)) (
                   .skip)))) (
              .ops [⟨some 67, .val (.tmp 9), none⟩,
                ⟨some 68, .bin .add .num (.tmp 67) (.val (.lit (.int .i64 1))), none⟩,
                ⟨some 9, .val (.tmp 68), none⟩]))

def a_bobbinlaw18_TouchTellsb2 : ACode :=
               .seq (
                .seq (
                 .ops [⟨some 45, .val (.tmp 8), none⟩,
                   ⟨some 46, .val (.tmp 4), none⟩,
                   ⟨some 47, .len 1 (.tmp 46), none⟩,
                   ⟨some 48, .bin .lss .num (.tmp 45) (.tmp 47), none⟩]) (
                .cond (.tmp 48) (
                  .skip) (
                  .exit 2))) (
               .seq (
                .block 3 (
                  .seq (
                   .seq (
                    .ops [⟨some 51, .val (.tmp 4), none⟩,
                      ⟨some 52, .val (.tmp 8), none⟩,
                      ⟨some 53, .indexAddr 5 (.tmp 51) (.tmp 52), none⟩,
                      ⟨some 54, .load true 5 (.tmp 53), none⟩,
                      ⟨some 56, .val (.tmp 6), none⟩,
                      ⟨some 57, .val (.tmp 8), none⟩,
                      ⟨some 58, .indexAddr 5 (.tmp 56) (.tmp 57), none⟩]) (
                   .seq (
                    .draw [(4, ⟨some 55, .call (.val (.fn (.func 18) [] [])) [(.tmp 54)], none⟩, []),
                      (8, ⟨some 59, .load true 5 (.tmp 58), none⟩, [])]) (
                   .ops [⟨some 60, .call (.val (.fn (.func 17) [] [])) [(.tmp 55), (.tmp 59)], none⟩,
                     ⟨some 61, .un .not (.tmp 60), none⟩]))) (
                  .cond (.tmp 61) (
                    .seq (
                     .ops [⟨some 2, .val (.val (.lit (.bool false))), none⟩]) (
                    .ret)) (
                    .skip)))) (
               .ops [⟨some 49, .val (.tmp 8), none⟩,
                 ⟨some 50, .bin .add .num (.tmp 49) (.val (.lit (.int .i64 1))), none⟩,
                 ⟨some 8, .val (.tmp 50), none⟩]))

def a_bobbinlaw18_TouchTellsb3 : ACode :=
       .seq (
        .seq (
         .ops [⟨some 13, .val (.tmp 3), none⟩,
           ⟨some 14, .bin .lss .num (.tmp 13) (.val (.lit (.int .i64 2))), none⟩]) (
        .cond (.tmp 14) (
          .skip) (
          .exit 0))) (
       .seq (
        .block 1 (
          .seq (
           .ops [⟨some 18, .iload true 3 (.tmp 1), none⟩,
             ⟨some 19, .call (.val (.fn (.func 12) [] [])) [(.tmp 18)], none⟩,
             ⟨some 17, .val (.tmp 19), none⟩,
             ⟨some 20, .extract (.tmp 17) 0, none⟩,
             ⟨some 21, .extract (.tmp 17) 1, none⟩,
             ⟨some 4, .val (.tmp 20), none⟩,
             ⟨some 5, .val (.tmp 21), none⟩]) (
          .seq (
           .ops [⟨some 23, .iload true 3 (.tmp 1), none⟩,
             ⟨some 24, .call (.val (.fn (.func 13) [] [])) [(.tmp 23)], none⟩,
             ⟨some 22, .val (.tmp 24), none⟩,
             ⟨some 25, .extract (.tmp 22) 0, none⟩,
             ⟨some 26, .extract (.tmp 22) 1, none⟩,
             ⟨some 6, .val (.tmp 25), none⟩,
             ⟨some 7, .val (.tmp 26), none⟩]) (
          .seq (
           .seq (
            .ops [⟨some 27, .val (.tmp 5), none⟩,
              ⟨some 28, .val (.tmp 7), none⟩,
              ⟨some 29, .bin .neq .num (.tmp 27) (.tmp 28), none⟩,
              ⟨some 30, .val (.tmp 29), none⟩,
              ⟨some 31, .val (.tmp 4), some (30, false)⟩,
              ⟨some 32, .len 1 (.tmp 31), some (30, false)⟩,
              ⟨some 33, .val (.tmp 6), some (30, false)⟩,
              ⟨some 34, .len 1 (.tmp 33), some (30, false)⟩,
              ⟨some 35, .bin .neq .num (.tmp 32) (.tmp 34), some (30, false)⟩,
              ⟨some 36, .pick (.tmp 30) (.val (.lit (.bool true))) (.tmp 35), none⟩,
              ⟨some 37, .val (.tmp 36), none⟩,
              ⟨some 38, .iload true 3 (.tmp 1), some (37, false)⟩,
              ⟨some 40, .iload true 3 (.tmp 1), some (37, false)⟩,
              ⟨some 39, .call (.val (.fn (.func 15) [] [])) [(.tmp 38)], some (37, false)⟩,
              ⟨some 41, .call (.val (.fn (.func 16) [] [])) [(.tmp 40)], some (37, false)⟩,
              ⟨some 42, .call (.val (.fn (.func 14) [] [])) [(.tmp 39), (.tmp 41)], some (37, false)⟩,
              ⟨some 43, .un .not (.tmp 42), some (37, false)⟩,
              ⟨some 44, .pick (.tmp 37) (.val (.lit (.bool true))) (.tmp 43), none⟩]) (
           .cond (.tmp 44) (
             .seq (
              .ops [⟨some 2, .val (.val (.lit (.bool false))), none⟩]) (
             .ret)) (
             .skip))) (
          .seq (
           .seq (
            .ops [⟨some 8, .val (.val (.lit (.int .i64 0))), none⟩]) (
           .block 2 (
             .loop a_bobbinlaw18_TouchTellsb2))) (
          .seq (
           .ops [⟨some 9, .val (.val (.lit (.int .i64 0))), none⟩]) (
          .block 4 (
            .loop a_bobbinlaw18_TouchTellsb1)))))))) (
       .ops [⟨some 15, .val (.tmp 3), none⟩,
         ⟨some 16, .bin .add .num (.tmp 15) (.val (.lit (.int .i64 1))), none⟩,
         ⟨some 3, .val (.tmp 16), none⟩]))

def a_bobbinlaw18_TouchTells : ACode :=
  .seq (
   .ops [⟨some 1, .box true (.tmp 0), none⟩,
     ⟨some 2, .val (.val (.lit (.bool false))), none⟩]) (
  .seq (
   .seq (
    .ops [⟨some 10, .iload true 3 (.tmp 1), none⟩,
      ⟨some 11, .call (.val (.fn (.func 10) [] [])) [(.tmp 10)], none⟩]) (
   .cond (.tmp 11) (
     .seq (
      .ops [⟨some 12, .call (.val (.fn (.func 11) [] [])) [], none⟩,
        ⟨some 2, .val (.tmp 12), none⟩]) (
     .ret)) (
     .skip))) (
  .seq (
   .seq (
    .ops [⟨some 3, .val (.val (.lit (.int .i64 0))), none⟩]) (
   .block 0 (
     .loop a_bobbinlaw18_TouchTellsb3))) (
  .seq (
   .ops [⟨some 84, .call (.val (.fn (.func 11) [] [])) [], none⟩,
     ⟨some 2, .val (.tmp 84), none⟩]) (
  .ret))))

theorem c_bobbinlaw18_TouchTells : codeOf Tryz.prog { bz := [1], il := [10, 18, 23, 38, 40, 64, 70, 77, 80] } 3 = some (a_bobbinlaw18_TouchTells, [.tmp 2], 85) := by kernel_rfl

end Go.Proofs.YtanpcmkhhpaeiaaGreatDoor
