/- The code of functions, compiled (printed by wip/tools/kp.py). -/
import Derived.Test.YtanpcmkhhpaeiaaGreatDoorProg
import Derived.Test.YtanpcmkhhpaeiaaGreatDoorM3
namespace Go.Proofs.YtanpcmkhhpaeiaaGreatDoor
set_option linter.unusedSimpArgs false
set_option linter.unusedVariables false
open Go Go.Fw
/-- bobbin/bobbinlaw18.back -/
def a_bobbinlaw18_backb1 : ACode :=
              .seq (
               .seq (
                .ops [⟨some 44, .val (.tmp 6), none⟩,
                  ⟨some 45, .val (.tmp 5), none⟩,
                  ⟨some 46, .len 1 (.tmp 45), none⟩,
                  ⟨some 47, .bin .lss .num (.tmp 44) (.tmp 46), none⟩]) (
               .cond (.tmp 47) (
                 .skip) (
                 .exit 2))) (
              .seq (
               .block 3 (
                 .ops [⟨some 50, .val (.tmp 5), none⟩,
                   ⟨some 51, .val (.tmp 6), none⟩,
                   ⟨some 52, .indexAddr 1 (.tmp 50) (.tmp 51), none⟩,
                   ⟨none, .store 1 (.tmp 52) (.val (.lit (.int .i64 (-7)))), none⟩])) (
              .ops [⟨some 48, .val (.tmp 6), none⟩,
                ⟨some 49, .bin .add .num (.tmp 48) (.val (.lit (.int .i64 1))), none⟩,
                ⟨some 6, .val (.tmp 49), none⟩]))

def a_bobbinlaw18_backb2 : ACode :=
       .seq (
        .ops [⟨some 41, .bin .lss .num (.tmp 40) (.tmp 39), none⟩]) (
       .seq (
        .cond (.tmp 41) (
          .skip) (
          .exit 0)) (
       .seq (
        .block 1 (
          .seq (
           .ops [⟨some 42, .indexAddr 1 (.tmp 38) (.tmp 40), none⟩,
             ⟨some 43, .load false 1 (.tmp 42), none⟩,
             ⟨some 5, .val (.tmp 43), none⟩]) (
          .seq (
           .ops [⟨some 6, .val (.val (.lit (.int .i64 0))), none⟩]) (
          .block 2 (
            .loop a_bobbinlaw18_backb1))))) (
       .ops [⟨some 53, .bin .add .num (.tmp 40) (.val (.lit (.int .i64 1))), none⟩,
         ⟨some 40, .val (.tmp 53), none⟩])))

def a_bobbinlaw18_back : ACode :=
  .seq (
   .ops [⟨some 1, .box true (.tmp 0), none⟩,
     ⟨some 2, .alloc [(.sl .nil 0 []), (.sl .nil 0 []), (.sl .nil 0 []), (.sl .nil 0 []), (.sl .nil 0 [])], none⟩]) (
  .seq (
   .ops [⟨some 7, .bslice false 1 0 [] [], none⟩,
     ⟨some 8, .fieldAddr 0 (.tmp 1), none⟩,
     ⟨some 9, .iload false 1 (.tmp 8), none⟩,
     ⟨some 11, .bslice false 1 0 [] [], none⟩,
     ⟨some 12, .fieldAddr 1 (.tmp 1), none⟩,
     ⟨some 13, .iload false 1 (.tmp 12), none⟩,
     ⟨some 15, .bslice false 1 0 [] [], none⟩,
     ⟨some 16, .fieldAddr 2 (.tmp 1), none⟩,
     ⟨some 17, .iload false 1 (.tmp 16), none⟩,
     ⟨some 19, .bslice false 1 0 [] [], none⟩,
     ⟨some 20, .fieldAddr 3 (.tmp 1), none⟩,
     ⟨some 21, .iload false 1 (.tmp 20), none⟩,
     ⟨some 23, .bslice false 1 0 [] [], none⟩,
     ⟨some 24, .fieldAddr 4 (.tmp 1), none⟩,
     ⟨some 25, .iload false 1 (.tmp 24), none⟩,
     ⟨some 10, .fappend 1 8 (.tmp 7) (.tmp 9), none⟩,
     ⟨some 14, .fappend 1 8 (.tmp 11) (.tmp 13), none⟩,
     ⟨some 18, .fappend 1 8 (.tmp 15) (.tmp 17), none⟩,
     ⟨some 22, .fappend 1 8 (.tmp 19) (.tmp 21), none⟩,
     ⟨some 26, .fappend 1 8 (.tmp 23) (.tmp 25), none⟩,
     ⟨some 27, .build [(.sl .nil 0 []), (.sl .nil 0 []), (.sl .nil 0 []), (.sl .nil 0 []), (.sl .nil 0 [])] [(0, 1, (.tmp 10)), (1, 1, (.tmp 14)), (2, 1, (.tmp 18)), (3, 1, (.tmp 22)), (4, 1, (.tmp 26))], none⟩,
     ⟨some 3, .kalloc [(.sl .nil 0 []), (.sl .nil 0 []), (.sl .nil 0 []), (.sl .nil 0 []), (.sl .nil 0 [])], none⟩,
     ⟨none, .store 5 (.tmp 3) (.tmp 27), none⟩]) (
  .seq (
   .seq (
    .ops [⟨some 28, .fieldAddr 0 (.tmp 1), none⟩,
      ⟨some 29, .iload false 1 (.tmp 28), none⟩,
      ⟨some 30, .fieldAddr 1 (.tmp 1), none⟩,
      ⟨some 31, .iload false 1 (.tmp 30), none⟩,
      ⟨some 32, .fieldAddr 2 (.tmp 1), none⟩,
      ⟨some 33, .iload false 1 (.tmp 32), none⟩,
      ⟨some 34, .fieldAddr 3 (.tmp 1), none⟩,
      ⟨some 35, .iload false 1 (.tmp 34), none⟩,
      ⟨some 36, .fieldAddr 4 (.tmp 1), none⟩,
      ⟨some 37, .iload false 1 (.tmp 36), none⟩,
      ⟨some 38, .bslice false 1 5 [(.sl .nil 0 []), (.sl .nil 0 []), (.sl .nil 0 []), (.sl .nil 0 []), (.sl .nil 0 [])] [(0, 1, (.tmp 29)), (1, 1, (.tmp 31)), (2, 1, (.tmp 33)), (3, 1, (.tmp 35)), (4, 1, (.tmp 37))], none⟩,
      ⟨some 39, .len 1 (.tmp 38), none⟩,
      ⟨some 40, .val (.val (.lit (.int .i64 0))), none⟩]) (
   .block 0 (
     .loop a_bobbinlaw18_backb2))) (
  .seq (
   .ops [⟨some 54, .load true 5 (.tmp 3), none⟩,
     ⟨none, .store 5 (.tmp 2) (.tmp 54), none⟩]) (
  .ret))))

theorem c_bobbinlaw18_back : codeOf Tryz.prog { bz := [1], il := [9, 13, 17, 21, 25, 29, 31, 33, 35, 37], ka := [3], fa := [10, 14, 18, 22, 26] } 18 = some (a_bobbinlaw18_back, [.cell 2 5 true], 55) := by kernel_rfl

/-- bobbin/bobbinlaw18.TouchBoth -/
def a_bobbinlaw18_TouchBothb1 : ACode :=
       .seq (
        .ops [⟨some 32, .bin .lss .num (.tmp 31) (.tmp 30), none⟩]) (
       .seq (
        .cond (.tmp 32) (
          .skip) (
          .exit 0)) (
       .seq (
        .block 1 (
          .seq (
           .ops [⟨some 33, .indexAddr 1 (.tmp 29) (.tmp 31), none⟩,
             ⟨some 34, .load false 1 (.tmp 33), none⟩,
             ⟨some 6, .val (.tmp 34), none⟩]) (
          .seq (
           .ops [⟨some 35, .val (.tmp 6), none⟩,
             ⟨some 36, .len 1 (.tmp 35), none⟩,
             ⟨some 37, .bin .gtr .num (.tmp 36) (.val (.lit (.int .i64 100))), none⟩]) (
          .cond (.tmp 37) (
            .seq (
             .ops [⟨some 38, .call (.val (.fn (.func 11) [] [])) [], none⟩,
               ⟨some 4, .val (.tmp 38), none⟩]) (
            .ret)) (
            .skip))))) (
       .ops [⟨some 39, .bin .add .num (.tmp 31) (.val (.lit (.int .i64 1))), none⟩,
         ⟨some 31, .val (.tmp 39), none⟩])))

def a_bobbinlaw18_TouchBoth : ACode :=
  .seq (
   .ops [⟨some 2, .box true (.tmp 0), none⟩,
     ⟨some 3, .box true (.tmp 1), none⟩,
     ⟨some 4, .val (.val (.lit (.bool false))), none⟩]) (
  .seq (
   .seq (
    .ops [⟨some 9, .fieldAddr 0 (.tmp 2), none⟩,
      ⟨some 10, .iload false 1 (.tmp 9), none⟩,
      ⟨some 11, .fieldAddr 1 (.tmp 2), none⟩,
      ⟨some 12, .iload false 1 (.tmp 11), none⟩,
      ⟨some 13, .fieldAddr 2 (.tmp 2), none⟩,
      ⟨some 14, .iload false 1 (.tmp 13), none⟩,
      ⟨some 15, .fieldAddr 3 (.tmp 2), none⟩,
      ⟨some 16, .iload false 1 (.tmp 15), none⟩,
      ⟨some 17, .fieldAddr 4 (.tmp 2), none⟩,
      ⟨some 18, .iload false 1 (.tmp 17), none⟩,
      ⟨some 19, .fieldAddr 0 (.tmp 3), none⟩,
      ⟨some 20, .iload false 1 (.tmp 19), none⟩,
      ⟨some 21, .fieldAddr 1 (.tmp 3), none⟩,
      ⟨some 22, .iload false 1 (.tmp 21), none⟩,
      ⟨some 23, .fieldAddr 2 (.tmp 3), none⟩,
      ⟨some 24, .iload false 1 (.tmp 23), none⟩,
      ⟨some 25, .fieldAddr 3 (.tmp 3), none⟩,
      ⟨some 26, .iload false 1 (.tmp 25), none⟩,
      ⟨some 27, .fieldAddr 4 (.tmp 3), none⟩,
      ⟨some 28, .iload false 1 (.tmp 27), none⟩,
      ⟨some 29, .bslice false 1 10 [(.sl .nil 0 []), (.sl .nil 0 []), (.sl .nil 0 []), (.sl .nil 0 []), (.sl .nil 0 []), (.sl .nil 0 []), (.sl .nil 0 []), (.sl .nil 0 []), (.sl .nil 0 []), (.sl .nil 0 [])] [(0, 1, (.tmp 10)), (1, 1, (.tmp 12)), (2, 1, (.tmp 14)), (3, 1, (.tmp 16)), (4, 1, (.tmp 18)), (5, 1, (.tmp 20)), (6, 1, (.tmp 22)), (7, 1, (.tmp 24)), (8, 1, (.tmp 26)), (9, 1, (.tmp 28))], none⟩,
      ⟨some 30, .len 1 (.tmp 29), none⟩,
      ⟨some 31, .val (.val (.lit (.int .i64 0))), none⟩]) (
   .block 0 (
     .loop a_bobbinlaw18_TouchBothb1))) (
  .seq (
   .ops [⟨some 40, .iload true 5 (.tmp 2), none⟩,
     ⟨some 41, .iload true 5 (.tmp 3), none⟩,
     ⟨some 42, .call (.val (.fn (.func 21) [] [])) [(.tmp 40), (.tmp 41)], none⟩,
     ⟨some 7, .alloc [(.sl .nil 0 []), (.sl .nil 0 []), (.sl .nil 0 []), (.sl .nil 0 []), (.sl .nil 0 [])], none⟩,
     ⟨none, .store 5 (.tmp 7) (.tmp 42), none⟩]) (
  .seq (
   .ops [⟨some 43, .fieldAddr 0 (.tmp 2), none⟩,
     ⟨some 44, .iload false 1 (.tmp 43), none⟩,
     ⟨some 45, .fieldAddr 1 (.tmp 2), none⟩,
     ⟨some 46, .iload false 1 (.tmp 45), none⟩,
     ⟨some 47, .fieldAddr 2 (.tmp 2), none⟩,
     ⟨some 48, .iload false 1 (.tmp 47), none⟩,
     ⟨some 49, .fieldAddr 3 (.tmp 2), none⟩,
     ⟨some 50, .iload false 1 (.tmp 49), none⟩,
     ⟨some 51, .fieldAddr 4 (.tmp 2), none⟩,
     ⟨some 52, .iload false 1 (.tmp 51), none⟩,
     ⟨some 53, .build [(.sl .nil 0 []), (.sl .nil 0 []), (.sl .nil 0 []), (.sl .nil 0 []), (.sl .nil 0 [])] [(0, 1, (.tmp 44)), (1, 1, (.tmp 46)), (2, 1, (.tmp 48)), (3, 1, (.tmp 50)), (4, 1, (.tmp 52))], none⟩,
     ⟨some 54, .fieldAddr 0 (.tmp 3), none⟩,
     ⟨some 55, .iload false 1 (.tmp 54), none⟩,
     ⟨some 56, .fieldAddr 1 (.tmp 3), none⟩,
     ⟨some 57, .iload false 1 (.tmp 56), none⟩,
     ⟨some 58, .fieldAddr 2 (.tmp 3), none⟩,
     ⟨some 59, .iload false 1 (.tmp 58), none⟩,
     ⟨some 60, .fieldAddr 3 (.tmp 3), none⟩,
     ⟨some 61, .iload false 1 (.tmp 60), none⟩,
     ⟨some 62, .fieldAddr 4 (.tmp 3), none⟩,
     ⟨some 63, .iload false 1 (.tmp 62), none⟩,
     ⟨some 64, .build [(.sl .nil 0 []), (.sl .nil 0 []), (.sl .nil 0 []), (.sl .nil 0 []), (.sl .nil 0 [])] [(0, 1, (.tmp 55)), (1, 1, (.tmp 57)), (2, 1, (.tmp 59)), (3, 1, (.tmp 61)), (4, 1, (.tmp 63))], none⟩,
     ⟨some 65, .call (.val (.fn (.func 22) [] [])) [(.tmp 53), (.tmp 64)], none⟩,
     ⟨some 8, .alloc [(.sl .nil 0 []), (.sl .nil 0 []), (.sl .nil 0 []), (.sl .nil 0 []), (.sl .nil 0 [])], none⟩,
     ⟨none, .store 5 (.tmp 8) (.tmp 65), none⟩]) (
  .seq (
   .seq (
    .ops [⟨some 66, .load true 5 (.tmp 7), none⟩]) (
   .seq (
    .draw [(1, ⟨some 67, .call (.val (.fn (.func 18) [] [])) [(.tmp 66)], none⟩, []),
      (2, ⟨some 68, .load true 5 (.tmp 8), none⟩, [])]) (
   .ops [⟨some 69, .call (.val (.fn (.func 17) [] [])) [(.tmp 67), (.tmp 68)], none⟩,
     ⟨some 70, .val (.tmp 69), none⟩,
     ⟨some 71, .call (.val (.fn (.func 11) [] [])) [], some (70, true)⟩,
     ⟨some 72, .pick (.tmp 70) (.tmp 71) (.val (.lit (.bool false))), none⟩,
     ⟨some 4, .val (.tmp 72), none⟩]))) (
  .ret)))))

theorem c_bobbinlaw18_TouchBoth : codeOf Tryz.prog { bz := [2, 3], il := [10, 12, 14, 16, 18, 20, 22, 24, 26, 28, 40, 41, 44, 46, 48, 50, 52, 55, 57, 59, 61, 63] } 4 = some (a_bobbinlaw18_TouchBoth, [.tmp 4], 73) := by kernel_rfl

end Go.Proofs.YtanpcmkhhpaeiaaGreatDoor
