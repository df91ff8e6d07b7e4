/- The code of functions, compiled (printed by wip/tools/kp.py). -/
import Derived.Test.YtanpcmkhhpaeiaaDoorProg
import Derived.Test.YtanpcmkhhpaeiaaDoorM3
namespace Go.Proofs.YtanpcmkhhpaeiaaDoor
set_option linter.unusedSimpArgs false
set_option linter.unusedVariables false
open Go Go.Fw
/-- bobbin/bobbinlaw07.CodeNames -/
def a_bobbinlaw07_CodeNamesb1 : ACode :=
       .seq (
        .ops [⟨some 119, .bin .lss .num (.tmp 118) (.tmp 117), none⟩]) (
       .seq (
        .cond (.tmp 119) (
          .skip) (
          .exit 0)) (
       .seq (
        .block 1 (
          .seq (
           .ops [⟨some 120, .indexAddr 7 (.tmp 116) (.tmp 118), none⟩,
             ⟨some 121, .load true 7 (.tmp 120), none⟩,
             ⟨some 3, .alloc [(.lit (.int .u8 0)), (.lit (.int .i64 0)), (.lit (.int .i64 0)), (.lit (.int .i64 0)), (.lit (.int .i64 0)), (.sl .nil 0 []), (.lit (.bool false))], none⟩,
             ⟨none, .store 7 (.tmp 3) (.tmp 121), none⟩]) (
          .seq (
           .ops [⟨some 123, .fieldAddr 0 (.tmp 3), none⟩,
             ⟨some 126, .fieldAddr 6 (.tmp 3), none⟩,
             ⟨some 122, .load true 3 (.tmp 1), none⟩,
             ⟨some 124, .load true 6 (.tmp 123), none⟩,
             ⟨some 127, .load false 1 (.tmp 126), none⟩,
             ⟨some 125, .kcall (.val (.fn (.func 20) [] [])) [(.tmp 122), (.val (.lit (.int .i64 0))), (.tmp 124)], none⟩,
             ⟨some 128, .bin .neq .bool (.tmp 125) (.tmp 127), none⟩,
             ⟨some 129, .val (.tmp 128), none⟩,
             ⟨some 131, .fieldAddr 0 (.tmp 3), some (129, false)⟩,
             ⟨some 130, .load true 3 (.tmp 1), some (129, false)⟩,
             ⟨some 132, .load true 6 (.tmp 131), some (129, false)⟩,
             ⟨some 133, .call (.val (.fn (.func 20) [] [])) [(.tmp 130), (.val (.lit (.int .i64 2))), (.tmp 132)], some (129, false)⟩,
             ⟨some 134, .pick (.tmp 129) (.val (.lit (.bool true))) (.tmp 133), none⟩,
             ⟨some 135, .val (.tmp 134), none⟩,
             ⟨some 137, .fieldAddr 0 (.tmp 3), some (135, false)⟩,
             ⟨some 136, .load true 3 (.tmp 1), some (135, false)⟩,
             ⟨some 138, .load true 6 (.tmp 137), some (135, false)⟩,
             ⟨some 139, .call (.val (.fn (.func 20) [] [])) [(.tmp 136), (.val (.lit (.int .i64 (-1)))), (.tmp 138)], some (135, false)⟩,
             ⟨some 140, .pick (.tmp 135) (.val (.lit (.bool true))) (.tmp 139), none⟩]) (
          .cond (.tmp 140) (
            .seq (
             .ops [⟨some 0, .val (.val (.lit (.bool false))), none⟩]) (
            .ret)) (
            .skip))))) (
       .ops [⟨some 141, .bin .add .num (.tmp 118) (.val (.lit (.int .i64 1))), none⟩,
         ⟨some 118, .val (.tmp 141), none⟩])))

def a_nam_e : ACode :=
    .ops [⟨some 23, .build [(.lit (.int .u8 0)), (.lit (.int .i64 0)), (.lit (.int .i64 0)), (.lit (.int .i64 0)), (.lit (.int .i64 0)), (.sl .nil 0 [])] [], none⟩,
      ⟨some 24, .build [(.lit (.int .u8 0)), (.lit (.int .i64 0)), (.lit (.int .i64 0)), (.lit (.int .i64 0)), (.lit (.int .i64 0)), (.sl .nil 0 []), (.lit (.bool false))] [(0, 6, (.tmp 23)), (6, 1, (.val (.lit (.bool false))))], none⟩,
      ⟨some 25, .build [(.lit (.int .u8 0)), (.lit (.int .i64 0)), (.lit (.int .i64 0)), (.lit (.int .i64 0)), (.lit (.int .i64 0)), (.sl .nil 0 [])] [(0, 1, (.val (.lit (.int .u8 14))))], none⟩,
      ⟨some 26, .build [(.lit (.int .u8 0)), (.lit (.int .i64 0)), (.lit (.int .i64 0)), (.lit (.int .i64 0)), (.lit (.int .i64 0)), (.sl .nil 0 []), (.lit (.bool false))] [(0, 6, (.tmp 25)), (6, 1, (.val (.lit (.bool false))))], none⟩,
      ⟨some 27, .build [(.lit (.int .u8 0)), (.lit (.int .i64 0)), (.lit (.int .i64 0)), (.lit (.int .i64 0)), (.lit (.int .i64 0)), (.sl .nil 0 [])] [(0, 1, (.val (.lit (.int .u8 1)))), (1, 1, (.val (.lit (.int .i64 2)))), (4, 1, (.val (.lit (.int .i64 (-9223372036854775808)))))], none⟩,
      ⟨some 28, .build [(.lit (.int .u8 0)), (.lit (.int .i64 0)), (.lit (.int .i64 0)), (.lit (.int .i64 0)), (.lit (.int .i64 0)), (.sl .nil 0 []), (.lit (.bool false))] [(0, 6, (.tmp 27)), (6, 1, (.val (.lit (.bool true))))], none⟩,
      ⟨some 29, .build [(.lit (.int .u8 0)), (.lit (.int .i64 0)), (.lit (.int .i64 0)), (.lit (.int .i64 0)), (.lit (.int .i64 0)), (.sl .nil 0 [])] [(0, 1, (.val (.lit (.int .u8 1)))), (1, 1, (.val (.lit (.int .i64 3))))], none⟩,
      ⟨some 30, .build [(.lit (.int .u8 0)), (.lit (.int .i64 0)), (.lit (.int .i64 0)), (.lit (.int .i64 0)), (.lit (.int .i64 0)), (.sl .nil 0 []), (.lit (.bool false))] [(0, 6, (.tmp 29)), (6, 1, (.val (.lit (.bool false))))], none⟩,
      ⟨some 31, .build [(.lit (.int .u8 0)), (.lit (.int .i64 0)), (.lit (.int .i64 0)), (.lit (.int .i64 0)), (.lit (.int .i64 0)), (.sl .nil 0 [])] [(0, 1, (.val (.lit (.int .u8 1)))), (1, 1, (.val (.lit (.int .i64 (-1)))))], none⟩,
      ⟨some 32, .build [(.lit (.int .u8 0)), (.lit (.int .i64 0)), (.lit (.int .i64 0)), (.lit (.int .i64 0)), (.lit (.int .i64 0)), (.sl .nil 0 []), (.lit (.bool false))] [(0, 6, (.tmp 31)), (6, 1, (.val (.lit (.bool false))))], none⟩,
      ⟨some 33, .build [(.lit (.int .u8 0)), (.lit (.int .i64 0)), (.lit (.int .i64 0)), (.lit (.int .i64 0)), (.lit (.int .i64 0)), (.sl .nil 0 [])] [(0, 1, (.val (.lit (.int .u8 1)))), (2, 1, (.val (.lit (.int .i64 1))))], none⟩,
      ⟨some 34, .build [(.lit (.int .u8 0)), (.lit (.int .i64 0)), (.lit (.int .i64 0)), (.lit (.int .i64 0)), (.lit (.int .i64 0)), (.sl .nil 0 []), (.lit (.bool false))] [(0, 6, (.tmp 33)), (6, 1, (.val (.lit (.bool false))))], none⟩,
      ⟨some 35, .build [(.lit (.int .u8 0)), (.lit (.int .i64 0)), (.lit (.int .i64 0)), (.lit (.int .i64 0)), (.lit (.int .i64 0)), (.sl .nil 0 [])] [(0, 1, (.val (.lit (.int .u8 2)))), (1, 1, (.val (.lit (.int .i64 1)))), (2, 1, (.val (.lit (.int .i64 2))))], none⟩,
      ⟨some 36, .build [(.lit (.int .u8 0)), (.lit (.int .i64 0)), (.lit (.int .i64 0)), (.lit (.int .i64 0)), (.lit (.int .i64 0)), (.sl .nil 0 []), (.lit (.bool false))] [(0, 6, (.tmp 35)), (6, 1, (.val (.lit (.bool true))))], none⟩,
      ⟨some 37, .build [(.lit (.int .u8 0)), (.lit (.int .i64 0)), (.lit (.int .i64 0)), (.lit (.int .i64 0)), (.lit (.int .i64 0)), (.sl .nil 0 [])] [(0, 1, (.val (.lit (.int .u8 2)))), (2, 1, (.val (.lit (.int .i64 3))))], none⟩,
      ⟨some 38, .build [(.lit (.int .u8 0)), (.lit (.int .i64 0)), (.lit (.int .i64 0)), (.lit (.int .i64 0)), (.lit (.int .i64 0)), (.sl .nil 0 []), (.lit (.bool false))] [(0, 6, (.tmp 37)), (6, 1, (.val (.lit (.bool false))))], none⟩,
      ⟨some 39, .build [(.lit (.int .u8 0)), (.lit (.int .i64 0)), (.lit (.int .i64 0)), (.lit (.int .i64 0)), (.lit (.int .i64 0)), (.sl .nil 0 [])] [(0, 1, (.val (.lit (.int .u8 2)))), (4, 1, (.val (.lit (.int .i64 1))))], none⟩,
      ⟨some 40, .build [(.lit (.int .u8 0)), (.lit (.int .i64 0)), (.lit (.int .i64 0)), (.lit (.int .i64 0)), (.lit (.int .i64 0)), (.sl .nil 0 []), (.lit (.bool false))] [(0, 6, (.tmp 39)), (6, 1, (.val (.lit (.bool false))))], none⟩,
      ⟨some 41, .build [(.lit (.int .u8 0)), (.lit (.int .i64 0)), (.lit (.int .i64 0)), (.lit (.int .i64 0)), (.lit (.int .i64 0)), (.sl .nil 0 [])] [(0, 1, (.val (.lit (.int .u8 3)))), (4, 1, (.val (.lit (.int .i64 5))))], none⟩,
      ⟨some 42, .build [(.lit (.int .u8 0)), (.lit (.int .i64 0)), (.lit (.int .i64 0)), (.lit (.int .i64 0)), (.lit (.int .i64 0)), (.sl .nil 0 []), (.lit (.bool false))] [(0, 6, (.tmp 41)), (6, 1, (.val (.lit (.bool true))))], none⟩,
      ⟨some 43, .build [(.lit (.int .u8 0)), (.lit (.int .i64 0)), (.lit (.int .i64 0)), (.lit (.int .i64 0)), (.lit (.int .i64 0)), (.sl .nil 0 [])] [(0, 1, (.val (.lit (.int .u8 3)))), (4, 1, (.val (.lit (.int .i64 6))))], none⟩,
      ⟨some 44, .build [(.lit (.int .u8 0)), (.lit (.int .i64 0)), (.lit (.int .i64 0)), (.lit (.int .i64 0)), (.lit (.int .i64 0)), (.sl .nil 0 []), (.lit (.bool false))] [(0, 6, (.tmp 43)), (6, 1, (.val (.lit (.bool true))))], none⟩,
      ⟨some 45, .build [(.lit (.int .u8 0)), (.lit (.int .i64 0)), (.lit (.int .i64 0)), (.lit (.int .i64 0)), (.lit (.int .i64 0)), (.sl .nil 0 [])] [(0, 1, (.val (.lit (.int .u8 3)))), (4, 1, (.val (.lit (.int .i64 7))))], none⟩,
      ⟨some 46, .build [(.lit (.int .u8 0)), (.lit (.int .i64 0)), (.lit (.int .i64 0)), (.lit (.int .i64 0)), (.lit (.int .i64 0)), (.sl .nil 0 []), (.lit (.bool false))] [(0, 6, (.tmp 45)), (6, 1, (.val (.lit (.bool false))))], none⟩,
      ⟨some 47, .build [(.lit (.int .u8 0)), (.lit (.int .i64 0)), (.lit (.int .i64 0)), (.lit (.int .i64 0)), (.lit (.int .i64 0)), (.sl .nil 0 [])] [(0, 1, (.val (.lit (.int .u8 3))))], none⟩,
      ⟨some 48, .build [(.lit (.int .u8 0)), (.lit (.int .i64 0)), (.lit (.int .i64 0)), (.lit (.int .i64 0)), (.lit (.int .i64 0)), (.sl .nil 0 []), (.lit (.bool false))] [(0, 6, (.tmp 47)), (6, 1, (.val (.lit (.bool false))))], none⟩,
      ⟨some 49, .build [(.lit (.int .u8 0)), (.lit (.int .i64 0)), (.lit (.int .i64 0)), (.lit (.int .i64 0)), (.lit (.int .i64 0)), (.sl .nil 0 [])] [(0, 1, (.val (.lit (.int .u8 4)))), (2, 1, (.val (.lit (.int .i64 1)))), (3, 1, (.val (.lit (.int .i64 2)))), (4, 1, (.val (.lit (.int .i64 7))))], none⟩,
      ⟨some 50, .build [(.lit (.int .u8 0)), (.lit (.int .i64 0)), (.lit (.int .i64 0)), (.lit (.int .i64 0)), (.lit (.int .i64 0)), (.sl .nil 0 []), (.lit (.bool false))] [(0, 6, (.tmp 49)), (6, 1, (.val (.lit (.bool true))))], none⟩,
      ⟨some 51, .build [(.lit (.int .u8 0)), (.lit (.int .i64 0)), (.lit (.int .i64 0)), (.lit (.int .i64 0)), (.lit (.int .i64 0)), (.sl .nil 0 [])] [(0, 1, (.val (.lit (.int .u8 4)))), (4, 1, (.val (.lit (.int .i64 17))))], none⟩,
      ⟨some 52, .build [(.lit (.int .u8 0)), (.lit (.int .i64 0)), (.lit (.int .i64 0)), (.lit (.int .i64 0)), (.lit (.int .i64 0)), (.sl .nil 0 []), (.lit (.bool false))] [(0, 6, (.tmp 51)), (6, 1, (.val (.lit (.bool true))))], none⟩,
      ⟨some 53, .build [(.lit (.int .u8 0)), (.lit (.int .i64 0)), (.lit (.int .i64 0)), (.lit (.int .i64 0)), (.lit (.int .i64 0)), (.sl .nil 0 [])] [(0, 1, (.val (.lit (.int .u8 4)))), (4, 1, (.val (.lit (.int .i64 18))))], none⟩,
      ⟨some 54, .build [(.lit (.int .u8 0)), (.lit (.int .i64 0)), (.lit (.int .i64 0)), (.lit (.int .i64 0)), (.lit (.int .i64 0)), (.sl .nil 0 []), (.lit (.bool false))] [(0, 6, (.tmp 53)), (6, 1, (.val (.lit (.bool false))))], none⟩,
      ⟨some 55, .build [(.lit (.int .u8 0)), (.lit (.int .i64 0)), (.lit (.int .i64 0)), (.lit (.int .i64 0)), (.lit (.int .i64 0)), (.sl .nil 0 [])] [(0, 1, (.val (.lit (.int .u8 4)))), (4, 1, (.val (.lit (.int .i64 6))))], none⟩,
      ⟨some 56, .build [(.lit (.int .u8 0)), (.lit (.int .i64 0)), (.lit (.int .i64 0)), (.lit (.int .i64 0)), (.lit (.int .i64 0)), (.sl .nil 0 []), (.lit (.bool false))] [(0, 6, (.tmp 55)), (6, 1, (.val (.lit (.bool false))))], none⟩,
      ⟨some 57, .build [(.lit (.int .u8 0)), (.lit (.int .i64 0)), (.lit (.int .i64 0)), (.lit (.int .i64 0)), (.lit (.int .i64 0)), (.sl .nil 0 [])] [(0, 1, (.val (.lit (.int .u8 4)))), (3, 1, (.val (.lit (.int .i64 3)))), (4, 1, (.val (.lit (.int .i64 7))))], none⟩,
      ⟨some 58, .build [(.lit (.int .u8 0)), (.lit (.int .i64 0)), (.lit (.int .i64 0)), (.lit (.int .i64 0)), (.lit (.int .i64 0)), (.sl .nil 0 []), (.lit (.bool false))] [(0, 6, (.tmp 57)), (6, 1, (.val (.lit (.bool false))))], none⟩,
      ⟨some 59, .build [(.lit (.int .u8 0)), (.lit (.int .i64 0)), (.lit (.int .i64 0)), (.lit (.int .i64 0)), (.lit (.int .i64 0)), (.sl .nil 0 [])] [(0, 1, (.val (.lit (.int .u8 5)))), (2, 1, (.val (.lit (.int .i64 (-1)))))], none⟩,
      ⟨some 60, .build [(.lit (.int .u8 0)), (.lit (.int .i64 0)), (.lit (.int .i64 0)), (.lit (.int .i64 0)), (.lit (.int .i64 0)), (.sl .nil 0 []), (.lit (.bool false))] [(0, 6, (.tmp 59)), (6, 1, (.val (.lit (.bool true))))], none⟩,
      ⟨some 61, .build [(.lit (.int .u8 0)), (.lit (.int .i64 0)), (.lit (.int .i64 0)), (.lit (.int .i64 0)), (.lit (.int .i64 0)), (.sl .nil 0 [])] [(0, 1, (.val (.lit (.int .u8 5)))), (2, 1, (.val (.lit (.int .i64 (-2)))))], none⟩,
      ⟨some 62, .build [(.lit (.int .u8 0)), (.lit (.int .i64 0)), (.lit (.int .i64 0)), (.lit (.int .i64 0)), (.lit (.int .i64 0)), (.sl .nil 0 []), (.lit (.bool false))] [(0, 6, (.tmp 61)), (6, 1, (.val (.lit (.bool false))))], none⟩,
      ⟨some 63, .build [(.lit (.int .u8 0)), (.lit (.int .i64 0)), (.lit (.int .i64 0)), (.lit (.int .i64 0)), (.lit (.int .i64 0)), (.sl .nil 0 [])] [(0, 1, (.val (.lit (.int .u8 5)))), (4, 1, (.val (.lit (.int .i64 1))))], none⟩,
      ⟨some 64, .build [(.lit (.int .u8 0)), (.lit (.int .i64 0)), (.lit (.int .i64 0)), (.lit (.int .i64 0)), (.lit (.int .i64 0)), (.sl .nil 0 []), (.lit (.bool false))] [(0, 6, (.tmp 63)), (6, 1, (.val (.lit (.bool false))))], none⟩,
      ⟨some 65, .build [(.lit (.int .u8 0)), (.lit (.int .i64 0)), (.lit (.int .i64 0)), (.lit (.int .i64 0)), (.lit (.int .i64 0)), (.sl .nil 0 [])] [(0, 1, (.val (.lit (.int .u8 5)))), (4, 1, (.val (.lit (.int .i64 (-1)))))], none⟩,
      ⟨some 66, .build [(.lit (.int .u8 0)), (.lit (.int .i64 0)), (.lit (.int .i64 0)), (.lit (.int .i64 0)), (.lit (.int .i64 0)), (.sl .nil 0 []), (.lit (.bool false))] [(0, 6, (.tmp 65)), (6, 1, (.val (.lit (.bool false))))], none⟩,
      ⟨some 67, .build [(.lit (.int .u8 0)), (.lit (.int .i64 0)), (.lit (.int .i64 0)), (.lit (.int .i64 0)), (.lit (.int .i64 0)), (.sl .nil 0 [])] [(0, 1, (.val (.lit (.int .u8 6)))), (2, 1, (.val (.lit (.int .i64 (-1))))), (3, 1, (.val (.lit (.int .i64 2))))], none⟩,
      ⟨some 68, .build [(.lit (.int .u8 0)), (.lit (.int .i64 0)), (.lit (.int .i64 0)), (.lit (.int .i64 0)), (.lit (.int .i64 0)), (.sl .nil 0 []), (.lit (.bool false))] [(0, 6, (.tmp 67)), (6, 1, (.val (.lit (.bool true))))], none⟩,
      ⟨some 69, .build [(.lit (.int .u8 0)), (.lit (.int .i64 0)), (.lit (.int .i64 0)), (.lit (.int .i64 0)), (.lit (.int .i64 0)), (.sl .nil 0 [])] [(0, 1, (.val (.lit (.int .u8 6)))), (3, 1, (.val (.lit (.int .i64 (-1)))))], none⟩,
      ⟨some 70, .build [(.lit (.int .u8 0)), (.lit (.int .i64 0)), (.lit (.int .i64 0)), (.lit (.int .i64 0)), (.lit (.int .i64 0)), (.sl .nil 0 []), (.lit (.bool false))] [(0, 6, (.tmp 69)), (6, 1, (.val (.lit (.bool false))))], none⟩,
      ⟨some 71, .build [(.lit (.int .u8 0)), (.lit (.int .i64 0)), (.lit (.int .i64 0)), (.lit (.int .i64 0)), (.lit (.int .i64 0)), (.sl .nil 0 [])] [(0, 1, (.val (.lit (.int .u8 6)))), (1, 1, (.val (.lit (.int .i64 1))))], none⟩,
      ⟨some 72, .build [(.lit (.int .u8 0)), (.lit (.int .i64 0)), (.lit (.int .i64 0)), (.lit (.int .i64 0)), (.lit (.int .i64 0)), (.sl .nil 0 []), (.lit (.bool false))] [(0, 6, (.tmp 71)), (6, 1, (.val (.lit (.bool false))))], none⟩,
      ⟨some 73, .build [(.lit (.int .u8 0)), (.lit (.int .i64 0)), (.lit (.int .i64 0)), (.lit (.int .i64 0)), (.lit (.int .i64 0)), (.sl .nil 0 [])] [(0, 1, (.val (.lit (.int .u8 7))))], none⟩,
      ⟨some 74, .build [(.lit (.int .u8 0)), (.lit (.int .i64 0)), (.lit (.int .i64 0)), (.lit (.int .i64 0)), (.lit (.int .i64 0)), (.sl .nil 0 []), (.lit (.bool false))] [(0, 6, (.tmp 73)), (6, 1, (.val (.lit (.bool true))))], none⟩,
      ⟨some 75, .build [(.lit (.int .u8 0)), (.lit (.int .i64 0)), (.lit (.int .i64 0)), (.lit (.int .i64 0)), (.lit (.int .i64 0)), (.sl .nil 0 [])] [(0, 1, (.val (.lit (.int .u8 7)))), (4, 1, (.val (.lit (.int .i64 1))))], none⟩,
      ⟨some 76, .build [(.lit (.int .u8 0)), (.lit (.int .i64 0)), (.lit (.int .i64 0)), (.lit (.int .i64 0)), (.lit (.int .i64 0)), (.sl .nil 0 []), (.lit (.bool false))] [(0, 6, (.tmp 75)), (6, 1, (.val (.lit (.bool false))))], none⟩,
      ⟨some 77, .build [(.lit (.int .u8 0)), (.lit (.int .i64 0)), (.lit (.int .i64 0)), (.lit (.int .i64 0)), (.lit (.int .i64 0)), (.sl .nil 0 [])] [(0, 1, (.val (.lit (.int .u8 8))))], none⟩,
      ⟨some 78, .build [(.lit (.int .u8 0)), (.lit (.int .i64 0)), (.lit (.int .i64 0)), (.lit (.int .i64 0)), (.lit (.int .i64 0)), (.sl .nil 0 []), (.lit (.bool false))] [(0, 6, (.tmp 77)), (6, 1, (.val (.lit (.bool true))))], none⟩,
      ⟨some 79, .build [(.lit (.int .u8 0)), (.lit (.int .i64 0)), (.lit (.int .i64 0)), (.lit (.int .i64 0)), (.lit (.int .i64 0)), (.sl .nil 0 [])] [(0, 1, (.val (.lit (.int .u8 8)))), (2, 1, (.val (.lit (.int .i64 1))))], none⟩,
      ⟨some 80, .build [(.lit (.int .u8 0)), (.lit (.int .i64 0)), (.lit (.int .i64 0)), (.lit (.int .i64 0)), (.lit (.int .i64 0)), (.sl .nil 0 []), (.lit (.bool false))] [(0, 6, (.tmp 79)), (6, 1, (.val (.lit (.bool false))))], none⟩,
      ⟨some 81, .build [(.lit (.int .u8 0)), (.lit (.int .i64 0)), (.lit (.int .i64 0)), (.lit (.int .i64 0)), (.lit (.int .i64 0)), (.sl .nil 0 [])] [(0, 1, (.val (.lit (.int .u8 9)))), (2, 1, (.val (.lit (.int .i64 2))))], none⟩,
      ⟨some 82, .build [(.lit (.int .u8 0)), (.lit (.int .i64 0)), (.lit (.int .i64 0)), (.lit (.int .i64 0)), (.lit (.int .i64 0)), (.sl .nil 0 []), (.lit (.bool false))] [(0, 6, (.tmp 81)), (6, 1, (.val (.lit (.bool true))))], none⟩,
      ⟨some 83, .build [(.lit (.int .u8 0)), (.lit (.int .i64 0)), (.lit (.int .i64 0)), (.lit (.int .i64 0)), (.lit (.int .i64 0)), (.sl .nil 0 [])] [(0, 1, (.val (.lit (.int .u8 9)))), (2, 1, (.val (.lit (.int .i64 (-1)))))], none⟩,
      ⟨some 84, .build [(.lit (.int .u8 0)), (.lit (.int .i64 0)), (.lit (.int .i64 0)), (.lit (.int .i64 0)), (.lit (.int .i64 0)), (.sl .nil 0 []), (.lit (.bool false))] [(0, 6, (.tmp 83)), (6, 1, (.val (.lit (.bool false))))], none⟩,
      ⟨some 85, .bslice false 1 2 [(.lit (.int .i64 0)), (.lit (.int .i64 0))] [(0, 1, (.val (.lit (.int .i64 0)))), (1, 1, (.val (.lit (.int .i64 2))))], none⟩,
      ⟨some 86, .build [(.lit (.int .u8 0)), (.lit (.int .i64 0)), (.lit (.int .i64 0)), (.lit (.int .i64 0)), (.lit (.int .i64 0)), (.sl .nil 0 [])] [(0, 1, (.val (.lit (.int .u8 10)))), (1, 1, (.val (.lit (.int .i64 1)))), (4, 1, (.val (.lit (.int .i64 1)))), (5, 1, (.tmp 85))], none⟩,
      ⟨some 87, .build [(.lit (.int .u8 0)), (.lit (.int .i64 0)), (.lit (.int .i64 0)), (.lit (.int .i64 0)), (.lit (.int .i64 0)), (.sl .nil 0 []), (.lit (.bool false))] [(0, 6, (.tmp 86)), (6, 1, (.val (.lit (.bool true))))], none⟩,
      ⟨some 88, .bslice false 1 1 [(.lit (.int .i64 0))] [(0, 1, (.val (.lit (.int .i64 0))))], none⟩,
      ⟨some 89, .build [(.lit (.int .u8 0)), (.lit (.int .i64 0)), (.lit (.int .i64 0)), (.lit (.int .i64 0)), (.lit (.int .i64 0)), (.sl .nil 0 [])] [(0, 1, (.val (.lit (.int .u8 10)))), (4, 1, (.val (.lit (.int .i64 1)))), (5, 1, (.tmp 88))], none⟩,
      ⟨some 90, .build [(.lit (.int .u8 0)), (.lit (.int .i64 0)), (.lit (.int .i64 0)), (.lit (.int .i64 0)), (.lit (.int .i64 0)), (.sl .nil 0 []), (.lit (.bool false))] [(0, 6, (.tmp 89)), (6, 1, (.val (.lit (.bool false))))], none⟩,
      ⟨some 91, .bslice false 1 3 [(.lit (.int .i64 0)), (.lit (.int .i64 0)), (.lit (.int .i64 0))] [(0, 1, (.val (.lit (.int .i64 0)))), (1, 1, (.val (.lit (.int .i64 1)))), (2, 1, (.val (.lit (.int .i64 2))))], none⟩,
      ⟨some 92, .build [(.lit (.int .u8 0)), (.lit (.int .i64 0)), (.lit (.int .i64 0)), (.lit (.int .i64 0)), (.lit (.int .i64 0)), (.sl .nil 0 [])] [(0, 1, (.val (.lit (.int .u8 10)))), (4, 1, (.val (.lit (.int .i64 1)))), (5, 1, (.tmp 91))], none⟩,
      ⟨some 93, .build [(.lit (.int .u8 0)), (.lit (.int .i64 0)), (.lit (.int .i64 0)), (.lit (.int .i64 0)), (.lit (.int .i64 0)), (.sl .nil 0 []), (.lit (.bool false))] [(0, 6, (.tmp 92)), (6, 1, (.val (.lit (.bool false))))], none⟩,
      ⟨some 94, .bslice false 1 2 [(.lit (.int .i64 0)), (.lit (.int .i64 0))] [(0, 1, (.val (.lit (.int .i64 0)))), (1, 1, (.val (.lit (.int .i64 3))))], none⟩,
      ⟨some 95, .build [(.lit (.int .u8 0)), (.lit (.int .i64 0)), (.lit (.int .i64 0)), (.lit (.int .i64 0)), (.lit (.int .i64 0)), (.sl .nil 0 [])] [(0, 1, (.val (.lit (.int .u8 10)))), (4, 1, (.val (.lit (.int .i64 1)))), (5, 1, (.tmp 94))], none⟩,
      ⟨some 96, .build [(.lit (.int .u8 0)), (.lit (.int .i64 0)), (.lit (.int .i64 0)), (.lit (.int .i64 0)), (.lit (.int .i64 0)), (.sl .nil 0 []), (.lit (.bool false))] [(0, 6, (.tmp 95)), (6, 1, (.val (.lit (.bool false))))], none⟩,
      ⟨some 97, .build [(.lit (.int .u8 0)), (.lit (.int .i64 0)), (.lit (.int .i64 0)), (.lit (.int .i64 0)), (.lit (.int .i64 0)), (.sl .nil 0 [])] [(0, 1, (.val (.lit (.int .u8 10))))], none⟩,
      ⟨some 98, .build [(.lit (.int .u8 0)), (.lit (.int .i64 0)), (.lit (.int .i64 0)), (.lit (.int .i64 0)), (.lit (.int .i64 0)), (.sl .nil 0 []), (.lit (.bool false))] [(0, 6, (.tmp 97)), (6, 1, (.val (.lit (.bool false))))], none⟩,
      ⟨some 99, .build [(.lit (.int .u8 0)), (.lit (.int .i64 0)), (.lit (.int .i64 0)), (.lit (.int .i64 0)), (.lit (.int .i64 0)), (.sl .nil 0 [])] [(0, 1, (.val (.lit (.int .u8 10)))), (4, 1, (.val (.lit (.int .i64 2))))], none⟩,
      ⟨some 100, .build [(.lit (.int .u8 0)), (.lit (.int .i64 0)), (.lit (.int .i64 0)), (.lit (.int .i64 0)), (.lit (.int .i64 0)), (.sl .nil 0 []), (.lit (.bool false))] [(0, 6, (.tmp 99)), (6, 1, (.val (.lit (.bool false))))], none⟩,
      ⟨some 101, .build [(.lit (.int .u8 0)), (.lit (.int .i64 0)), (.lit (.int .i64 0)), (.lit (.int .i64 0)), (.lit (.int .i64 0)), (.sl .nil 0 [])] [(0, 1, (.val (.lit (.int .u8 11))))], none⟩,
      ⟨some 102, .build [(.lit (.int .u8 0)), (.lit (.int .i64 0)), (.lit (.int .i64 0)), (.lit (.int .i64 0)), (.lit (.int .i64 0)), (.sl .nil 0 []), (.lit (.bool false))] [(0, 6, (.tmp 101)), (6, 1, (.val (.lit (.bool true))))], none⟩,
      ⟨some 103, .build [(.lit (.int .u8 0)), (.lit (.int .i64 0)), (.lit (.int .i64 0)), (.lit (.int .i64 0)), (.lit (.int .i64 0)), (.sl .nil 0 [])] [(0, 1, (.val (.lit (.int .u8 11)))), (4, 1, (.val (.lit (.int .i64 1))))], none⟩,
      ⟨some 104, .build [(.lit (.int .u8 0)), (.lit (.int .i64 0)), (.lit (.int .i64 0)), (.lit (.int .i64 0)), (.lit (.int .i64 0)), (.sl .nil 0 []), (.lit (.bool false))] [(0, 6, (.tmp 103)), (6, 1, (.val (.lit (.bool false))))], none⟩,
      ⟨some 105, .build [(.lit (.int .u8 0)), (.lit (.int .i64 0)), (.lit (.int .i64 0)), (.lit (.int .i64 0)), (.lit (.int .i64 0)), (.sl .nil 0 [])] [(0, 1, (.val (.lit (.int .u8 11)))), (4, 1, (.val (.lit (.int .i64 (-1)))))], none⟩,
      ⟨some 106, .build [(.lit (.int .u8 0)), (.lit (.int .i64 0)), (.lit (.int .i64 0)), (.lit (.int .i64 0)), (.lit (.int .i64 0)), (.sl .nil 0 []), (.lit (.bool false))] [(0, 6, (.tmp 105)), (6, 1, (.val (.lit (.bool false))))], none⟩,
      ⟨some 107, .build [(.lit (.int .u8 0)), (.lit (.int .i64 0)), (.lit (.int .i64 0)), (.lit (.int .i64 0)), (.lit (.int .i64 0)), (.sl .nil 0 [])] [(0, 1, (.val (.lit (.int .u8 12)))), (2, 1, (.val (.lit (.int .i64 2))))], none⟩,
      ⟨some 108, .build [(.lit (.int .u8 0)), (.lit (.int .i64 0)), (.lit (.int .i64 0)), (.lit (.int .i64 0)), (.lit (.int .i64 0)), (.sl .nil 0 []), (.lit (.bool false))] [(0, 6, (.tmp 107)), (6, 1, (.val (.lit (.bool true))))], none⟩,
      ⟨some 109, .build [(.lit (.int .u8 0)), (.lit (.int .i64 0)), (.lit (.int .i64 0)), (.lit (.int .i64 0)), (.lit (.int .i64 0)), (.sl .nil 0 [])] [(0, 1, (.val (.lit (.int .u8 12)))), (2, 1, (.val (.lit (.int .i64 2)))), (4, 1, (.val (.lit (.int .i64 1099511627776))))], none⟩,
      ⟨some 110, .build [(.lit (.int .u8 0)), (.lit (.int .i64 0)), (.lit (.int .i64 0)), (.lit (.int .i64 0)), (.lit (.int .i64 0)), (.sl .nil 0 []), (.lit (.bool false))] [(0, 6, (.tmp 109)), (6, 1, (.val (.lit (.bool false))))], none⟩,
      ⟨some 111, .build [(.lit (.int .u8 0)), (.lit (.int .i64 0)), (.lit (.int .i64 0)), (.lit (.int .i64 0)), (.lit (.int .i64 0)), (.sl .nil 0 [])] [(0, 1, (.val (.lit (.int .u8 13)))), (2, 1, (.val (.lit (.int .i64 2))))], none⟩,
      ⟨some 112, .build [(.lit (.int .u8 0)), (.lit (.int .i64 0)), (.lit (.int .i64 0)), (.lit (.int .i64 0)), (.lit (.int .i64 0)), (.sl .nil 0 []), (.lit (.bool false))] [(0, 6, (.tmp 111)), (6, 1, (.val (.lit (.bool true))))], none⟩,
      ⟨some 113, .bslice false 1 1 [(.lit (.int .i64 0))] [(0, 1, (.val (.lit (.int .i64 1))))], none⟩,
      ⟨some 114, .build [(.lit (.int .u8 0)), (.lit (.int .i64 0)), (.lit (.int .i64 0)), (.lit (.int .i64 0)), (.lit (.int .i64 0)), (.sl .nil 0 [])] [(0, 1, (.val (.lit (.int .u8 13)))), (5, 1, (.tmp 113))], none⟩,
      ⟨some 115, .build [(.lit (.int .u8 0)), (.lit (.int .i64 0)), (.lit (.int .i64 0)), (.lit (.int .i64 0)), (.lit (.int .i64 0)), (.sl .nil 0 []), (.lit (.bool false))] [(0, 6, (.tmp 114)), (6, 1, (.val (.lit (.bool false))))], none⟩,
      ⟨some 116, .bslice false 7 44 [(.lit (.int .u8 0)), (.lit (.int .i64 0)), (.lit (.int .i64 0)), (.lit (.int .i64 0)), (.lit (.int .i64 0)), (.sl .nil 0 []), (.lit (.bool false)), (.lit (.int .u8 0)), (.lit (.int .i64 0)), (.lit (.int .i64 0)), (.lit (.int .i64 0)), (.lit (.int .i64 0)), (.sl .nil 0 []), (.lit (.bool false)), (.lit (.int .u8 0)), (.lit (.int .i64 0)), (.lit (.int .i64 0)), (.lit (.int .i64 0)), (.lit (.int .i64 0)), (.sl .nil 0 []), (.lit (.bool false)), (.lit (.int .u8 0)), (.lit (.int .i64 0)), (.lit (.int .i64 0)), (.lit (.int .i64 0)), (.lit (.int .i64 0)), (.sl .nil 0 []), (.lit (.bool false)), (.lit (.int .u8 0)), (.lit (.int .i64 0)), (.lit (.int .i64 0)), (.lit (.int .i64 0)), (.lit (.int .i64 0)), (.sl .nil 0 []), (.lit (.bool false)), (.lit (.int .u8 0)), (.lit (.int .i64 0)), (.lit (.int .i64 0)), (.lit (.int .i64 0)), (.lit (.int .i64 0)), (.sl .nil 0 []), (.lit (.bool false)), (.lit (.int .u8 0)), (.lit (.int .i64 0)), (.lit (.int .i64 0)), (.lit (.int .i64 0)), (.lit (.int .i64 0)), (.sl .nil 0 []), (.lit (.bool false)), (.lit (.int .u8 0)), (.lit (.int .i64 0)), (.lit (.int .i64 0)), (.lit (.int .i64 0)), (.lit (.int .i64 0)), (.sl .nil 0 []), (.lit (.bool false)), (.lit (.int .u8 0)), (.lit (.int .i64 0)), (.lit (.int .i64 0)), (.lit (.int .i64 0)), (.lit (.int .i64 0)), (.sl .nil 0 []), (.lit (.bool false)), (.lit (.int .u8 0)), (.lit (.int .i64 0)), (.lit (.int .i64 0)), (.lit (.int .i64 0)), (.lit (.int .i64 0)), (.sl .nil 0 []), (.lit (.bool false)), (.lit (.int .u8 0)), (.lit (.int .i64 0)), (.lit (.int .i64 0)), (.lit (.int .i64 0)), (.lit (.int .i64 0)), (.sl .nil 0 []), (.lit (.bool false)), (.lit (.int .u8 0)), (.lit (.int .i64 0)), (.lit (.int .i64 0)), (.lit (.int .i64 0)), (.lit (.int .i64 0)), (.sl .nil 0 []), (.lit (.bool false)), (.lit (.int .u8 0)), (.lit (.int .i64 0)), (.lit (.int .i64 0)), (.lit (.int .i64 0)), (.lit (.int .i64 0)), (.sl .nil 0 []), (.lit (.bool false)), (.lit (.int .u8 0)), (.lit (.int .i64 0)), (.lit (.int .i64 0)), (.lit (.int .i64 0)), (.lit (.int .i64 0)), (.sl .nil 0 []), (.lit (.bool false)), (.lit (.int .u8 0)), (.lit (.int .i64 0)), (.lit (.int .i64 0)), (.lit (.int .i64 0)), (.lit (.int .i64 0)), (.sl .nil 0 []), (.lit (.bool false)), (.lit (.int .u8 0)), (.lit (.int .i64 0)), (.lit (.int .i64 0)), (.lit (.int .i64 0)), (.lit (.int .i64 0)), (.sl .nil 0 []), (.lit (.bool false)), (.lit (.int .u8 0)), (.lit (.int .i64 0)), (.lit (.int .i64 0)), (.lit (.int .i64 0)), (.lit (.int .i64 0)), (.sl .nil 0 []), (.lit (.bool false)), (.lit (.int .u8 0)), (.lit (.int .i64 0)), (.lit (.int .i64 0)), (.lit (.int .i64 0)), (.lit (.int .i64 0)), (.sl .nil 0 []), (.lit (.bool false)), (.lit (.int .u8 0)), (.lit (.int .i64 0)), (.lit (.int .i64 0)), (.lit (.int .i64 0)), (.lit (.int .i64 0)), (.sl .nil 0 []), (.lit (.bool false)), (.lit (.int .u8 0)), (.lit (.int .i64 0)), (.lit (.int .i64 0)), (.lit (.int .i64 0)), (.lit (.int .i64 0)), (.sl .nil 0 []), (.lit (.bool false)), (.lit (.int .u8 0)), (.lit (.int .i64 0)), (.lit (.int .i64 0)), (.lit (.int .i64 0)), (.lit (.int .i64 0)), (.sl .nil 0 []), (.lit (.bool false)), (.lit (.int .u8 0)), (.lit (.int .i64 0)), (.lit (.int .i64 0)), (.lit (.int .i64 0)), (.lit (.int .i64 0)), (.sl .nil 0 []), (.lit (.bool false)), (.lit (.int .u8 0)), (.lit (.int .i64 0)), (.lit (.int .i64 0)), (.lit (.int .i64 0)), (.lit (.int .i64 0)), (.sl .nil 0 []), (.lit (.bool false)), (.lit (.int .u8 0)), (.lit (.int .i64 0)), (.lit (.int .i64 0)), (.lit (.int .i64 0)), (.lit (.int .i64 0)), (.sl .nil 0 []), (.lit (.bool false)), (.lit (.int .u8 0)), (.lit (.int .i64 0)), (.lit (.int .i64 0)), (.lit (.int .i64 0)), (.lit (.int .i64 0)), (.sl .nil 0 []), (.lit (.bool false)), (.lit (.int .u8 0)), (.lit (.int .i64 0)), (.lit (.int .i64 0)), (.lit (.int .i64 0)), (.lit (.int .i64 0)), (.sl .nil 0 []), (.lit (.bool false)), (.lit (.int .u8 0)), (.lit (.int .i64 0)), (.lit (.int .i64 0)), (.lit (.int .i64 0)), (.lit (.int .i64 0)), (.sl .nil 0 []), (.lit (.bool false)), (.lit (.int .u8 0)), (.lit (.int .i64 0)), (.lit (.int .i64 0)), (.lit (.int .i64 0)), (.lit (.int .i64 0)), (.sl .nil 0 []), (.lit (.bool false)), (.lit (.int .u8 0)), (.lit (.int .i64 0)), (.lit (.int .i64 0)), (.lit (.int .i64 0)), (.lit (.int .i64 0)), (.sl .nil 0 []), (.lit (.bool false)), (.lit (.int .u8 0)), (.lit (.int .i64 0)), (.lit (.int .i64 0)), (.lit (.int .i64 0)), (.lit (.int .i64 0)), (.sl .nil 0 []), (.lit (.bool false)), (.lit (.int .u8 0)), (.lit (.int .i64 0)), (.lit (.int .i64 0)), (.lit (.int .i64 0)), (.lit (.int .i64 0)), (.sl .nil 0 []), (.lit (.bool false)), (.lit (.int .u8 0)), (.lit (.int .i64 0)), (.lit (.int .i64 0)), (.lit (.int .i64 0)), (.lit (.int .i64 0)), (.sl .nil 0 []), (.lit (.bool false)), (.lit (.int .u8 0)), (.lit (.int .i64 0)), (.lit (.int .i64 0)), (.lit (.int .i64 0)), (.lit (.int .i64 0)), (.sl .nil 0 []), (.lit (.bool false)), (.lit (.int .u8 0)), (.lit (.int .i64 0)), (.lit (.int .i64 0)), (.lit (.int .i64 0)), (.lit (.int .i64 0)), (.sl .nil 0 []), (.lit (.bool false)), (.lit (.int .u8 0)), (.lit (.int .i64 0)), (.lit (.int .i64 0)), (.lit (.int .i64 0)), (.lit (.int .i64 0)), (.sl .nil 0 []), (.lit (.bool false)), (.lit (.int .u8 0)), (.lit (.int .i64 0)), (.lit (.int .i64 0)), (.lit (.int .i64 0)), (.lit (.int .i64 0)), (.sl .nil 0 []), (.lit (.bool false)), (.lit (.int .u8 0)), (.lit (.int .i64 0)), (.lit (.int .i64 0)), (.lit (.int .i64 0)), (.lit (.int .i64 0)), (.sl .nil 0 []), (.lit (.bool false)), (.lit (.int .u8 0)), (.lit (.int .i64 0)), (.lit (.int .i64 0)), (.lit (.int .i64 0)), (.lit (.int .i64 0)), (.sl .nil 0 []), (.lit (.bool false)), (.lit (.int .u8 0)), (.lit (.int .i64 0)), (.lit (.int .i64 0)), (.lit (.int .i64 0)), (.lit (.int .i64 0)), (.sl .nil 0 []), (.lit (.bool false)), (.lit (.int .u8 0)), (.lit (.int .i64 0)), (.lit (.int .i64 0)), (.lit (.int .i64 0)), (.lit (.int .i64 0)), (.sl .nil 0 []), (.lit (.bool false)), (.lit (.int .u8 0)), (.lit (.int .i64 0)), (.lit (.int .i64 0)), (.lit (.int .i64 0)), (.lit (.int .i64 0)), (.sl .nil 0 []), (.lit (.bool false)), (.lit (.int .u8 0)), (.lit (.int .i64 0)), (.lit (.int .i64 0)), (.lit (.int .i64 0)), (.lit (.int .i64 0)), (.sl .nil 0 []), (.lit (.bool false)), (.lit (.int .u8 0)), (.lit (.int .i64 0)), (.lit (.int .i64 0)), (.lit (.int .i64 0)), (.lit (.int .i64 0)), (.sl .nil 0 []), (.lit (.bool false)), (.lit (.int .u8 0)), (.lit (.int .i64 0)), (.lit (.int .i64 0)), (.lit (.int .i64 0)), (.lit (.int .i64 0)), (.sl .nil 0 []), (.lit (.bool false))] [(0, 7, (.tmp 24)), (7, 7, (.tmp 26)), (14, 7, (.tmp 28)), (21, 7, (.tmp 30)), (28, 7, (.tmp 32)), (35, 7, (.tmp 34)), (42, 7, (.tmp 36)), (49, 7, (.tmp 38)), (56, 7, (.tmp 40)), (63, 7, (.tmp 42)), (70, 7, (.tmp 44)), (77, 7, (.tmp 46)), (84, 7, (.tmp 48)), (91, 7, (.tmp 50)), (98, 7, (.tmp 52)), (105, 7, (.tmp 54)), (112, 7, (.tmp 56)), (119, 7, (.tmp 58)), (126, 7, (.tmp 60)), (133, 7, (.tmp 62)), (140, 7, (.tmp 64)), (147, 7, (.tmp 66)), (154, 7, (.tmp 68)), (161, 7, (.tmp 70)), (168, 7, (.tmp 72)), (175, 7, (.tmp 74)), (182, 7, (.tmp 76)), (189, 7, (.tmp 78)), (196, 7, (.tmp 80)), (203, 7, (.tmp 82)), (210, 7, (.tmp 84)), (217, 7, (.tmp 87)), (224, 7, (.tmp 90)), (231, 7, (.tmp 93)), (238, 7, (.tmp 96)), (245, 7, (.tmp 98)), (252, 7, (.tmp 100)), (259, 7, (.tmp 102)), (266, 7, (.tmp 104)), (273, 7, (.tmp 106)), (280, 7, (.tmp 108)), (287, 7, (.tmp 110)), (294, 7, (.tmp 112)), (301, 7, (.tmp 115))], none⟩,
      ⟨some 117, .len 1 (.tmp 116), none⟩,
      ⟨some 118, .val (.val (.lit (.int .i64 0))), none⟩]

def a_nam_x : ACode :=
   .seq a_nam_e (
   .block 0 (
     .loop a_bobbinlaw07_CodeNamesb1))

def a_bobbinlaw07_CodeNames : ACode :=
  .seq (
   .ops [⟨some 0, .val (.val (.lit (.bool false))), none⟩]) (
  .seq (
   .seq (
    .ops [⟨some 4, .call (.val (.fn (.func 8) [] [])) [], none⟩,
      ⟨some 5, .un .not (.tmp 4), none⟩,
      ⟨some 6, .val (.tmp 5), none⟩,
      ⟨some 7, .pick (.tmp 6) (.val (.lit (.bool true))) (.val (.lit (.bool false))), none⟩,
      ⟨some 8, .val (.tmp 7), none⟩,
      ⟨some 9, .pick (.tmp 8) (.val (.lit (.bool true))) (.val (.lit (.bool false))), none⟩,
      ⟨some 10, .val (.tmp 9), none⟩,
      ⟨some 11, .pick (.tmp 10) (.val (.lit (.bool true))) (.val (.lit (.bool false))), none⟩,
      ⟨some 12, .val (.tmp 11), none⟩,
      ⟨some 13, .pick (.tmp 12) (.val (.lit (.bool true))) (.val (.lit (.bool false))), none⟩,
      ⟨some 14, .val (.tmp 13), none⟩,
      ⟨some 15, .pick (.tmp 14) (.val (.lit (.bool true))) (.val (.lit (.bool false))), none⟩,
      ⟨some 16, .val (.tmp 15), none⟩,
      ⟨some 17, .pick (.tmp 16) (.val (.lit (.bool true))) (.val (.lit (.bool false))), none⟩,
      ⟨some 18, .val (.tmp 17), none⟩,
      ⟨some 19, .pick (.tmp 18) (.val (.lit (.bool true))) (.val (.lit (.bool false))), none⟩]) (
   .cond (.tmp 19) (
     .seq (
      .ops [⟨some 0, .val (.val (.lit (.bool false))), none⟩]) (
     .ret)) (
     .skip))) (
  .seq (
   .ops [⟨some 20, .build [(.lit (.int .u8 0)), (.lit (.int .i64 0)), (.lit (.int .i64 0)), (.lit (.int .i64 0)), (.lit (.int .i64 0)), (.sl .nil 0 [])] [(0, 1, (.val (.lit (.int .u8 13))))], none⟩,
     ⟨some 21, .bslice false 6 1 [(.lit (.int .u8 0)), (.lit (.int .i64 0)), (.lit (.int .i64 0)), (.lit (.int .i64 0)), (.lit (.int .i64 0)), (.sl .nil 0 [])] [(0, 6, (.tmp 20))], none⟩,
     ⟨some 22, .call (.val (.fn (.func 19) [] [])) [(.val (.lit (.int .i64 3))), (.tmp 21)], none⟩,
     ⟨some 1, .alloc [(.sl .nil 0 []), (.sl .nil 0 []), (.sl .nil 0 [])], none⟩,
     ⟨none, .store 3 (.tmp 1) (.tmp 22), none⟩]) (
  .seq a_nam_x (
  .seq (
   .ops [⟨some 142, .call (.val (.fn (.func 21) [] [])) [], none⟩,
     ⟨some 143, .val (.tmp 142), none⟩,
     ⟨some 144, .call (.val (.fn (.func 22) [] [])) [], some (143, true)⟩,
     ⟨some 145, .pick (.tmp 143) (.tmp 144) (.val (.lit (.bool false))), none⟩,
     ⟨some 0, .val (.tmp 145), none⟩]) (
  .ret)))))

theorem c_bobbinlaw07_CodeNames : codeOf Tryd.prog { kc := [125] } 6 = some (a_bobbinlaw07_CodeNames, [.tmp 0], 146) := by kernel_rfl

/-- bobbin/bobbinlaw07.programs -/
def a_bobbinlaw07_programsb1 : ACode :=
       .seq (
        .seq (
         .ops [⟨some 125, .val (.tmp 8), none⟩,
           ⟨some 126, .val (.tmp 7), none⟩,
           ⟨some 127, .len 1 (.tmp 126), none⟩,
           ⟨some 128, .bin .lss .num (.tmp 125) (.tmp 127), none⟩]) (
        .cond (.tmp 128) (
          .skip) (
          .exit 4))) (
       .seq (
        .block 5 (
          .seq (
           .ops [⟨some 131, .val (.tmp 7), none⟩,
             ⟨some 132, .val (.tmp 8), none⟩,
             ⟨some 133, .indexAddr 3 (.tmp 131) (.tmp 132), none⟩,
             ⟨some 134, .load true 3 (.tmp 133), none⟩,
             ⟨some 135, .call (.val (.fn (.func 12) [] [])) [(.tmp 134)], none⟩]) (
          .cond (.tmp 135) (
            .seq (
             .ops [⟨some 0, .val (.val (.lit (.bool false))), none⟩]) (
            .ret)) (
            .skip)))) (
       .ops [⟨some 129, .val (.tmp 8), none⟩,
         ⟨some 130, .bin .add .num (.tmp 129) (.val (.lit (.int .i64 1))), none⟩,
         ⟨some 8, .val (.tmp 130), none⟩]))

def a_bobbinlaw07_programsb2 : ACode :=
       .seq (
        .seq (
         .ops [⟨some 42, .val (.tmp 6), none⟩,
           ⟨some 43, .val (.tmp 5), none⟩,
           ⟨some 44, .len 1 (.tmp 43), none⟩,
           ⟨some 45, .bin .lss .num (.tmp 42) (.tmp 44), none⟩]) (
        .cond (.tmp 45) (
          .skip) (
          .exit 2))) (
       .seq (
        .block 3 (
          .seq (
           .ops [⟨some 48, .val (.tmp 5), none⟩,
             ⟨some 49, .val (.tmp 6), none⟩,
             ⟨some 50, .indexAddr 3 (.tmp 48) (.tmp 49), none⟩,
             ⟨some 51, .load true 3 (.tmp 50), none⟩,
             ⟨some 52, .call (.val (.fn (.func 12) [] [])) [(.tmp 51)], none⟩,
             ⟨some 53, .un .not (.tmp 52), none⟩]) (
          .cond (.tmp 53) (
            .seq (
             .ops [⟨some 0, .val (.val (.lit (.bool false))), none⟩]) (
            .ret)) (
            .skip)))) (
       .ops [⟨some 46, .val (.tmp 6), none⟩,
         ⟨some 47, .bin .add .num (.tmp 46) (.val (.lit (.int .i64 1))), none⟩,
         ⟨some 6, .val (.tmp 47), none⟩]))

def a_bobbinlaw07_programsb3 : ACode :=
       .seq (
        .seq (
         .ops [⟨some 12, .val (.tmp 3), none⟩,
           ⟨some 13, .val (.tmp 2), none⟩,
           ⟨some 14, .len 1 (.tmp 13), none⟩,
           ⟨some 15, .bin .lss .num (.tmp 12) (.tmp 14), none⟩]) (
        .cond (.tmp 15) (
          .skip) (
          .exit 0))) (
       .seq (
        .block 1 (
          .ops [⟨some 18, .val (.tmp 2), none⟩,
            ⟨some 19, .val (.tmp 3), none⟩,
            ⟨some 20, .build [(.lit (.int .u8 0)), (.lit (.int .i64 0)), (.lit (.int .i64 0)), (.lit (.int .i64 0)), (.lit (.int .i64 0)), (.sl .nil 0 [])] [(0, 1, (.val (.lit (.int .u8 13))))], none⟩,
            ⟨some 21, .indexAddr 6 (.tmp 18) (.tmp 19), none⟩,
            ⟨none, .store 6 (.tmp 21) (.tmp 20), none⟩])) (
       .ops [⟨some 16, .val (.tmp 3), none⟩,
         ⟨some 17, .bin .add .num (.tmp 16) (.val (.lit (.int .i64 1))), none⟩,
         ⟨some 3, .val (.tmp 17), none⟩]))

def a_prg_l : ACode :=
   .seq (
    .ops [⟨some 3, .val (.val (.lit (.int .i64 0))), none⟩]) (
   .block 0 (
     .loop a_bobbinlaw07_programsb3))

def a_prg_y : ACode :=
   .ops [⟨some 22, .build [(.sl .nil 0 []), (.sl .nil 0 []), (.sl .nil 0 [])] [], none⟩,
     ⟨some 23, .call (.val (.fn (.func 44) [] [])) [(.val (.lit (.int .i64 256)))], none⟩,
     ⟨some 24, .call (.val (.fn (.func 45) [] [])) [(.val (.lit (.int .i64 16)))], none⟩,
     ⟨some 25, .build [(.lit (.string ⟨#[]⟩)), (.lit (.int .i64 0)), (.lit (.int .i64 0))] [(0, 1, (.val (.lit (.string ⟨#[97]⟩)))), (1, 1, (.val (.lit (.int .i64 1024)))), (2, 1, (.val (.lit (.int .i64 (-5)))))], none⟩,
     ⟨some 26, .bslice false 3 1 [(.lit (.string ⟨#[]⟩)), (.lit (.int .i64 0)), (.lit (.int .i64 0))] [(0, 3, (.tmp 25))], none⟩,
     ⟨some 27, .build [(.sl .nil 0 []), (.sl .nil 0 []), (.sl .nil 0 [])] [(0, 1, (.tmp 26))], none⟩,
     ⟨some 28, .val (.tmp 4), none⟩,
     ⟨some 29, .val (.tmp 1), none⟩,
     ⟨some 30, .build [(.lit (.string ⟨#[]⟩)), (.lit (.bool false)), (.lit (.int .i64 0)), (.lit (.int .i64 0)), (.sl .nil 0 [])] [(0, 1, (.val (.lit (.string ⟨#[102]⟩)))), (2, 1, (.val (.lit (.int .i64 8)))), (3, 1, (.val (.lit (.int .i64 4096)))), (4, 1, (.tmp 29))], none⟩,
     ⟨some 31, .call (.tmp 28) [(.tmp 30)], none⟩,
     ⟨some 32, .val (.tmp 4), none⟩,
     ⟨some 33, .val (.tmp 2), none⟩,
     ⟨some 34, .build [(.lit (.string ⟨#[]⟩)), (.lit (.bool false)), (.lit (.int .i64 0)), (.lit (.int .i64 0)), (.sl .nil 0 [])] [(0, 1, (.val (.lit (.string ⟨#[102]⟩)))), (3, 1, (.val (.lit (.int .i64 1)))), (4, 1, (.tmp 33))], none⟩,
     ⟨some 35, .call (.tmp 32) [(.tmp 34)], none⟩,
     ⟨some 36, .val (.tmp 4), none⟩,
     ⟨some 37, .build [(.lit (.int .u8 0)), (.lit (.int .i64 0)), (.lit (.int .i64 0)), (.lit (.int .i64 0)), (.lit (.int .i64 0)), (.sl .nil 0 [])] [(0, 1, (.val (.lit (.int .u8 11))))], none⟩,
     ⟨some 38, .bslice false 6 1 [(.lit (.int .u8 0)), (.lit (.int .i64 0)), (.lit (.int .i64 0)), (.lit (.int .i64 0)), (.lit (.int .i64 0)), (.sl .nil 0 [])] [(0, 6, (.tmp 37))], none⟩,
     ⟨some 39, .build [(.lit (.string ⟨#[]⟩)), (.lit (.bool false)), (.lit (.int .i64 0)), (.lit (.int .i64 0)), (.sl .nil 0 [])] [(0, 1, (.val (.lit (.string ⟨#[102]⟩)))), (4, 1, (.tmp 38))], none⟩,
     ⟨some 40, .call (.tmp 36) [(.tmp 39)], none⟩,
     ⟨some 41, .bslice false 3 7 [(.sl .nil 0 []), (.sl .nil 0 []), (.sl .nil 0 []), (.sl .nil 0 []), (.sl .nil 0 []), (.sl .nil 0 []), (.sl .nil 0 []), (.sl .nil 0 []), (.sl .nil 0 []), (.sl .nil 0 []), (.sl .nil 0 []), (.sl .nil 0 []), (.sl .nil 0 []), (.sl .nil 0 []), (.sl .nil 0 []), (.sl .nil 0 []), (.sl .nil 0 []), (.sl .nil 0 []), (.sl .nil 0 []), (.sl .nil 0 []), (.sl .nil 0 [])] [(0, 3, (.tmp 22)), (3, 3, (.tmp 23)), (6, 3, (.tmp 24)), (9, 3, (.tmp 27)), (12, 3, (.tmp 31)), (15, 3, (.tmp 35)), (18, 3, (.tmp 40))], none⟩,
     ⟨some 5, .val (.tmp 41), none⟩]

def a_prg_a : ACode :=
   .seq (
    .ops [⟨some 6, .val (.val (.lit (.int .i64 0))), none⟩]) (
   .block 2 (
     .loop a_bobbinlaw07_programsb2))

def o_prg0 : List AOper :=
     [⟨some 54, .call (.val (.fn (.func 44) [] [])) [(.val (.lit (.int .i64 257)))], none⟩,
     ⟨some 55, .call (.val (.fn (.func 45) [] [])) [(.val (.lit (.int .i64 17)))], none⟩,
     ⟨some 56, .build [(.lit (.string ⟨#[]⟩)), (.lit (.int .i64 0)), (.lit (.int .i64 0))] [(0, 1, (.val (.lit (.string ⟨#[97]⟩)))), (1, 1, (.val (.lit (.int .i64 1025))))], none⟩,
     ⟨some 57, .bslice false 3 1 [(.lit (.string ⟨#[]⟩)), (.lit (.int .i64 0)), (.lit (.int .i64 0))] [(0, 3, (.tmp 56))], none⟩,
     ⟨some 58, .build [(.sl .nil 0 []), (.sl .nil 0 []), (.sl .nil 0 [])] [(0, 1, (.tmp 57))], none⟩,
     ⟨some 59, .build [(.lit (.string ⟨#[]⟩)), (.lit (.int .i64 0)), (.lit (.int .i64 0))] [(0, 1, (.val (.lit (.string ⟨#[97]⟩))))], none⟩,
     ⟨some 60, .bslice false 3 1 [(.lit (.string ⟨#[]⟩)), (.lit (.int .i64 0)), (.lit (.int .i64 0))] [(0, 3, (.tmp 59))], none⟩,
     ⟨some 61, .build [(.sl .nil 0 []), (.sl .nil 0 []), (.sl .nil 0 [])] [(0, 1, (.tmp 60))], none⟩,
     ⟨some 62, .bslice false 1 1 [(.lit (.string ⟨#[]⟩))] [(0, 1, (.val (.lit (.string ⟨#[105, 102]⟩))))], none⟩,
     ⟨some 63, .build [(.sl .nil 0 []), (.sl .nil 0 []), (.sl .nil 0 [])] [(1, 1, (.tmp 62))], none⟩,
     ⟨some 64, .bslice false 1 2 [(.lit (.string ⟨#[]⟩)), (.lit (.string ⟨#[]⟩))] [(0, 1, (.val (.lit (.string ⟨#[97]⟩)))), (1, 1, (.val (.lit (.string ⟨#[97]⟩))))], none⟩,
     ⟨some 65, .build [(.sl .nil 0 []), (.sl .nil 0 []), (.sl .nil 0 [])] [(1, 1, (.tmp 64))], none⟩,
     ⟨some 66, .bslice false 1 1 [(.lit (.string ⟨#[]⟩))] [(0, 1, (.val (.lit (.string ⟨#[97]⟩))))], none⟩,
     ⟨some 67, .build [(.lit (.string ⟨#[]⟩)), (.lit (.int .i64 0)), (.lit (.int .i64 0))] [(0, 1, (.val (.lit (.string ⟨#[97]⟩)))), (1, 1, (.val (.lit (.int .i64 1))))], none⟩,
     ⟨some 68, .bslice false 3 1 [(.lit (.string ⟨#[]⟩)), (.lit (.int .i64 0)), (.lit (.int .i64 0))] [(0, 3, (.tmp 67))], none⟩,
     ⟨some 69, .build [(.sl .nil 0 []), (.sl .nil 0 []), (.sl .nil 0 [])] [(1, 1, (.tmp 66)), (0, 1, (.tmp 68))], none⟩,
     ⟨some 70, .bslice false 1 1 [(.lit (.string ⟨#[]⟩))] [(0, 1, (.val (.lit (.string ⟨#[102]⟩))))], none⟩,
     ⟨some 71, .val (.tmp 1), none⟩,
     ⟨some 72, .build [(.lit (.string ⟨#[]⟩)), (.lit (.bool false)), (.lit (.int .i64 0)), (.lit (.int .i64 0)), (.sl .nil 0 [])] [(0, 1, (.val (.lit (.string ⟨#[102]⟩)))), (3, 1, (.val (.lit (.int .i64 1)))), (4, 1, (.tmp 71))], none⟩,
     ⟨some 73, .bslice false 5 1 [(.lit (.string ⟨#[]⟩)), (.lit (.bool false)), (.lit (.int .i64 0)), (.lit (.int .i64 0)), (.sl .nil 0 [])] [(0, 5, (.tmp 72))], none⟩,
     ⟨some 74, .build [(.sl .nil 0 []), (.sl .nil 0 []), (.sl .nil 0 [])] [(1, 1, (.tmp 70)), (2, 1, (.tmp 73))], none⟩,
     ⟨some 75, .val (.tmp 4), none⟩,
     ⟨some 76, .val (.tmp 1), none⟩,
     ⟨some 77, .build [(.lit (.string ⟨#[]⟩)), (.lit (.bool false)), (.lit (.int .i64 0)), (.lit (.int .i64 0)), (.sl .nil 0 [])] [(0, 1, (.val (.lit (.string ⟨#[102]⟩)))), (2, 1, (.val (.lit (.int .i64 9)))), (3, 1, (.val (.lit (.int .i64 9)))), (4, 1, (.tmp 76))], none⟩,
     ⟨some 78, .call (.tmp 75) [(.tmp 77)], none⟩,
     ⟨some 79, .val (.tmp 4), none⟩,
     ⟨some 80, .val (.tmp 1), none⟩,
     ⟨some 81, .build [(.lit (.string ⟨#[]⟩)), (.lit (.bool false)), (.lit (.int .i64 0)), (.lit (.int .i64 0)), (.sl .nil 0 [])] [(0, 1, (.val (.lit (.string ⟨#[102]⟩)))), (2, 1, (.val (.lit (.int .i64 (-1))))), (3, 1, (.val (.lit (.int .i64 1)))), (4, 1, (.tmp 80))], none⟩,
     ⟨some 82, .call (.tmp 79) [(.tmp 81)], none⟩,
     ⟨some 83, .val (.tmp 4), none⟩,
     ⟨some 84, .val (.tmp 1), none⟩,
     ⟨some 85, .build [(.lit (.string ⟨#[]⟩)), (.lit (.bool false)), (.lit (.int .i64 0)), (.lit (.int .i64 0)), (.sl .nil 0 [])] [(0, 1, (.val (.lit (.string ⟨#[102]⟩)))), (2, 1, (.val (.lit (.int .i64 2)))), (3, 1, (.val (.lit (.int .i64 1)))), (4, 1, (.tmp 84))], none⟩,
     ⟨some 86, .call (.tmp 83) [(.tmp 85)], none⟩,
     ⟨some 87, .val (.tmp 4), none⟩,
     ⟨some 88, .val (.tmp 1), none⟩,
     ⟨some 89, .build [(.lit (.string ⟨#[]⟩)), (.lit (.bool false)), (.lit (.int .i64 0)), (.lit (.int .i64 0)), (.sl .nil 0 [])] [(0, 1, (.val (.lit (.string ⟨#[102]⟩)))), (1, 1, (.val (.lit (.bool true)))), (2, 1, (.val (.lit (.int .i64 1)))), (3, 1, (.val (.lit (.int .i64 1)))), (4, 1, (.tmp 88))], none⟩,
     ⟨some 90, .call (.tmp 87) [(.tmp 89)], none⟩,
     ⟨some 91, .val (.tmp 4), none⟩,
     ⟨some 92, .val (.tmp 1), none⟩,
     ⟨some 93, .build [(.lit (.string ⟨#[]⟩)), (.lit (.bool false)), (.lit (.int .i64 0)), (.lit (.int .i64 0)), (.sl .nil 0 [])] [(0, 1, (.val (.lit (.string ⟨#[102]⟩)))), (3, 1, (.val (.lit (.int .i64 4097)))), (4, 1, (.tmp 92))], none⟩,
     ⟨some 94, .call (.tmp 91) [(.tmp 93)], none⟩,
     ⟨some 95, .val (.tmp 4), none⟩,
     ⟨some 96, .val (.tmp 1), none⟩,
     ⟨some 97, .build [(.lit (.string ⟨#[]⟩)), (.lit (.bool false)), (.lit (.int .i64 0)), (.lit (.int .i64 0)), (.sl .nil 0 [])] [(0, 1, (.val (.lit (.string ⟨#[102]⟩)))), (4, 1, (.tmp 96))], none⟩,
     ⟨some 98, .call (.tmp 95) [(.tmp 97)], none⟩,
     ⟨some 99, .val (.tmp 4), none⟩,
     ⟨some 100, .build [(.lit (.string ⟨#[]⟩)), (.lit (.bool false)), (.lit (.int .i64 0)), (.lit (.int .i64 0)), (.sl .nil 0 [])] [(0, 1, (.val (.lit (.string ⟨#[102]⟩)))), (3, 1, (.val (.lit (.int .i64 1))))], none⟩,
     ⟨some 101, .call (.tmp 99) [(.tmp 100)], none⟩,
     ⟨some 102, .val (.tmp 4), none⟩,
     ⟨some 103, .val (.tmp 2), none⟩,
     ⟨some 104, .val (.tmp 1), none⟩,
     ⟨some 105, .append false 6 64 (.tmp 103) (.tmp 104), none⟩,
     ⟨some 106, .build [(.lit (.string ⟨#[]⟩)), (.lit (.bool false)), (.lit (.int .i64 0)), (.lit (.int .i64 0)), (.sl .nil 0 [])] [(0, 1, (.val (.lit (.string ⟨#[102]⟩)))), (3, 1, (.val (.lit (.int .i64 1)))), (4, 1, (.tmp 105))], none⟩,
     ⟨some 107, .call (.tmp 102) [(.tmp 106)], none⟩,
     ⟨some 108, .val (.tmp 4), none⟩,
     ⟨some 109, .build [(.lit (.int .u8 0)), (.lit (.int .i64 0)), (.lit (.int .i64 0)), (.lit (.int .i64 0)), (.lit (.int .i64 0)), (.sl .nil 0 [])] [(0, 1, (.val (.lit (.int .u8 9))))], none⟩,
     ⟨some 110, .bslice false 6 1 [(.lit (.int .u8 0)), (.lit (.int .i64 0)), (.lit (.int .i64 0)), (.lit (.int .i64 0)), (.lit (.int .i64 0)), (.sl .nil 0 [])] [(0, 6, (.tmp 109))], none⟩,
     ⟨some 111, .build [(.lit (.string ⟨#[]⟩)), (.lit (.bool false)), (.lit (.int .i64 0)), (.lit (.int .i64 0)), (.sl .nil 0 [])] [(0, 1, (.val (.lit (.string ⟨#[102]⟩)))), (3, 1, (.val (.lit (.int .i64 1)))), (4, 1, (.tmp 110))], none⟩,
     ⟨some 112, .call (.tmp 108) [(.tmp 111)], none⟩,
     ⟨some 113, .val (.tmp 4), none⟩,
     ⟨some 114, .build [(.lit (.int .u8 0)), (.lit (.int .i64 0)), (.lit (.int .i64 0)), (.lit (.int .i64 0)), (.lit (.int .i64 0)), (.sl .nil 0 [])] [(0, 1, (.val (.lit (.int .u8 13))))], none⟩,
     ⟨some 115, .build [(.lit (.int .u8 0)), (.lit (.int .i64 0)), (.lit (.int .i64 0)), (.lit (.int .i64 0)), (.lit (.int .i64 0)), (.sl .nil 0 [])] [(0, 1, (.val (.lit (.int .u8 99))))], none⟩,
     ⟨some 116, .build [(.lit (.int .u8 0)), (.lit (.int .i64 0)), (.lit (.int .i64 0)), (.lit (.int .i64 0)), (.lit (.int .i64 0)), (.sl .nil 0 [])] [(0, 1, (.val (.lit (.int .u8 13))))], none⟩,
     ⟨some 117, .bslice false 6 3 [(.lit (.int .u8 0)), (.lit (.int .i64 0)), (.lit (.int .i64 0)), (.lit (.int .i64 0)), (.lit (.int .i64 0)), (.sl .nil 0 []), (.lit (.int .u8 0)), (.lit (.int .i64 0)), (.lit (.int .i64 0)), (.lit (.int .i64 0)), (.lit (.int .i64 0)), (.sl .nil 0 []), (.lit (.int .u8 0)), (.lit (.int .i64 0)), (.lit (.int .i64 0)), (.lit (.int .i64 0)), (.lit (.int .i64 0)), (.sl .nil 0 [])] [(0, 6, (.tmp 114)), (6, 6, (.tmp 115)), (12, 6, (.tmp 116))], none⟩,
     ⟨some 118, .build [(.lit (.string ⟨#[]⟩)), (.lit (.bool false)), (.lit (.int .i64 0)), (.lit (.int .i64 0)), (.sl .nil 0 [])] [(0, 1, (.val (.lit (.string ⟨#[102]⟩)))), (3, 1, (.val (.lit (.int .i64 1)))), (4, 1, (.tmp 117))], none⟩,
     ⟨some 119, .call (.tmp 113) [(.tmp 118)], none⟩,
     ⟨some 120, .val (.tmp 4), none⟩,
     ⟨some 121, .val (.tmp 1), none⟩,
     ⟨some 122, .build [(.lit (.string ⟨#[]⟩)), (.lit (.bool false)), (.lit (.int .i64 0)), (.lit (.int .i64 0)), (.sl .nil 0 [])] [(3, 1, (.val (.lit (.int .i64 1)))), (4, 1, (.tmp 121))], none⟩,
     ⟨some 123, .call (.tmp 120) [(.tmp 122)], none⟩]

def o_prg1 : List AOper :=
     [⟨some 124, .bslice false 3 19 [(.sl .nil 0 []), (.sl .nil 0 []), (.sl .nil 0 []), (.sl .nil 0 []), (.sl .nil 0 []), (.sl .nil 0 []), (.sl .nil 0 []), (.sl .nil 0 []), (.sl .nil 0 []), (.sl .nil 0 []), (.sl .nil 0 []), (.sl .nil 0 []), (.sl .nil 0 []), (.sl .nil 0 []), (.sl .nil 0 []), (.sl .nil 0 []), (.sl .nil 0 []), (.sl .nil 0 []), (.sl .nil 0 []), (.sl .nil 0 []), (.sl .nil 0 []), (.sl .nil 0 []), (.sl .nil 0 []), (.sl .nil 0 []), (.sl .nil 0 []), (.sl .nil 0 []), (.sl .nil 0 []), (.sl .nil 0 []), (.sl .nil 0 []), (.sl .nil 0 []), (.sl .nil 0 []), (.sl .nil 0 []), (.sl .nil 0 []), (.sl .nil 0 []), (.sl .nil 0 []), (.sl .nil 0 []), (.sl .nil 0 []), (.sl .nil 0 []), (.sl .nil 0 []), (.sl .nil 0 []), (.sl .nil 0 []), (.sl .nil 0 []), (.sl .nil 0 []), (.sl .nil 0 []), (.sl .nil 0 []), (.sl .nil 0 []), (.sl .nil 0 []), (.sl .nil 0 []), (.sl .nil 0 []), (.sl .nil 0 []), (.sl .nil 0 []), (.sl .nil 0 []), (.sl .nil 0 []), (.sl .nil 0 []), (.sl .nil 0 []), (.sl .nil 0 []), (.sl .nil 0 [])] [(0, 3, (.tmp 54)), (3, 3, (.tmp 55)), (6, 3, (.tmp 58)), (9, 3, (.tmp 61)), (12, 3, (.tmp 63)), (15, 3, (.tmp 65)), (18, 3, (.tmp 69)), (21, 3, (.tmp 74)), (24, 3, (.tmp 78)), (27, 3, (.tmp 82)), (30, 3, (.tmp 86)), (33, 3, (.tmp 90)), (36, 3, (.tmp 94)), (39, 3, (.tmp 98)), (42, 3, (.tmp 101)), (45, 3, (.tmp 107)), (48, 3, (.tmp 112)), (51, 3, (.tmp 119)), (54, 3, (.tmp 123))], none⟩,
     ⟨some 7, .val (.tmp 124), none⟩]

def a_prg_n : ACode :=
   .ops (o_prg0 ++ o_prg1)

def a_prg_b : ACode :=
   .seq (
    .ops [⟨some 8, .val (.val (.lit (.int .i64 0))), none⟩]) (
   .block 4 (
     .loop a_bobbinlaw07_programsb1))

def a_prg_m : ACode :=
   .ops [⟨some 11, .mkslice 6 64 [(.lit (.int .u8 0)), (.lit (.int .i64 0)), (.lit (.int .i64 0)), (.lit (.int .i64 0)), (.lit (.int .i64 0)), (.sl .nil 0 [])] (.val (.lit (.int .i64 16384))) (.val (.lit (.int .i64 16384))), none⟩,
     ⟨some 2, .val (.tmp 11), none⟩]

def a_bobbinlaw07_programs : ACode :=
  .seq (
   .ops [⟨some 0, .val (.val (.lit (.bool false))), none⟩]) (
  .seq (
   .ops [⟨some 9, .build [(.lit (.int .u8 0)), (.lit (.int .i64 0)), (.lit (.int .i64 0)), (.lit (.int .i64 0)), (.lit (.int .i64 0)), (.sl .nil 0 [])] [(0, 1, (.val (.lit (.int .u8 13))))], none⟩,
     ⟨some 10, .bslice false 6 1 [(.lit (.int .u8 0)), (.lit (.int .i64 0)), (.lit (.int .i64 0)), (.lit (.int .i64 0)), (.lit (.int .i64 0)), (.sl .nil 0 [])] [(0, 6, (.tmp 9))], none⟩,
     ⟨some 1, .val (.tmp 10), none⟩]) (
  .seq a_prg_m (
  .seq a_prg_l (
  .seq (
   .ops [⟨some 4, .val (.val (.fn (.func 43) [] [])), none⟩]) (
  .seq a_prg_y (
  .seq a_prg_a (
  .seq a_prg_n (
  .seq a_prg_b (
  .seq (
   .ops [⟨some 0, .val (.val (.lit (.bool true))), none⟩]) (
  .ret))))))))))

theorem c_bobbinlaw07_programs : codeOf Tryd.prog {  } 21 = some (a_bobbinlaw07_programs, [.tmp 0], 136) := by kernel_rfl

/-- bobbin/bobbinlaw07.programs$1 -/
def a_bobbinlaw07_programs_1 : ACode :=
  .seq (
   .ops [⟨some 1, .box true (.tmp 0), none⟩,
     ⟨some 2, .alloc [(.sl .nil 0 []), (.sl .nil 0 []), (.sl .nil 0 [])], none⟩]) (
  .seq (
   .ops [⟨some 3, .iload true 5 (.tmp 1), none⟩,
     ⟨some 4, .bslice false 5 1 [(.lit (.string ⟨#[]⟩)), (.lit (.bool false)), (.lit (.int .i64 0)), (.lit (.int .i64 0)), (.sl .nil 0 [])] [(0, 5, (.tmp 3))], none⟩,
     ⟨some 5, .build [(.sl .nil 0 []), (.sl .nil 0 []), (.sl .nil 0 [])] [(2, 1, (.tmp 4))], none⟩,
     ⟨none, .store 3 (.tmp 2) (.tmp 5), none⟩]) (
  .ret))

theorem c_bobbinlaw07_programs_1 : codeOf Tryd.prog { bz := [1], il := [3] } 43 = some (a_bobbinlaw07_programs_1, [.cell 2 3 true], 6) := by kernel_rfl

/-- bobbin/bobbinlaw07.named -/
def a_bobbinlaw07_namedb1 : ACode :=
       .seq (
        .seq (
         .ops [⟨some 6, .val (.tmp 4), none⟩,
           ⟨some 7, .val (.tmp 0), none⟩,
           ⟨some 8, .bin .lss .num (.tmp 6) (.tmp 7), none⟩]) (
        .cond (.tmp 8) (
          .skip) (
          .exit 0))) (
       .seq (
        .block 1 (
          .ops [⟨some 11, .fieldAddr 1 (.tmp 3), none⟩,
            ⟨some 12, .load false 1 (.tmp 11), none⟩,
            ⟨some 13, .val (.tmp 4), none⟩,
            ⟨some 14, .bin .quo .num (.tmp 13) (.val (.lit (.int .i64 26))), none⟩,
            ⟨some 15, .bin .add .num (.val (.lit (.int .i64 97))) (.tmp 14), none⟩,
            ⟨some 16, .conv .u8 (.tmp 15), none⟩,
            ⟨some 17, .val (.tmp 4), none⟩,
            ⟨some 18, .bin .rem .num (.tmp 17) (.val (.lit (.int .i64 26))), none⟩,
            ⟨some 19, .bin .add .num (.val (.lit (.int .i64 97))) (.tmp 18), none⟩,
            ⟨some 20, .conv .u8 (.tmp 19), none⟩,
            ⟨some 21, .bslice false 1 2 [(.lit (.int .u8 0)), (.lit (.int .u8 0))] [(0, 1, (.tmp 16)), (1, 1, (.tmp 20))], none⟩,
            ⟨some 22, .bstr (.tmp 21), none⟩,
            ⟨some 23, .bin .add .num (.val (.lit (.string ⟨#[108]⟩))) (.tmp 22), none⟩,
            ⟨some 24, .bslice false 1 1 [(.lit (.string ⟨#[]⟩))] [(0, 1, (.tmp 23))], none⟩,
            ⟨some 25, .append false 1 16 (.tmp 12) (.tmp 24), none⟩,
            ⟨some 26, .fieldAddr 1 (.tmp 3), none⟩,
            ⟨none, .store 1 (.tmp 26) (.tmp 25), none⟩])) (
       .ops [⟨some 9, .val (.tmp 4), none⟩,
         ⟨some 10, .bin .add .num (.tmp 9) (.val (.lit (.int .i64 1))), none⟩,
         ⟨some 4, .val (.tmp 10), none⟩]))

def a_bobbinlaw07_named : ACode :=
  .seq (
   .ops [⟨some 2, .alloc [(.sl .nil 0 []), (.sl .nil 0 []), (.sl .nil 0 [])], none⟩]) (
  .seq (
   .ops [⟨some 5, .build [(.sl .nil 0 []), (.sl .nil 0 []), (.sl .nil 0 [])] [], none⟩,
     ⟨some 3, .alloc [(.sl .nil 0 []), (.sl .nil 0 []), (.sl .nil 0 [])], none⟩,
     ⟨none, .store 3 (.tmp 3) (.tmp 5), none⟩]) (
  .seq (
   .seq (
    .ops [⟨some 4, .val (.val (.lit (.int .i64 0))), none⟩]) (
   .block 0 (
     .loop a_bobbinlaw07_namedb1))) (
  .seq (
   .ops [⟨some 27, .load true 3 (.tmp 3), none⟩,
     ⟨none, .store 3 (.tmp 2) (.tmp 27), none⟩]) (
  .ret))))

theorem c_bobbinlaw07_named : codeOf Tryd.prog {  } 44 = some (a_bobbinlaw07_named, [.cell 2 3 true], 28) := by kernel_rfl

/-- bobbin/bobbinlaw07.threads -/
def a_bobbinlaw07_threadsb1 : ACode :=
       .seq (
        .seq (
         .ops [⟨some 6, .val (.tmp 4), none⟩,
           ⟨some 7, .val (.tmp 0), none⟩,
           ⟨some 8, .bin .lss .num (.tmp 6) (.tmp 7), none⟩]) (
        .cond (.tmp 8) (
          .skip) (
          .exit 0))) (
       .seq (
        .block 1 (
          .ops [⟨some 11, .fieldAddr 2 (.tmp 3), none⟩,
            ⟨some 12, .load false 1 (.tmp 11), none⟩,
            ⟨some 13, .val (.tmp 4), none⟩,
            ⟨some 14, .bin .add .num (.val (.lit (.int .i64 97))) (.tmp 13), none⟩,
            ⟨some 15, .conv .u8 (.tmp 14), none⟩,
            ⟨some 16, .bslice false 1 1 [(.lit (.int .u8 0))] [(0, 1, (.tmp 15))], none⟩,
            ⟨some 17, .bstr (.tmp 16), none⟩,
            ⟨some 18, .bin .add .num (.val (.lit (.string ⟨#[116]⟩))) (.tmp 17), none⟩,
            ⟨some 19, .build [(.lit (.int .u8 0)), (.lit (.int .i64 0)), (.lit (.int .i64 0)), (.lit (.int .i64 0)), (.lit (.int .i64 0)), (.sl .nil 0 [])] [(0, 1, (.val (.lit (.int .u8 13))))], none⟩,
            ⟨some 20, .bslice false 6 1 [(.lit (.int .u8 0)), (.lit (.int .i64 0)), (.lit (.int .i64 0)), (.lit (.int .i64 0)), (.lit (.int .i64 0)), (.sl .nil 0 [])] [(0, 6, (.tmp 19))], none⟩,
            ⟨some 21, .build [(.lit (.string ⟨#[]⟩)), (.lit (.bool false)), (.lit (.int .i64 0)), (.lit (.int .i64 0)), (.sl .nil 0 [])] [(0, 1, (.tmp 18)), (1, 1, (.val (.lit (.bool true)))), (3, 1, (.val (.lit (.int .i64 1)))), (4, 1, (.tmp 20))], none⟩,
            ⟨some 22, .bslice false 5 1 [(.lit (.string ⟨#[]⟩)), (.lit (.bool false)), (.lit (.int .i64 0)), (.lit (.int .i64 0)), (.sl .nil 0 [])] [(0, 5, (.tmp 21))], none⟩,
            ⟨some 23, .append false 5 64 (.tmp 12) (.tmp 22), none⟩,
            ⟨some 24, .fieldAddr 2 (.tmp 3), none⟩,
            ⟨none, .store 1 (.tmp 24) (.tmp 23), none⟩])) (
       .ops [⟨some 9, .val (.tmp 4), none⟩,
         ⟨some 10, .bin .add .num (.tmp 9) (.val (.lit (.int .i64 1))), none⟩,
         ⟨some 4, .val (.tmp 10), none⟩]))

def a_bobbinlaw07_threads : ACode :=
  .seq (
   .ops [⟨some 2, .alloc [(.sl .nil 0 []), (.sl .nil 0 []), (.sl .nil 0 [])], none⟩]) (
  .seq (
   .ops [⟨some 5, .build [(.sl .nil 0 []), (.sl .nil 0 []), (.sl .nil 0 [])] [], none⟩,
     ⟨some 3, .alloc [(.sl .nil 0 []), (.sl .nil 0 []), (.sl .nil 0 [])], none⟩,
     ⟨none, .store 3 (.tmp 3) (.tmp 5), none⟩]) (
  .seq (
   .seq (
    .ops [⟨some 4, .val (.val (.lit (.int .i64 0))), none⟩]) (
   .block 0 (
     .loop a_bobbinlaw07_threadsb1))) (
  .seq (
   .ops [⟨some 25, .load true 3 (.tmp 3), none⟩,
     ⟨none, .store 3 (.tmp 2) (.tmp 25), none⟩]) (
  .ret))))

theorem c_bobbinlaw07_threads : codeOf Tryd.prog {  } 45 = some (a_bobbinlaw07_threads, [.cell 2 3 true], 26) := by kernel_rfl

/-- bobbin/bobbinlaw07.fields -/
def a_bobbinlaw07_fieldsb1 : ACode :=
       .seq (
        .seq (
         .ops [⟨some 130, .val (.tmp 8), none⟩,
           ⟨some 131, .bin .lss .num (.tmp 130) (.val (.lit (.int .i64 6))), none⟩]) (
        .cond (.tmp 131) (
          .skip) (
          .exit 2))) (
       .seq (
        .block 3 (
          .seq (
           .ops [⟨some 134, .load true 6 (.tmp 7), none⟩,
             ⟨some 9, .alloc [(.lit (.int .u8 0)), (.lit (.int .i64 0)), (.lit (.int .i64 0)), (.lit (.int .i64 0)), (.lit (.int .i64 0)), (.sl .nil 0 [])], none⟩,
             ⟨none, .store 6 (.tmp 9) (.tmp 134), none⟩]) (
          .seq (
           .ops [⟨some 135, .bslice true 1 1 [(.lit (.int .i64 0))] [(0, 1, (.val (.lit (.int .i64 5))))], none⟩,
             ⟨some 136, .fieldAddr 5 (.tmp 9), none⟩,
             ⟨none, .store 1 (.tmp 136) (.tmp 135), none⟩]) (
          .seq (
           .seq (
            .ops [⟨some 137, .val (.tmp 8), none⟩]) (
           .block 4 (
             .seq (
              .ops [⟨some 142, .bin .eql .num (.tmp 137) (.val (.lit (.int .i64 0))), none⟩,
                ⟨some 141, .val (.tmp 142), none⟩]) (
             .cond (.tmp 141) (
               .ops [⟨some 143, .fieldAddr 0 (.tmp 9), none⟩,
                 ⟨none, .store 1 (.tmp 143) (.val (.lit (.int .u8 1))), none⟩]) (
               .seq (
                .ops [⟨some 145, .bin .eql .num (.tmp 137) (.val (.lit (.int .i64 1))), none⟩,
                  ⟨some 144, .val (.tmp 145), none⟩]) (
               .cond (.tmp 144) (
                 .ops [⟨some 146, .fieldAddr 1 (.tmp 9), none⟩,
                   ⟨none, .store 1 (.tmp 146) (.val (.lit (.int .i64 0))), none⟩]) (
                 .seq (
                  .ops [⟨some 148, .bin .eql .num (.tmp 137) (.val (.lit (.int .i64 2))), none⟩,
                    ⟨some 147, .val (.tmp 148), none⟩]) (
                 .cond (.tmp 147) (
                   .ops [⟨some 149, .fieldAddr 2 (.tmp 9), none⟩,
                     ⟨none, .store 1 (.tmp 149) (.val (.lit (.int .i64 0))), none⟩]) (
                   .seq (
                    .ops [⟨some 151, .bin .eql .num (.tmp 137) (.val (.lit (.int .i64 3))), none⟩,
                      ⟨some 150, .val (.tmp 151), none⟩]) (
                   .cond (.tmp 150) (
                     .ops [⟨some 152, .fieldAddr 3 (.tmp 9), none⟩,
                       ⟨none, .store 1 (.tmp 152) (.val (.lit (.int .i64 0))), none⟩]) (
                     .seq (
                      .ops [⟨some 154, .bin .eql .num (.tmp 137) (.val (.lit (.int .i64 4))), none⟩,
                        ⟨some 153, .val (.tmp 154), none⟩]) (
                     .cond (.tmp 153) (
                       .ops [⟨some 155, .fieldAddr 4 (.tmp 9), none⟩,
                         ⟨none, .store 1 (.tmp 155) (.val (.lit (.int .i64 0))), none⟩]) (
                       .ops [⟨some 138, .fieldAddr 5 (.tmp 9), none⟩,
                         ⟨some 139, .load false 1 (.tmp 138), none⟩,
                         ⟨some 140, .indexAddr 1 (.tmp 139) (.val (.lit (.int .i64 0))), none⟩,
                         ⟨none, .store 1 (.tmp 140) (.val (.lit (.int .i64 6))), none⟩]))))))))))))) (
          .seq (
           .ops [⟨some 156, .load true 6 (.tmp 7), none⟩,
             ⟨some 157, .load true 6 (.tmp 9), none⟩,
             ⟨some 158, .call (.val (.fn (.func 18) [] [])) [(.tmp 156), (.tmp 157)], none⟩]) (
          .cond (.tmp 158) (
            .seq (
             .ops [⟨some 0, .val (.val (.lit (.bool false))), none⟩]) (
            .ret)) (
            .skip))))))) (
       .ops [⟨some 132, .val (.tmp 8), none⟩,
         ⟨some 133, .bin .add .num (.tmp 132) (.val (.lit (.int .i64 1))), none⟩,
         ⟨some 8, .val (.tmp 133), none⟩]))

def o_fld0 : List AOper :=
     [⟨some 72, .fieldAddr 0 (.tmp 2), none⟩,
             ⟨some 75, .fieldAddr 6 (.tmp 2), none⟩,
             ⟨some 73, .load true 6 (.tmp 72), none⟩,
             ⟨some 76, .load false 1 (.tmp 75), none⟩,
             ⟨some 74, .kcall (.val (.fn (.func 10) [] [])) [(.tmp 73)], none⟩,
             ⟨some 77, .call (.val (.fn (.func 16) [] [])) [(.tmp 74), (.tmp 76)], none⟩]

def o_fld1 : List AOper :=
     [⟨some 78, .un .not (.tmp 77), none⟩,
             ⟨some 79, .val (.tmp 78), none⟩,
             ⟨some 80, .val (.tmp 4), some (79, false)⟩,
             ⟨some 81, .fieldAddr 7 (.tmp 2), some (79, false)⟩,
             ⟨some 82, .load false 1 (.tmp 81), some (79, false)⟩,
             ⟨some 83, .bin .geq .num (.tmp 82) (.val (.lit (.int .i64 0))), some (79, false)⟩,
             ⟨some 84, .bin .neq .bool (.tmp 80) (.tmp 83), some (79, false)⟩,
             ⟨some 85, .pick (.tmp 79) (.val (.lit (.bool true))) (.tmp 84), none⟩]

def o_fld2 : List AOper :=
     [⟨some 86, .val (.tmp 85), none⟩,
             ⟨some 87, .val (.tmp 4), some (86, false)⟩,
             ⟨some 88, .val (.tmp 87), some (86, false)⟩,
             ⟨some 89, .val (.tmp 3), some (88, true)⟩,
             ⟨some 90, .fieldAddr 7 (.tmp 2), some (88, true)⟩,
             ⟨some 91, .load false 1 (.tmp 90), some (88, true)⟩,
             ⟨some 92, .bin .neq .num (.tmp 89) (.tmp 91), some (88, true)⟩,
             ⟨some 93, .pick (.tmp 88) (.tmp 92) (.val (.lit (.bool false))), some (86, false)⟩,
             ⟨some 94, .pick (.tmp 86) (.val (.lit (.bool true))) (.tmp 93), none⟩]

def o_fld3 : List AOper :=
     [⟨some 95, .val (.tmp 94), none⟩,
             ⟨some 96, .val (.tmp 4), some (95, false)⟩,
             ⟨some 97, .un .not (.tmp 96), some (95, false)⟩,
             ⟨some 98, .val (.tmp 97), some (95, false)⟩,
             ⟨some 99, .val (.tmp 3), some (98, true)⟩,
             ⟨some 100, .bin .neq .num (.tmp 99) (.val (.lit (.int .i64 0))), some (98, true)⟩,
             ⟨some 101, .pick (.tmp 98) (.tmp 100) (.val (.lit (.bool false))), some (95, false)⟩,
             ⟨some 102, .pick (.tmp 95) (.val (.lit (.bool true))) (.tmp 101), none⟩]

def o_fld4 : List AOper :=
     [⟨some 103, .val (.tmp 102), none⟩,
             ⟨some 104, .val (.tmp 6), some (103, false)⟩,
             ⟨some 105, .fieldAddr 8 (.tmp 2), some (103, false)⟩,
             ⟨some 106, .load false 1 (.tmp 105), some (103, false)⟩,
             ⟨some 107, .bin .geq .num (.tmp 106) (.val (.lit (.int .i64 0))), some (103, false)⟩,
             ⟨some 108, .bin .neq .bool (.tmp 104) (.tmp 107), some (103, false)⟩,
             ⟨some 109, .pick (.tmp 103) (.val (.lit (.bool true))) (.tmp 108), none⟩]

def o_fld5 : List AOper :=
     [⟨some 110, .val (.tmp 109), none⟩,
             ⟨some 111, .val (.tmp 6), some (110, false)⟩,
             ⟨some 112, .val (.tmp 111), some (110, false)⟩,
             ⟨some 113, .val (.tmp 5), some (112, true)⟩,
             ⟨some 114, .fieldAddr 8 (.tmp 2), some (112, true)⟩,
             ⟨some 115, .load false 1 (.tmp 114), some (112, true)⟩,
             ⟨some 116, .bin .neq .num (.tmp 113) (.tmp 115), some (112, true)⟩,
             ⟨some 117, .pick (.tmp 112) (.tmp 116) (.val (.lit (.bool false))), some (110, false)⟩,
             ⟨some 118, .pick (.tmp 110) (.val (.lit (.bool true))) (.tmp 117), none⟩]

def o_fld6 : List AOper :=
     [⟨some 119, .val (.tmp 118), none⟩,
             ⟨some 120, .val (.tmp 6), some (119, false)⟩,
             ⟨some 121, .un .not (.tmp 120), some (119, false)⟩,
             ⟨some 122, .val (.tmp 121), some (119, false)⟩,
             ⟨some 123, .val (.tmp 5), some (122, true)⟩,
             ⟨some 124, .bin .neq .num (.tmp 123) (.val (.lit (.int .i64 0))), some (122, true)⟩,
             ⟨some 125, .pick (.tmp 122) (.tmp 124) (.val (.lit (.bool false))), some (119, false)⟩,
             ⟨some 126, .pick (.tmp 119) (.val (.lit (.bool true))) (.tmp 125), none⟩]

def a_fld_t : ACode :=
          .seq (
           .ops (o_fld0 ++ (o_fld1 ++ (o_fld2 ++ (o_fld3 ++ (o_fld4 ++ (o_fld5 ++ o_fld6))))))) (
          .cond (.tmp 126) (
            .seq (
             .ops [⟨some 0, .val (.val (.lit (.bool false))), none⟩]) (
            .ret)) (
            .skip))

def a_bobbinlaw07_fieldsb2 : ACode :=
       .seq (
        .ops [⟨some 57, .bin .lss .num (.tmp 56) (.tmp 55), none⟩]) (
       .seq (
        .cond (.tmp 57) (
          .skip) (
          .exit 0)) (
       .seq (
        .block 1 (
          .seq (
           .ops [⟨some 58, .indexAddr 9 (.tmp 54) (.tmp 56), none⟩,
             ⟨some 59, .load true 9 (.tmp 58), none⟩,
             ⟨some 2, .alloc [(.lit (.int .u8 0)), (.lit (.int .i64 0)), (.lit (.int .i64 0)), (.lit (.int .i64 0)), (.lit (.int .i64 0)), (.sl .nil 0 []), (.sl .nil 0 []), (.lit (.int .i64 0)), (.lit (.int .i64 0))], none⟩,
             ⟨none, .store 9 (.tmp 2) (.tmp 59), none⟩]) (
          .seq (
           .ops [⟨some 61, .fieldAddr 0 (.tmp 2), none⟩,
             ⟨some 62, .load true 6 (.tmp 61), none⟩,
             ⟨some 63, .call (.val (.fn (.func 46) [] [])) [(.tmp 62)], none⟩,
             ⟨some 60, .val (.tmp 63), none⟩,
             ⟨some 64, .extract (.tmp 60) 0, none⟩,
             ⟨some 65, .extract (.tmp 60) 1, none⟩,
             ⟨some 3, .val (.tmp 64), none⟩,
             ⟨some 4, .val (.tmp 65), none⟩]) (
          .seq (
           .ops [⟨some 67, .fieldAddr 0 (.tmp 2), none⟩,
             ⟨some 68, .load true 6 (.tmp 67), none⟩,
             ⟨some 69, .call (.val (.fn (.func 24) [] [])) [(.tmp 68)], none⟩,
             ⟨some 66, .val (.tmp 69), none⟩,
             ⟨some 70, .extract (.tmp 66) 0, none⟩,
             ⟨some 71, .extract (.tmp 66) 1, none⟩,
             ⟨some 5, .val (.tmp 70), none⟩,
             ⟨some 6, .val (.tmp 71), none⟩]) a_fld_t)))) (
       .ops [⟨some 127, .bin .add .num (.tmp 56) (.val (.lit (.int .i64 1))), none⟩,
         ⟨some 56, .val (.tmp 127), none⟩])))

def a_fld_e : ACode :=
    .ops [⟨some 12, .build [(.lit (.int .u8 0)), (.lit (.int .i64 0)), (.lit (.int .i64 0)), (.lit (.int .i64 0)), (.lit (.int .i64 0)), (.sl .nil 0 [])] [(0, 1, (.val (.lit (.int .u8 1)))), (1, 1, (.val (.lit (.int .i64 5)))), (2, 1, (.val (.lit (.int .i64 6))))], none⟩,
      ⟨some 13, .build [(.lit (.int .u8 0)), (.lit (.int .i64 0)), (.lit (.int .i64 0)), (.lit (.int .i64 0)), (.lit (.int .i64 0)), (.sl .nil 0 []), (.sl .nil 0 []), (.lit (.int .i64 0)), (.lit (.int .i64 0))] [(0, 6, (.tmp 12)), (6, 1, (.val (.sl .nil 0 []))), (7, 1, (.val (.lit (.int .i64 5)))), (8, 1, (.val (.lit (.int .i64 (-1)))))], none⟩,
      ⟨some 14, .build [(.lit (.int .u8 0)), (.lit (.int .i64 0)), (.lit (.int .i64 0)), (.lit (.int .i64 0)), (.lit (.int .i64 0)), (.sl .nil 0 [])] [(0, 1, (.val (.lit (.int .u8 2)))), (1, 1, (.val (.lit (.int .i64 5)))), (2, 1, (.val (.lit (.int .i64 6))))], none⟩,
      ⟨some 15, .bslice false 1 1 [(.lit (.int .i64 0))] [(0, 1, (.val (.lit (.int .i64 6))))], none⟩,
      ⟨some 16, .build [(.lit (.int .u8 0)), (.lit (.int .i64 0)), (.lit (.int .i64 0)), (.lit (.int .i64 0)), (.lit (.int .i64 0)), (.sl .nil 0 []), (.sl .nil 0 []), (.lit (.int .i64 0)), (.lit (.int .i64 0))] [(0, 6, (.tmp 14)), (6, 1, (.tmp 15)), (7, 1, (.val (.lit (.int .i64 5)))), (8, 1, (.val (.lit (.int .i64 (-1)))))], none⟩,
      ⟨some 17, .build [(.lit (.int .u8 0)), (.lit (.int .i64 0)), (.lit (.int .i64 0)), (.lit (.int .i64 0)), (.lit (.int .i64 0)), (.sl .nil 0 [])] [(0, 1, (.val (.lit (.int .u8 3)))), (1, 1, (.val (.lit (.int .i64 5)))), (2, 1, (.val (.lit (.int .i64 6))))], none⟩,
      ⟨some 18, .bslice false 1 1 [(.lit (.int .i64 0))] [(0, 1, (.val (.lit (.int .i64 6))))], none⟩,
      ⟨some 19, .build [(.lit (.int .u8 0)), (.lit (.int .i64 0)), (.lit (.int .i64 0)), (.lit (.int .i64 0)), (.lit (.int .i64 0)), (.sl .nil 0 []), (.sl .nil 0 []), (.lit (.int .i64 0)), (.lit (.int .i64 0))] [(0, 6, (.tmp 17)), (6, 1, (.tmp 18)), (7, 1, (.val (.lit (.int .i64 5)))), (8, 1, (.val (.lit (.int .i64 (-1)))))], none⟩,
      ⟨some 20, .build [(.lit (.int .u8 0)), (.lit (.int .i64 0)), (.lit (.int .i64 0)), (.lit (.int .i64 0)), (.lit (.int .i64 0)), (.sl .nil 0 [])] [(0, 1, (.val (.lit (.int .u8 4)))), (1, 1, (.val (.lit (.int .i64 5)))), (2, 1, (.val (.lit (.int .i64 6)))), (3, 1, (.val (.lit (.int .i64 6))))], none⟩,
      ⟨some 21, .bslice false 1 2 [(.lit (.int .i64 0)), (.lit (.int .i64 0))] [(0, 1, (.val (.lit (.int .i64 6)))), (1, 1, (.val (.lit (.int .i64 6))))], none⟩,
      ⟨some 22, .build [(.lit (.int .u8 0)), (.lit (.int .i64 0)), (.lit (.int .i64 0)), (.lit (.int .i64 0)), (.lit (.int .i64 0)), (.sl .nil 0 []), (.sl .nil 0 []), (.lit (.int .i64 0)), (.lit (.int .i64 0))] [(0, 6, (.tmp 20)), (6, 1, (.tmp 21)), (7, 1, (.val (.lit (.int .i64 5)))), (8, 1, (.val (.lit (.int .i64 (-1)))))], none⟩,
      ⟨some 23, .build [(.lit (.int .u8 0)), (.lit (.int .i64 0)), (.lit (.int .i64 0)), (.lit (.int .i64 0)), (.lit (.int .i64 0)), (.sl .nil 0 [])] [(0, 1, (.val (.lit (.int .u8 5)))), (1, 1, (.val (.lit (.int .i64 5)))), (2, 1, (.val (.lit (.int .i64 6))))], none⟩,
      ⟨some 24, .bslice false 1 1 [(.lit (.int .i64 0))] [(0, 1, (.val (.lit (.int .i64 6))))], none⟩,
      ⟨some 25, .build [(.lit (.int .u8 0)), (.lit (.int .i64 0)), (.lit (.int .i64 0)), (.lit (.int .i64 0)), (.lit (.int .i64 0)), (.sl .nil 0 []), (.sl .nil 0 []), (.lit (.int .i64 0)), (.lit (.int .i64 0))] [(0, 6, (.tmp 23)), (6, 1, (.tmp 24)), (7, 1, (.val (.lit (.int .i64 5)))), (8, 1, (.val (.lit (.int .i64 (-1)))))], none⟩,
      ⟨some 26, .build [(.lit (.int .u8 0)), (.lit (.int .i64 0)), (.lit (.int .i64 0)), (.lit (.int .i64 0)), (.lit (.int .i64 0)), (.sl .nil 0 [])] [(0, 1, (.val (.lit (.int .u8 5)))), (1, 1, (.val (.lit (.int .i64 5)))), (2, 1, (.val (.lit (.int .i64 (-1)))))], none⟩,
      ⟨some 27, .build [(.lit (.int .u8 0)), (.lit (.int .i64 0)), (.lit (.int .i64 0)), (.lit (.int .i64 0)), (.lit (.int .i64 0)), (.sl .nil 0 []), (.sl .nil 0 []), (.lit (.int .i64 0)), (.lit (.int .i64 0))] [(0, 6, (.tmp 26)), (6, 1, (.val (.sl .nil 0 []))), (7, 1, (.val (.lit (.int .i64 5)))), (8, 1, (.val (.lit (.int .i64 (-1)))))], none⟩,
      ⟨some 28, .build [(.lit (.int .u8 0)), (.lit (.int .i64 0)), (.lit (.int .i64 0)), (.lit (.int .i64 0)), (.lit (.int .i64 0)), (.sl .nil 0 [])] [(0, 1, (.val (.lit (.int .u8 6)))), (1, 1, (.val (.lit (.int .i64 5)))), (2, 1, (.val (.lit (.int .i64 6)))), (3, 1, (.val (.lit (.int .i64 7))))], none⟩,
      ⟨some 29, .bslice false 1 2 [(.lit (.int .i64 0)), (.lit (.int .i64 0))] [(0, 1, (.val (.lit (.int .i64 6)))), (1, 1, (.val (.lit (.int .i64 7))))], none⟩,
      ⟨some 30, .build [(.lit (.int .u8 0)), (.lit (.int .i64 0)), (.lit (.int .i64 0)), (.lit (.int .i64 0)), (.lit (.int .i64 0)), (.sl .nil 0 []), (.sl .nil 0 []), (.lit (.int .i64 0)), (.lit (.int .i64 0))] [(0, 6, (.tmp 28)), (6, 1, (.tmp 29)), (7, 1, (.val (.lit (.int .i64 (-1))))), (8, 1, (.val (.lit (.int .i64 (-1)))))], none⟩,
      ⟨some 31, .build [(.lit (.int .u8 0)), (.lit (.int .i64 0)), (.lit (.int .i64 0)), (.lit (.int .i64 0)), (.lit (.int .i64 0)), (.sl .nil 0 [])] [(0, 1, (.val (.lit (.int .u8 7)))), (4, 1, (.val (.lit (.int .i64 5))))], none⟩,
      ⟨some 32, .build [(.lit (.int .u8 0)), (.lit (.int .i64 0)), (.lit (.int .i64 0)), (.lit (.int .i64 0)), (.lit (.int .i64 0)), (.sl .nil 0 []), (.sl .nil 0 []), (.lit (.int .i64 0)), (.lit (.int .i64 0))] [(0, 6, (.tmp 31)), (6, 1, (.val (.sl .nil 0 []))), (7, 1, (.val (.lit (.int .i64 (-1))))), (8, 1, (.val (.lit (.int .i64 (-1)))))], none⟩,
      ⟨some 33, .build [(.lit (.int .u8 0)), (.lit (.int .i64 0)), (.lit (.int .i64 0)), (.lit (.int .i64 0)), (.lit (.int .i64 0)), (.sl .nil 0 [])] [(0, 1, (.val (.lit (.int .u8 8)))), (4, 1, (.val (.lit (.int .i64 5))))], none⟩,
      ⟨some 34, .build [(.lit (.int .u8 0)), (.lit (.int .i64 0)), (.lit (.int .i64 0)), (.lit (.int .i64 0)), (.lit (.int .i64 0)), (.sl .nil 0 []), (.sl .nil 0 []), (.lit (.int .i64 0)), (.lit (.int .i64 0))] [(0, 6, (.tmp 33)), (6, 1, (.val (.sl .nil 0 []))), (7, 1, (.val (.lit (.int .i64 (-1))))), (8, 1, (.val (.lit (.int .i64 (-1)))))], none⟩,
      ⟨some 35, .build [(.lit (.int .u8 0)), (.lit (.int .i64 0)), (.lit (.int .i64 0)), (.lit (.int .i64 0)), (.lit (.int .i64 0)), (.sl .nil 0 [])] [(0, 1, (.val (.lit (.int .u8 9)))), (2, 1, (.val (.lit (.int .i64 6))))], none⟩,
      ⟨some 36, .bslice false 1 1 [(.lit (.int .i64 0))] [(0, 1, (.val (.lit (.int .i64 6))))], none⟩,
      ⟨some 37, .build [(.lit (.int .u8 0)), (.lit (.int .i64 0)), (.lit (.int .i64 0)), (.lit (.int .i64 0)), (.lit (.int .i64 0)), (.sl .nil 0 []), (.sl .nil 0 []), (.lit (.int .i64 0)), (.lit (.int .i64 0))] [(0, 6, (.tmp 35)), (6, 1, (.tmp 36)), (7, 1, (.val (.lit (.int .i64 (-1))))), (8, 1, (.val (.lit (.int .i64 (-1)))))], none⟩,
      ⟨some 38, .bslice false 1 2 [(.lit (.int .i64 0)), (.lit (.int .i64 0))] [(0, 1, (.val (.lit (.int .i64 7)))), (1, 1, (.val (.lit (.int .i64 6))))], none⟩,
      ⟨some 39, .build [(.lit (.int .u8 0)), (.lit (.int .i64 0)), (.lit (.int .i64 0)), (.lit (.int .i64 0)), (.lit (.int .i64 0)), (.sl .nil 0 [])] [(0, 1, (.val (.lit (.int .u8 10)))), (1, 1, (.val (.lit (.int .i64 5)))), (2, 1, (.val (.lit (.int .i64 9)))), (5, 1, (.tmp 38))], none⟩,
      ⟨some 40, .bslice false 1 2 [(.lit (.int .i64 0)), (.lit (.int .i64 0))] [(0, 1, (.val (.lit (.int .i64 7)))), (1, 1, (.val (.lit (.int .i64 6))))], none⟩,
      ⟨some 41, .build [(.lit (.int .u8 0)), (.lit (.int .i64 0)), (.lit (.int .i64 0)), (.lit (.int .i64 0)), (.lit (.int .i64 0)), (.sl .nil 0 []), (.sl .nil 0 []), (.lit (.int .i64 0)), (.lit (.int .i64 0))] [(0, 6, (.tmp 39)), (6, 1, (.tmp 40)), (7, 1, (.val (.lit (.int .i64 5)))), (8, 1, (.val (.lit (.int .i64 (-1)))))], none⟩,
      ⟨some 42, .build [(.lit (.int .u8 0)), (.lit (.int .i64 0)), (.lit (.int .i64 0)), (.lit (.int .i64 0)), (.lit (.int .i64 0)), (.sl .nil 0 [])] [(0, 1, (.val (.lit (.int .u8 11)))), (2, 1, (.val (.lit (.int .i64 4)))), (4, 1, (.val (.lit (.int .i64 3))))], none⟩,
      ⟨some 43, .build [(.lit (.int .u8 0)), (.lit (.int .i64 0)), (.lit (.int .i64 0)), (.lit (.int .i64 0)), (.lit (.int .i64 0)), (.sl .nil 0 []), (.sl .nil 0 []), (.lit (.int .i64 0)), (.lit (.int .i64 0))] [(0, 6, (.tmp 42)), (6, 1, (.val (.sl .nil 0 []))), (7, 1, (.val (.lit (.int .i64 (-1))))), (8, 1, (.val (.lit (.int .i64 3))))], none⟩,
      ⟨some 44, .build [(.lit (.int .u8 0)), (.lit (.int .i64 0)), (.lit (.int .i64 0)), (.lit (.int .i64 0)), (.lit (.int .i64 0)), (.sl .nil 0 [])] [(0, 1, (.val (.lit (.int .u8 12)))), (2, 1, (.val (.lit (.int .i64 6)))), (4, 1, (.val (.lit (.int .i64 3))))], none⟩,
      ⟨some 45, .bslice false 1 1 [(.lit (.int .i64 0))] [(0, 1, (.val (.lit (.int .i64 6))))], none⟩,
      ⟨some 46, .build [(.lit (.int .u8 0)), (.lit (.int .i64 0)), (.lit (.int .i64 0)), (.lit (.int .i64 0)), (.lit (.int .i64 0)), (.sl .nil 0 []), (.sl .nil 0 []), (.lit (.int .i64 0)), (.lit (.int .i64 0))] [(0, 6, (.tmp 44)), (6, 1, (.tmp 45)), (7, 1, (.val (.lit (.int .i64 (-1))))), (8, 1, (.val (.lit (.int .i64 3))))], none⟩,
      ⟨some 47, .build [(.lit (.int .u8 0)), (.lit (.int .i64 0)), (.lit (.int .i64 0)), (.lit (.int .i64 0)), (.lit (.int .i64 0)), (.sl .nil 0 [])] [(0, 1, (.val (.lit (.int .u8 13)))), (2, 1, (.val (.lit (.int .i64 6)))), (4, 1, (.val (.lit (.int .i64 3))))], none⟩,
      ⟨some 48, .bslice false 1 1 [(.lit (.int .i64 0))] [(0, 1, (.val (.lit (.int .i64 6))))], none⟩,
      ⟨some 49, .build [(.lit (.int .u8 0)), (.lit (.int .i64 0)), (.lit (.int .i64 0)), (.lit (.int .i64 0)), (.lit (.int .i64 0)), (.sl .nil 0 []), (.sl .nil 0 []), (.lit (.int .i64 0)), (.lit (.int .i64 0))] [(0, 6, (.tmp 47)), (6, 1, (.tmp 48)), (7, 1, (.val (.lit (.int .i64 (-1))))), (8, 1, (.val (.lit (.int .i64 (-1)))))], none⟩,
      ⟨some 50, .build [(.lit (.int .u8 0)), (.lit (.int .i64 0)), (.lit (.int .i64 0)), (.lit (.int .i64 0)), (.lit (.int .i64 0)), (.sl .nil 0 [])] [(0, 1, (.val (.lit (.int .u8 99)))), (2, 1, (.val (.lit (.int .i64 6)))), (1, 1, (.val (.lit (.int .i64 5)))), (4, 1, (.val (.lit (.int .i64 3))))], none⟩,
      ⟨some 51, .build [(.lit (.int .u8 0)), (.lit (.int .i64 0)), (.lit (.int .i64 0)), (.lit (.int .i64 0)), (.lit (.int .i64 0)), (.sl .nil 0 []), (.sl .nil 0 []), (.lit (.int .i64 0)), (.lit (.int .i64 0))] [(0, 6, (.tmp 50)), (6, 1, (.val (.sl .nil 0 []))), (7, 1, (.val (.lit (.int .i64 (-1))))), (8, 1, (.val (.lit (.int .i64 (-1)))))], none⟩,
      ⟨some 52, .build [(.lit (.int .u8 0)), (.lit (.int .i64 0)), (.lit (.int .i64 0)), (.lit (.int .i64 0)), (.lit (.int .i64 0)), (.sl .nil 0 [])] [(2, 1, (.val (.lit (.int .i64 6))))], none⟩,
      ⟨some 53, .build [(.lit (.int .u8 0)), (.lit (.int .i64 0)), (.lit (.int .i64 0)), (.lit (.int .i64 0)), (.lit (.int .i64 0)), (.sl .nil 0 []), (.sl .nil 0 []), (.lit (.int .i64 0)), (.lit (.int .i64 0))] [(0, 6, (.tmp 52)), (6, 1, (.val (.sl .nil 0 []))), (7, 1, (.val (.lit (.int .i64 (-1))))), (8, 1, (.val (.lit (.int .i64 (-1)))))], none⟩,
      ⟨some 54, .bslice false 9 16 [(.lit (.int .u8 0)), (.lit (.int .i64 0)), (.lit (.int .i64 0)), (.lit (.int .i64 0)), (.lit (.int .i64 0)), (.sl .nil 0 []), (.sl .nil 0 []), (.lit (.int .i64 0)), (.lit (.int .i64 0)), (.lit (.int .u8 0)), (.lit (.int .i64 0)), (.lit (.int .i64 0)), (.lit (.int .i64 0)), (.lit (.int .i64 0)), (.sl .nil 0 []), (.sl .nil 0 []), (.lit (.int .i64 0)), (.lit (.int .i64 0)), (.lit (.int .u8 0)), (.lit (.int .i64 0)), (.lit (.int .i64 0)), (.lit (.int .i64 0)), (.lit (.int .i64 0)), (.sl .nil 0 []), (.sl .nil 0 []), (.lit (.int .i64 0)), (.lit (.int .i64 0)), (.lit (.int .u8 0)), (.lit (.int .i64 0)), (.lit (.int .i64 0)), (.lit (.int .i64 0)), (.lit (.int .i64 0)), (.sl .nil 0 []), (.sl .nil 0 []), (.lit (.int .i64 0)), (.lit (.int .i64 0)), (.lit (.int .u8 0)), (.lit (.int .i64 0)), (.lit (.int .i64 0)), (.lit (.int .i64 0)), (.lit (.int .i64 0)), (.sl .nil 0 []), (.sl .nil 0 []), (.lit (.int .i64 0)), (.lit (.int .i64 0)), (.lit (.int .u8 0)), (.lit (.int .i64 0)), (.lit (.int .i64 0)), (.lit (.int .i64 0)), (.lit (.int .i64 0)), (.sl .nil 0 []), (.sl .nil 0 []), (.lit (.int .i64 0)), (.lit (.int .i64 0)), (.lit (.int .u8 0)), (.lit (.int .i64 0)), (.lit (.int .i64 0)), (.lit (.int .i64 0)), (.lit (.int .i64 0)), (.sl .nil 0 []), (.sl .nil 0 []), (.lit (.int .i64 0)), (.lit (.int .i64 0)), (.lit (.int .u8 0)), (.lit (.int .i64 0)), (.lit (.int .i64 0)), (.lit (.int .i64 0)), (.lit (.int .i64 0)), (.sl .nil 0 []), (.sl .nil 0 []), (.lit (.int .i64 0)), (.lit (.int .i64 0)), (.lit (.int .u8 0)), (.lit (.int .i64 0)), (.lit (.int .i64 0)), (.lit (.int .i64 0)), (.lit (.int .i64 0)), (.sl .nil 0 []), (.sl .nil 0 []), (.lit (.int .i64 0)), (.lit (.int .i64 0)), (.lit (.int .u8 0)), (.lit (.int .i64 0)), (.lit (.int .i64 0)), (.lit (.int .i64 0)), (.lit (.int .i64 0)), (.sl .nil 0 []), (.sl .nil 0 []), (.lit (.int .i64 0)), (.lit (.int .i64 0)), (.lit (.int .u8 0)), (.lit (.int .i64 0)), (.lit (.int .i64 0)), (.lit (.int .i64 0)), (.lit (.int .i64 0)), (.sl .nil 0 []), (.sl .nil 0 []), (.lit (.int .i64 0)), (.lit (.int .i64 0)), (.lit (.int .u8 0)), (.lit (.int .i64 0)), (.lit (.int .i64 0)), (.lit (.int .i64 0)), (.lit (.int .i64 0)), (.sl .nil 0 []), (.sl .nil 0 []), (.lit (.int .i64 0)), (.lit (.int .i64 0)), (.lit (.int .u8 0)), (.lit (.int .i64 0)), (.lit (.int .i64 0)), (.lit (.int .i64 0)), (.lit (.int .i64 0)), (.sl .nil 0 []), (.sl .nil 0 []), (.lit (.int .i64 0)), (.lit (.int .i64 0)), (.lit (.int .u8 0)), (.lit (.int .i64 0)), (.lit (.int .i64 0)), (.lit (.int .i64 0)), (.lit (.int .i64 0)), (.sl .nil 0 []), (.sl .nil 0 []), (.lit (.int .i64 0)), (.lit (.int .i64 0)), (.lit (.int .u8 0)), (.lit (.int .i64 0)), (.lit (.int .i64 0)), (.lit (.int .i64 0)), (.lit (.int .i64 0)), (.sl .nil 0 []), (.sl .nil 0 []), (.lit (.int .i64 0)), (.lit (.int .i64 0)), (.lit (.int .u8 0)), (.lit (.int .i64 0)), (.lit (.int .i64 0)), (.lit (.int .i64 0)), (.lit (.int .i64 0)), (.sl .nil 0 []), (.sl .nil 0 []), (.lit (.int .i64 0)), (.lit (.int .i64 0))] [(0, 9, (.tmp 13)), (9, 9, (.tmp 16)), (18, 9, (.tmp 19)), (27, 9, (.tmp 22)), (36, 9, (.tmp 25)), (45, 9, (.tmp 27)), (54, 9, (.tmp 30)), (63, 9, (.tmp 32)), (72, 9, (.tmp 34)), (81, 9, (.tmp 37)), (90, 9, (.tmp 41)), (99, 9, (.tmp 43)), (108, 9, (.tmp 46)), (117, 9, (.tmp 49)), (126, 9, (.tmp 51)), (135, 9, (.tmp 53))], none⟩,
      ⟨some 55, .len 1 (.tmp 54), none⟩,
      ⟨some 56, .val (.val (.lit (.int .i64 0))), none⟩]

def a_fld_x : ACode :=
   .seq a_fld_e (
   .block 0 (
     .loop a_bobbinlaw07_fieldsb2))

def a_fld_y : ACode :=
   .seq (
    .ops [⟨some 8, .val (.val (.lit (.int .i64 0))), none⟩]) (
   .block 2 (
     .loop a_bobbinlaw07_fieldsb1))

def a_fld_z : ACode :=
   .ops [⟨some 165, .load true 6 (.tmp 7), none⟩,
     ⟨some 166, .load true 6 (.tmp 7), none⟩,
     ⟨some 167, .call (.val (.fn (.func 18) [] [])) [(.tmp 165), (.tmp 166)], none⟩,
     ⟨some 168, .val (.tmp 167), none⟩,
     ⟨some 169, .load true 3 (.tmp 10), some (168, true)⟩,
     ⟨some 170, .load true 3 (.tmp 10), some (168, true)⟩,
     ⟨some 171, .call (.val (.fn (.func 14) [] [])) [(.tmp 169), (.tmp 170)], some (168, true)⟩,
     ⟨some 172, .pick (.tmp 168) (.tmp 171) (.val (.lit (.bool false))), none⟩,
     ⟨some 173, .val (.tmp 172), none⟩,
     ⟨some 174, .load true 3 (.tmp 10), some (173, true)⟩,
     ⟨some 175, .load true 3 (.tmp 11), some (173, true)⟩,
     ⟨some 176, .call (.val (.fn (.func 14) [] [])) [(.tmp 174), (.tmp 175)], some (173, true)⟩,
     ⟨some 177, .un .not (.tmp 176), some (173, true)⟩,
     ⟨some 178, .pick (.tmp 173) (.tmp 177) (.val (.lit (.bool false))), none⟩,
     ⟨some 179, .val (.tmp 178), none⟩,
     ⟨some 180, .load true 3 (.tmp 10), some (179, true)⟩,
     ⟨some 181, .build [(.sl .nil 0 []), (.sl .nil 0 []), (.sl .nil 0 [])] [], some (179, true)⟩,
     ⟨some 182, .call (.val (.fn (.func 14) [] [])) [(.tmp 180), (.tmp 181)], some (179, true)⟩,
     ⟨some 183, .un .not (.tmp 182), some (179, true)⟩,
     ⟨some 184, .pick (.tmp 179) (.tmp 183) (.val (.lit (.bool false))), none⟩,
     ⟨some 185, .val (.tmp 184), none⟩,
     ⟨some 186, .load true 3 (.tmp 10), some (185, true)⟩,
     ⟨some 187, .call (.val (.fn (.func 9) [] [])) [(.tmp 186)], some (185, true)⟩,
     ⟨some 188, .bslice false 1 1 [(.lit (.int .i64 0))] [(0, 1, (.val (.lit (.int .i64 0))))], some (185, true)⟩,
     ⟨some 189, .call (.val (.fn (.func 16) [] [])) [(.tmp 187), (.tmp 188)], some (185, true)⟩,
     ⟨some 190, .pick (.tmp 185) (.tmp 189) (.val (.lit (.bool false))), none⟩,
     ⟨some 0, .val (.tmp 190), none⟩]

def a_bobbinlaw07_fields : ACode :=
  .seq (
   .ops [⟨some 0, .val (.val (.lit (.bool false))), none⟩]) (
  .seq a_fld_x (
  .seq (
   .ops [⟨some 128, .bslice false 1 1 [(.lit (.int .i64 0))] [(0, 1, (.val (.lit (.int .i64 5))))], none⟩,
     ⟨some 129, .build [(.lit (.int .u8 0)), (.lit (.int .i64 0)), (.lit (.int .i64 0)), (.lit (.int .i64 0)), (.lit (.int .i64 0)), (.sl .nil 0 [])] [(0, 1, (.val (.lit (.int .u8 10)))), (1, 1, (.val (.lit (.int .i64 1)))), (2, 1, (.val (.lit (.int .i64 2)))), (3, 1, (.val (.lit (.int .i64 3)))), (4, 1, (.val (.lit (.int .i64 4)))), (5, 1, (.tmp 128))], none⟩,
     ⟨some 7, .alloc [(.lit (.int .u8 0)), (.lit (.int .i64 0)), (.lit (.int .i64 0)), (.lit (.int .i64 0)), (.lit (.int .i64 0)), (.sl .nil 0 [])], none⟩,
     ⟨none, .store 6 (.tmp 7) (.tmp 129), none⟩]) (
  .seq a_fld_y (
  .seq (
   .ops [⟨some 159, .build [(.lit (.int .u8 0)), (.lit (.int .i64 0)), (.lit (.int .i64 0)), (.lit (.int .i64 0)), (.lit (.int .i64 0)), (.sl .nil 0 [])] [(0, 1, (.val (.lit (.int .u8 13))))], none⟩,
     ⟨some 160, .bslice false 6 1 [(.lit (.int .u8 0)), (.lit (.int .i64 0)), (.lit (.int .i64 0)), (.lit (.int .i64 0)), (.lit (.int .i64 0)), (.sl .nil 0 [])] [(0, 6, (.tmp 159))], none⟩,
     ⟨some 161, .call (.val (.fn (.func 19) [] [])) [(.val (.lit (.int .i64 1))), (.tmp 160)], none⟩,
     ⟨some 10, .alloc [(.sl .nil 0 []), (.sl .nil 0 []), (.sl .nil 0 [])], none⟩,
     ⟨none, .store 3 (.tmp 10) (.tmp 161), none⟩]) (
  .seq (
   .ops [⟨some 162, .build [(.lit (.int .u8 0)), (.lit (.int .i64 0)), (.lit (.int .i64 0)), (.lit (.int .i64 0)), (.lit (.int .i64 0)), (.sl .nil 0 [])] [(0, 1, (.val (.lit (.int .u8 13)))), (2, 1, (.val (.lit (.int .i64 1))))], none⟩,
     ⟨some 163, .bslice false 6 1 [(.lit (.int .u8 0)), (.lit (.int .i64 0)), (.lit (.int .i64 0)), (.lit (.int .i64 0)), (.lit (.int .i64 0)), (.sl .nil 0 [])] [(0, 6, (.tmp 162))], none⟩,
     ⟨some 164, .call (.val (.fn (.func 19) [] [])) [(.val (.lit (.int .i64 1))), (.tmp 163)], none⟩,
     ⟨some 11, .alloc [(.sl .nil 0 []), (.sl .nil 0 []), (.sl .nil 0 [])], none⟩,
     ⟨none, .store 3 (.tmp 11) (.tmp 164), none⟩]) (
  .seq a_fld_z (
  .ret)))))))

theorem c_bobbinlaw07_fields : codeOf Tryd.prog { mu := [135], kc := [74] } 22 = some (a_bobbinlaw07_fields, [.tmp 0], 191) := by kernel_rfl

end Go.Proofs.YtanpcmkhhpaeiaaDoor
