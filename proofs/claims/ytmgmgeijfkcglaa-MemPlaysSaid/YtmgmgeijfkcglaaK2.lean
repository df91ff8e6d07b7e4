/- The code of mem's functions, compiled (printed by wip/tools/pa.sh and pk.py): the memory. -/
import Derived.Test.YtmgmgeijfkcglaaK1
namespace Go.Proofs.Ytmgmgeijfkcglaa
set_option linter.unusedSimpArgs false
set_option linter.unusedVariables false
open Go Go.Fw
/-- bobbin/bobbinlaw08.awake -/
def a15 : ACode :=
  .seq (
   .ops [⟨some 0, .val (.val (.lit (.bool false))), none⟩]) (
  .seq (
   .ops [⟨some 13, .build [(.lit (.string ⟨#[]⟩)), (.lit (.int .i64 0)), (.lit (.int .i64 0))] [(1, 1, (.val (.lit (.int .i64 2)))), (2, 1, (.val (.lit (.int .i64 7))))], none⟩,
     ⟨some 14, .bslice false 3 1 [(.lit (.string ⟨#[]⟩)), (.lit (.int .i64 0)), (.lit (.int .i64 0))] [(0, 3, (.tmp 13))], none⟩,
     ⟨some 15, .call (.val (.fn (.func 20) [] [])) [(.tmp 14), (.val (.lit (.int .i64 1)))], none⟩,
     ⟨some 12, .val (.tmp 15), none⟩,
     ⟨some 16, .extract (.tmp 12) 0, none⟩,
     ⟨some 17, .extract (.tmp 12) 1, none⟩,
     ⟨some 1, .val (.tmp 16), none⟩,
     ⟨some 2, .val (.tmp 17), none⟩]) (
  .seq (
   .seq (
    .ops [⟨some 18, .val (.tmp 2), none⟩,
      ⟨some 19, .bin .neq .num (.tmp 18) (.val (.lit (.int .i64 0))), none⟩,
      ⟨some 20, .val (.tmp 19), none⟩,
      ⟨some 21, .val (.tmp 1), some (20, false)⟩,
      ⟨some 22, .call (.val (.fn (.func 21) [] [])) [(.tmp 21), (.val (.lit (.int .i64 0))), (.val (.lit (.int .i64 1))), (.val (.lit (.int .i64 5)))], some (20, false)⟩,
      ⟨some 23, .bin .neq .num (.tmp 22) (.val (.lit (.int .i64 0))), some (20, false)⟩,
      ⟨some 24, .pick (.tmp 20) (.val (.lit (.bool true))) (.tmp 23), none⟩,
      ⟨some 25, .val (.tmp 24), none⟩,
      ⟨some 26, .val (.tmp 1), some (25, false)⟩,
      ⟨some 27, .call (.val (.fn (.func 22) [] [])) [(.tmp 26), (.val (.lit (.int .i64 0))), (.val (.lit (.int .i64 3)))], some (25, false)⟩,
      ⟨some 28, .bin .neq .num (.tmp 27) (.val (.lit (.int .i64 0))), some (25, false)⟩,
      ⟨some 29, .pick (.tmp 25) (.val (.lit (.bool true))) (.tmp 28), none⟩]) (
   .cond (.tmp 29) (
     .seq (
      .ops [⟨some 0, .val (.val (.lit (.bool false))), none⟩]) (
     .ret)) (
     .skip))) (
  .seq (
   .ops [⟨some 30, .val (.tmp 1), none⟩,
     ⟨some 31, .call (.val (.fn (.func 26) [] [])) [(.tmp 30)], none⟩,
     ⟨some 3, .val (.tmp 31), none⟩]) (
  .seq (
   .ops [⟨some 33, .val (.tmp 1), none⟩,
     ⟨some 34, .call (.val (.fn (.func 25) [] [])) [(.tmp 33), (.val (.lit (.int .i64 0)))], none⟩,
     ⟨some 32, .val (.tmp 34), none⟩,
     ⟨some 35, .extract (.tmp 32) 0, none⟩,
     ⟨some 36, .extract (.tmp 32) 1, none⟩,
     ⟨some 4, .val (.tmp 35), none⟩,
     ⟨some 5, .val (.tmp 36), none⟩]) (
  .seq (
   .ops [⟨some 38, .val (.tmp 1), none⟩,
     ⟨some 39, .call (.val (.fn (.func 24) [] [])) [(.tmp 38), (.val (.lit (.int .i64 0))), (.val (.lit (.int .i64 2)))], none⟩,
     ⟨some 37, .val (.tmp 39), none⟩,
     ⟨some 40, .extract (.tmp 37) 0, none⟩,
     ⟨some 41, .extract (.tmp 37) 1, none⟩,
     ⟨some 6, .val (.tmp 40), none⟩,
     ⟨some 7, .val (.tmp 41), none⟩]) (
  .seq (
   .ops [⟨some 43, .call (.val (.fn (.func 13) [] [])) [(.val (.lit (.int .u8 11))), (.val (.lit (.int .i64 (-7)))), (.val (.lit (.int .i64 2)))], none⟩,
     ⟨some 42, .val (.tmp 43), none⟩,
     ⟨some 44, .extract (.tmp 42) 0, none⟩,
     ⟨some 45, .extract (.tmp 42) 1, none⟩,
     ⟨some 8, .val (.tmp 44), none⟩,
     ⟨some 9, .val (.tmp 45), none⟩]) (
  .seq (
   .ops [⟨some 47, .call (.val (.fn (.func 13) [] [])) [(.val (.lit (.int .u8 10))), (.val (.lit (.int .i64 1))), (.val (.lit (.int .i64 0)))], none⟩,
     ⟨some 46, .val (.tmp 47), none⟩,
     ⟨some 48, .extract (.tmp 46) 0, none⟩,
     ⟨some 49, .extract (.tmp 46) 1, none⟩,
     ⟨some 10, .val (.tmp 48), none⟩,
     ⟨some 11, .val (.tmp 49), none⟩]) (
  .seq (
   .ops [⟨some 50, .val (.tmp 3), none⟩,
     ⟨some 51, .len 1 (.tmp 50), none⟩,
     ⟨some 52, .bin .eql .num (.tmp 51) (.val (.lit (.int .i64 1))), none⟩,
     ⟨some 53, .val (.tmp 52), none⟩,
     ⟨some 54, .val (.tmp 3), some (53, true)⟩,
     ⟨some 55, .indexAddr 1 (.tmp 54) (.val (.lit (.int .i64 0))), some (53, true)⟩,
     ⟨some 56, .load false 1 (.tmp 55), some (53, true)⟩,
     ⟨some 57, .len 1 (.tmp 56), some (53, true)⟩,
     ⟨some 58, .bin .eql .num (.tmp 57) (.val (.lit (.int .i64 2))), some (53, true)⟩,
     ⟨some 59, .pick (.tmp 53) (.tmp 58) (.val (.lit (.bool false))), none⟩,
     ⟨some 60, .val (.tmp 59), none⟩,
     ⟨some 61, .val (.tmp 3), some (60, true)⟩,
     ⟨some 62, .indexAddr 1 (.tmp 61) (.val (.lit (.int .i64 0))), some (60, true)⟩,
     ⟨some 63, .load false 1 (.tmp 62), some (60, true)⟩,
     ⟨some 64, .indexAddr 1 (.tmp 63) (.val (.lit (.int .i64 0))), some (60, true)⟩,
     ⟨some 65, .load false 1 (.tmp 64), some (60, true)⟩,
     ⟨some 66, .bin .eql .num (.tmp 65) (.val (.lit (.int .i64 7))), some (60, true)⟩,
     ⟨some 67, .pick (.tmp 60) (.tmp 66) (.val (.lit (.bool false))), none⟩,
     ⟨some 68, .val (.tmp 67), none⟩,
     ⟨some 69, .val (.tmp 3), some (68, true)⟩,
     ⟨some 70, .indexAddr 1 (.tmp 69) (.val (.lit (.int .i64 0))), some (68, true)⟩,
     ⟨some 71, .load false 1 (.tmp 70), some (68, true)⟩,
     ⟨some 72, .indexAddr 1 (.tmp 71) (.val (.lit (.int .i64 1))), some (68, true)⟩,
     ⟨some 73, .load false 1 (.tmp 72), some (68, true)⟩,
     ⟨some 74, .bin .eql .num (.tmp 73) (.val (.lit (.int .i64 5))), some (68, true)⟩,
     ⟨some 75, .pick (.tmp 68) (.tmp 74) (.val (.lit (.bool false))), none⟩,
     ⟨some 76, .val (.tmp 75), none⟩,
     ⟨some 77, .val (.tmp 4), some (76, true)⟩,
     ⟨some 78, .bin .eql .num (.tmp 77) (.val (.lit (.int .i64 3))), some (76, true)⟩,
     ⟨some 79, .pick (.tmp 76) (.tmp 78) (.val (.lit (.bool false))), none⟩,
     ⟨some 80, .val (.tmp 79), none⟩,
     ⟨some 81, .val (.tmp 5), some (80, true)⟩,
     ⟨some 82, .pick (.tmp 80) (.tmp 81) (.val (.lit (.bool false))), none⟩,
     ⟨some 83, .val (.tmp 82), none⟩,
     ⟨some 84, .val (.tmp 7), some (83, true)⟩,
     ⟨some 85, .bin .eql .num (.tmp 84) (.val (.lit (.int .i64 5))), some (83, true)⟩,
     ⟨some 86, .pick (.tmp 83) (.tmp 85) (.val (.lit (.bool false))), none⟩,
     ⟨some 87, .val (.tmp 86), none⟩,
     ⟨some 88, .val (.tmp 8), some (87, true)⟩,
     ⟨some 89, .bin .eql .num (.tmp 88) (.val (.lit (.int .i64 (-1)))), some (87, true)⟩,
     ⟨some 90, .pick (.tmp 87) (.tmp 89) (.val (.lit (.bool false))), none⟩,
     ⟨some 91, .val (.tmp 90), none⟩,
     ⟨some 92, .val (.tmp 9), some (91, true)⟩,
     ⟨some 93, .pick (.tmp 91) (.tmp 92) (.val (.lit (.bool false))), none⟩,
     ⟨some 94, .val (.tmp 93), none⟩,
     ⟨some 95, .val (.tmp 11), some (94, true)⟩,
     ⟨some 96, .un .not (.tmp 95), some (94, true)⟩,
     ⟨some 97, .pick (.tmp 94) (.tmp 96) (.val (.lit (.bool false))), none⟩,
     ⟨some 0, .val (.tmp 97), none⟩]) (
  .ret)))))))))

theorem c15 : codeOf Try.prog {  } 15 = some (a15, [.tmp 0], 98) := by kernel_rfl

/-- bobbin/mem.New -/
def a20 : ACode :=
  .seq (
   .ops [⟨some 4, .val (.val (.lit (.pointer none))), none⟩,
     ⟨some 5, .val (.val (.lit (.int .i64 0))), none⟩]) (
  .seq (
   .block 0 (
     .seq (
      .ops [⟨some 10, .val (.tmp 0), none⟩,
        ⟨some 11, .call (.val (.fn (.func 37) [] [])) [(.tmp 10), (.val (.fn (.func 38) [] []))], none⟩,
        ⟨some 9, .val (.tmp 11), none⟩]) (
     .cond (.tmp 9) (
       .seq (
        .ops [⟨some 4, .val (.val (.lit (.pointer none))), none⟩,
          ⟨some 5, .val (.val (.lit (.int .i64 4))), none⟩]) (
       .ret)) (
       .seq (
        .ops [⟨some 13, .val (.tmp 1), none⟩,
          ⟨some 14, .bin .lss .num (.tmp 13) (.val (.lit (.int .i64 0))), none⟩,
          ⟨some 15, .val (.tmp 14), none⟩,
          ⟨some 16, .val (.tmp 1), some (15, false)⟩,
          ⟨some 17, .bin .gtr .num (.tmp 16) (.val (.lit (.int .i64 256))), some (15, false)⟩,
          ⟨some 18, .pick (.tmp 15) (.val (.lit (.bool true))) (.tmp 17), none⟩,
          ⟨some 12, .val (.tmp 18), none⟩]) (
       .cond (.tmp 12) (
         .seq (
          .ops [⟨some 4, .val (.val (.lit (.pointer none))), none⟩,
            ⟨some 5, .val (.val (.lit (.int .i64 1))), none⟩]) (
         .ret)) (
         .skip)))))) (
  .seq (
   .ops [⟨some 19, .val (.tmp 1), none⟩,
     ⟨some 20, .mkmap, none⟩,
     ⟨some 21, .build [(.sl .nil 0 []), (.lit (.int .i64 0)), (.lit (.map none))] [(1, 1, (.tmp 19)), (2, 1, (.tmp 20))], none⟩,
     ⟨some 22, .box false (.tmp 21), none⟩,
     ⟨some 6, .val (.tmp 22), none⟩]) (
  .seq (
   .seq (
    .ops [⟨some 23, .val (.tmp 0), none⟩,
      ⟨some 24, .len 1 (.tmp 23), none⟩,
      ⟨some 25, .val (.val (.lit (.int .i64 0))), none⟩]) (
   .block 1 (
     .loop (
       .seq (
        .ops [⟨some 26, .bin .lss .num (.tmp 25) (.tmp 24), none⟩]) (
       .seq (
        .cond (.tmp 26) (
          .skip) (
          .exit 1)) (
       .seq (
        .block 2 (
          .seq (
           .ops [⟨some 27, .indexAddr 3 (.tmp 23) (.tmp 25), none⟩,
             ⟨some 28, .load true 3 (.tmp 27), none⟩,
             ⟨some 8, .alloc [(.lit (.string ⟨#[]⟩)), (.lit (.int .i64 0)), (.lit (.int .i64 0))], none⟩,
             ⟨none, .store 3 (.tmp 8) (.tmp 28), none⟩]) (
          .ops [⟨some 29, .val (.tmp 6), none⟩,
            ⟨some 30, .val (.tmp 6), none⟩,
            ⟨some 31, .nilck (.tmp 30), none⟩,
            ⟨some 32, .fieldAddr 0 (.tmp 31), none⟩,
            ⟨some 34, .fieldAddr 2 (.tmp 8), none⟩,
            ⟨some 37, .fieldAddr 1 (.tmp 8), none⟩,
            ⟨some 33, .load false 1 (.tmp 32), none⟩,
            ⟨some 35, .load false 1 (.tmp 34), none⟩,
            ⟨some 36, .bslice false 1 1 [(.lit (.int .i64 0))] [(0, 1, (.tmp 35))], none⟩,
            ⟨some 38, .load false 1 (.tmp 37), none⟩,
            ⟨some 39, .kcall (.val (.fn (.func 39) [] [])) [(.tmp 36), (.tmp 38)], none⟩,
            ⟨some 40, .bslice false 1 1 [(.sl .nil 0 [])] [(0, 1, (.tmp 39))], none⟩,
            ⟨some 41, .append false 1 24 (.tmp 33) (.tmp 40), none⟩,
            ⟨some 42, .nilck (.tmp 29), none⟩,
            ⟨some 43, .fieldAddr 0 (.tmp 42), none⟩,
            ⟨none, .store 1 (.tmp 43) (.tmp 41), none⟩]))) (
       .ops [⟨some 44, .bin .add .num (.tmp 25) (.val (.lit (.int .i64 1))), none⟩,
         ⟨some 25, .val (.tmp 44), none⟩]))))))) (
  .seq (
   .ops [⟨some 45, .val (.tmp 6), none⟩,
     ⟨some 4, .val (.tmp 45), none⟩,
     ⟨some 5, .val (.val (.lit (.int .i64 0))), none⟩]) (
  .ret)))))

theorem c20 : codeOf Try.prog { kc := [39] } 20 = some (a20, [.tmp 4, .tmp 5], 46) := by kernel_rfl

/-- (*bobbin/mem.Mem).Set -/
def a21 : ACode :=
  .seq (
   .ops [⟨some 8, .val (.val (.lit (.int .i64 0))), none⟩]) (
  .seq (
   .ops [⟨some 12, .val (.tmp 0), none⟩,
     ⟨some 13, .val (.tmp 1), none⟩,
     ⟨some 14, .val (.tmp 2), none⟩,
     ⟨some 15, .call (.val (.fn (.func 40) [] [])) [(.tmp 12), (.tmp 13), (.tmp 14)], none⟩,
     ⟨some 11, .val (.tmp 15), none⟩,
     ⟨some 16, .extract (.tmp 11) 0, none⟩,
     ⟨some 17, .extract (.tmp 11) 1, none⟩,
     ⟨some 9, .val (.tmp 16), none⟩,
     ⟨some 10, .val (.tmp 17), none⟩]) (
  .seq (
   .seq (
    .ops [⟨some 18, .val (.tmp 10), none⟩,
      ⟨some 19, .bin .eql .num (.tmp 18) (.val (.lit (.int .i64 0))), none⟩]) (
   .cond (.tmp 19) (
     .ops [⟨some 20, .val (.tmp 9), none⟩,
       ⟨some 21, .val (.tmp 3), none⟩,
       ⟨some 22, .nilck (.tmp 20), none⟩,
       ⟨none, .store 1 (.tmp 22) (.tmp 21), none⟩]) (
     .skip))) (
  .seq (
   .ops [⟨some 23, .val (.tmp 10), none⟩,
     ⟨some 8, .val (.tmp 23), none⟩]) (
  .ret))))

theorem c21 : codeOf Try.prog {  } 21 = some (a21, [.tmp 8], 24) := by kernel_rfl

/-- (*bobbin/mem.Mem).Take -/
def a22 : ACode :=
  .seq (
   .ops [⟨some 6, .val (.val (.lit (.int .i64 0))), none⟩]) (
  .seq (
   .seq (
    .ops [⟨some 10, .val (.tmp 0), none⟩,
      ⟨some 11, .val (.tmp 1), none⟩,
      ⟨some 12, .call (.val (.fn (.func 41) [] [])) [(.tmp 10), (.tmp 11)], none⟩,
      ⟨some 7, .val (.tmp 12), none⟩]) (
   .seq (
    .ops [⟨some 13, .val (.tmp 7), none⟩,
      ⟨some 14, .bin .neq .num (.tmp 13) (.val (.lit (.int .i64 0))), none⟩]) (
   .cond (.tmp 14) (
     .seq (
      .ops [⟨some 15, .val (.tmp 7), none⟩,
        ⟨some 6, .val (.tmp 15), none⟩]) (
     .ret)) (
     .skip)))) (
  .seq (
   .seq (
    .ops [⟨some 17, .val (.tmp 0), none⟩,
      ⟨some 18, .nilck (.tmp 17), none⟩,
      ⟨some 19, .fieldAddr 2 (.tmp 18), none⟩,
      ⟨some 20, .load false 1 (.tmp 19), none⟩,
      ⟨some 21, .val (.tmp 1), none⟩,
      ⟨some 22, .lookup 0 (.lit (.int .i64 0)) true (.tmp 20) (.tmp 21), none⟩,
      ⟨some 16, .val (.tmp 22), none⟩,
      ⟨some 23, .extract (.tmp 16) 0, none⟩,
      ⟨some 24, .extract (.tmp 16) 1, none⟩,
      ⟨some 8, .val (.tmp 23), none⟩,
      ⟨some 9, .val (.tmp 24), none⟩]) (
   .seq (
    .ops [⟨some 25, .val (.tmp 9), none⟩]) (
   .cond (.tmp 25) (
     .seq (
      .ops [⟨some 6, .val (.val (.lit (.int .i64 6))), none⟩]) (
     .ret)) (
     .skip)))) (
  .seq (
   .ops [⟨some 26, .val (.tmp 0), none⟩,
     ⟨some 27, .nilck (.tmp 26), none⟩,
     ⟨some 28, .fieldAddr 2 (.tmp 27), none⟩,
     ⟨some 29, .load false 1 (.tmp 28), none⟩,
     ⟨some 30, .val (.tmp 1), none⟩,
     ⟨some 31, .val (.tmp 2), none⟩,
     ⟨none, .mapset 0 (.tmp 29) (.tmp 30) (.tmp 31), none⟩]) (
  .seq (
   .ops [⟨some 6, .val (.val (.lit (.int .i64 0))), none⟩]) (
  .ret)))))

theorem c22 : codeOf Try.prog {  } 22 = some (a22, [.tmp 6], 32) := by kernel_rfl

/-- (*bobbin/mem.Mem).Give -/
def a23 : ACode :=
  .seq (
   .ops [⟨some 6, .val (.val (.lit (.int .i64 0))), none⟩]) (
  .seq (
   .seq (
    .ops [⟨some 10, .val (.tmp 0), none⟩,
      ⟨some 11, .val (.tmp 1), none⟩,
      ⟨some 12, .call (.val (.fn (.func 41) [] [])) [(.tmp 10), (.tmp 11)], none⟩,
      ⟨some 7, .val (.tmp 12), none⟩]) (
   .seq (
    .ops [⟨some 13, .val (.tmp 7), none⟩,
      ⟨some 14, .bin .neq .num (.tmp 13) (.val (.lit (.int .i64 0))), none⟩]) (
   .cond (.tmp 14) (
     .seq (
      .ops [⟨some 15, .val (.tmp 7), none⟩,
        ⟨some 6, .val (.tmp 15), none⟩]) (
     .ret)) (
     .skip)))) (
  .seq (
   .seq (
    .ops [⟨some 17, .val (.tmp 0), none⟩,
      ⟨some 18, .nilck (.tmp 17), none⟩,
      ⟨some 19, .fieldAddr 2 (.tmp 18), none⟩,
      ⟨some 20, .load false 1 (.tmp 19), none⟩,
      ⟨some 21, .val (.tmp 1), none⟩,
      ⟨some 22, .lookup 0 (.lit (.int .i64 0)) true (.tmp 20) (.tmp 21), none⟩,
      ⟨some 16, .val (.tmp 22), none⟩,
      ⟨some 23, .extract (.tmp 16) 0, none⟩,
      ⟨some 24, .extract (.tmp 16) 1, none⟩,
      ⟨some 8, .val (.tmp 23), none⟩,
      ⟨some 9, .val (.tmp 24), none⟩]) (
   .seq (
    .ops [⟨some 25, .val (.tmp 9), none⟩,
      ⟨some 26, .un .not (.tmp 25), none⟩,
      ⟨some 27, .val (.tmp 26), none⟩,
      ⟨some 28, .val (.tmp 8), some (27, false)⟩,
      ⟨some 29, .val (.tmp 2), some (27, false)⟩,
      ⟨some 30, .bin .neq .num (.tmp 28) (.tmp 29), some (27, false)⟩,
      ⟨some 31, .pick (.tmp 27) (.val (.lit (.bool true))) (.tmp 30), none⟩]) (
   .cond (.tmp 31) (
     .seq (
      .ops [⟨some 6, .val (.val (.lit (.int .i64 69))), none⟩]) (
     .ret)) (
     .skip)))) (
  .seq (
   .ops [⟨some 32, .val (.tmp 0), none⟩,
     ⟨some 33, .nilck (.tmp 32), none⟩,
     ⟨some 34, .fieldAddr 2 (.tmp 33), none⟩,
     ⟨some 35, .load false 1 (.tmp 34), none⟩,
     ⟨some 36, .val (.tmp 1), none⟩,
     ⟨none, .delete 0 (.tmp 35) (.tmp 36), none⟩]) (
  .seq (
   .ops [⟨some 6, .val (.val (.lit (.int .i64 0))), none⟩]) (
  .ret)))))

theorem c23 : codeOf Try.prog {  } 23 = some (a23, [.tmp 6], 37) := by kernel_rfl

/-- (*bobbin/mem.Mem).Get -/
def a24 : ACode :=
  .seq (
   .ops [⟨some 6, .val (.val (.lit (.int .i64 0))), none⟩,
     ⟨some 7, .val (.val (.lit (.int .i64 0))), none⟩]) (
  .seq (
   .ops [⟨some 11, .val (.tmp 0), none⟩,
     ⟨some 12, .val (.tmp 1), none⟩,
     ⟨some 13, .val (.tmp 2), none⟩,
     ⟨some 14, .call (.val (.fn (.func 40) [] [])) [(.tmp 11), (.tmp 12), (.tmp 13)], none⟩,
     ⟨some 10, .val (.tmp 14), none⟩,
     ⟨some 15, .extract (.tmp 10) 0, none⟩,
     ⟨some 16, .extract (.tmp 10) 1, none⟩,
     ⟨some 8, .val (.tmp 15), none⟩,
     ⟨some 9, .val (.tmp 16), none⟩]) (
  .seq (
   .seq (
    .ops [⟨some 17, .val (.tmp 9), none⟩,
      ⟨some 18, .bin .neq .num (.tmp 17) (.val (.lit (.int .i64 0))), none⟩]) (
   .cond (.tmp 18) (
     .seq (
      .ops [⟨some 19, .val (.tmp 9), none⟩,
        ⟨some 6, .val (.val (.lit (.int .i64 0))), none⟩,
        ⟨some 7, .val (.tmp 19), none⟩]) (
     .ret)) (
     .skip))) (
  .seq (
   .ops [⟨some 20, .val (.tmp 8), none⟩,
     ⟨some 21, .nilck (.tmp 20), none⟩,
     ⟨some 22, .load false 1 (.tmp 21), none⟩,
     ⟨some 6, .val (.tmp 22), none⟩,
     ⟨some 7, .val (.val (.lit (.int .i64 0))), none⟩]) (
  .ret))))

theorem c24 : codeOf Try.prog {  } 24 = some (a24, [.tmp 6, .tmp 7], 23) := by kernel_rfl

/-- (*bobbin/mem.Mem).Holder -/
def a25 : ACode :=
  .seq (
   .ops [⟨some 4, .val (.val (.lit (.int .i64 0))), none⟩,
     ⟨some 5, .val (.val (.lit (.bool false))), none⟩]) (
  .seq (
   .seq (
    .ops [⟨some 8, .val (.tmp 0), none⟩,
      ⟨some 9, .bin .eql .ptr (.tmp 8) (.val (.lit (.pointer none))), none⟩]) (
   .cond (.tmp 9) (
     .seq (
      .ops [⟨some 4, .val (.val (.lit (.int .i64 0))), none⟩,
        ⟨some 5, .val (.val (.lit (.bool false))), none⟩]) (
     .ret)) (
     .skip))) (
  .seq (
   .ops [⟨some 11, .val (.tmp 0), none⟩,
     ⟨some 12, .nilck (.tmp 11), none⟩,
     ⟨some 13, .fieldAddr 2 (.tmp 12), none⟩,
     ⟨some 14, .load false 1 (.tmp 13), none⟩,
     ⟨some 15, .val (.tmp 1), none⟩,
     ⟨some 16, .lookup 0 (.lit (.int .i64 0)) true (.tmp 14) (.tmp 15), none⟩,
     ⟨some 10, .val (.tmp 16), none⟩,
     ⟨some 17, .extract (.tmp 10) 0, none⟩,
     ⟨some 18, .extract (.tmp 10) 1, none⟩,
     ⟨some 6, .val (.tmp 17), none⟩,
     ⟨some 7, .val (.tmp 18), none⟩]) (
  .seq (
   .ops [⟨some 19, .val (.tmp 6), none⟩,
     ⟨some 20, .val (.tmp 7), none⟩,
     ⟨some 4, .val (.tmp 19), none⟩,
     ⟨some 5, .val (.tmp 20), none⟩]) (
  .ret))))

theorem c25 : codeOf Try.prog {  } 25 = some (a25, [.tmp 4, .tmp 5], 21) := by kernel_rfl

/-- (*bobbin/mem.Mem).Cells -/
def a26 : ACode :=
  .seq (
   .ops [⟨some 2, .val (.val (.sl .nil 0 [])), none⟩]) (
  .seq (
   .seq (
    .ops [⟨some 6, .val (.tmp 0), none⟩,
      ⟨some 7, .bin .eql .ptr (.tmp 6) (.val (.lit (.pointer none))), none⟩]) (
   .cond (.tmp 7) (
     .seq (
      .ops [⟨some 2, .val (.val (.sl .nil 0 [])), none⟩]) (
     .ret)) (
     .skip))) (
  .seq (
   .ops [⟨some 3, .val (.val (.sl .nil 0 [])), none⟩]) (
  .seq (
   .seq (
    .ops [⟨some 8, .val (.tmp 0), none⟩,
      ⟨some 9, .nilck (.tmp 8), none⟩,
      ⟨some 10, .fieldAddr 0 (.tmp 9), none⟩,
      ⟨some 11, .load false 1 (.tmp 10), none⟩,
      ⟨some 12, .len 1 (.tmp 11), none⟩,
      ⟨some 13, .val (.val (.lit (.int .i64 0))), none⟩]) (
   .block 0 (
     .loop (
       .seq (
        .ops [⟨some 14, .bin .lss .num (.tmp 13) (.tmp 12), none⟩]) (
       .seq (
        .cond (.tmp 14) (
          .skip) (
          .exit 0)) (
       .seq (
        .block 1 (
          .seq (
           .ops [⟨some 15, .indexAddr 1 (.tmp 11) (.tmp 13), none⟩,
             ⟨some 16, .load false 1 (.tmp 15), none⟩,
             ⟨some 5, .val (.tmp 16), none⟩]) (
          .ops [⟨some 17, .val (.tmp 3), none⟩,
            ⟨some 18, .val (.tmp 5), none⟩,
            ⟨some 19, .call (.val (.fn (.func 42) [] [])) [(.tmp 18)], none⟩,
            ⟨some 20, .bslice false 1 1 [(.sl .nil 0 [])] [(0, 1, (.tmp 19))], none⟩,
            ⟨some 21, .append false 1 24 (.tmp 17) (.tmp 20), none⟩,
            ⟨some 3, .val (.tmp 21), none⟩]))) (
       .ops [⟨some 22, .bin .add .num (.tmp 13) (.val (.lit (.int .i64 1))), none⟩,
         ⟨some 13, .val (.tmp 22), none⟩]))))))) (
  .seq (
   .ops [⟨some 23, .val (.tmp 3), none⟩,
     ⟨some 2, .val (.tmp 23), none⟩]) (
  .ret)))))

theorem c26 : codeOf Try.prog {  } 26 = some (a26, [.tmp 2], 24) := by kernel_rfl

/-- (*bobbin/mem.Mem).Copy -/
def a28 : ACode :=
  .seq (
   .ops [⟨some 2, .val (.val (.lit (.pointer none))), none⟩]) (
  .seq (
   .seq (
    .ops [⟨some 3, .val (.tmp 0), none⟩,
      ⟨some 4, .bin .eql .ptr (.tmp 3) (.val (.lit (.pointer none))), none⟩]) (
   .cond (.tmp 4) (
     .seq (
      .ops [⟨some 2, .val (.val (.lit (.pointer none))), none⟩]) (
     .ret)) (
     .skip))) (
  .seq (
   .ops [⟨some 5, .val (.tmp 0), none⟩,
     ⟨some 7, .val (.tmp 0), none⟩,
     ⟨some 8, .nilck (.tmp 7), none⟩,
     ⟨some 9, .fieldAddr 1 (.tmp 8), none⟩,
     ⟨some 11, .val (.tmp 0), none⟩,
     ⟨some 12, .nilck (.tmp 11), none⟩,
     ⟨some 13, .fieldAddr 2 (.tmp 12), none⟩,
     ⟨some 10, .load false 1 (.tmp 9), none⟩,
     ⟨some 14, .load false 1 (.tmp 13), none⟩,
     ⟨some 6, .kcall (.val (.fn (.func 26) [] [])) [(.tmp 5)], none⟩,
     ⟨some 15, .kcall (.val (.fn (.func 46) [] [])) [(.tmp 14)], none⟩,
     ⟨some 16, .build [(.sl .nil 0 []), (.lit (.int .i64 0)), (.lit (.map none))] [(0, 1, (.tmp 6)), (1, 1, (.tmp 10)), (2, 1, (.tmp 15))], none⟩,
     ⟨some 17, .box false (.tmp 16), none⟩,
     ⟨some 2, .val (.tmp 17), none⟩]) (
  .ret)))

theorem c28 : codeOf Try.prog { kc := [6, 15] } 28 = some (a28, [.tmp 2], 18) := by kernel_rfl

/-- (bobbin/bobbinlaw08.Step).do -/
def a31 : ACode :=
  .seq (
   .ops [⟨some 3, .box true (.tmp 0), none⟩,
     ⟨some 6, .val (.val (.lit (.bool false))), none⟩]) (
  .seq (
   .seq (
    .ops [⟨some 11, .fieldAddr 0 (.tmp 3), none⟩,
      ⟨some 12, .iload false 1 (.tmp 11), none⟩]) (
   .block 0 (
     .seq (
      .ops [⟨some 14, .bin .eql .num (.tmp 12) (.val (.lit (.int .u8 0))), none⟩,
        ⟨some 13, .val (.tmp 14), none⟩]) (
     .cond (.tmp 13) (
       .seq (
        .ops [⟨some 15, .val (.tmp 1), none⟩,
          ⟨some 16, .fieldAddr 1 (.tmp 3), none⟩,
          ⟨some 17, .iload false 1 (.tmp 16), none⟩,
          ⟨some 18, .fieldAddr 2 (.tmp 3), none⟩,
          ⟨some 19, .iload false 1 (.tmp 18), none⟩,
          ⟨some 20, .fieldAddr 3 (.tmp 3), none⟩,
          ⟨some 21, .iload false 1 (.tmp 20), none⟩,
          ⟨some 23, .val (.tmp 2), none⟩,
          ⟨some 24, .fieldAddr 1 (.tmp 3), none⟩,
          ⟨some 25, .iload false 1 (.tmp 24), none⟩,
          ⟨some 26, .fieldAddr 2 (.tmp 3), none⟩,
          ⟨some 27, .iload false 1 (.tmp 26), none⟩,
          ⟨some 28, .fieldAddr 3 (.tmp 3), none⟩,
          ⟨some 29, .iload false 1 (.tmp 28), none⟩,
          ⟨some 22, .call (.val (.fn (.func 21) [] [])) [(.tmp 15), (.tmp 17), (.tmp 19), (.tmp 21)], none⟩,
          ⟨some 30, .call (.val (.fn (.func 47) [] [])) [(.tmp 23), (.tmp 25), (.tmp 27), (.tmp 29)], none⟩,
          ⟨some 31, .bin .eql .num (.tmp 22) (.tmp 30), none⟩,
          ⟨some 6, .val (.tmp 31), none⟩]) (
       .ret)) (
       .seq (
        .ops [⟨some 33, .bin .eql .num (.tmp 12) (.val (.lit (.int .u8 1))), none⟩,
          ⟨some 32, .val (.tmp 33), none⟩]) (
       .cond (.tmp 32) (
         .seq (
          .ops [⟨some 34, .val (.tmp 1), none⟩,
            ⟨some 35, .fieldAddr 1 (.tmp 3), none⟩,
            ⟨some 36, .iload false 1 (.tmp 35), none⟩,
            ⟨some 37, .fieldAddr 2 (.tmp 3), none⟩,
            ⟨some 38, .iload false 1 (.tmp 37), none⟩,
            ⟨some 40, .val (.tmp 2), none⟩,
            ⟨some 41, .fieldAddr 1 (.tmp 3), none⟩,
            ⟨some 42, .iload false 1 (.tmp 41), none⟩,
            ⟨some 43, .fieldAddr 2 (.tmp 3), none⟩,
            ⟨some 44, .iload false 1 (.tmp 43), none⟩,
            ⟨some 39, .call (.val (.fn (.func 22) [] [])) [(.tmp 34), (.tmp 36), (.tmp 38)], none⟩,
            ⟨some 45, .call (.val (.fn (.func 48) [] [])) [(.tmp 40), (.tmp 42), (.tmp 44)], none⟩,
            ⟨some 46, .bin .eql .num (.tmp 39) (.tmp 45), none⟩,
            ⟨some 6, .val (.tmp 46), none⟩]) (
         .ret)) (
         .seq (
          .ops [⟨some 48, .bin .eql .num (.tmp 12) (.val (.lit (.int .u8 2))), none⟩,
            ⟨some 47, .val (.tmp 48), none⟩]) (
         .cond (.tmp 47) (
           .seq (
            .ops [⟨some 49, .val (.tmp 1), none⟩,
              ⟨some 50, .fieldAddr 1 (.tmp 3), none⟩,
              ⟨some 51, .iload false 1 (.tmp 50), none⟩,
              ⟨some 52, .fieldAddr 2 (.tmp 3), none⟩,
              ⟨some 53, .iload false 1 (.tmp 52), none⟩,
              ⟨some 55, .val (.tmp 2), none⟩,
              ⟨some 56, .fieldAddr 1 (.tmp 3), none⟩,
              ⟨some 57, .iload false 1 (.tmp 56), none⟩,
              ⟨some 58, .fieldAddr 2 (.tmp 3), none⟩,
              ⟨some 59, .iload false 1 (.tmp 58), none⟩,
              ⟨some 54, .call (.val (.fn (.func 23) [] [])) [(.tmp 49), (.tmp 51), (.tmp 53)], none⟩,
              ⟨some 60, .call (.val (.fn (.func 49) [] [])) [(.tmp 55), (.tmp 57), (.tmp 59)], none⟩,
              ⟨some 61, .bin .eql .num (.tmp 54) (.tmp 60), none⟩,
              ⟨some 6, .val (.tmp 61), none⟩]) (
           .ret)) (
           .skip))))))))) (
  .seq (
   .ops [⟨some 63, .val (.tmp 1), none⟩,
     ⟨some 64, .fieldAddr 1 (.tmp 3), none⟩,
     ⟨some 65, .iload false 1 (.tmp 64), none⟩,
     ⟨some 66, .fieldAddr 2 (.tmp 3), none⟩,
     ⟨some 67, .iload false 1 (.tmp 66), none⟩,
     ⟨some 68, .call (.val (.fn (.func 24) [] [])) [(.tmp 63), (.tmp 65), (.tmp 67)], none⟩,
     ⟨some 62, .val (.tmp 68), none⟩,
     ⟨some 69, .extract (.tmp 62) 0, none⟩,
     ⟨some 70, .extract (.tmp 62) 1, none⟩,
     ⟨some 7, .val (.tmp 69), none⟩,
     ⟨some 8, .val (.tmp 70), none⟩]) (
  .seq (
   .ops [⟨some 72, .val (.tmp 2), none⟩,
     ⟨some 73, .fieldAddr 1 (.tmp 3), none⟩,
     ⟨some 74, .iload false 1 (.tmp 73), none⟩,
     ⟨some 75, .fieldAddr 2 (.tmp 3), none⟩,
     ⟨some 76, .iload false 1 (.tmp 75), none⟩,
     ⟨some 77, .call (.val (.fn (.func 50) [] [])) [(.tmp 72), (.tmp 74), (.tmp 76)], none⟩,
     ⟨some 71, .val (.tmp 77), none⟩,
     ⟨some 78, .extract (.tmp 71) 0, none⟩,
     ⟨some 79, .extract (.tmp 71) 1, none⟩,
     ⟨some 9, .val (.tmp 78), none⟩,
     ⟨some 10, .val (.tmp 79), none⟩]) (
  .seq (
   .ops [⟨some 80, .val (.tmp 7), none⟩,
     ⟨some 81, .val (.tmp 9), none⟩,
     ⟨some 82, .bin .eql .num (.tmp 80) (.tmp 81), none⟩,
     ⟨some 83, .val (.tmp 82), none⟩,
     ⟨some 84, .val (.tmp 8), some (83, true)⟩,
     ⟨some 85, .val (.tmp 10), some (83, true)⟩,
     ⟨some 86, .bin .eql .num (.tmp 84) (.tmp 85), some (83, true)⟩,
     ⟨some 87, .pick (.tmp 83) (.tmp 86) (.val (.lit (.bool false))), none⟩,
     ⟨some 6, .val (.tmp 87), none⟩]) (
  .ret)))))

theorem c31 : codeOf Try.prog { bz := [3], il := [12, 17, 19, 21, 25, 27, 29, 36, 38, 42, 44, 51, 53, 57, 59, 65, 67, 74, 76] } 31 = some (a31, [.tmp 6], 88) := by kernel_rfl

/-- slices.Repeat[[]int64,int64] -/
def a39 : ACode :=
  .seq (
   .ops [⟨some 4, .val (.val (.sl .nil 0 [])), none⟩]) (
  .seq (
   .seq (
    .ops [⟨some 9, .val (.tmp 1), none⟩,
      ⟨some 10, .bin .lss .num (.tmp 9) (.val (.lit (.int .i64 0))), none⟩]) (
   .cond (.tmp 10) (
     .ops [⟨some 11, .mkifc 9 (.val (.lit (.string ⟨#[99, 97, 110, 110, 111, 116, 32, 98, 101, 32, 110, 101, 103, 97, 116, 105, 118, 101]⟩))), none⟩,
       ⟨none, .bad, none⟩]) (
     .skip))) (
  .seq (
   .ops [⟨some 13, .val (.tmp 0), none⟩,
     ⟨some 14, .len 1 (.tmp 13), none⟩,
     ⟨some 15, .conv .u64 (.tmp 14), none⟩,
     ⟨some 16, .val (.tmp 1), none⟩,
     ⟨some 17, .conv .u64 (.tmp 16), none⟩,
     ⟨some 18, .call (.val (.fn (.func 66) [] [])) [(.tmp 15), (.tmp 17)], none⟩,
     ⟨some 12, .val (.tmp 18), none⟩,
     ⟨some 19, .extract (.tmp 12) 0, none⟩,
     ⟨some 20, .extract (.tmp 12) 1, none⟩,
     ⟨some 5, .val (.tmp 19), none⟩,
     ⟨some 6, .val (.tmp 20), none⟩]) (
  .seq (
   .seq (
    .ops [⟨some 21, .val (.tmp 5), none⟩,
      ⟨some 22, .bin .gtr .num (.tmp 21) (.val (.lit (.int .u64 0))), none⟩,
      ⟨some 23, .val (.tmp 22), none⟩,
      ⟨some 24, .val (.tmp 6), some (23, false)⟩,
      ⟨some 25, .bin .gtr .num (.tmp 24) (.val (.lit (.int .u64 9223372036854775807))), some (23, false)⟩,
      ⟨some 26, .pick (.tmp 23) (.val (.lit (.bool true))) (.tmp 25), none⟩]) (
   .cond (.tmp 26) (
     .ops [⟨some 27, .mkifc 9 (.val (.lit (.string ⟨#[116, 104, 101, 32, 114, 101, 115, 117, 108, 116, 32, 111, 102, 32, 40, 108, 101, 110, 40, 120, 41, 32, 42, 32, 99, 111, 117, 110, 116, 41, 32, 111, 118, 101, 114, 102, 108, 111, 119, 115]⟩))), none⟩,
       ⟨none, .bad, none⟩]) (
     .skip))) (
  .seq (
   .ops [⟨some 28, .val (.tmp 6), none⟩,
     ⟨some 29, .conv .i64 (.tmp 28), none⟩,
     ⟨some 30, .mkslice 1 8 [(.lit (.int .i64 0))] (.tmp 29) (.tmp 29), none⟩,
     ⟨some 7, .val (.tmp 30), none⟩]) (
  .seq (
   .ops [⟨some 31, .val (.tmp 7), none⟩,
     ⟨some 32, .val (.tmp 0), none⟩,
     ⟨some 33, .copy 1 (.tmp 31) (.tmp 32), none⟩,
     ⟨some 8, .val (.tmp 33), none⟩]) (
  .seq (
   .block 0 (
     .loop (
       .seq (
        .seq (
         .ops [⟨some 34, .val (.tmp 8), none⟩,
           ⟨some 35, .val (.tmp 7), none⟩,
           ⟨some 36, .len 1 (.tmp 35), none⟩,
           ⟨some 37, .bin .lss .num (.tmp 34) (.tmp 36), none⟩]) (
        .cond (.tmp 37) (
          .skip) (
          .exit 0))) (
       .block 1 (
         .ops [⟨some 38, .val (.tmp 8), none⟩,
           ⟨some 39, .val (.tmp 7), none⟩,
           ⟨some 40, .val (.tmp 8), none⟩,
           ⟨some 41, .slice 1 (.tmp 39) (some (.tmp 40)) none none, none⟩,
           ⟨some 42, .val (.tmp 7), none⟩,
           ⟨some 43, .val (.tmp 8), none⟩,
           ⟨some 44, .slice 1 (.tmp 42) none (some (.tmp 43)) none, none⟩,
           ⟨some 45, .copy 1 (.tmp 41) (.tmp 44), none⟩,
           ⟨some 46, .bin .add .num (.tmp 38) (.tmp 45), none⟩,
           ⟨some 8, .val (.tmp 46), none⟩]))))) (
  .seq (
   .ops [⟨some 47, .val (.tmp 7), none⟩,
     ⟨some 4, .val (.tmp 47), none⟩]) (
  .ret))))))))

theorem c39 : codeOf Try.prog {  } 39 = some (a39, [.tmp 4], 48) := by kernel_rfl

/-- (*bobbin/mem.Mem).cell -/
def a40 : ACode :=
  .seq (
   .ops [⟨some 6, .val (.val (.lit (.pointer none))), none⟩,
     ⟨some 7, .val (.val (.lit (.int .i64 0))), none⟩]) (
  .seq (
   .block 0 (
     .seq (
      .ops [⟨some 9, .val (.tmp 0), none⟩,
        ⟨some 10, .bin .eql .ptr (.tmp 9) (.val (.lit (.pointer none))), none⟩,
        ⟨some 8, .val (.tmp 10), none⟩]) (
     .cond (.tmp 8) (
       .seq (
        .ops [⟨some 6, .val (.val (.lit (.pointer none))), none⟩,
          ⟨some 7, .val (.val (.lit (.int .i64 2))), none⟩]) (
       .ret)) (
       .seq (
        .ops [⟨some 12, .val (.tmp 1), none⟩,
          ⟨some 13, .bin .lss .num (.tmp 12) (.val (.lit (.int .i64 0))), none⟩,
          ⟨some 14, .val (.tmp 13), none⟩,
          ⟨some 15, .val (.tmp 1), some (14, false)⟩,
          ⟨some 16, .val (.tmp 0), some (14, false)⟩,
          ⟨some 17, .nilck (.tmp 16), some (14, false)⟩,
          ⟨some 18, .fieldAddr 0 (.tmp 17), some (14, false)⟩,
          ⟨some 19, .load false 1 (.tmp 18), some (14, false)⟩,
          ⟨some 20, .len 1 (.tmp 19), some (14, false)⟩,
          ⟨some 21, .bin .geq .num (.tmp 15) (.tmp 20), some (14, false)⟩,
          ⟨some 22, .pick (.tmp 14) (.val (.lit (.bool true))) (.tmp 21), none⟩,
          ⟨some 11, .val (.tmp 22), none⟩]) (
       .cond (.tmp 11) (
         .seq (
          .ops [⟨some 6, .val (.val (.lit (.pointer none))), none⟩,
            ⟨some 7, .val (.val (.lit (.int .i64 1))), none⟩]) (
         .ret)) (
         .seq (
          .ops [⟨some 24, .val (.tmp 2), none⟩,
            ⟨some 25, .bin .lss .num (.tmp 24) (.val (.lit (.int .i64 0))), none⟩,
            ⟨some 26, .val (.tmp 25), none⟩,
            ⟨some 27, .val (.tmp 2), some (26, false)⟩,
            ⟨some 28, .val (.tmp 0), some (26, false)⟩,
            ⟨some 29, .nilck (.tmp 28), some (26, false)⟩,
            ⟨some 30, .fieldAddr 0 (.tmp 29), some (26, false)⟩,
            ⟨some 31, .load false 1 (.tmp 30), some (26, false)⟩,
            ⟨some 32, .val (.tmp 1), some (26, false)⟩,
            ⟨some 33, .indexAddr 1 (.tmp 31) (.tmp 32), some (26, false)⟩,
            ⟨some 34, .load false 1 (.tmp 33), some (26, false)⟩,
            ⟨some 35, .len 1 (.tmp 34), some (26, false)⟩,
            ⟨some 36, .bin .geq .num (.tmp 27) (.tmp 35), some (26, false)⟩,
            ⟨some 37, .pick (.tmp 26) (.val (.lit (.bool true))) (.tmp 36), none⟩,
            ⟨some 23, .val (.tmp 37), none⟩]) (
         .cond (.tmp 23) (
           .seq (
            .ops [⟨some 6, .val (.val (.lit (.pointer none))), none⟩,
              ⟨some 7, .val (.val (.lit (.int .i64 5))), none⟩]) (
           .ret)) (
           .skip)))))))) (
  .seq (
   .ops [⟨some 38, .val (.tmp 0), none⟩,
     ⟨some 39, .nilck (.tmp 38), none⟩,
     ⟨some 40, .fieldAddr 0 (.tmp 39), none⟩,
     ⟨some 41, .load false 1 (.tmp 40), none⟩,
     ⟨some 42, .val (.tmp 1), none⟩,
     ⟨some 43, .indexAddr 1 (.tmp 41) (.tmp 42), none⟩,
     ⟨some 44, .load false 1 (.tmp 43), none⟩,
     ⟨some 45, .val (.tmp 2), none⟩,
     ⟨some 46, .indexAddr 1 (.tmp 44) (.tmp 45), none⟩,
     ⟨some 6, .val (.tmp 46), none⟩,
     ⟨some 7, .val (.val (.lit (.int .i64 0))), none⟩]) (
  .ret)))

theorem c40 : codeOf Try.prog {  } 40 = some (a40, [.tmp 6, .tmp 7], 47) := by kernel_rfl

/-- (*bobbin/mem.Mem).lock -/
def a41 : ACode :=
  .seq (
   .ops [⟨some 4, .val (.val (.lit (.int .i64 0))), none⟩]) (
  .seq (
   .block 0 (
     .seq (
      .ops [⟨some 6, .val (.tmp 0), none⟩,
        ⟨some 7, .bin .eql .ptr (.tmp 6) (.val (.lit (.pointer none))), none⟩,
        ⟨some 5, .val (.tmp 7), none⟩]) (
     .cond (.tmp 5) (
       .seq (
        .ops [⟨some 4, .val (.val (.lit (.int .i64 2))), none⟩]) (
       .ret)) (
       .seq (
        .ops [⟨some 9, .val (.tmp 1), none⟩,
          ⟨some 10, .bin .lss .num (.tmp 9) (.val (.lit (.int .i64 0))), none⟩,
          ⟨some 11, .val (.tmp 10), none⟩,
          ⟨some 12, .val (.tmp 1), some (11, false)⟩,
          ⟨some 13, .val (.tmp 0), some (11, false)⟩,
          ⟨some 14, .nilck (.tmp 13), some (11, false)⟩,
          ⟨some 15, .fieldAddr 1 (.tmp 14), some (11, false)⟩,
          ⟨some 16, .load false 1 (.tmp 15), some (11, false)⟩,
          ⟨some 17, .bin .geq .num (.tmp 12) (.tmp 16), some (11, false)⟩,
          ⟨some 18, .pick (.tmp 11) (.val (.lit (.bool true))) (.tmp 17), none⟩,
          ⟨some 8, .val (.tmp 18), none⟩]) (
       .cond (.tmp 8) (
         .seq (
          .ops [⟨some 4, .val (.val (.lit (.int .i64 1))), none⟩]) (
         .ret)) (
         .skip)))))) (
  .seq (
   .ops [⟨some 4, .val (.val (.lit (.int .i64 0))), none⟩]) (
  .ret)))

theorem c41 : codeOf Try.prog {  } 41 = some (a41, [.tmp 4], 19) := by kernel_rfl

/-- slices.Clone[[]int64,int64] -/
def a42 : ACode :=
  .seq (
   .ops [⟨some 2, .val (.val (.sl .nil 0 [])), none⟩]) (
  .seq (
   .seq (
    .ops [⟨some 3, .val (.tmp 0), none⟩,
      ⟨some 4, .bin .eql .slice (.tmp 3) (.val (.sl .nil 0 [])), none⟩]) (
   .cond (.tmp 4) (
     .seq (
      .ops [⟨some 2, .val (.val (.sl .nil 0 [])), none⟩]) (
     .ret)) (
     .skip))) (
  .seq (
   .ops [⟨some 5, .bslice false 1 0 [] [], none⟩,
     ⟨some 6, .val (.tmp 0), none⟩,
     ⟨some 7, .append false 1 8 (.tmp 5) (.tmp 6), none⟩,
     ⟨some 2, .val (.tmp 7), none⟩]) (
  .ret)))

theorem c42 : codeOf Try.prog {  } 42 = some (a42, [.tmp 2], 8) := by kernel_rfl

/-- math/bits.Mul -/
def a66 : ACode :=
  .seq (
   .ops [⟨some 4, .val (.val (.lit (.int .u64 0))), none⟩,
     ⟨some 5, .val (.val (.lit (.int .u64 0))), none⟩]) (
  .seq (
   .cond (.val (.lit (.bool false))) (
     .seq (
      .ops [⟨some 11, .val (.tmp 0), none⟩,
        ⟨some 12, .conv .u32 (.tmp 11), none⟩,
        ⟨some 13, .val (.tmp 1), none⟩,
        ⟨some 14, .conv .u32 (.tmp 13), none⟩,
        ⟨some 15, .call (.val (.fn (.func 69) [] [])) [(.tmp 12), (.tmp 14)], none⟩,
        ⟨some 10, .val (.tmp 15), none⟩,
        ⟨some 16, .extract (.tmp 10) 0, none⟩,
        ⟨some 17, .extract (.tmp 10) 1, none⟩,
        ⟨some 6, .val (.tmp 16), none⟩,
        ⟨some 7, .val (.tmp 17), none⟩]) (
     .seq (
      .ops [⟨some 18, .val (.tmp 6), none⟩,
        ⟨some 19, .conv .u64 (.tmp 18), none⟩,
        ⟨some 20, .val (.tmp 7), none⟩,
        ⟨some 21, .conv .u64 (.tmp 20), none⟩,
        ⟨some 4, .val (.tmp 19), none⟩,
        ⟨some 5, .val (.tmp 21), none⟩]) (
     .ret))) (
     .skip)) (
  .seq (
   .ops [⟨some 23, .val (.tmp 0), none⟩,
     ⟨some 24, .val (.tmp 1), none⟩,
     ⟨some 25, .call (.val (.fn (.func 70) [] [])) [(.tmp 23), (.tmp 24)], none⟩,
     ⟨some 22, .val (.tmp 25), none⟩,
     ⟨some 26, .extract (.tmp 22) 0, none⟩,
     ⟨some 27, .extract (.tmp 22) 1, none⟩,
     ⟨some 8, .val (.tmp 26), none⟩,
     ⟨some 9, .val (.tmp 27), none⟩]) (
  .seq (
   .ops [⟨some 28, .val (.tmp 8), none⟩,
     ⟨some 29, .val (.tmp 9), none⟩,
     ⟨some 4, .val (.tmp 28), none⟩,
     ⟨some 5, .val (.tmp 29), none⟩]) (
  .ret))))

theorem c66 : codeOf Try.prog {  } 66 = some (a66, [.tmp 4, .tmp 5], 30) := by kernel_rfl

/-- math/bits.Mul32 -/
def a69 : ACode :=
  .seq (
   .ops [⟨some 4, .val (.val (.lit (.int .u32 0))), none⟩,
     ⟨some 5, .val (.val (.lit (.int .u32 0))), none⟩]) (
  .seq (
   .ops [⟨some 7, .val (.tmp 0), none⟩,
     ⟨some 8, .conv .u64 (.tmp 7), none⟩,
     ⟨some 9, .val (.tmp 1), none⟩,
     ⟨some 10, .conv .u64 (.tmp 9), none⟩,
     ⟨some 11, .bin .mul .num (.tmp 8) (.tmp 10), none⟩,
     ⟨some 6, .val (.tmp 11), none⟩]) (
  .seq (
   .ops [⟨some 12, .val (.tmp 6), none⟩,
     ⟨some 13, .bin .shr .num (.tmp 12) (.val (.lit (.int .u64 32))), none⟩,
     ⟨some 14, .conv .u32 (.tmp 13), none⟩,
     ⟨some 15, .val (.tmp 6), none⟩,
     ⟨some 16, .conv .u32 (.tmp 15), none⟩,
     ⟨some 4, .val (.tmp 14), none⟩,
     ⟨some 5, .val (.tmp 16), none⟩]) (
  .ret)))

theorem c69 : codeOf Try.prog {  } 69 = some (a69, [.tmp 4, .tmp 5], 17) := by kernel_rfl

/-- math/bits.Mul64 -/
def a70 : ACode :=
  .seq (
   .ops [⟨some 4, .val (.val (.lit (.int .u64 0))), none⟩,
     ⟨some 5, .val (.val (.lit (.int .u64 0))), none⟩]) (
  .seq (
   .ops [⟨some 14, .val (.tmp 0), none⟩,
     ⟨some 15, .bin .and .num (.tmp 14) (.val (.lit (.int .u64 4294967295))), none⟩,
     ⟨some 6, .val (.tmp 15), none⟩]) (
  .seq (
   .ops [⟨some 16, .val (.tmp 0), none⟩,
     ⟨some 17, .bin .shr .num (.tmp 16) (.val (.lit (.int .u64 32))), none⟩,
     ⟨some 7, .val (.tmp 17), none⟩]) (
  .seq (
   .ops [⟨some 18, .val (.tmp 1), none⟩,
     ⟨some 19, .bin .and .num (.tmp 18) (.val (.lit (.int .u64 4294967295))), none⟩,
     ⟨some 8, .val (.tmp 19), none⟩]) (
  .seq (
   .ops [⟨some 20, .val (.tmp 1), none⟩,
     ⟨some 21, .bin .shr .num (.tmp 20) (.val (.lit (.int .u64 32))), none⟩,
     ⟨some 9, .val (.tmp 21), none⟩]) (
  .seq (
   .ops [⟨some 22, .val (.tmp 6), none⟩,
     ⟨some 23, .val (.tmp 8), none⟩,
     ⟨some 24, .bin .mul .num (.tmp 22) (.tmp 23), none⟩,
     ⟨some 10, .val (.tmp 24), none⟩]) (
  .seq (
   .ops [⟨some 25, .val (.tmp 7), none⟩,
     ⟨some 26, .val (.tmp 8), none⟩,
     ⟨some 27, .bin .mul .num (.tmp 25) (.tmp 26), none⟩,
     ⟨some 28, .val (.tmp 10), none⟩,
     ⟨some 29, .bin .shr .num (.tmp 28) (.val (.lit (.int .u64 32))), none⟩,
     ⟨some 30, .bin .add .num (.tmp 27) (.tmp 29), none⟩,
     ⟨some 11, .val (.tmp 30), none⟩]) (
  .seq (
   .ops [⟨some 31, .val (.tmp 11), none⟩,
     ⟨some 32, .bin .and .num (.tmp 31) (.val (.lit (.int .u64 4294967295))), none⟩,
     ⟨some 12, .val (.tmp 32), none⟩]) (
  .seq (
   .ops [⟨some 33, .val (.tmp 11), none⟩,
     ⟨some 34, .bin .shr .num (.tmp 33) (.val (.lit (.int .u64 32))), none⟩,
     ⟨some 13, .val (.tmp 34), none⟩]) (
  .seq (
   .ops [⟨some 35, .val (.tmp 12), none⟩,
     ⟨some 36, .val (.tmp 6), none⟩,
     ⟨some 37, .val (.tmp 9), none⟩,
     ⟨some 38, .bin .mul .num (.tmp 36) (.tmp 37), none⟩,
     ⟨some 39, .bin .add .num (.tmp 35) (.tmp 38), none⟩,
     ⟨some 12, .val (.tmp 39), none⟩]) (
  .seq (
   .ops [⟨some 40, .val (.tmp 7), none⟩,
     ⟨some 41, .val (.tmp 9), none⟩,
     ⟨some 42, .bin .mul .num (.tmp 40) (.tmp 41), none⟩,
     ⟨some 43, .val (.tmp 13), none⟩,
     ⟨some 44, .bin .add .num (.tmp 42) (.tmp 43), none⟩,
     ⟨some 45, .val (.tmp 12), none⟩,
     ⟨some 46, .bin .shr .num (.tmp 45) (.val (.lit (.int .u64 32))), none⟩,
     ⟨some 47, .bin .add .num (.tmp 44) (.tmp 46), none⟩,
     ⟨some 4, .val (.tmp 47), none⟩]) (
  .seq (
   .ops [⟨some 48, .val (.tmp 0), none⟩,
     ⟨some 49, .val (.tmp 1), none⟩,
     ⟨some 50, .bin .mul .num (.tmp 48) (.tmp 49), none⟩,
     ⟨some 5, .val (.tmp 50), none⟩]) (
  .ret))))))))))))

theorem c70 : codeOf Try.prog {  } 70 = some (a70, [.tmp 4, .tmp 5], 51) := by kernel_rfl

/-- slices.IndexFunc[[]bobbin/api.Mem,bobbin/api.Mem] -/
def a65 : ACode :=
  .seq (
   .ops [⟨some 4, .val (.val (.lit (.int .i64 0))), none⟩]) (
  .seq (
   .seq (
    .ops [⟨some 6, .val (.tmp 0), none⟩,
      ⟨some 7, .len 1 (.tmp 6), none⟩,
      ⟨some 8, .val (.val (.lit (.int .i64 0))), none⟩]) (
   .block 0 (
     .loop (
       .seq (
        .ops [⟨some 9, .bin .lss .num (.tmp 8) (.tmp 7), none⟩]) (
       .seq (
        .cond (.tmp 9) (
          .skip) (
          .exit 0)) (
       .seq (
        .block 1 (
          .seq (
           .ops [⟨some 10, .val (.tmp 8), none⟩,
             ⟨some 5, .val (.tmp 10), none⟩]) (
          .seq (
           .ops [⟨some 11, .val (.tmp 1), none⟩,
             ⟨some 12, .val (.tmp 0), none⟩,
             ⟨some 13, .val (.tmp 5), none⟩,
             ⟨some 14, .indexAddr 3 (.tmp 12) (.tmp 13), none⟩,
             ⟨some 15, .load true 3 (.tmp 14), none⟩,
             ⟨some 16, .call (.tmp 11) [(.tmp 15)], none⟩]) (
          .cond (.tmp 16) (
            .seq (
             .ops [⟨some 17, .val (.tmp 5), none⟩,
               ⟨some 4, .val (.tmp 17), none⟩]) (
            .ret)) (
            .skip))))) (
       .ops [⟨some 18, .bin .add .num (.tmp 8) (.val (.lit (.int .i64 1))), none⟩,
         ⟨some 8, .val (.tmp 18), none⟩]))))))) (
  .seq (
   .ops [⟨some 4, .val (.val (.lit (.int .i64 (-1)))), none⟩]) (
  .ret)))

theorem c65 : codeOf Try.prog {  } 65 = some (a65, [.tmp 4], 19) := by kernel_rfl

/-- slices.ContainsFunc[[]bobbin/api.Mem,bobbin/api.Mem] -/
def a37 : ACode :=
  .seq (
   .ops [⟨some 4, .val (.val (.lit (.bool false))), none⟩]) (
  .seq (
   .ops [⟨some 5, .val (.tmp 0), none⟩,
     ⟨some 6, .val (.tmp 1), none⟩,
     ⟨some 7, .call (.val (.fn (.func 65) [] [])) [(.tmp 5), (.tmp 6)], none⟩,
     ⟨some 8, .bin .geq .num (.tmp 7) (.val (.lit (.int .i64 0))), none⟩,
     ⟨some 4, .val (.tmp 8), none⟩]) (
  .ret))

theorem c37 : codeOf Try.prog {  } 37 = some (a37, [.tmp 4], 9) := by kernel_rfl

/-- bobbin/mem.New$1 -/
def a38 : ACode :=
  .seq (
   .ops [⟨some 1, .box false (.tmp 0), none⟩,
     ⟨some 2, .val (.val (.lit (.bool false))), none⟩]) (
  .seq (
   .ops [⟨some 3, .fieldAddr 1 (.tmp 1), none⟩,
     ⟨some 4, .load false 1 (.tmp 3), none⟩,
     ⟨some 5, .bin .lss .num (.tmp 4) (.val (.lit (.int .i64 1))), none⟩,
     ⟨some 6, .val (.tmp 5), none⟩,
     ⟨some 7, .fieldAddr 1 (.tmp 1), some (6, false)⟩,
     ⟨some 8, .load false 1 (.tmp 7), some (6, false)⟩,
     ⟨some 9, .bin .gtr .num (.tmp 8) (.val (.lit (.int .i64 1024))), some (6, false)⟩,
     ⟨some 10, .pick (.tmp 6) (.val (.lit (.bool true))) (.tmp 9), none⟩,
     ⟨some 2, .val (.tmp 10), none⟩]) (
  .ret))

theorem c38 : codeOf Try.prog {  } 38 = some (a38, [.tmp 2], 11) := by kernel_rfl

/-- slices.EqualFunc[[][]int64,[][]int64,[]int64,[]int64] -/
def a43 : ACode :=
  .seq (
   .ops [⟨some 6, .val (.val (.lit (.bool false))), none⟩]) (
  .seq (
   .seq (
    .ops [⟨some 10, .val (.tmp 0), none⟩,
      ⟨some 11, .len 1 (.tmp 10), none⟩,
      ⟨some 12, .val (.tmp 1), none⟩,
      ⟨some 13, .len 1 (.tmp 12), none⟩,
      ⟨some 14, .bin .neq .num (.tmp 11) (.tmp 13), none⟩]) (
   .cond (.tmp 14) (
     .seq (
      .ops [⟨some 6, .val (.val (.lit (.bool false))), none⟩]) (
     .ret)) (
     .skip))) (
  .seq (
   .seq (
    .ops [⟨some 15, .val (.tmp 0), none⟩,
      ⟨some 16, .len 1 (.tmp 15), none⟩,
      ⟨some 17, .val (.val (.lit (.int .i64 0))), none⟩]) (
   .block 0 (
     .loop (
       .seq (
        .ops [⟨some 18, .bin .lss .num (.tmp 17) (.tmp 16), none⟩]) (
       .seq (
        .cond (.tmp 18) (
          .skip) (
          .exit 0)) (
       .seq (
        .block 1 (
          .seq (
           .ops [⟨some 19, .val (.tmp 17), none⟩,
             ⟨some 20, .indexAddr 1 (.tmp 15) (.tmp 17), none⟩,
             ⟨some 21, .load false 1 (.tmp 20), none⟩,
             ⟨some 7, .val (.tmp 19), none⟩,
             ⟨some 8, .val (.tmp 21), none⟩]) (
          .seq (
           .ops [⟨some 22, .val (.tmp 1), none⟩,
             ⟨some 23, .val (.tmp 7), none⟩,
             ⟨some 24, .indexAddr 1 (.tmp 22) (.tmp 23), none⟩,
             ⟨some 25, .load false 1 (.tmp 24), none⟩,
             ⟨some 9, .val (.tmp 25), none⟩]) (
          .seq (
           .ops [⟨some 26, .val (.tmp 2), none⟩,
             ⟨some 27, .val (.tmp 8), none⟩,
             ⟨some 28, .val (.tmp 9), none⟩,
             ⟨some 29, .call (.tmp 26) [(.tmp 27), (.tmp 28)], none⟩,
             ⟨some 30, .un .not (.tmp 29), none⟩]) (
          .cond (.tmp 30) (
            .seq (
             .ops [⟨some 6, .val (.val (.lit (.bool false))), none⟩]) (
            .ret)) (
            .skip)))))) (
       .ops [⟨some 31, .bin .add .num (.tmp 17) (.val (.lit (.int .i64 1))), none⟩,
         ⟨some 17, .val (.tmp 31), none⟩]))))))) (
  .seq (
   .ops [⟨some 6, .val (.val (.lit (.bool true))), none⟩]) (
  .ret))))

theorem c43 : codeOf Try.prog {  } 43 = some (a43, [.tmp 6], 32) := by kernel_rfl

/-- slices.Equal[[]int64,int64] -/
def a44 : ACode :=
  .seq (
   .ops [⟨some 4, .val (.val (.lit (.bool false))), none⟩]) (
  .seq (
   .seq (
    .ops [⟨some 6, .val (.tmp 0), none⟩,
      ⟨some 7, .len 1 (.tmp 6), none⟩,
      ⟨some 8, .val (.tmp 1), none⟩,
      ⟨some 9, .len 1 (.tmp 8), none⟩,
      ⟨some 10, .bin .neq .num (.tmp 7) (.tmp 9), none⟩]) (
   .cond (.tmp 10) (
     .seq (
      .ops [⟨some 4, .val (.val (.lit (.bool false))), none⟩]) (
     .ret)) (
     .skip))) (
  .seq (
   .seq (
    .ops [⟨some 11, .val (.tmp 0), none⟩,
      ⟨some 12, .len 1 (.tmp 11), none⟩,
      ⟨some 13, .val (.val (.lit (.int .i64 0))), none⟩]) (
   .block 0 (
     .loop (
       .seq (
        .ops [⟨some 14, .bin .lss .num (.tmp 13) (.tmp 12), none⟩]) (
       .seq (
        .cond (.tmp 14) (
          .skip) (
          .exit 0)) (
       .seq (
        .block 1 (
          .seq (
           .ops [⟨some 15, .val (.tmp 13), none⟩,
             ⟨some 5, .val (.tmp 15), none⟩]) (
          .seq (
           .ops [⟨some 16, .val (.tmp 0), none⟩,
             ⟨some 17, .val (.tmp 5), none⟩,
             ⟨some 18, .indexAddr 1 (.tmp 16) (.tmp 17), none⟩,
             ⟨some 20, .val (.tmp 1), none⟩,
             ⟨some 21, .val (.tmp 5), none⟩,
             ⟨some 22, .indexAddr 1 (.tmp 20) (.tmp 21), none⟩,
             ⟨some 19, .load false 1 (.tmp 18), none⟩,
             ⟨some 23, .load false 1 (.tmp 22), none⟩,
             ⟨some 24, .bin .neq .num (.tmp 19) (.tmp 23), none⟩]) (
          .cond (.tmp 24) (
            .seq (
             .ops [⟨some 4, .val (.val (.lit (.bool false))), none⟩]) (
            .ret)) (
            .skip))))) (
       .ops [⟨some 25, .bin .add .num (.tmp 13) (.val (.lit (.int .i64 1))), none⟩,
         ⟨some 13, .val (.tmp 25), none⟩]))))))) (
  .seq (
   .ops [⟨some 4, .val (.val (.lit (.bool true))), none⟩]) (
  .ret))))

theorem c44 : codeOf Try.prog {  } 44 = some (a44, [.tmp 4], 26) := by kernel_rfl

/-- bobbin/mem.Same -/
def a27 : ACode :=
  .seq (
   .ops [⟨some 4, .val (.val (.lit (.bool false))), none⟩]) (
  .seq (
   .seq (
    .ops [⟨some 5, .val (.tmp 0), none⟩,
      ⟨some 6, .bin .eql .ptr (.tmp 5) (.val (.lit (.pointer none))), none⟩,
      ⟨some 7, .val (.tmp 6), none⟩,
      ⟨some 8, .val (.tmp 1), some (7, false)⟩,
      ⟨some 9, .bin .eql .ptr (.tmp 8) (.val (.lit (.pointer none))), some (7, false)⟩,
      ⟨some 10, .pick (.tmp 7) (.val (.lit (.bool true))) (.tmp 9), none⟩]) (
   .cond (.tmp 10) (
     .seq (
      .ops [⟨some 11, .val (.tmp 0), none⟩,
        ⟨some 12, .val (.tmp 1), none⟩,
        ⟨some 13, .bin .eql .ptr (.tmp 11) (.tmp 12), none⟩,
        ⟨some 4, .val (.tmp 13), none⟩]) (
     .ret)) (
     .skip))) (
  .seq (
   .ops [⟨some 14, .val (.tmp 0), none⟩,
     ⟨some 15, .nilck (.tmp 14), none⟩,
     ⟨some 16, .fieldAddr 1 (.tmp 15), none⟩,
     ⟨some 18, .val (.tmp 1), none⟩,
     ⟨some 19, .nilck (.tmp 18), none⟩,
     ⟨some 20, .fieldAddr 1 (.tmp 19), none⟩,
     ⟨some 17, .load false 1 (.tmp 16), none⟩,
     ⟨some 21, .load false 1 (.tmp 20), none⟩,
     ⟨some 22, .bin .eql .num (.tmp 17) (.tmp 21), none⟩,
     ⟨some 23, .val (.tmp 22), none⟩,
     ⟨some 24, .val (.tmp 0), some (23, true)⟩,
     ⟨some 25, .nilck (.tmp 24), some (23, true)⟩,
     ⟨some 26, .fieldAddr 0 (.tmp 25), some (23, true)⟩,
     ⟨some 28, .val (.tmp 1), some (23, true)⟩,
     ⟨some 29, .nilck (.tmp 28), some (23, true)⟩,
     ⟨some 30, .fieldAddr 0 (.tmp 29), some (23, true)⟩,
     ⟨some 27, .load false 1 (.tmp 26), some (23, true)⟩,
     ⟨some 31, .load false 1 (.tmp 30), some (23, true)⟩,
     ⟨some 32, .call (.val (.fn (.func 43) [] [])) [(.tmp 27), (.tmp 31), (.val (.fn (.func 44) [] []))], some (23, true)⟩,
     ⟨some 33, .pick (.tmp 23) (.tmp 32) (.val (.lit (.bool false))), none⟩,
     ⟨some 34, .val (.tmp 33), none⟩,
     ⟨some 35, .val (.tmp 0), some (34, true)⟩,
     ⟨some 36, .nilck (.tmp 35), some (34, true)⟩,
     ⟨some 37, .fieldAddr 2 (.tmp 36), some (34, true)⟩,
     ⟨some 39, .val (.tmp 1), some (34, true)⟩,
     ⟨some 40, .nilck (.tmp 39), some (34, true)⟩,
     ⟨some 41, .fieldAddr 2 (.tmp 40), some (34, true)⟩,
     ⟨some 38, .load false 1 (.tmp 37), some (34, true)⟩,
     ⟨some 42, .load false 1 (.tmp 41), some (34, true)⟩,
     ⟨some 43, .call (.val (.fn (.func 45) [] [])) [(.tmp 38), (.tmp 42)], some (34, true)⟩,
     ⟨some 44, .pick (.tmp 34) (.tmp 43) (.val (.lit (.bool false))), none⟩,
     ⟨some 4, .val (.tmp 44), none⟩]) (
  .ret)))

theorem c27 : codeOf Try.prog {  } 27 = some (a27, [.tmp 4], 45) := by kernel_rfl

end Go.Proofs.Ytmgmgeijfkcglaa
