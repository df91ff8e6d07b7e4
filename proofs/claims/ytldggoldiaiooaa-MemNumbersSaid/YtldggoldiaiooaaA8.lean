/- The laws of mem's numbers: contracts. -/
import Derived.Test.YtldggoldiaiooaaA7
namespace Go.Proofs.Ytldggoldiaiooaa
open Go Go.Fw
attribute [local simp] Value.oneCell' anil aidxs noHeap_or set_or

/-- bobbin/bobbinlaw08.MemNumbers -/
def a4 : ACode :=
  .seq (
   .ops [⟨some 4, .val (.val (.lit (.bool false))), none⟩]) (
  .seq (
   .seq (
    .ops [⟨some 14, .call (.val (.fn (.func 15) [] [])) [], none⟩,
      ⟨some 15, .un .not (.tmp 14), none⟩]) (
   .cond (.tmp 15) (
     .seq (
      .ops [⟨some 4, .val (.val (.lit (.bool false))), none⟩]) (
     .ret)) (
     .skip))) (
  .seq (
   .ops [⟨some 5, .val (.val (.fn (.func 16) [] [])), none⟩]) (
  .seq (
   .ops [⟨some 6, .val (.val (.fn (.func 17) [] [])), none⟩]) (
  .seq (
   .seq (
    .ops [⟨some 7, .val (.val (.lit (.int .u8 12))), none⟩]) (
   .block 0 (
     .loop (
       .seq (
        .seq (
         .ops [⟨some 16, .val (.tmp 7), none⟩,
           ⟨some 17, .bin .leq .num (.tmp 16) (.val (.lit (.int .u8 17))), none⟩]) (
        .cond (.tmp 17) (
          .skip) (
          .exit 0))) (
       .seq (
        .block 1 (
          .seq (
           .ops [⟨some 21, .val (.tmp 7), none⟩,
             ⟨some 22, .val (.tmp 0), none⟩,
             ⟨some 23, .val (.tmp 1), none⟩,
             ⟨some 24, .call (.val (.fn (.func 13) [] [])) [(.tmp 21), (.tmp 22), (.tmp 23)], none⟩,
             ⟨some 20, .val (.tmp 24), none⟩,
             ⟨some 25, .extract (.tmp 20) 0, none⟩,
             ⟨some 26, .extract (.tmp 20) 1, none⟩,
             ⟨some 8, .val (.tmp 25), none⟩,
             ⟨some 9, .val (.tmp 26), none⟩]) (
          .seq (
           .ops [⟨some 27, .val (.tmp 9), none⟩,
             ⟨some 28, .un .not (.tmp 27), none⟩,
             ⟨some 29, .val (.tmp 28), none⟩,
             ⟨some 30, .val (.tmp 8), some (29, false)⟩,
             ⟨some 31, .bin .neq .num (.tmp 30) (.val (.lit (.int .i64 0))), some (29, false)⟩,
             ⟨some 32, .val (.tmp 31), some (29, false)⟩,
             ⟨some 33, .val (.tmp 8), some (32, true)⟩,
             ⟨some 34, .bin .neq .num (.tmp 33) (.val (.lit (.int .i64 1))), some (32, true)⟩,
             ⟨some 35, .pick (.tmp 32) (.tmp 34) (.val (.lit (.bool false))), some (29, false)⟩,
             ⟨some 36, .pick (.tmp 29) (.val (.lit (.bool true))) (.tmp 35), none⟩]) (
          .cond (.tmp 36) (
            .seq (
             .ops [⟨some 4, .val (.val (.lit (.bool false))), none⟩]) (
            .ret)) (
            .skip))))) (
       .ops [⟨some 18, .val (.tmp 7), none⟩,
         ⟨some 19, .bin .add .num (.tmp 18) (.val (.lit (.int .u8 1))), none⟩,
         ⟨some 7, .val (.tmp 19), none⟩])))))) (
  .seq (
   .seq (
    .ops [⟨some 37, .val (.tmp 5), none⟩,
      ⟨some 38, .val (.tmp 0), none⟩,
      ⟨some 39, .val (.tmp 1), none⟩,
      ⟨some 40, .call (.tmp 37) [(.val (.lit (.int .u8 8))), (.tmp 38), (.tmp 39)], none⟩,
      ⟨some 41, .val (.tmp 5), none⟩,
      ⟨some 42, .val (.tmp 0), none⟩,
      ⟨some 43, .val (.tmp 6), none⟩,
      ⟨some 44, .val (.tmp 1), none⟩,
      ⟨some 45, .call (.tmp 43) [(.val (.lit (.int .u8 5))), (.tmp 44)], none⟩,
      ⟨some 46, .call (.tmp 41) [(.val (.lit (.int .u8 7))), (.tmp 42), (.tmp 45)], none⟩,
      ⟨some 47, .bin .neq .num (.tmp 40) (.tmp 46), none⟩,
      ⟨some 48, .val (.tmp 47), none⟩,
      ⟨some 49, .val (.tmp 5), some (48, false)⟩,
      ⟨some 50, .val (.tmp 0), some (48, false)⟩,
      ⟨some 51, .val (.tmp 1), some (48, false)⟩,
      ⟨some 52, .call (.tmp 49) [(.val (.lit (.int .u8 12))), (.tmp 50), (.tmp 51)], some (48, false)⟩,
      ⟨some 53, .val (.tmp 6), some (48, false)⟩,
      ⟨some 54, .val (.tmp 5), some (48, false)⟩,
      ⟨some 55, .val (.tmp 1), some (48, false)⟩,
      ⟨some 56, .val (.tmp 0), some (48, false)⟩,
      ⟨some 57, .call (.tmp 54) [(.val (.lit (.int .u8 13))), (.tmp 55), (.tmp 56)], some (48, false)⟩,
      ⟨some 58, .call (.tmp 53) [(.val (.lit (.int .u8 6))), (.tmp 57)], some (48, false)⟩,
      ⟨some 59, .bin .neq .num (.tmp 52) (.tmp 58), some (48, false)⟩,
      ⟨some 60, .pick (.tmp 48) (.val (.lit (.bool true))) (.tmp 59), none⟩,
      ⟨some 61, .val (.tmp 60), none⟩,
      ⟨some 62, .val (.tmp 5), some (61, false)⟩,
      ⟨some 63, .val (.tmp 0), some (61, false)⟩,
      ⟨some 64, .val (.tmp 1), some (61, false)⟩,
      ⟨some 65, .call (.tmp 62) [(.val (.lit (.int .u8 15))), (.tmp 63), (.tmp 64)], some (61, false)⟩,
      ⟨some 66, .val (.tmp 6), some (61, false)⟩,
      ⟨some 67, .val (.tmp 5), some (61, false)⟩,
      ⟨some 68, .val (.tmp 0), some (61, false)⟩,
      ⟨some 69, .val (.tmp 1), some (61, false)⟩,
      ⟨some 70, .call (.tmp 67) [(.val (.lit (.int .u8 14))), (.tmp 68), (.tmp 69)], some (61, false)⟩,
      ⟨some 71, .call (.tmp 66) [(.val (.lit (.int .u8 6))), (.tmp 70)], some (61, false)⟩,
      ⟨some 72, .bin .neq .num (.tmp 65) (.tmp 71), some (61, false)⟩,
      ⟨some 73, .pick (.tmp 61) (.val (.lit (.bool true))) (.tmp 72), none⟩]) (
   .cond (.tmp 73) (
     .seq (
      .ops [⟨some 4, .val (.val (.lit (.bool false))), none⟩]) (
     .ret)) (
     .skip))) (
  .seq (
   .ops [⟨some 75, .val (.tmp 0), none⟩,
     ⟨some 76, .val (.tmp 1), none⟩,
     ⟨some 77, .call (.val (.fn (.func 13) [] [])) [(.val (.lit (.int .u8 10))), (.tmp 75), (.tmp 76)], none⟩,
     ⟨some 74, .val (.tmp 77), none⟩,
     ⟨some 78, .extract (.tmp 74) 0, none⟩,
     ⟨some 79, .extract (.tmp 74) 1, none⟩,
     ⟨some 10, .val (.tmp 78), none⟩,
     ⟨some 11, .val (.tmp 79), none⟩]) (
  .seq (
   .ops [⟨some 81, .val (.tmp 0), none⟩,
     ⟨some 82, .val (.tmp 1), none⟩,
     ⟨some 83, .call (.val (.fn (.func 13) [] [])) [(.val (.lit (.int .u8 11))), (.tmp 81), (.tmp 82)], none⟩,
     ⟨some 80, .val (.tmp 83), none⟩,
     ⟨some 84, .extract (.tmp 80) 0, none⟩,
     ⟨some 85, .extract (.tmp 80) 1, none⟩,
     ⟨some 12, .val (.tmp 84), none⟩,
     ⟨some 13, .val (.tmp 85), none⟩]) (
  .seq (
   .seq (
    .ops [⟨some 86, .val (.tmp 11), none⟩,
      ⟨some 87, .val (.tmp 1), none⟩,
      ⟨some 88, .bin .neq .num (.tmp 87) (.val (.lit (.int .i64 0))), none⟩,
      ⟨some 89, .bin .neq .bool (.tmp 86) (.tmp 88), none⟩,
      ⟨some 90, .val (.tmp 89), none⟩,
      ⟨some 91, .val (.tmp 13), some (90, false)⟩,
      ⟨some 92, .val (.tmp 11), some (90, false)⟩,
      ⟨some 93, .bin .neq .bool (.tmp 91) (.tmp 92), some (90, false)⟩,
      ⟨some 94, .pick (.tmp 90) (.val (.lit (.bool true))) (.tmp 93), none⟩]) (
   .cond (.tmp 94) (
     .seq (
      .ops [⟨some 4, .val (.val (.lit (.bool false))), none⟩]) (
     .ret)) (
     .skip))) (
  .seq (
   .ops [⟨some 95, .val (.tmp 11), none⟩,
     ⟨some 96, .un .not (.tmp 95), none⟩,
     ⟨some 97, .val (.tmp 96), none⟩,
     ⟨some 98, .val (.tmp 5), some (97, false)⟩,
     ⟨some 99, .val (.tmp 5), some (97, false)⟩,
     ⟨some 100, .val (.tmp 1), some (97, false)⟩,
     ⟨some 101, .val (.tmp 10), some (97, false)⟩,
     ⟨some 102, .call (.tmp 99) [(.val (.lit (.int .u8 9))), (.tmp 100), (.tmp 101)], some (97, false)⟩,
     ⟨some 103, .val (.tmp 12), some (97, false)⟩,
     ⟨some 104, .call (.tmp 98) [(.val (.lit (.int .u8 7))), (.tmp 102), (.tmp 103)], some (97, false)⟩,
     ⟨some 105, .val (.tmp 0), some (97, false)⟩,
     ⟨some 106, .bin .eql .num (.tmp 104) (.tmp 105), some (97, false)⟩,
     ⟨some 107, .pick (.tmp 97) (.val (.lit (.bool true))) (.tmp 106), none⟩,
     ⟨some 4, .val (.tmp 107), none⟩]) (
  .ret))))))))))

theorem c4 : codeOf Try.prog {  } 4 = some (a4, [4], 108) := by kernel_rfl

/-- bobbin/bobbinlaw08.MemRing -/
def a5 : ACode :=
  .seq (
   .ops [⟨some 6, .val (.val (.lit (.bool false))), none⟩]) (
  .seq (
   .ops [⟨some 12, .val (.tmp 0), none⟩,
     ⟨some 13, .call (.val (.fn (.func 11) [] [])) [(.val (.lit (.int .u8 5))), (.tmp 12)], none⟩,
     ⟨some 11, .val (.tmp 13), none⟩,
     ⟨some 14, .extract (.tmp 11) 0, none⟩,
     ⟨some 15, .extract (.tmp 11) 1, none⟩,
     ⟨some 7, .val (.tmp 14), none⟩,
     ⟨some 8, .val (.tmp 15), none⟩]) (
  .seq (
   .ops [⟨some 17, .val (.tmp 7), none⟩,
     ⟨some 18, .call (.val (.fn (.func 11) [] [])) [(.val (.lit (.int .u8 5))), (.tmp 17)], none⟩,
     ⟨some 16, .val (.tmp 18), none⟩,
     ⟨some 19, .extract (.tmp 16) 0, none⟩,
     ⟨some 20, .extract (.tmp 16) 1, none⟩,
     ⟨some 9, .val (.tmp 19), none⟩,
     ⟨some 10, .val (.tmp 20), none⟩]) (
  .seq (
   .seq (
    .ops [⟨some 21, .val (.tmp 8), none⟩,
      ⟨some 22, .un .not (.tmp 21), none⟩,
      ⟨some 23, .val (.tmp 22), none⟩,
      ⟨some 24, .val (.tmp 10), some (23, false)⟩,
      ⟨some 25, .un .not (.tmp 24), some (23, false)⟩,
      ⟨some 26, .pick (.tmp 23) (.val (.lit (.bool true))) (.tmp 25), none⟩,
      ⟨some 27, .val (.tmp 26), none⟩,
      ⟨some 28, .val (.tmp 9), some (27, false)⟩,
      ⟨some 29, .val (.tmp 0), some (27, false)⟩,
      ⟨some 30, .bin .neq .num (.tmp 28) (.tmp 29), some (27, false)⟩,
      ⟨some 31, .pick (.tmp 27) (.val (.lit (.bool true))) (.tmp 30), none⟩,
      ⟨some 32, .val (.tmp 31), none⟩,
      ⟨some 33, .val (.tmp 0), some (32, false)⟩,
      ⟨some 34, .val (.tmp 7), some (32, false)⟩,
      ⟨some 35, .call (.val (.fn (.func 18) [] [])) [(.val (.lit (.int .u8 7))), (.tmp 33), (.tmp 34)], some (32, false)⟩,
      ⟨some 36, .bin .neq .num (.tmp 35) (.val (.lit (.int .i64 0))), some (32, false)⟩,
      ⟨some 37, .pick (.tmp 32) (.val (.lit (.bool true))) (.tmp 36), none⟩,
      ⟨some 38, .val (.tmp 37), none⟩,
      ⟨some 39, .call (.val (.fn (.func 15) [] [])) [], some (38, false)⟩,
      ⟨some 40, .un .not (.tmp 39), some (38, false)⟩,
      ⟨some 41, .pick (.tmp 38) (.val (.lit (.bool true))) (.tmp 40), none⟩]) (
   .cond (.tmp 41) (
     .seq (
      .ops [⟨some 6, .val (.val (.lit (.bool false))), none⟩]) (
     .ret)) (
     .skip))) (
  .seq (
   .ops [⟨some 42, .val (.tmp 0), none⟩,
     ⟨some 43, .val (.tmp 1), none⟩,
     ⟨some 44, .call (.val (.fn (.func 18) [] [])) [(.val (.lit (.int .u8 7))), (.tmp 42), (.tmp 43)], none⟩,
     ⟨some 45, .val (.tmp 1), none⟩,
     ⟨some 46, .val (.tmp 0), none⟩,
     ⟨some 47, .call (.val (.fn (.func 18) [] [])) [(.val (.lit (.int .u8 7))), (.tmp 45), (.tmp 46)], none⟩,
     ⟨some 48, .bin .eql .num (.tmp 44) (.tmp 47), none⟩,
     ⟨some 49, .val (.tmp 48), none⟩,
     ⟨some 50, .val (.tmp 0), some (49, true)⟩,
     ⟨some 51, .val (.tmp 1), some (49, true)⟩,
     ⟨some 52, .call (.val (.fn (.func 18) [] [])) [(.val (.lit (.int .u8 9))), (.tmp 50), (.tmp 51)], some (49, true)⟩,
     ⟨some 53, .val (.tmp 1), some (49, true)⟩,
     ⟨some 54, .val (.tmp 0), some (49, true)⟩,
     ⟨some 55, .call (.val (.fn (.func 18) [] [])) [(.val (.lit (.int .u8 9))), (.tmp 53), (.tmp 54)], some (49, true)⟩,
     ⟨some 56, .bin .eql .num (.tmp 52) (.tmp 55), some (49, true)⟩,
     ⟨some 57, .pick (.tmp 49) (.tmp 56) (.val (.lit (.bool false))), none⟩,
     ⟨some 58, .val (.tmp 57), none⟩,
     ⟨some 59, .val (.tmp 0), some (58, true)⟩,
     ⟨some 60, .val (.tmp 1), some (58, true)⟩,
     ⟨some 61, .call (.val (.fn (.func 18) [] [])) [(.val (.lit (.int .u8 7))), (.tmp 59), (.tmp 60)], some (58, true)⟩,
     ⟨some 62, .val (.tmp 2), some (58, true)⟩,
     ⟨some 63, .call (.val (.fn (.func 18) [] [])) [(.val (.lit (.int .u8 7))), (.tmp 61), (.tmp 62)], some (58, true)⟩,
     ⟨some 64, .val (.tmp 0), some (58, true)⟩,
     ⟨some 65, .val (.tmp 1), some (58, true)⟩,
     ⟨some 66, .val (.tmp 2), some (58, true)⟩,
     ⟨some 67, .call (.val (.fn (.func 18) [] [])) [(.val (.lit (.int .u8 7))), (.tmp 65), (.tmp 66)], some (58, true)⟩,
     ⟨some 68, .call (.val (.fn (.func 18) [] [])) [(.val (.lit (.int .u8 7))), (.tmp 64), (.tmp 67)], some (58, true)⟩,
     ⟨some 69, .bin .eql .num (.tmp 63) (.tmp 68), some (58, true)⟩,
     ⟨some 70, .pick (.tmp 58) (.tmp 69) (.val (.lit (.bool false))), none⟩,
     ⟨some 71, .val (.tmp 70), none⟩,
     ⟨some 72, .val (.tmp 0), some (71, true)⟩,
     ⟨some 73, .val (.tmp 1), some (71, true)⟩,
     ⟨some 74, .call (.val (.fn (.func 18) [] [])) [(.val (.lit (.int .u8 9))), (.tmp 72), (.tmp 73)], some (71, true)⟩,
     ⟨some 75, .val (.tmp 2), some (71, true)⟩,
     ⟨some 76, .call (.val (.fn (.func 18) [] [])) [(.val (.lit (.int .u8 9))), (.tmp 74), (.tmp 75)], some (71, true)⟩,
     ⟨some 77, .val (.tmp 0), some (71, true)⟩,
     ⟨some 78, .val (.tmp 1), some (71, true)⟩,
     ⟨some 79, .val (.tmp 2), some (71, true)⟩,
     ⟨some 80, .call (.val (.fn (.func 18) [] [])) [(.val (.lit (.int .u8 9))), (.tmp 78), (.tmp 79)], some (71, true)⟩,
     ⟨some 81, .call (.val (.fn (.func 18) [] [])) [(.val (.lit (.int .u8 9))), (.tmp 77), (.tmp 80)], some (71, true)⟩,
     ⟨some 82, .bin .eql .num (.tmp 76) (.tmp 81), some (71, true)⟩,
     ⟨some 83, .pick (.tmp 71) (.tmp 82) (.val (.lit (.bool false))), none⟩,
     ⟨some 84, .val (.tmp 83), none⟩,
     ⟨some 85, .val (.tmp 0), some (84, true)⟩,
     ⟨some 86, .val (.tmp 1), some (84, true)⟩,
     ⟨some 87, .val (.tmp 2), some (84, true)⟩,
     ⟨some 88, .call (.val (.fn (.func 18) [] [])) [(.val (.lit (.int .u8 7))), (.tmp 86), (.tmp 87)], some (84, true)⟩,
     ⟨some 89, .call (.val (.fn (.func 18) [] [])) [(.val (.lit (.int .u8 9))), (.tmp 85), (.tmp 88)], some (84, true)⟩,
     ⟨some 90, .val (.tmp 0), some (84, true)⟩,
     ⟨some 91, .val (.tmp 1), some (84, true)⟩,
     ⟨some 92, .call (.val (.fn (.func 18) [] [])) [(.val (.lit (.int .u8 9))), (.tmp 90), (.tmp 91)], some (84, true)⟩,
     ⟨some 93, .val (.tmp 0), some (84, true)⟩,
     ⟨some 94, .val (.tmp 2), some (84, true)⟩,
     ⟨some 95, .call (.val (.fn (.func 18) [] [])) [(.val (.lit (.int .u8 9))), (.tmp 93), (.tmp 94)], some (84, true)⟩,
     ⟨some 96, .call (.val (.fn (.func 18) [] [])) [(.val (.lit (.int .u8 7))), (.tmp 92), (.tmp 95)], some (84, true)⟩,
     ⟨some 97, .bin .eql .num (.tmp 89) (.tmp 96), some (84, true)⟩,
     ⟨some 98, .pick (.tmp 84) (.tmp 97) (.val (.lit (.bool false))), none⟩,
     ⟨some 99, .val (.tmp 98), none⟩,
     ⟨some 100, .val (.tmp 0), some (99, true)⟩,
     ⟨some 101, .call (.val (.fn (.func 18) [] [])) [(.val (.lit (.int .u8 7))), (.tmp 100), (.val (.lit (.int .i64 0)))], some (99, true)⟩,
     ⟨some 102, .val (.tmp 0), some (99, true)⟩,
     ⟨some 103, .bin .eql .num (.tmp 101) (.tmp 102), some (99, true)⟩,
     ⟨some 104, .pick (.tmp 99) (.tmp 103) (.val (.lit (.bool false))), none⟩,
     ⟨some 105, .val (.tmp 104), none⟩,
     ⟨some 106, .val (.tmp 0), some (105, true)⟩,
     ⟨some 107, .call (.val (.fn (.func 18) [] [])) [(.val (.lit (.int .u8 9))), (.tmp 106), (.val (.lit (.int .i64 1)))], some (105, true)⟩,
     ⟨some 108, .val (.tmp 0), some (105, true)⟩,
     ⟨some 109, .bin .eql .num (.tmp 107) (.tmp 108), some (105, true)⟩,
     ⟨some 110, .pick (.tmp 105) (.tmp 109) (.val (.lit (.bool false))), none⟩,
     ⟨some 111, .val (.tmp 110), none⟩,
     ⟨some 112, .val (.tmp 0), some (111, true)⟩,
     ⟨some 113, .call (.val (.fn (.func 18) [] [])) [(.val (.lit (.int .u8 9))), (.tmp 112), (.val (.lit (.int .i64 0)))], some (111, true)⟩,
     ⟨some 114, .bin .eql .num (.tmp 113) (.val (.lit (.int .i64 0))), some (111, true)⟩,
     ⟨some 115, .pick (.tmp 111) (.tmp 114) (.val (.lit (.bool false))), none⟩,
     ⟨some 6, .val (.tmp 115), none⟩]) (
  .ret)))))

theorem c5 : codeOf Try.prog {  } 5 = some (a5, [6], 116) := by kernel_rfl

/-- bobbin/bobbinlaw08.MemLess -/
def a6 : ACode :=
  .seq (
   .ops [⟨some 6, .val (.val (.lit (.bool false))), none⟩]) (
  .seq (
   .ops [⟨some 7, .val (.val (.fn (.func 19) [] [])), none⟩]) (
  .seq (
   .seq (
    .ops [⟨some 8, .val (.tmp 0), none⟩,
      ⟨some 9, .val (.tmp 1), none⟩,
      ⟨some 10, .call (.val (.fn (.func 18) [] [])) [(.val (.lit (.int .u8 12))), (.tmp 8), (.tmp 9)], none⟩,
      ⟨some 11, .val (.tmp 1), none⟩,
      ⟨some 12, .val (.tmp 0), none⟩,
      ⟨some 13, .call (.val (.fn (.func 18) [] [])) [(.val (.lit (.int .u8 12))), (.tmp 11), (.tmp 12)], none⟩,
      ⟨some 14, .bin .add .num (.tmp 10) (.tmp 13), none⟩,
      ⟨some 15, .val (.tmp 0), none⟩,
      ⟨some 16, .val (.tmp 1), none⟩,
      ⟨some 17, .call (.val (.fn (.func 18) [] [])) [(.val (.lit (.int .u8 14))), (.tmp 15), (.tmp 16)], none⟩,
      ⟨some 18, .bin .add .num (.tmp 14) (.tmp 17), none⟩,
      ⟨some 19, .bin .neq .num (.tmp 18) (.val (.lit (.int .i64 1))), none⟩,
      ⟨some 20, .val (.tmp 19), none⟩,
      ⟨some 21, .call (.val (.fn (.func 15) [] [])) [], some (20, false)⟩,
      ⟨some 22, .un .not (.tmp 21), some (20, false)⟩,
      ⟨some 23, .pick (.tmp 20) (.val (.lit (.bool true))) (.tmp 22), none⟩]) (
   .cond (.tmp 23) (
     .seq (
      .ops [⟨some 6, .val (.val (.lit (.bool false))), none⟩]) (
     .ret)) (
     .skip))) (
  .seq (
   .seq (
    .ops [⟨some 24, .val (.tmp 0), none⟩,
      ⟨some 25, .val (.tmp 1), none⟩,
      ⟨some 26, .call (.val (.fn (.func 18) [] [])) [(.val (.lit (.int .u8 12))), (.tmp 24), (.tmp 25)], none⟩,
      ⟨some 27, .bin .eql .num (.tmp 26) (.val (.lit (.int .i64 1))), none⟩,
      ⟨some 28, .val (.tmp 27), none⟩,
      ⟨some 29, .val (.tmp 1), some (28, true)⟩,
      ⟨some 30, .val (.tmp 2), some (28, true)⟩,
      ⟨some 31, .call (.val (.fn (.func 18) [] [])) [(.val (.lit (.int .u8 12))), (.tmp 29), (.tmp 30)], some (28, true)⟩,
      ⟨some 32, .bin .eql .num (.tmp 31) (.val (.lit (.int .i64 1))), some (28, true)⟩,
      ⟨some 33, .pick (.tmp 28) (.tmp 32) (.val (.lit (.bool false))), none⟩,
      ⟨some 34, .val (.tmp 33), none⟩,
      ⟨some 35, .val (.tmp 0), some (34, true)⟩,
      ⟨some 36, .val (.tmp 2), some (34, true)⟩,
      ⟨some 37, .call (.val (.fn (.func 18) [] [])) [(.val (.lit (.int .u8 12))), (.tmp 35), (.tmp 36)], some (34, true)⟩,
      ⟨some 38, .bin .neq .num (.tmp 37) (.val (.lit (.int .i64 1))), some (34, true)⟩,
      ⟨some 39, .pick (.tmp 34) (.tmp 38) (.val (.lit (.bool false))), none⟩]) (
   .cond (.tmp 39) (
     .seq (
      .ops [⟨some 6, .val (.val (.lit (.bool false))), none⟩]) (
     .ret)) (
     .skip))) (
  .seq (
   .ops [⟨some 40, .val (.tmp 0), none⟩,
     ⟨some 41, .val (.tmp 1), none⟩,
     ⟨some 42, .call (.val (.fn (.func 18) [] [])) [(.val (.lit (.int .u8 13))), (.tmp 40), (.tmp 41)], none⟩,
     ⟨some 43, .val (.tmp 0), none⟩,
     ⟨some 44, .val (.tmp 1), none⟩,
     ⟨some 45, .call (.val (.fn (.func 18) [] [])) [(.val (.lit (.int .u8 12))), (.tmp 43), (.tmp 44)], none⟩,
     ⟨some 46, .val (.tmp 0), none⟩,
     ⟨some 47, .val (.tmp 1), none⟩,
     ⟨some 48, .call (.val (.fn (.func 18) [] [])) [(.val (.lit (.int .u8 14))), (.tmp 46), (.tmp 47)], none⟩,
     ⟨some 49, .call (.val (.fn (.func 18) [] [])) [(.val (.lit (.int .u8 17))), (.tmp 45), (.tmp 48)], none⟩,
     ⟨some 50, .bin .eql .num (.tmp 42) (.tmp 49), none⟩,
     ⟨some 51, .val (.tmp 50), none⟩,
     ⟨some 52, .val (.tmp 7), some (51, true)⟩,
     ⟨some 53, .val (.tmp 0), some (51, true)⟩,
     ⟨some 54, .val (.tmp 1), some (51, true)⟩,
     ⟨some 55, .call (.val (.fn (.func 18) [] [])) [(.val (.lit (.int .u8 16))), (.tmp 53), (.tmp 54)], some (51, true)⟩,
     ⟨some 56, .call (.tmp 52) [(.tmp 55)], some (51, true)⟩,
     ⟨some 57, .val (.tmp 7), some (51, true)⟩,
     ⟨some 58, .val (.tmp 0), some (51, true)⟩,
     ⟨some 59, .call (.tmp 57) [(.tmp 58)], some (51, true)⟩,
     ⟨some 60, .val (.tmp 7), some (51, true)⟩,
     ⟨some 61, .val (.tmp 1), some (51, true)⟩,
     ⟨some 62, .call (.tmp 60) [(.tmp 61)], some (51, true)⟩,
     ⟨some 63, .call (.val (.fn (.func 18) [] [])) [(.val (.lit (.int .u8 17))), (.tmp 59), (.tmp 62)], some (51, true)⟩,
     ⟨some 64, .bin .eql .num (.tmp 56) (.tmp 63), some (51, true)⟩,
     ⟨some 65, .pick (.tmp 51) (.tmp 64) (.val (.lit (.bool false))), none⟩,
     ⟨some 66, .val (.tmp 65), none⟩,
     ⟨some 67, .val (.tmp 7), some (66, true)⟩,
     ⟨some 68, .val (.tmp 0), some (66, true)⟩,
     ⟨some 69, .val (.tmp 1), some (66, true)⟩,
     ⟨some 70, .call (.val (.fn (.func 18) [] [])) [(.val (.lit (.int .u8 17))), (.tmp 68), (.tmp 69)], some (66, true)⟩,
     ⟨some 71, .call (.tmp 67) [(.tmp 70)], some (66, true)⟩,
     ⟨some 72, .val (.tmp 7), some (66, true)⟩,
     ⟨some 73, .val (.tmp 0), some (66, true)⟩,
     ⟨some 74, .call (.tmp 72) [(.tmp 73)], some (66, true)⟩,
     ⟨some 75, .val (.tmp 7), some (66, true)⟩,
     ⟨some 76, .val (.tmp 1), some (66, true)⟩,
     ⟨some 77, .call (.tmp 75) [(.tmp 76)], some (66, true)⟩,
     ⟨some 78, .call (.val (.fn (.func 18) [] [])) [(.val (.lit (.int .u8 16))), (.tmp 74), (.tmp 77)], some (66, true)⟩,
     ⟨some 79, .bin .eql .num (.tmp 71) (.tmp 78), some (66, true)⟩,
     ⟨some 80, .pick (.tmp 66) (.tmp 79) (.val (.lit (.bool false))), none⟩,
     ⟨some 81, .val (.tmp 80), none⟩,
     ⟨some 82, .val (.tmp 7), some (81, true)⟩,
     ⟨some 83, .val (.tmp 7), some (81, true)⟩,
     ⟨some 84, .val (.tmp 0), some (81, true)⟩,
     ⟨some 85, .call (.tmp 83) [(.tmp 84)], some (81, true)⟩,
     ⟨some 86, .call (.tmp 82) [(.tmp 85)], some (81, true)⟩,
     ⟨some 87, .val (.tmp 0), some (81, true)⟩,
     ⟨some 88, .call (.val (.fn (.func 18) [] [])) [(.val (.lit (.int .u8 15))), (.tmp 87), (.val (.lit (.int .i64 0)))], some (81, true)⟩,
     ⟨some 89, .bin .eql .num (.tmp 86) (.tmp 88), some (81, true)⟩,
     ⟨some 90, .pick (.tmp 81) (.tmp 89) (.val (.lit (.bool false))), none⟩,
     ⟨some 6, .val (.tmp 90), none⟩]) (
  .ret)))))

theorem c6 : codeOf Try.prog {  } 6 = some (a6, [6], 91) := by kernel_rfl


theorem w64_bmod (n : Int) : w64 n = n.bmod 18446744073709551616 := by
  simp [IntKind.wrap, IntKind.bits, IntKind.signed, Int.bmod]
  split <;> split <;> omega

def addW (a b : Int) : Int := w64 (a + b)
def mulW (a b : Int) : Int := w64 (a * b)
def negW (a : Int) : Int := w64 (0 - a)

theorem addW_comm (a b : Int) : addW a b = addW b a := by unfold addW; rw [Int.add_comm]
theorem mulW_comm (a b : Int) : mulW a b = mulW b a := by unfold mulW; rw [Int.mul_comm]
theorem addW_assoc (a b c : Int) : addW (addW a b) c = addW a (addW b c) := by
  simp only [addW, w64_bmod, Int.bmod_add_bmod, Int.add_bmod_bmod, Int.add_assoc]
theorem mulW_assoc (a b c : Int) : mulW (mulW a b) c = mulW a (mulW b c) := by
  simp only [mulW, w64_bmod, Int.bmod_mul_bmod, Int.mul_bmod_bmod, Int.mul_assoc]
theorem mulW_add (a b c : Int) : mulW a (addW b c) = addW (mulW a b) (mulW a c) := by
  simp only [mulW, addW, w64_bmod, Int.bmod_add_bmod, Int.add_bmod_bmod, Int.mul_bmod_bmod, Int.mul_add]
theorem addW_neg (a : Int) : addW a (negW a) = 0 := by
  simp only [addW, negW, w64_bmod, Int.add_bmod_bmod]
  rw [show a + (0 - a) = 0 by omega]
  rfl
theorem negW_neg {a : Int} (h : -9223372036854775808 ≤ a) (h2 : a < 9223372036854775808) : negW (negW a) = a := by
  simp only [negW, w64_bmod, Int.sub_bmod_bmod]
  rw [show 0 - (0 - a) = a by omega, ← w64_bmod]
  exact wrap_i64 h h2
theorem addW_zero {a : Int} (h : -9223372036854775808 ≤ a) (h2 : a < 9223372036854775808) : addW a 0 = a := by
  unfold addW; rw [Int.add_zero]; exact wrap_i64 h h2
theorem mulW_one {a : Int} (h : -9223372036854775808 ≤ a) (h2 : a < 9223372036854775808) : mulW a 1 = a := by
  unfold mulW; rw [Int.mul_one]; exact wrap_i64 h h2
theorem mulW_zero (a : Int) : mulW a 0 = 0 := by unfold mulW; rw [Int.mul_zero]; decide

theorem q18_7 (a b : Int) : PCall Try.prog 18 [u8 7, i64 a, i64 b] (i64 (addW a b)) := p18 7 a b
theorem q18_9 (a b : Int) : PCall Try.prog 18 [u8 9, i64 a, i64 b] (i64 (mulW a b)) := p18 9 a b
theorem q11_5 (a : Int) : PCall Try.prog 11 [u8 5, i64 a] (.tup [i64 (negW a), bl true]) := p11 5 a

theorem p5 {a b c : Int} (ha : -9223372036854775808 ≤ a) (ha2 : a < 9223372036854775808) : PCall Try.prog 5 [i64 a, i64 b, i64 c] (bl true) := by
  refine PCall.of fun N => acall mixed c5 (by simp) ?_
  have e1 := addW_neg a
  have e2 := negW_neg ha ha2
  have e3 := addW_comm b a
  have e4 := mulW_comm b a
  have e5 := addW_assoc a b c
  have e6 := mulW_assoc a b c
  have e7 := mulW_add a b c
  have e8 := addW_zero ha ha2
  have e9 := mulW_one ha ha2
  have e10 := mulW_zero a
  simp [a5]
  refine (q11_5 _).acall ?_
  simp
  refine (q11_5 _).acall ?_
  simp [e2]
  refine (q18_7 _ _).acall ?_
  simp [e1]
  refine p15.acall ?_
  simp
  repeat (first
    | (refine (q18_7 _ _).acall ?_; simp [e3, e4, e5, e6, e7, e8, e9, e10])
    | (refine (q18_9 _ _).acall ?_; simp [e3, e4, e5, e6, e7, e8, e9, e10]))
  exact .free rfl

end Go.Proofs.Ytldggoldiaiooaa
