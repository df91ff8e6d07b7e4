/- The code of functions, compiled (printed by wip/tools/kp.py). -/
import Derived.Test.YtmgmgeijfkcglaaProg
import Derived.Test.YtmgmgeijfkcglaaM3
import Derived.Test.YtmgmgeijfkcglaaM4
namespace Go.Proofs.Ytmgmgeijfkcglaa
set_option linter.unusedSimpArgs false
set_option linter.unusedVariables false
open Go Go.Fw
/-- slices.EqualFunc[[][]int64,[][]int64,[]int64,[]int64] -/
def a_slices_EqualFunc_int64_int64_int64_int64b1 : ACode :=
       .seq (
        .ops [⟨some 18, .bin .lss .num (.tmp 17) (.tmp 16), none⟩]) (
       .seq (
        .cond (.tmp 18) (
          .skip) (
          .exit 0)) (
       .seq (
        .block 1 (
          .seq (
           .ops [⟨some 19, .val (.tmp 17), none⟩,
             ⟨some 20, .indexAddr 1 (.tmp 15) (.tmp 17), none⟩,
             ⟨some 21, .load false 1 (.tmp 20), none⟩,
             ⟨some 7, .val (.tmp 19), none⟩,
             ⟨some 8, .val (.tmp 21), none⟩]) (
          .seq (
           .ops [⟨some 22, .val (.tmp 1), none⟩,
             ⟨some 23, .val (.tmp 7), none⟩,
             ⟨some 24, .indexAddr 1 (.tmp 22) (.tmp 23), none⟩,
             ⟨some 25, .load false 1 (.tmp 24), none⟩,
             ⟨some 9, .val (.tmp 25), none⟩]) (
          .seq (
           .ops [⟨some 26, .val (.tmp 2), none⟩,
             ⟨some 27, .val (.tmp 8), none⟩,
             ⟨some 28, .val (.tmp 9), none⟩,
             ⟨some 29, .call (.tmp 26) [(.tmp 27), (.tmp 28)], none⟩,
             ⟨some 30, .un .not (.tmp 29), none⟩]) (
          .cond (.tmp 30) (
            .seq (
             .ops [⟨some 6, .val (.val (.lit (.bool false))), none⟩]) (
            .ret)) (
            .skip)))))) (
       .ops [⟨some 31, .bin .add .num (.tmp 17) (.val (.lit (.int .i64 1))), none⟩,
         ⟨some 17, .val (.tmp 31), none⟩])))

def a_slices_EqualFunc_int64_int64_int64_int64 : ACode :=
  .seq (
   .ops [⟨some 6, .val (.val (.lit (.bool false))), none⟩]) (
  .seq (
   .seq (
    .ops [⟨some 10, .val (.tmp 0), none⟩,
      ⟨some 11, .len 1 (.tmp 10), none⟩,
      ⟨some 12, .val (.tmp 1), none⟩,
      ⟨some 13, .len 1 (.tmp 12), none⟩,
      ⟨some 14, .bin .neq .num (.tmp 11) (.tmp 13), none⟩]) (
   .cond (.tmp 14) (
     .seq (
      .ops [⟨some 6, .val (.val (.lit (.bool false))), none⟩]) (
     .ret)) (
     .skip))) (
  .seq (
   .seq (
    .ops [⟨some 15, .val (.tmp 0), none⟩,
      ⟨some 16, .len 1 (.tmp 15), none⟩,
      ⟨some 17, .val (.val (.lit (.int .i64 0))), none⟩]) (
   .block 0 (
     .loop a_slices_EqualFunc_int64_int64_int64_int64b1))) (
  .seq (
   .ops [⟨some 6, .val (.val (.lit (.bool true))), none⟩]) (
  .ret))))

theorem c_slices_EqualFunc_int64_int64_int64_int64 : codeOf Try.prog {  } 43 = some (a_slices_EqualFunc_int64_int64_int64_int64, [.tmp 6], 32) := by kernel_rfl

/-- slices.Equal[[]int64,int64] -/
def a_slices_Equal_int64_int64b1 : ACode :=
       .seq (
        .ops [⟨some 14, .bin .lss .num (.tmp 13) (.tmp 12), none⟩]) (
       .seq (
        .cond (.tmp 14) (
          .skip) (
          .exit 0)) (
       .seq (
        .block 1 (
          .seq (
           .ops [⟨some 15, .val (.tmp 13), none⟩,
             ⟨some 5, .val (.tmp 15), none⟩]) (
          .seq (
           .ops [⟨some 16, .val (.tmp 0), none⟩,
             ⟨some 17, .val (.tmp 5), none⟩,
             ⟨some 18, .indexAddr 1 (.tmp 16) (.tmp 17), none⟩,
             ⟨some 20, .val (.tmp 1), none⟩,
             ⟨some 21, .val (.tmp 5), none⟩,
             ⟨some 22, .indexAddr 1 (.tmp 20) (.tmp 21), none⟩,
             ⟨some 19, .load false 1 (.tmp 18), none⟩,
             ⟨some 23, .load false 1 (.tmp 22), none⟩,
             ⟨some 24, .bin .neq .num (.tmp 19) (.tmp 23), none⟩]) (
          .cond (.tmp 24) (
            .seq (
             .ops [⟨some 4, .val (.val (.lit (.bool false))), none⟩]) (
            .ret)) (
            .skip))))) (
       .ops [⟨some 25, .bin .add .num (.tmp 13) (.val (.lit (.int .i64 1))), none⟩,
         ⟨some 13, .val (.tmp 25), none⟩])))

def a_slices_Equal_int64_int64 : ACode :=
  .seq (
   .ops [⟨some 4, .val (.val (.lit (.bool false))), none⟩]) (
  .seq (
   .seq (
    .ops [⟨some 6, .val (.tmp 0), none⟩,
      ⟨some 7, .len 1 (.tmp 6), none⟩,
      ⟨some 8, .val (.tmp 1), none⟩,
      ⟨some 9, .len 1 (.tmp 8), none⟩,
      ⟨some 10, .bin .neq .num (.tmp 7) (.tmp 9), none⟩]) (
   .cond (.tmp 10) (
     .seq (
      .ops [⟨some 4, .val (.val (.lit (.bool false))), none⟩]) (
     .ret)) (
     .skip))) (
  .seq (
   .seq (
    .ops [⟨some 11, .val (.tmp 0), none⟩,
      ⟨some 12, .len 1 (.tmp 11), none⟩,
      ⟨some 13, .val (.val (.lit (.int .i64 0))), none⟩]) (
   .block 0 (
     .loop a_slices_Equal_int64_int64b1))) (
  .seq (
   .ops [⟨some 4, .val (.val (.lit (.bool true))), none⟩]) (
  .ret))))

theorem c_slices_Equal_int64_int64 : codeOf Try.prog {  } 44 = some (a_slices_Equal_int64_int64, [.tmp 4], 26) := by kernel_rfl

/-- bobbin/mem.Same -/
def a_mem_Same : ACode :=
  .seq (
   .ops [⟨some 4, .val (.val (.lit (.bool false))), none⟩]) (
  .seq (
   .seq (
    .ops [⟨some 5, .val (.tmp 0), none⟩,
      ⟨some 6, .bin .eql .ptr (.tmp 5) (.val (.lit (.pointer none))), none⟩,
      ⟨some 7, .val (.tmp 6), none⟩,
      ⟨some 8, .val (.tmp 1), some (7, false)⟩,
      ⟨some 9, .bin .eql .ptr (.tmp 8) (.val (.lit (.pointer none))), some (7, false)⟩,
      ⟨some 10, .pick (.tmp 7) (.val (.lit (.bool true))) (.tmp 9), none⟩]) (
   .cond (.tmp 10) (
     .seq (
      .ops [⟨some 11, .val (.tmp 0), none⟩,
        ⟨some 12, .val (.tmp 1), none⟩,
        ⟨some 13, .bin .eql .ptr (.tmp 11) (.tmp 12), none⟩,
        ⟨some 4, .val (.tmp 13), none⟩]) (
     .ret)) (
     .skip))) (
  .seq (
   .ops [⟨some 14, .val (.tmp 0), none⟩,
     ⟨some 15, .nilck (.tmp 14), none⟩,
     ⟨some 16, .fieldAddr 1 (.tmp 15), none⟩,
     ⟨some 18, .val (.tmp 1), none⟩,
     ⟨some 19, .nilck (.tmp 18), none⟩,
     ⟨some 20, .fieldAddr 1 (.tmp 19), none⟩,
     ⟨some 17, .load false 1 (.tmp 16), none⟩,
     ⟨some 21, .load false 1 (.tmp 20), none⟩,
     ⟨some 22, .bin .eql .num (.tmp 17) (.tmp 21), none⟩,
     ⟨some 23, .val (.tmp 22), none⟩,
     ⟨some 24, .val (.tmp 0), some (23, true)⟩,
     ⟨some 25, .nilck (.tmp 24), some (23, true)⟩,
     ⟨some 26, .fieldAddr 0 (.tmp 25), some (23, true)⟩,
     ⟨some 28, .val (.tmp 1), some (23, true)⟩,
     ⟨some 29, .nilck (.tmp 28), some (23, true)⟩,
     ⟨some 30, .fieldAddr 0 (.tmp 29), some (23, true)⟩,
     ⟨some 27, .load false 1 (.tmp 26), some (23, true)⟩,
     ⟨some 31, .load false 1 (.tmp 30), some (23, true)⟩,
     ⟨some 32, .call (.val (.fn (.func 43) [] [])) [(.tmp 27), (.tmp 31), (.val (.fn (.func 44) [] []))], some (23, true)⟩,
     ⟨some 33, .pick (.tmp 23) (.tmp 32) (.val (.lit (.bool false))), none⟩,
     ⟨some 34, .val (.tmp 33), none⟩,
     ⟨some 35, .val (.tmp 0), some (34, true)⟩,
     ⟨some 36, .nilck (.tmp 35), some (34, true)⟩,
     ⟨some 37, .fieldAddr 2 (.tmp 36), some (34, true)⟩,
     ⟨some 39, .val (.tmp 1), some (34, true)⟩,
     ⟨some 40, .nilck (.tmp 39), some (34, true)⟩,
     ⟨some 41, .fieldAddr 2 (.tmp 40), some (34, true)⟩,
     ⟨some 38, .load false 1 (.tmp 37), some (34, true)⟩,
     ⟨some 42, .load false 1 (.tmp 41), some (34, true)⟩,
     ⟨some 43, .call (.val (.fn (.func 45) [] [])) [(.tmp 38), (.tmp 42)], some (34, true)⟩,
     ⟨some 44, .pick (.tmp 34) (.tmp 43) (.val (.lit (.bool false))), none⟩,
     ⟨some 4, .val (.tmp 44), none⟩]) (
  .ret)))

theorem c_mem_Same : codeOf Try.prog {  } 27 = some (a_mem_Same, [.tmp 4], 45) := by kernel_rfl

/-- (*bobbin/mem.Mem).Copy -/
def a_mem_Mem_Copy : ACode :=
  .seq (
   .ops [⟨some 2, .val (.val (.lit (.pointer none))), none⟩]) (
  .seq (
   .seq (
    .ops [⟨some 3, .val (.tmp 0), none⟩,
      ⟨some 4, .bin .eql .ptr (.tmp 3) (.val (.lit (.pointer none))), none⟩]) (
   .cond (.tmp 4) (
     .seq (
      .ops [⟨some 2, .val (.val (.lit (.pointer none))), none⟩]) (
     .ret)) (
     .skip))) (
  .seq (
   .ops [⟨some 5, .val (.tmp 0), none⟩,
     ⟨some 7, .val (.tmp 0), none⟩,
     ⟨some 8, .nilck (.tmp 7), none⟩,
     ⟨some 9, .fieldAddr 1 (.tmp 8), none⟩,
     ⟨some 11, .val (.tmp 0), none⟩,
     ⟨some 12, .nilck (.tmp 11), none⟩,
     ⟨some 13, .fieldAddr 2 (.tmp 12), none⟩,
     ⟨some 10, .load false 1 (.tmp 9), none⟩,
     ⟨some 14, .load false 1 (.tmp 13), none⟩,
     ⟨some 6, .kcall (.val (.fn (.func 26) [] [])) [(.tmp 5)], none⟩,
     ⟨some 15, .kcall (.val (.fn (.func 46) [] [])) [(.tmp 14)], none⟩,
     ⟨some 16, .build [(.sl .nil 0 []), (.lit (.int .i64 0)), (.lit (.map none))] [(0, 1, (.tmp 6)), (1, 1, (.tmp 10)), (2, 1, (.tmp 15))], none⟩,
     ⟨some 17, .box false (.tmp 16), none⟩,
     ⟨some 2, .val (.tmp 17), none⟩]) (
  .ret)))

theorem c_mem_Mem_Copy : codeOf Try.prog { kc := [6, 15] } 28 = some (a_mem_Mem_Copy, [.tmp 2], 18) := by kernel_rfl

/-- bobbin/bobbinlaw08.MemFirst -/
def a_bobbinlaw08_MemFirstb1 : ACode :=
       .seq (
        .seq (
         .ops [⟨some 127, .val (.tmp 16), none⟩,
           ⟨some 128, .val (.tmp 1), none⟩,
           ⟨some 129, .bin .leq .num (.tmp 127) (.tmp 128), none⟩]) (
        .cond (.tmp 129) (
          .skip) (
          .exit 6))) (
       .seq (
        .block 7 (
          .seq (
           .ops [⟨some 133, .val (.tmp 7), none⟩,
             ⟨some 134, .val (.tmp 16), none⟩,
             ⟨some 135, .call (.val (.fn (.func 25) [] [])) [(.tmp 133), (.tmp 134)], none⟩,
             ⟨some 132, .val (.tmp 135), none⟩,
             ⟨some 136, .extract (.tmp 132) 0, none⟩,
             ⟨some 137, .extract (.tmp 132) 1, none⟩,
             ⟨some 17, .val (.tmp 136), none⟩,
             ⟨some 18, .val (.tmp 137), none⟩]) (
          .seq (
           .ops [⟨some 138, .val (.tmp 18), none⟩]) (
          .cond (.tmp 138) (
            .seq (
             .ops [⟨some 4, .val (.val (.lit (.bool false))), none⟩]) (
            .ret)) (
            .skip))))) (
       .ops [⟨some 130, .val (.tmp 16), none⟩,
         ⟨some 131, .bin .add .num (.tmp 130) (.val (.lit (.int .i64 1))), none⟩,
         ⟨some 16, .val (.tmp 131), none⟩]))

def a_bobbinlaw08_MemFirstb2 : ACode :=
               .seq (
                .seq (
                 .ops [⟨some 82, .val (.tmp 11), none⟩,
                   ⟨some 83, .val (.tmp 9), none⟩,
                   ⟨some 84, .val (.tmp 10), none⟩,
                   ⟨some 85, .indexAddr 1 (.tmp 83) (.tmp 84), none⟩,
                   ⟨some 86, .load false 1 (.tmp 85), none⟩,
                   ⟨some 87, .len 1 (.tmp 86), none⟩,
                   ⟨some 88, .bin .lss .num (.tmp 82) (.tmp 87), none⟩]) (
                .cond (.tmp 88) (
                  .skip) (
                  .exit 4))) (
               .seq (
                .block 5 (
                  .seq (
                   .ops [⟨some 91, .val (.tmp 9), none⟩,
                     ⟨some 92, .val (.tmp 10), none⟩,
                     ⟨some 93, .indexAddr 1 (.tmp 91) (.tmp 92), none⟩,
                     ⟨some 95, .val (.tmp 11), none⟩,
                     ⟨some 98, .val (.tmp 0), none⟩,
                     ⟨some 99, .val (.tmp 10), none⟩,
                     ⟨some 100, .indexAddr 3 (.tmp 98) (.tmp 99), none⟩,
                     ⟨some 101, .fieldAddr 2 (.tmp 100), none⟩,
                     ⟨some 94, .load false 1 (.tmp 93), none⟩,
                     ⟨some 96, .indexAddr 1 (.tmp 94) (.tmp 95), none⟩,
                     ⟨some 97, .load false 1 (.tmp 96), none⟩,
                     ⟨some 102, .load false 1 (.tmp 101), none⟩,
                     ⟨some 103, .bin .neq .num (.tmp 97) (.tmp 102), none⟩]) (
                  .cond (.tmp 103) (
                    .seq (
                     .ops [⟨some 4, .val (.val (.lit (.bool false))), none⟩]) (
                    .ret)) (
                    .skip)))) (
               .ops [⟨some 89, .val (.tmp 11), none⟩,
                 ⟨some 90, .bin .add .num (.tmp 89) (.val (.lit (.int .i64 1))), none⟩,
                 ⟨some 11, .val (.tmp 90), none⟩]))

def a_bobbinlaw08_MemFirstb3 : ACode :=
       .seq (
        .seq (
         .ops [⟨some 65, .val (.tmp 10), none⟩,
           ⟨some 66, .val (.tmp 0), none⟩,
           ⟨some 67, .len 1 (.tmp 66), none⟩,
           ⟨some 68, .bin .lss .num (.tmp 65) (.tmp 67), none⟩]) (
        .cond (.tmp 68) (
          .skip) (
          .exit 2))) (
       .seq (
        .block 3 (
          .seq (
           .seq (
            .ops [⟨some 71, .val (.tmp 9), none⟩,
              ⟨some 72, .val (.tmp 10), none⟩,
              ⟨some 73, .indexAddr 1 (.tmp 71) (.tmp 72), none⟩,
              ⟨some 76, .val (.tmp 0), none⟩,
              ⟨some 77, .val (.tmp 10), none⟩,
              ⟨some 78, .indexAddr 3 (.tmp 76) (.tmp 77), none⟩,
              ⟨some 79, .fieldAddr 1 (.tmp 78), none⟩,
              ⟨some 74, .load false 1 (.tmp 73), none⟩,
              ⟨some 75, .len 1 (.tmp 74), none⟩,
              ⟨some 80, .load false 1 (.tmp 79), none⟩,
              ⟨some 81, .bin .neq .num (.tmp 75) (.tmp 80), none⟩]) (
           .cond (.tmp 81) (
             .seq (
              .ops [⟨some 4, .val (.val (.lit (.bool false))), none⟩]) (
             .ret)) (
             .skip))) (
          .seq (
           .seq (
            .ops [⟨some 11, .val (.val (.lit (.int .i64 0))), none⟩]) (
           .block 4 (
             .loop a_bobbinlaw08_MemFirstb2))) (
          .seq (
           .ops [⟨some 105, .val (.tmp 7), none⟩,
             ⟨some 106, .val (.tmp 10), none⟩,
             ⟨some 107, .val (.tmp 0), none⟩,
             ⟨some 108, .val (.tmp 10), none⟩,
             ⟨some 109, .indexAddr 3 (.tmp 107) (.tmp 108), none⟩,
             ⟨some 110, .fieldAddr 1 (.tmp 109), none⟩,
             ⟨some 111, .load false 1 (.tmp 110), none⟩,
             ⟨some 112, .call (.val (.fn (.func 24) [] [])) [(.tmp 105), (.tmp 106), (.tmp 111)], none⟩,
             ⟨some 104, .val (.tmp 112), none⟩,
             ⟨some 113, .extract (.tmp 104) 0, none⟩,
             ⟨some 114, .extract (.tmp 104) 1, none⟩,
             ⟨some 12, .val (.tmp 113), none⟩,
             ⟨some 13, .val (.tmp 114), none⟩]) (
          .seq (
           .ops [⟨some 116, .val (.tmp 7), none⟩,
             ⟨some 117, .val (.tmp 10), none⟩,
             ⟨some 118, .call (.val (.fn (.func 24) [] [])) [(.tmp 116), (.tmp 117), (.val (.lit (.int .i64 (-1))))], none⟩,
             ⟨some 115, .val (.tmp 118), none⟩,
             ⟨some 119, .extract (.tmp 115) 0, none⟩,
             ⟨some 120, .extract (.tmp 115) 1, none⟩,
             ⟨some 14, .val (.tmp 119), none⟩,
             ⟨some 15, .val (.tmp 120), none⟩]) (
          .seq (
           .ops [⟨some 121, .val (.tmp 13), none⟩,
             ⟨some 122, .bin .neq .num (.tmp 121) (.val (.lit (.int .i64 5))), none⟩,
             ⟨some 123, .val (.tmp 122), none⟩,
             ⟨some 124, .val (.tmp 15), some (123, false)⟩,
             ⟨some 125, .bin .neq .num (.tmp 124) (.val (.lit (.int .i64 5))), some (123, false)⟩,
             ⟨some 126, .pick (.tmp 123) (.val (.lit (.bool true))) (.tmp 125), none⟩]) (
          .cond (.tmp 126) (
            .seq (
             .ops [⟨some 4, .val (.val (.lit (.bool false))), none⟩]) (
            .ret)) (
            .skip)))))))) (
       .ops [⟨some 69, .val (.tmp 10), none⟩,
         ⟨some 70, .bin .add .num (.tmp 69) (.val (.lit (.int .i64 1))), none⟩,
         ⟨some 10, .val (.tmp 70), none⟩]))

def a_bobbinlaw08_MemFirstb4 : ACode :=
       .seq (
        .seq (
         .ops [⟨some 21, .val (.tmp 6), none⟩,
           ⟨some 22, .val (.tmp 0), none⟩,
           ⟨some 23, .len 1 (.tmp 22), none⟩,
           ⟨some 24, .bin .lss .num (.tmp 21) (.tmp 23), none⟩,
           ⟨some 25, .val (.tmp 24), none⟩,
           ⟨some 26, .val (.tmp 5), some (25, true)⟩,
           ⟨some 27, .bin .leq .num (.tmp 26) (.val (.lit (.int .i64 100000))), some (25, true)⟩,
           ⟨some 28, .pick (.tmp 25) (.tmp 27) (.val (.lit (.bool false))), none⟩]) (
        .cond (.tmp 28) (
          .skip) (
          .exit 0))) (
       .seq (
        .block 1 (
          .ops [⟨some 31, .val (.tmp 5), none⟩,
            ⟨some 32, .bin .add .num (.tmp 31) (.val (.lit (.int .i64 1))), none⟩,
            ⟨some 33, .val (.tmp 0), none⟩,
            ⟨some 34, .val (.tmp 6), none⟩,
            ⟨some 35, .indexAddr 3 (.tmp 33) (.tmp 34), none⟩,
            ⟨some 36, .fieldAddr 1 (.tmp 35), none⟩,
            ⟨some 37, .load false 1 (.tmp 36), none⟩,
            ⟨some 38, .mm2 true (.tmp 37) (.val (.lit (.int .i64 0))), none⟩,
            ⟨some 39, .mm2 false (.tmp 38) (.val (.lit (.int .i64 100000))), none⟩,
            ⟨some 40, .bin .add .num (.tmp 32) (.tmp 39), none⟩,
            ⟨some 5, .val (.tmp 40), none⟩])) (
       .ops [⟨some 29, .val (.tmp 6), none⟩,
         ⟨some 30, .bin .add .num (.tmp 29) (.val (.lit (.int .i64 1))), none⟩,
         ⟨some 6, .val (.tmp 30), none⟩]))

def a_bobbinlaw08_MemFirst : ACode :=
  .seq (
   .ops [⟨some 4, .val (.val (.lit (.bool false))), none⟩]) (
  .seq (
   .ops [⟨some 5, .val (.val (.lit (.int .i64 0))), none⟩]) (
  .seq (
   .seq (
    .ops [⟨some 6, .val (.val (.lit (.int .i64 0))), none⟩]) (
   .block 0 (
     .loop a_bobbinlaw08_MemFirstb4))) (
  .seq (
   .seq (
    .ops [⟨some 41, .val (.tmp 5), none⟩,
      ⟨some 42, .bin .gtr .num (.tmp 41) (.val (.lit (.int .i64 100000))), none⟩,
      ⟨some 43, .val (.tmp 42), none⟩,
      ⟨some 44, .call (.val (.fn (.func 15) [] [])) [], some (43, false)⟩,
      ⟨some 45, .un .not (.tmp 44), some (43, false)⟩,
      ⟨some 46, .pick (.tmp 43) (.val (.lit (.bool true))) (.tmp 45), none⟩]) (
   .cond (.tmp 46) (
     .seq (
      .ops [⟨some 47, .call (.val (.fn (.func 15) [] [])) [], none⟩,
        ⟨some 4, .val (.tmp 47), none⟩]) (
     .ret)) (
     .skip))) (
  .seq (
   .ops [⟨some 49, .val (.tmp 0), none⟩,
     ⟨some 50, .val (.tmp 1), none⟩,
     ⟨some 51, .call (.val (.fn (.func 20) [] [])) [(.tmp 49), (.tmp 50)], none⟩,
     ⟨some 48, .val (.tmp 51), none⟩,
     ⟨some 52, .extract (.tmp 48) 0, none⟩,
     ⟨some 53, .extract (.tmp 48) 1, none⟩,
     ⟨some 7, .val (.tmp 52), none⟩,
     ⟨some 8, .val (.tmp 53), none⟩]) (
  .seq (
   .seq (
    .ops [⟨some 54, .val (.tmp 8), none⟩,
      ⟨some 55, .bin .neq .num (.tmp 54) (.val (.lit (.int .i64 0))), none⟩]) (
   .cond (.tmp 55) (
     .seq (
      .ops [⟨some 56, .val (.tmp 7), none⟩,
        ⟨some 57, .bin .eql .ptr (.tmp 56) (.val (.lit (.pointer none))), none⟩,
        ⟨some 4, .val (.tmp 57), none⟩]) (
     .ret)) (
     .skip))) (
  .seq (
   .ops [⟨some 58, .val (.tmp 7), none⟩,
     ⟨some 59, .call (.val (.fn (.func 26) [] [])) [(.tmp 58)], none⟩,
     ⟨some 9, .val (.tmp 59), none⟩]) (
  .seq (
   .seq (
    .ops [⟨some 60, .val (.tmp 9), none⟩,
      ⟨some 61, .len 1 (.tmp 60), none⟩,
      ⟨some 62, .val (.tmp 0), none⟩,
      ⟨some 63, .len 1 (.tmp 62), none⟩,
      ⟨some 64, .bin .neq .num (.tmp 61) (.tmp 63), none⟩]) (
   .cond (.tmp 64) (
     .seq (
      .ops [⟨some 4, .val (.val (.lit (.bool false))), none⟩]) (
     .ret)) (
     .skip))) (
  .seq (
   .seq (
    .ops [⟨some 10, .val (.val (.lit (.int .i64 0))), none⟩]) (
   .block 2 (
     .loop a_bobbinlaw08_MemFirstb3))) (
  .seq (
   .seq (
    .ops [⟨some 16, .val (.val (.lit (.int .i64 (-1)))), none⟩]) (
   .block 6 (
     .loop a_bobbinlaw08_MemFirstb1))) (
  .seq (
   .ops [⟨some 140, .val (.tmp 7), none⟩,
     ⟨some 141, .val (.tmp 0), none⟩,
     ⟨some 142, .len 1 (.tmp 141), none⟩,
     ⟨some 143, .call (.val (.fn (.func 24) [] [])) [(.tmp 140), (.tmp 142), (.val (.lit (.int .i64 0)))], none⟩,
     ⟨some 139, .val (.tmp 143), none⟩,
     ⟨some 144, .extract (.tmp 139) 0, none⟩,
     ⟨some 145, .extract (.tmp 139) 1, none⟩,
     ⟨some 19, .val (.tmp 144), none⟩,
     ⟨some 20, .val (.tmp 145), none⟩]) (
  .seq (
   .ops [⟨some 146, .val (.tmp 20), none⟩,
     ⟨some 147, .bin .eql .num (.tmp 146) (.val (.lit (.int .i64 1))), none⟩,
     ⟨some 148, .val (.tmp 147), none⟩,
     ⟨some 149, .val (.tmp 7), some (148, true)⟩,
     ⟨some 150, .val (.tmp 1), some (148, true)⟩,
     ⟨some 151, .call (.val (.fn (.func 22) [] [])) [(.tmp 149), (.tmp 150), (.val (.lit (.int .i64 0)))], some (148, true)⟩,
     ⟨some 152, .bin .eql .num (.tmp 151) (.val (.lit (.int .i64 1))), some (148, true)⟩,
     ⟨some 153, .pick (.tmp 148) (.tmp 152) (.val (.lit (.bool false))), none⟩,
     ⟨some 154, .val (.tmp 153), none⟩,
     ⟨some 155, .val (.tmp 7), some (154, true)⟩,
     ⟨some 156, .val (.tmp 7), some (154, true)⟩,
     ⟨some 157, .call (.val (.fn (.func 28) [] [])) [(.tmp 156)], some (154, true)⟩,
     ⟨some 158, .call (.val (.fn (.func 27) [] [])) [(.tmp 155), (.tmp 157)], some (154, true)⟩,
     ⟨some 159, .pick (.tmp 154) (.tmp 158) (.val (.lit (.bool false))), none⟩,
     ⟨some 4, .val (.tmp 159), none⟩]) (
  .ret))))))))))))

theorem c_bobbinlaw08_MemFirst : codeOf Try.prog {  } 8 = some (a_bobbinlaw08_MemFirst, [.tmp 4], 160) := by kernel_rfl

/-- bobbin/bobbinlaw08.MemPlays -/
def a_bobbinlaw08_MemPlaysb1 : ACode :=
       .seq (
        .seq (
         .ops [⟨some 48, .val (.tmp 11), none⟩,
           ⟨some 49, .val (.tmp 2), none⟩,
           ⟨some 50, .len 1 (.tmp 49), none⟩,
           ⟨some 51, .bin .lss .num (.tmp 48) (.tmp 50), none⟩]) (
        .cond (.tmp 51) (
          .skip) (
          .exit 0))) (
       .seq (
        .block 1 (
          .seq (
           .ops [⟨some 54, .val (.tmp 7), none⟩,
             ⟨some 55, .call (.val (.fn (.func 28) [] [])) [(.tmp 54)], none⟩,
             ⟨some 56, .val (.tmp 9), none⟩,
             ⟨some 57, .call (.val (.fn (.func 30) [] [])) [(.tmp 56)], none⟩,
             ⟨some 12, .val (.tmp 55), none⟩,
             ⟨some 13, .val (.tmp 57), none⟩]) (
          .seq (
           .ops [⟨some 58, .val (.tmp 2), none⟩,
             ⟨some 59, .val (.tmp 11), none⟩,
             ⟨some 60, .indexAddr 4 (.tmp 58) (.tmp 59), none⟩,
             ⟨some 61, .load true 4 (.tmp 60), none⟩,
             ⟨some 62, .val (.tmp 7), none⟩,
             ⟨some 63, .val (.tmp 9), none⟩,
             ⟨some 64, .call (.val (.fn (.func 31) [] [])) [(.tmp 61), (.tmp 62), (.tmp 63)], none⟩,
             ⟨some 65, .un .not (.tmp 64), none⟩,
             ⟨some 66, .val (.tmp 65), none⟩,
             ⟨some 67, .val (.tmp 7), some (66, false)⟩,
             ⟨some 68, .val (.tmp 9), some (66, false)⟩,
             ⟨some 69, .call (.val (.fn (.func 32) [] [])) [(.tmp 67), (.tmp 68)], some (66, false)⟩,
             ⟨some 70, .un .not (.tmp 69), some (66, false)⟩,
             ⟨some 71, .pick (.tmp 66) (.val (.lit (.bool true))) (.tmp 70), none⟩,
             ⟨some 72, .val (.tmp 71), none⟩,
             ⟨some 73, .val (.tmp 12), some (72, false)⟩,
             ⟨some 74, .val (.tmp 13), some (72, false)⟩,
             ⟨some 75, .call (.val (.fn (.func 32) [] [])) [(.tmp 73), (.tmp 74)], some (72, false)⟩,
             ⟨some 76, .un .not (.tmp 75), some (72, false)⟩,
             ⟨some 77, .pick (.tmp 72) (.val (.lit (.bool true))) (.tmp 76), none⟩,
             ⟨some 78, .val (.tmp 77), none⟩,
             ⟨some 79, .val (.tmp 7), some (78, false)⟩,
             ⟨some 80, .val (.tmp 12), some (78, false)⟩,
             ⟨some 81, .call (.val (.fn (.func 27) [] [])) [(.tmp 79), (.tmp 80)], some (78, false)⟩,
             ⟨some 82, .val (.tmp 9), some (78, false)⟩,
             ⟨some 83, .val (.tmp 13), some (78, false)⟩,
             ⟨some 84, .call (.val (.fn (.func 33) [] [])) [(.tmp 82), (.tmp 83)], some (78, false)⟩,
             ⟨some 85, .bin .neq .bool (.tmp 81) (.tmp 84), some (78, false)⟩,
             ⟨some 86, .pick (.tmp 78) (.val (.lit (.bool true))) (.tmp 85), none⟩,
             ⟨some 87, .val (.tmp 86), none⟩,
             ⟨some 88, .val (.tmp 2), some (87, false)⟩,
             ⟨some 89, .val (.tmp 11), some (87, false)⟩,
             ⟨some 90, .indexAddr 4 (.tmp 88) (.tmp 89), some (87, false)⟩,
             ⟨some 91, .load true 4 (.tmp 90), some (87, false)⟩,
             ⟨some 92, .val (.tmp 12), some (87, false)⟩,
             ⟨some 93, .val (.tmp 13), some (87, false)⟩,
             ⟨some 94, .call (.val (.fn (.func 31) [] [])) [(.tmp 91), (.tmp 92), (.tmp 93)], some (87, false)⟩,
             ⟨some 95, .un .not (.tmp 94), some (87, false)⟩,
             ⟨some 96, .pick (.tmp 87) (.val (.lit (.bool true))) (.tmp 95), none⟩,
             ⟨some 97, .val (.tmp 96), none⟩,
             ⟨some 98, .val (.tmp 7), some (97, false)⟩,
             ⟨some 99, .val (.tmp 12), some (97, false)⟩,
             ⟨some 100, .call (.val (.fn (.func 27) [] [])) [(.tmp 98), (.tmp 99)], some (97, false)⟩,
             ⟨some 101, .un .not (.tmp 100), some (97, false)⟩,
             ⟨some 102, .pick (.tmp 97) (.val (.lit (.bool true))) (.tmp 101), none⟩]) (
          .cond (.tmp 102) (
            .seq (
             .ops [⟨some 6, .val (.val (.lit (.bool false))), none⟩]) (
            .ret)) (
            .skip))))) (
       .ops [⟨some 52, .val (.tmp 11), none⟩,
         ⟨some 53, .bin .add .num (.tmp 52) (.val (.lit (.int .i64 1))), none⟩,
         ⟨some 11, .val (.tmp 53), none⟩]))

def a_bobbinlaw08_MemPlays : ACode :=
  .seq (
   .ops [⟨some 6, .val (.val (.lit (.bool false))), none⟩]) (
  .seq (
   .seq (
    .ops [⟨some 14, .val (.tmp 0), none⟩,
      ⟨some 15, .len 1 (.tmp 14), none⟩,
      ⟨some 16, .bin .gtr .num (.tmp 15) (.val (.lit (.int .i64 20))), none⟩,
      ⟨some 17, .val (.tmp 16), none⟩,
      ⟨some 18, .val (.tmp 2), some (17, false)⟩,
      ⟨some 19, .len 1 (.tmp 18), some (17, false)⟩,
      ⟨some 20, .bin .gtr .num (.tmp 19) (.val (.lit (.int .i64 60))), some (17, false)⟩,
      ⟨some 21, .pick (.tmp 17) (.val (.lit (.bool true))) (.tmp 20), none⟩]) (
   .cond (.tmp 21) (
     .seq (
      .ops [⟨some 22, .call (.val (.fn (.func 15) [] [])) [], none⟩,
        ⟨some 6, .val (.tmp 22), none⟩]) (
     .ret)) (
     .skip))) (
  .seq (
   .ops [⟨some 24, .val (.tmp 0), none⟩,
     ⟨some 25, .val (.tmp 1), none⟩,
     ⟨some 26, .call (.val (.fn (.func 20) [] [])) [(.tmp 24), (.tmp 25)], none⟩,
     ⟨some 23, .val (.tmp 26), none⟩,
     ⟨some 27, .extract (.tmp 23) 0, none⟩,
     ⟨some 28, .extract (.tmp 23) 1, none⟩,
     ⟨some 7, .val (.tmp 27), none⟩,
     ⟨some 8, .val (.tmp 28), none⟩]) (
  .seq (
   .ops [⟨some 30, .val (.tmp 0), none⟩,
     ⟨some 31, .val (.tmp 1), none⟩,
     ⟨some 32, .call (.val (.fn (.func 29) [] [])) [(.tmp 30), (.tmp 31)], none⟩,
     ⟨some 29, .val (.tmp 32), none⟩,
     ⟨some 33, .extract (.tmp 29) 0, none⟩,
     ⟨some 34, .extract (.tmp 29) 1, none⟩,
     ⟨some 9, .val (.tmp 33), none⟩,
     ⟨some 10, .val (.tmp 34), none⟩]) (
  .seq (
   .seq (
    .ops [⟨some 35, .val (.tmp 8), none⟩,
      ⟨some 36, .val (.tmp 10), none⟩,
      ⟨some 37, .bin .neq .num (.tmp 35) (.tmp 36), none⟩,
      ⟨some 38, .val (.tmp 37), none⟩,
      ⟨some 39, .val (.tmp 7), some (38, false)⟩,
      ⟨some 40, .bin .eql .ptr (.tmp 39) (.val (.lit (.pointer none))), some (38, false)⟩,
      ⟨some 41, .val (.tmp 8), some (38, false)⟩,
      ⟨some 42, .bin .neq .num (.tmp 41) (.val (.lit (.int .i64 0))), some (38, false)⟩,
      ⟨some 43, .bin .neq .bool (.tmp 40) (.tmp 42), some (38, false)⟩,
      ⟨some 44, .pick (.tmp 38) (.val (.lit (.bool true))) (.tmp 43), none⟩]) (
   .cond (.tmp 44) (
     .seq (
      .ops [⟨some 6, .val (.val (.lit (.bool false))), none⟩]) (
     .ret)) (
     .skip))) (
  .seq (
   .seq (
    .ops [⟨some 45, .val (.tmp 8), none⟩,
      ⟨some 46, .bin .neq .num (.tmp 45) (.val (.lit (.int .i64 0))), none⟩]) (
   .cond (.tmp 46) (
     .seq (
      .ops [⟨some 47, .call (.val (.fn (.func 15) [] [])) [], none⟩,
        ⟨some 6, .val (.tmp 47), none⟩]) (
     .ret)) (
     .skip))) (
  .seq (
   .seq (
    .ops [⟨some 11, .val (.val (.lit (.int .i64 0))), none⟩]) (
   .block 0 (
     .loop a_bobbinlaw08_MemPlaysb1))) (
  .seq (
   .ops [⟨some 103, .call (.val (.fn (.func 15) [] [])) [], none⟩,
     ⟨some 6, .val (.tmp 103), none⟩]) (
  .ret))))))))

theorem c_bobbinlaw08_MemPlays : codeOf Try.prog {  } 9 = some (a_bobbinlaw08_MemPlays, [.tmp 6], 104) := by kernel_rfl

/-- bobbin/bobbinlaw08.MemNames -/
def a_bobbinlaw08_MemNames : ACode :=
  .seq (
   .ops [⟨some 0, .val (.val (.lit (.bool false))), none⟩]) (
  .seq (
   .ops [⟨some 1, .val (.val (.lit (.pointer none))), none⟩]) (
  .seq (
   .ops [⟨some 35, .val (.tmp 1), none⟩,
     ⟨some 36, .call (.val (.fn (.func 24) [] [])) [(.tmp 35), (.val (.lit (.int .i64 0))), (.val (.lit (.int .i64 0)))], none⟩,
     ⟨some 34, .val (.tmp 36), none⟩,
     ⟨some 37, .extract (.tmp 34) 0, none⟩,
     ⟨some 38, .extract (.tmp 34) 1, none⟩,
     ⟨some 2, .val (.tmp 37), none⟩,
     ⟨some 3, .val (.tmp 38), none⟩]) (
  .seq (
   .ops [⟨some 40, .val (.tmp 1), none⟩,
     ⟨some 41, .call (.val (.fn (.func 25) [] [])) [(.tmp 40), (.val (.lit (.int .i64 0)))], none⟩,
     ⟨some 39, .val (.tmp 41), none⟩,
     ⟨some 42, .extract (.tmp 39) 0, none⟩,
     ⟨some 43, .extract (.tmp 39) 1, none⟩,
     ⟨some 4, .val (.tmp 42), none⟩,
     ⟨some 5, .val (.tmp 43), none⟩]) (
  .seq (
   .ops [⟨some 45, .build [(.lit (.string ⟨#[]⟩)), (.lit (.int .i64 0)), (.lit (.int .i64 0))] [(1, 1, (.val (.lit (.int .i64 0))))], none⟩,
     ⟨some 46, .bslice false 3 1 [(.lit (.string ⟨#[]⟩)), (.lit (.int .i64 0)), (.lit (.int .i64 0))] [(0, 3, (.tmp 45))], none⟩,
     ⟨some 47, .call (.val (.fn (.func 20) [] [])) [(.tmp 46), (.val (.lit (.int .i64 0)))], none⟩,
     ⟨some 44, .val (.tmp 47), none⟩,
     ⟨some 48, .extract (.tmp 44) 0, none⟩,
     ⟨some 49, .extract (.tmp 44) 1, none⟩,
     ⟨some 6, .val (.tmp 48), none⟩,
     ⟨some 7, .val (.tmp 49), none⟩]) (
  .seq (
   .ops [⟨some 51, .build [(.lit (.string ⟨#[]⟩)), (.lit (.int .i64 0)), (.lit (.int .i64 0))] [(1, 1, (.val (.lit (.int .i64 1025))))], none⟩,
     ⟨some 52, .bslice false 3 1 [(.lit (.string ⟨#[]⟩)), (.lit (.int .i64 0)), (.lit (.int .i64 0))] [(0, 3, (.tmp 51))], none⟩,
     ⟨some 53, .call (.val (.fn (.func 20) [] [])) [(.tmp 52), (.val (.lit (.int .i64 0)))], none⟩,
     ⟨some 50, .val (.tmp 53), none⟩,
     ⟨some 54, .extract (.tmp 50) 0, none⟩,
     ⟨some 55, .extract (.tmp 50) 1, none⟩,
     ⟨some 8, .val (.tmp 54), none⟩,
     ⟨some 9, .val (.tmp 55), none⟩]) (
  .seq (
   .ops [⟨some 57, .call (.val (.fn (.func 20) [] [])) [(.val (.sl .nil 0 [])), (.val (.lit (.int .i64 (-1))))], none⟩,
     ⟨some 56, .val (.tmp 57), none⟩,
     ⟨some 58, .extract (.tmp 56) 0, none⟩,
     ⟨some 59, .extract (.tmp 56) 1, none⟩,
     ⟨some 10, .val (.tmp 58), none⟩,
     ⟨some 11, .val (.tmp 59), none⟩]) (
  .seq (
   .ops [⟨some 61, .call (.val (.fn (.func 20) [] [])) [(.val (.sl .nil 0 [])), (.val (.lit (.int .i64 257)))], none⟩,
     ⟨some 60, .val (.tmp 61), none⟩,
     ⟨some 62, .extract (.tmp 60) 0, none⟩,
     ⟨some 63, .extract (.tmp 60) 1, none⟩,
     ⟨some 12, .val (.tmp 62), none⟩,
     ⟨some 13, .val (.tmp 63), none⟩]) (
  .seq (
   .ops [⟨some 65, .build [(.lit (.string ⟨#[]⟩)), (.lit (.int .i64 0)), (.lit (.int .i64 0))] [(1, 1, (.val (.lit (.int .i64 2)))), (2, 1, (.val (.lit (.int .i64 7))))], none⟩,
     ⟨some 66, .bslice false 3 1 [(.lit (.string ⟨#[]⟩)), (.lit (.int .i64 0)), (.lit (.int .i64 0))] [(0, 3, (.tmp 65))], none⟩,
     ⟨some 67, .call (.val (.fn (.func 20) [] [])) [(.tmp 66), (.val (.lit (.int .i64 1)))], none⟩,
     ⟨some 64, .val (.tmp 67), none⟩,
     ⟨some 68, .extract (.tmp 64) 0, none⟩,
     ⟨some 69, .extract (.tmp 64) 1, none⟩,
     ⟨some 14, .val (.tmp 68), none⟩,
     ⟨some 15, .val (.tmp 69), none⟩]) (
  .seq (
   .seq (
    .ops [⟨some 70, .val (.tmp 15), none⟩,
      ⟨some 71, .bin .neq .num (.tmp 70) (.val (.lit (.int .i64 0))), none⟩]) (
   .cond (.tmp 71) (
     .seq (
      .ops [⟨some 0, .val (.val (.lit (.bool false))), none⟩]) (
     .ret)) (
     .skip))) (
  .seq (
   .ops [⟨some 72, .val (.tmp 14), none⟩,
     ⟨some 73, .call (.val (.fn (.func 21) [] [])) [(.tmp 72), (.val (.lit (.int .i64 0))), (.val (.lit (.int .i64 1))), (.val (.lit (.int .i64 5)))], none⟩,
     ⟨some 74, .val (.tmp 14), none⟩,
     ⟨some 75, .call (.val (.fn (.func 21) [] [])) [(.tmp 74), (.val (.lit (.int .i64 1))), (.val (.lit (.int .i64 0))), (.val (.lit (.int .i64 5)))], none⟩,
     ⟨some 76, .val (.tmp 14), none⟩,
     ⟨some 77, .call (.val (.fn (.func 21) [] [])) [(.tmp 76), (.val (.lit (.int .i64 0))), (.val (.lit (.int .i64 2))), (.val (.lit (.int .i64 5)))], none⟩,
     ⟨some 16, .val (.tmp 73), none⟩,
     ⟨some 17, .val (.tmp 75), none⟩,
     ⟨some 18, .val (.tmp 77), none⟩]) (
  .seq (
   .ops [⟨some 78, .val (.tmp 14), none⟩,
     ⟨some 79, .call (.val (.fn (.func 22) [] [])) [(.tmp 78), (.val (.lit (.int .i64 0))), (.val (.lit (.int .i64 3)))], none⟩,
     ⟨some 80, .val (.tmp 14), none⟩,
     ⟨some 81, .call (.val (.fn (.func 22) [] [])) [(.tmp 80), (.val (.lit (.int .i64 0))), (.val (.lit (.int .i64 3)))], none⟩,
     ⟨some 82, .val (.tmp 14), none⟩,
     ⟨some 83, .call (.val (.fn (.func 23) [] [])) [(.tmp 82), (.val (.lit (.int .i64 0))), (.val (.lit (.int .i64 4)))], none⟩,
     ⟨some 19, .val (.tmp 79), none⟩,
     ⟨some 20, .val (.tmp 81), none⟩,
     ⟨some 21, .val (.tmp 83), none⟩]) (
  .seq (
   .ops [⟨some 84, .val (.tmp 14), none⟩,
     ⟨some 85, .call (.val (.fn (.func 22) [] [])) [(.tmp 84), (.val (.lit (.int .i64 1))), (.val (.lit (.int .i64 3)))], none⟩,
     ⟨some 86, .val (.tmp 14), none⟩,
     ⟨some 87, .call (.val (.fn (.func 23) [] [])) [(.tmp 86), (.val (.lit (.int .i64 (-1)))), (.val (.lit (.int .i64 3)))], none⟩,
     ⟨some 88, .val (.tmp 14), none⟩,
     ⟨some 89, .call (.val (.fn (.func 23) [] [])) [(.tmp 88), (.val (.lit (.int .i64 0))), (.val (.lit (.int .i64 3)))], none⟩,
     ⟨some 22, .val (.tmp 85), none⟩,
     ⟨some 23, .val (.tmp 87), none⟩,
     ⟨some 24, .val (.tmp 89), none⟩]) (
  .seq (
   .ops [⟨some 90, .val (.tmp 14), none⟩,
     ⟨some 91, .call (.val (.fn (.func 23) [] [])) [(.tmp 90), (.val (.lit (.int .i64 0))), (.val (.lit (.int .i64 3)))], none⟩,
     ⟨some 25, .val (.tmp 91), none⟩]) (
  .seq (
   .ops [⟨some 93, .call (.val (.fn (.func 13) [] [])) [(.val (.lit (.int .u8 10))), (.val (.lit (.int .i64 (-9223372036854775808)))), (.val (.lit (.int .i64 (-1))))], none⟩,
     ⟨some 92, .val (.tmp 93), none⟩,
     ⟨some 94, .extract (.tmp 92) 0, none⟩,
     ⟨some 95, .extract (.tmp 92) 1, none⟩,
     ⟨some 26, .val (.tmp 94), none⟩,
     ⟨some 27, .val (.tmp 95), none⟩]) (
  .seq (
   .ops [⟨some 97, .call (.val (.fn (.func 13) [] [])) [(.val (.lit (.int .u8 11))), (.val (.lit (.int .i64 (-9223372036854775808)))), (.val (.lit (.int .i64 (-1))))], none⟩,
     ⟨some 96, .val (.tmp 97), none⟩,
     ⟨some 98, .extract (.tmp 96) 0, none⟩,
     ⟨some 99, .extract (.tmp 96) 1, none⟩,
     ⟨some 28, .val (.tmp 98), none⟩,
     ⟨some 29, .val (.tmp 99), none⟩]) (
  .seq (
   .ops [⟨some 101, .call (.val (.fn (.func 13) [] [])) [(.val (.lit (.int .u8 5))), (.val (.lit (.int .i64 1))), (.val (.lit (.int .i64 1)))], none⟩,
     ⟨some 100, .val (.tmp 101), none⟩,
     ⟨some 102, .extract (.tmp 100) 0, none⟩,
     ⟨some 103, .extract (.tmp 100) 1, none⟩,
     ⟨some 30, .val (.tmp 102), none⟩,
     ⟨some 31, .val (.tmp 103), none⟩]) (
  .seq (
   .ops [⟨some 105, .call (.val (.fn (.func 11) [] [])) [(.val (.lit (.int .u8 7))), (.val (.lit (.int .i64 1)))], none⟩,
     ⟨some 104, .val (.tmp 105), none⟩,
     ⟨some 106, .extract (.tmp 104) 0, none⟩,
     ⟨some 107, .extract (.tmp 104) 1, none⟩,
     ⟨some 32, .val (.tmp 106), none⟩,
     ⟨some 33, .val (.tmp 107), none⟩]) (
  .seq (
   .ops [⟨some 108, .val (.tmp 1), none⟩,
     ⟨some 109, .call (.val (.fn (.func 21) [] [])) [(.tmp 108), (.val (.lit (.int .i64 0))), (.val (.lit (.int .i64 0))), (.val (.lit (.int .i64 0)))], none⟩,
     ⟨some 110, .bin .eql .num (.tmp 109) (.val (.lit (.int .i64 2))), none⟩,
     ⟨some 111, .val (.tmp 110), none⟩,
     ⟨some 112, .val (.tmp 1), some (111, true)⟩,
     ⟨some 113, .call (.val (.fn (.func 22) [] [])) [(.tmp 112), (.val (.lit (.int .i64 0))), (.val (.lit (.int .i64 0)))], some (111, true)⟩,
     ⟨some 114, .bin .eql .num (.tmp 113) (.val (.lit (.int .i64 2))), some (111, true)⟩,
     ⟨some 115, .pick (.tmp 111) (.tmp 114) (.val (.lit (.bool false))), none⟩,
     ⟨some 116, .val (.tmp 115), none⟩,
     ⟨some 117, .val (.tmp 1), some (116, true)⟩,
     ⟨some 118, .call (.val (.fn (.func 23) [] [])) [(.tmp 117), (.val (.lit (.int .i64 0))), (.val (.lit (.int .i64 0)))], some (116, true)⟩,
     ⟨some 119, .bin .eql .num (.tmp 118) (.val (.lit (.int .i64 2))), some (116, true)⟩,
     ⟨some 120, .pick (.tmp 116) (.tmp 119) (.val (.lit (.bool false))), none⟩,
     ⟨some 121, .val (.tmp 120), none⟩,
     ⟨some 122, .val (.tmp 3), some (121, true)⟩,
     ⟨some 123, .bin .eql .num (.tmp 122) (.val (.lit (.int .i64 2))), some (121, true)⟩,
     ⟨some 124, .pick (.tmp 121) (.tmp 123) (.val (.lit (.bool false))), none⟩,
     ⟨some 125, .val (.tmp 124), none⟩,
     ⟨some 126, .val (.tmp 5), some (125, true)⟩,
     ⟨some 127, .un .not (.tmp 126), some (125, true)⟩,
     ⟨some 128, .pick (.tmp 125) (.tmp 127) (.val (.lit (.bool false))), none⟩,
     ⟨some 129, .val (.tmp 128), none⟩,
     ⟨some 130, .val (.tmp 1), some (129, true)⟩,
     ⟨some 131, .call (.val (.fn (.func 26) [] [])) [(.tmp 130)], some (129, true)⟩,
     ⟨some 132, .len 1 (.tmp 131), some (129, true)⟩,
     ⟨some 133, .bin .eql .num (.tmp 132) (.val (.lit (.int .i64 0))), some (129, true)⟩,
     ⟨some 134, .pick (.tmp 129) (.tmp 133) (.val (.lit (.bool false))), none⟩,
     ⟨some 135, .val (.tmp 134), none⟩,
     ⟨some 136, .val (.tmp 1), some (135, true)⟩,
     ⟨some 137, .call (.val (.fn (.func 28) [] [])) [(.tmp 136)], some (135, true)⟩,
     ⟨some 138, .bin .eql .ptr (.tmp 137) (.val (.lit (.pointer none))), some (135, true)⟩,
     ⟨some 139, .pick (.tmp 135) (.tmp 138) (.val (.lit (.bool false))), none⟩,
     ⟨some 140, .val (.tmp 139), none⟩,
     ⟨some 141, .call (.val (.fn (.func 27) [] [])) [(.val (.lit (.pointer none))), (.val (.lit (.pointer none)))], some (140, true)⟩,
     ⟨some 142, .pick (.tmp 140) (.tmp 141) (.val (.lit (.bool false))), none⟩,
     ⟨some 143, .val (.tmp 142), none⟩,
     ⟨some 144, .val (.tmp 14), some (143, true)⟩,
     ⟨some 145, .call (.val (.fn (.func 27) [] [])) [(.tmp 144), (.val (.lit (.pointer none)))], some (143, true)⟩,
     ⟨some 146, .un .not (.tmp 145), some (143, true)⟩,
     ⟨some 147, .pick (.tmp 143) (.tmp 146) (.val (.lit (.bool false))), none⟩,
     ⟨some 148, .val (.tmp 147), none⟩,
     ⟨some 149, .val (.tmp 14), some (148, true)⟩,
     ⟨some 150, .call (.val (.fn (.func 27) [] [])) [(.val (.lit (.pointer none))), (.tmp 149)], some (148, true)⟩,
     ⟨some 151, .un .not (.tmp 150), some (148, true)⟩,
     ⟨some 152, .pick (.tmp 148) (.tmp 151) (.val (.lit (.bool false))), none⟩,
     ⟨some 153, .val (.tmp 152), none⟩,
     ⟨some 154, .val (.tmp 7), some (153, true)⟩,
     ⟨some 155, .bin .eql .num (.tmp 154) (.val (.lit (.int .i64 4))), some (153, true)⟩,
     ⟨some 156, .pick (.tmp 153) (.tmp 155) (.val (.lit (.bool false))), none⟩,
     ⟨some 157, .val (.tmp 156), none⟩,
     ⟨some 158, .val (.tmp 9), some (157, true)⟩,
     ⟨some 159, .bin .eql .num (.tmp 158) (.val (.lit (.int .i64 4))), some (157, true)⟩,
     ⟨some 160, .pick (.tmp 157) (.tmp 159) (.val (.lit (.bool false))), none⟩,
     ⟨some 161, .val (.tmp 160), none⟩,
     ⟨some 162, .val (.tmp 11), some (161, true)⟩,
     ⟨some 163, .bin .eql .num (.tmp 162) (.val (.lit (.int .i64 1))), some (161, true)⟩,
     ⟨some 164, .pick (.tmp 161) (.tmp 163) (.val (.lit (.bool false))), none⟩,
     ⟨some 165, .val (.tmp 164), none⟩,
     ⟨some 166, .val (.tmp 13), some (165, true)⟩,
     ⟨some 167, .bin .eql .num (.tmp 166) (.val (.lit (.int .i64 1))), some (165, true)⟩,
     ⟨some 168, .pick (.tmp 165) (.tmp 167) (.val (.lit (.bool false))), none⟩,
     ⟨some 169, .val (.tmp 168), none⟩,
     ⟨some 170, .val (.tmp 16), some (169, true)⟩,
     ⟨some 171, .bin .eql .num (.tmp 170) (.val (.lit (.int .i64 0))), some (169, true)⟩,
     ⟨some 172, .pick (.tmp 169) (.tmp 171) (.val (.lit (.bool false))), none⟩,
     ⟨some 173, .val (.tmp 172), none⟩,
     ⟨some 174, .val (.tmp 17), some (173, true)⟩,
     ⟨some 175, .bin .eql .num (.tmp 174) (.val (.lit (.int .i64 1))), some (173, true)⟩,
     ⟨some 176, .pick (.tmp 173) (.tmp 175) (.val (.lit (.bool false))), none⟩,
     ⟨some 177, .val (.tmp 176), none⟩,
     ⟨some 178, .val (.tmp 18), some (177, true)⟩,
     ⟨some 179, .bin .eql .num (.tmp 178) (.val (.lit (.int .i64 5))), some (177, true)⟩,
     ⟨some 180, .pick (.tmp 177) (.tmp 179) (.val (.lit (.bool false))), none⟩,
     ⟨some 181, .val (.tmp 180), none⟩,
     ⟨some 182, .val (.tmp 19), some (181, true)⟩,
     ⟨some 183, .bin .eql .num (.tmp 182) (.val (.lit (.int .i64 0))), some (181, true)⟩,
     ⟨some 184, .pick (.tmp 181) (.tmp 183) (.val (.lit (.bool false))), none⟩,
     ⟨some 185, .val (.tmp 184), none⟩,
     ⟨some 186, .val (.tmp 20), some (185, true)⟩,
     ⟨some 187, .bin .eql .num (.tmp 186) (.val (.lit (.int .i64 6))), some (185, true)⟩,
     ⟨some 188, .pick (.tmp 185) (.tmp 187) (.val (.lit (.bool false))), none⟩,
     ⟨some 189, .val (.tmp 188), none⟩,
     ⟨some 190, .val (.tmp 21), some (189, true)⟩,
     ⟨some 191, .bin .eql .num (.tmp 190) (.val (.lit (.int .i64 69))), some (189, true)⟩,
     ⟨some 192, .pick (.tmp 189) (.tmp 191) (.val (.lit (.bool false))), none⟩,
     ⟨some 193, .val (.tmp 192), none⟩,
     ⟨some 194, .val (.tmp 22), some (193, true)⟩,
     ⟨some 195, .bin .eql .num (.tmp 194) (.val (.lit (.int .i64 1))), some (193, true)⟩,
     ⟨some 196, .pick (.tmp 193) (.tmp 195) (.val (.lit (.bool false))), none⟩,
     ⟨some 197, .val (.tmp 196), none⟩,
     ⟨some 198, .val (.tmp 23), some (197, true)⟩,
     ⟨some 199, .bin .eql .num (.tmp 198) (.val (.lit (.int .i64 1))), some (197, true)⟩,
     ⟨some 200, .pick (.tmp 197) (.tmp 199) (.val (.lit (.bool false))), none⟩,
     ⟨some 201, .val (.tmp 200), none⟩,
     ⟨some 202, .val (.tmp 24), some (201, true)⟩,
     ⟨some 203, .bin .eql .num (.tmp 202) (.val (.lit (.int .i64 0))), some (201, true)⟩,
     ⟨some 204, .pick (.tmp 201) (.tmp 203) (.val (.lit (.bool false))), none⟩,
     ⟨some 205, .val (.tmp 204), none⟩,
     ⟨some 206, .val (.tmp 25), some (205, true)⟩,
     ⟨some 207, .bin .eql .num (.tmp 206) (.val (.lit (.int .i64 69))), some (205, true)⟩,
     ⟨some 208, .pick (.tmp 205) (.tmp 207) (.val (.lit (.bool false))), none⟩,
     ⟨some 209, .val (.tmp 208), none⟩,
     ⟨some 210, .val (.tmp 26), some (209, true)⟩,
     ⟨some 211, .bin .eql .num (.tmp 210) (.val (.lit (.int .i64 (-9223372036854775808)))), some (209, true)⟩,
     ⟨some 212, .pick (.tmp 209) (.tmp 211) (.val (.lit (.bool false))), none⟩,
     ⟨some 213, .val (.tmp 212), none⟩,
     ⟨some 214, .val (.tmp 27), some (213, true)⟩,
     ⟨some 215, .pick (.tmp 213) (.tmp 214) (.val (.lit (.bool false))), none⟩,
     ⟨some 216, .val (.tmp 215), none⟩,
     ⟨some 217, .val (.tmp 28), some (216, true)⟩,
     ⟨some 218, .bin .eql .num (.tmp 217) (.val (.lit (.int .i64 0))), some (216, true)⟩,
     ⟨some 219, .pick (.tmp 216) (.tmp 218) (.val (.lit (.bool false))), none⟩,
     ⟨some 220, .val (.tmp 219), none⟩,
     ⟨some 221, .val (.tmp 29), some (220, true)⟩,
     ⟨some 222, .pick (.tmp 220) (.tmp 221) (.val (.lit (.bool false))), none⟩,
     ⟨some 223, .val (.tmp 222), none⟩,
     ⟨some 224, .val (.tmp 31), some (223, true)⟩,
     ⟨some 225, .un .not (.tmp 224), some (223, true)⟩,
     ⟨some 226, .pick (.tmp 223) (.tmp 225) (.val (.lit (.bool false))), none⟩,
     ⟨some 227, .val (.tmp 226), none⟩,
     ⟨some 228, .val (.tmp 33), some (227, true)⟩,
     ⟨some 229, .un .not (.tmp 228), some (227, true)⟩,
     ⟨some 230, .pick (.tmp 227) (.tmp 229) (.val (.lit (.bool false))), none⟩,
     ⟨some 231, .val (.tmp 230), none⟩,
     ⟨some 232, .call (.val (.fn (.func 15) [] [])) [], some (231, true)⟩,
     ⟨some 233, .pick (.tmp 231) (.tmp 232) (.val (.lit (.bool false))), none⟩,
     ⟨some 0, .val (.tmp 233), none⟩]) (
  .ret)))))))))))))))))))

theorem c_bobbinlaw08_MemNames : codeOf Try.prog {  } 10 = some (a_bobbinlaw08_MemNames, [.tmp 0], 234) := by kernel_rfl

/-- bobbin/bobbinref08.New -/
def a_bobbinref08_Newb1 : ACode :=
               .seq (
                .seq (
                 .ops [⟨some 51, .val (.tmp 10), none⟩,
                   ⟨some 52, .val (.tmp 9), none⟩,
                   ⟨some 53, .len 1 (.tmp 52), none⟩,
                   ⟨some 54, .bin .lss .num (.tmp 51) (.tmp 53), none⟩]) (
                .cond (.tmp 54) (
                  .skip) (
                  .exit 4))) (
               .seq (
                .block 5 (
                  .ops [⟨some 57, .val (.tmp 9), none⟩,
                    ⟨some 58, .val (.tmp 10), none⟩,
                    ⟨some 59, .val (.tmp 0), none⟩,
                    ⟨some 60, .val (.tmp 8), none⟩,
                    ⟨some 61, .indexAddr 3 (.tmp 59) (.tmp 60), none⟩,
                    ⟨some 62, .fieldAddr 2 (.tmp 61), none⟩,
                    ⟨some 63, .load false 1 (.tmp 62), none⟩,
                    ⟨some 64, .indexAddr 1 (.tmp 57) (.tmp 58), none⟩,
                    ⟨none, .store 1 (.tmp 64) (.tmp 63), none⟩])) (
               .ops [⟨some 55, .val (.tmp 10), none⟩,
                 ⟨some 56, .bin .add .num (.tmp 55) (.val (.lit (.int .i64 1))), none⟩,
                 ⟨some 10, .val (.tmp 56), none⟩]))

def a_bobbinref08_Newb2 : ACode :=
       .seq (
        .seq (
         .ops [⟨some 39, .val (.tmp 8), none⟩,
           ⟨some 40, .val (.tmp 0), none⟩,
           ⟨some 41, .len 1 (.tmp 40), none⟩,
           ⟨some 42, .bin .lss .num (.tmp 39) (.tmp 41), none⟩]) (
        .cond (.tmp 42) (
          .skip) (
          .exit 2))) (
       .seq (
        .block 3 (
          .seq (
           .ops [⟨some 45, .val (.tmp 0), none⟩,
             ⟨some 46, .val (.tmp 8), none⟩,
             ⟨some 47, .indexAddr 3 (.tmp 45) (.tmp 46), none⟩,
             ⟨some 48, .fieldAddr 1 (.tmp 47), none⟩,
             ⟨some 49, .load false 1 (.tmp 48), none⟩,
             ⟨some 50, .mkslice 1 8 [(.lit (.int .i64 0))] (.tmp 49) (.tmp 49), none⟩,
             ⟨some 9, .val (.tmp 50), none⟩]) (
          .seq (
           .seq (
            .ops [⟨some 10, .val (.val (.lit (.int .i64 0))), none⟩]) (
           .block 4 (
             .loop a_bobbinref08_Newb1))) (
          .ops [⟨some 65, .val (.tmp 6), none⟩,
            ⟨some 66, .val (.tmp 6), none⟩,
            ⟨some 67, .nilck (.tmp 66), none⟩,
            ⟨some 68, .fieldAddr 0 (.tmp 67), none⟩,
            ⟨some 69, .load false 1 (.tmp 68), none⟩,
            ⟨some 70, .val (.tmp 9), none⟩,
            ⟨some 71, .bslice false 1 1 [(.sl .nil 0 [])] [(0, 1, (.tmp 70))], none⟩,
            ⟨some 72, .append false 1 24 (.tmp 69) (.tmp 71), none⟩,
            ⟨some 73, .nilck (.tmp 65), none⟩,
            ⟨some 74, .fieldAddr 0 (.tmp 73), none⟩,
            ⟨none, .store 1 (.tmp 74) (.tmp 72), none⟩])))) (
       .ops [⟨some 43, .val (.tmp 8), none⟩,
         ⟨some 44, .bin .add .num (.tmp 43) (.val (.lit (.int .i64 1))), none⟩,
         ⟨some 8, .val (.tmp 44), none⟩]))

def a_bobbinref08_Newb3 : ACode :=
       .seq (
        .seq (
         .ops [⟨some 13, .val (.tmp 7), none⟩,
           ⟨some 14, .val (.tmp 0), none⟩,
           ⟨some 15, .len 1 (.tmp 14), none⟩,
           ⟨some 16, .bin .lss .num (.tmp 13) (.tmp 15), none⟩]) (
        .cond (.tmp 16) (
          .skip) (
          .exit 0))) (
       .seq (
        .block 1 (
          .seq (
           .ops [⟨some 19, .val (.tmp 0), none⟩,
             ⟨some 20, .val (.tmp 7), none⟩,
             ⟨some 21, .indexAddr 3 (.tmp 19) (.tmp 20), none⟩,
             ⟨some 22, .fieldAddr 1 (.tmp 21), none⟩,
             ⟨some 23, .load false 1 (.tmp 22), none⟩,
             ⟨some 24, .bin .lss .num (.tmp 23) (.val (.lit (.int .i64 1))), none⟩,
             ⟨some 25, .val (.tmp 24), none⟩,
             ⟨some 26, .val (.tmp 0), some (25, false)⟩,
             ⟨some 27, .val (.tmp 7), some (25, false)⟩,
             ⟨some 28, .indexAddr 3 (.tmp 26) (.tmp 27), some (25, false)⟩,
             ⟨some 29, .fieldAddr 1 (.tmp 28), some (25, false)⟩,
             ⟨some 30, .load false 1 (.tmp 29), some (25, false)⟩,
             ⟨some 31, .bin .gtr .num (.tmp 30) (.val (.lit (.int .i64 1024))), some (25, false)⟩,
             ⟨some 32, .pick (.tmp 25) (.val (.lit (.bool true))) (.tmp 31), none⟩]) (
          .cond (.tmp 32) (
            .seq (
             .ops [⟨some 4, .val (.val (.lit (.pointer none))), none⟩,
               ⟨some 5, .val (.val (.lit (.int .i64 4))), none⟩]) (
            .ret)) (
            .skip)))) (
       .ops [⟨some 17, .val (.tmp 7), none⟩,
         ⟨some 18, .bin .add .num (.tmp 17) (.val (.lit (.int .i64 1))), none⟩,
         ⟨some 7, .val (.tmp 18), none⟩]))

def a_bobbinref08_New : ACode :=
  .seq (
   .ops [⟨some 4, .val (.val (.lit (.pointer none))), none⟩,
     ⟨some 5, .val (.val (.lit (.int .i64 0))), none⟩]) (
  .seq (
   .ops [⟨some 11, .build [(.sl .nil 0 []), (.sl .nil 0 []), (.sl .nil 0 [])] [], none⟩,
     ⟨some 12, .box false (.tmp 11), none⟩,
     ⟨some 6, .val (.tmp 12), none⟩]) (
  .seq (
   .seq (
    .ops [⟨some 7, .val (.val (.lit (.int .i64 0))), none⟩]) (
   .block 0 (
     .loop a_bobbinref08_Newb3))) (
  .seq (
   .seq (
    .ops [⟨some 33, .val (.tmp 1), none⟩,
      ⟨some 34, .bin .lss .num (.tmp 33) (.val (.lit (.int .i64 0))), none⟩,
      ⟨some 35, .val (.tmp 34), none⟩,
      ⟨some 36, .val (.tmp 1), some (35, false)⟩,
      ⟨some 37, .bin .gtr .num (.tmp 36) (.val (.lit (.int .i64 256))), some (35, false)⟩,
      ⟨some 38, .pick (.tmp 35) (.val (.lit (.bool true))) (.tmp 37), none⟩]) (
   .cond (.tmp 38) (
     .seq (
      .ops [⟨some 4, .val (.val (.lit (.pointer none))), none⟩,
        ⟨some 5, .val (.val (.lit (.int .i64 1))), none⟩]) (
     .ret)) (
     .skip))) (
  .seq (
   .seq (
    .ops [⟨some 8, .val (.val (.lit (.int .i64 0))), none⟩]) (
   .block 2 (
     .loop a_bobbinref08_Newb2))) (
  .seq (
   .ops [⟨some 75, .val (.tmp 6), none⟩,
     ⟨some 76, .val (.tmp 1), none⟩,
     ⟨some 77, .mkslice 1 1 [(.lit (.bool false))] (.tmp 76) (.tmp 76), none⟩,
     ⟨some 78, .nilck (.tmp 75), none⟩,
     ⟨some 79, .fieldAddr 1 (.tmp 78), none⟩,
     ⟨none, .store 1 (.tmp 79) (.tmp 77), none⟩]) (
  .seq (
   .ops [⟨some 80, .val (.tmp 6), none⟩,
     ⟨some 81, .val (.tmp 1), none⟩,
     ⟨some 82, .mkslice 1 8 [(.lit (.int .i64 0))] (.tmp 81) (.tmp 81), none⟩,
     ⟨some 83, .nilck (.tmp 80), none⟩,
     ⟨some 84, .fieldAddr 2 (.tmp 83), none⟩,
     ⟨none, .store 1 (.tmp 84) (.tmp 82), none⟩]) (
  .seq (
   .ops [⟨some 85, .val (.tmp 6), none⟩,
     ⟨some 4, .val (.tmp 85), none⟩,
     ⟨some 5, .val (.val (.lit (.int .i64 0))), none⟩]) (
  .ret))))))))

theorem c_bobbinref08_New : codeOf Try.prog {  } 29 = some (a_bobbinref08_New, [.tmp 4, .tmp 5], 86) := by kernel_rfl

/-- (*bobbin/bobbinref08.Mem).Copy -/
def a_bobbinref08_Mem_Copyb1 : ACode :=
       .seq (
        .seq (
         .ops [⟨some 19, .val (.tmp 4), none⟩,
           ⟨some 20, .val (.tmp 0), none⟩,
           ⟨some 21, .nilck (.tmp 20), none⟩,
           ⟨some 22, .fieldAddr 0 (.tmp 21), none⟩,
           ⟨some 23, .load false 1 (.tmp 22), none⟩,
           ⟨some 24, .len 1 (.tmp 23), none⟩,
           ⟨some 25, .bin .lss .num (.tmp 19) (.tmp 24), none⟩]) (
        .cond (.tmp 25) (
          .skip) (
          .exit 0))) (
       .seq (
        .block 1 (
          .ops [⟨some 28, .val (.tmp 3), none⟩,
            ⟨some 29, .val (.tmp 3), none⟩,
            ⟨some 30, .nilck (.tmp 29), none⟩,
            ⟨some 31, .fieldAddr 0 (.tmp 30), none⟩,
            ⟨some 33, .bslice false 1 0 [] [], none⟩,
            ⟨some 34, .val (.tmp 0), none⟩,
            ⟨some 35, .nilck (.tmp 34), none⟩,
            ⟨some 36, .fieldAddr 0 (.tmp 35), none⟩,
            ⟨some 38, .val (.tmp 4), none⟩,
            ⟨some 32, .load false 1 (.tmp 31), none⟩,
            ⟨some 37, .load false 1 (.tmp 36), none⟩,
            ⟨some 39, .indexAddr 1 (.tmp 37) (.tmp 38), none⟩,
            ⟨some 40, .load false 1 (.tmp 39), none⟩,
            ⟨some 41, .kappend 1 8 (.tmp 33) (.tmp 40), none⟩,
            ⟨some 42, .bslice false 1 1 [(.sl .nil 0 [])] [(0, 1, (.tmp 41))], none⟩,
            ⟨some 43, .append false 1 24 (.tmp 32) (.tmp 42), none⟩,
            ⟨some 44, .nilck (.tmp 28), none⟩,
            ⟨some 45, .fieldAddr 0 (.tmp 44), none⟩,
            ⟨none, .store 1 (.tmp 45) (.tmp 43), none⟩])) (
       .ops [⟨some 26, .val (.tmp 4), none⟩,
         ⟨some 27, .bin .add .num (.tmp 26) (.val (.lit (.int .i64 1))), none⟩,
         ⟨some 4, .val (.tmp 27), none⟩]))

def a_bobbinref08_Mem_Copy : ACode :=
  .seq (
   .ops [⟨some 2, .val (.val (.lit (.pointer none))), none⟩]) (
  .seq (
   .ops [⟨some 5, .bslice false 1 0 [] [], none⟩,
     ⟨some 6, .val (.tmp 0), none⟩,
     ⟨some 7, .nilck (.tmp 6), none⟩,
     ⟨some 8, .fieldAddr 1 (.tmp 7), none⟩,
     ⟨some 11, .bslice false 1 0 [] [], none⟩,
     ⟨some 12, .val (.tmp 0), none⟩,
     ⟨some 13, .nilck (.tmp 12), none⟩,
     ⟨some 14, .fieldAddr 2 (.tmp 13), none⟩,
     ⟨some 9, .load false 1 (.tmp 8), none⟩,
     ⟨some 15, .load false 1 (.tmp 14), none⟩,
     ⟨some 10, .kappend 1 1 (.tmp 5) (.tmp 9), none⟩,
     ⟨some 16, .append false 1 8 (.tmp 11) (.tmp 15), none⟩,
     ⟨some 17, .build [(.sl .nil 0 []), (.sl .nil 0 []), (.sl .nil 0 [])] [(1, 1, (.tmp 10)), (2, 1, (.tmp 16))], none⟩,
     ⟨some 18, .box false (.tmp 17), none⟩,
     ⟨some 3, .val (.tmp 18), none⟩]) (
  .seq (
   .seq (
    .ops [⟨some 4, .val (.val (.lit (.int .i64 0))), none⟩]) (
   .block 0 (
     .loop a_bobbinref08_Mem_Copyb1))) (
  .seq (
   .ops [⟨some 46, .val (.tmp 3), none⟩,
     ⟨some 2, .val (.tmp 46), none⟩]) (
  .ret))))

theorem c_bobbinref08_Mem_Copy : codeOf Try.prog { ka := [10, 41] } 30 = some (a_bobbinref08_Mem_Copy, [.tmp 2], 47) := by kernel_rfl

/-- (*bobbin/bobbinref08.Mem).Set -/
def a_bobbinref08_Mem_Set : ACode :=
  .seq (
   .ops [⟨some 8, .val (.val (.lit (.int .i64 0))), none⟩]) (
  .seq (
   .ops [⟨some 10, .val (.tmp 0), none⟩,
     ⟨some 11, .val (.tmp 1), none⟩,
     ⟨some 12, .val (.tmp 2), none⟩,
     ⟨some 13, .call (.val (.fn (.func 68) [] [])) [(.tmp 10), (.tmp 11), (.tmp 12)], none⟩,
     ⟨some 9, .val (.tmp 13), none⟩]) (
  .seq (
   .seq (
    .ops [⟨some 14, .val (.tmp 9), none⟩,
      ⟨some 15, .bin .eql .num (.tmp 14) (.val (.lit (.int .i64 0))), none⟩]) (
   .cond (.tmp 15) (
     .ops [⟨some 16, .val (.tmp 0), none⟩,
       ⟨some 17, .nilck (.tmp 16), none⟩,
       ⟨some 18, .fieldAddr 0 (.tmp 17), none⟩,
       ⟨some 19, .load false 1 (.tmp 18), none⟩,
       ⟨some 20, .val (.tmp 1), none⟩,
       ⟨some 21, .indexAddr 1 (.tmp 19) (.tmp 20), none⟩,
       ⟨some 22, .load false 1 (.tmp 21), none⟩,
       ⟨some 23, .val (.tmp 2), none⟩,
       ⟨some 24, .val (.tmp 3), none⟩,
       ⟨some 25, .indexAddr 1 (.tmp 22) (.tmp 23), none⟩,
       ⟨none, .store 1 (.tmp 25) (.tmp 24), none⟩]) (
     .skip))) (
  .seq (
   .ops [⟨some 26, .val (.tmp 9), none⟩,
     ⟨some 8, .val (.tmp 26), none⟩]) (
  .ret))))

theorem c_bobbinref08_Mem_Set : codeOf Try.prog {  } 47 = some (a_bobbinref08_Mem_Set, [.tmp 8], 27) := by kernel_rfl

/-- (*bobbin/bobbinref08.Mem).Take -/
def a_bobbinref08_Mem_Take : ACode :=
  .seq (
   .ops [⟨some 6, .val (.val (.lit (.int .i64 0))), none⟩]) (
  .seq (
   .seq (
    .ops [⟨some 7, .val (.tmp 1), none⟩,
      ⟨some 8, .bin .lss .num (.tmp 7) (.val (.lit (.int .i64 0))), none⟩,
      ⟨some 9, .val (.tmp 8), none⟩,
      ⟨some 10, .val (.tmp 1), some (9, false)⟩,
      ⟨some 11, .val (.tmp 0), some (9, false)⟩,
      ⟨some 12, .nilck (.tmp 11), some (9, false)⟩,
      ⟨some 13, .fieldAddr 1 (.tmp 12), some (9, false)⟩,
      ⟨some 14, .load false 1 (.tmp 13), some (9, false)⟩,
      ⟨some 15, .len 1 (.tmp 14), some (9, false)⟩,
      ⟨some 16, .bin .geq .num (.tmp 10) (.tmp 15), some (9, false)⟩,
      ⟨some 17, .pick (.tmp 9) (.val (.lit (.bool true))) (.tmp 16), none⟩]) (
   .cond (.tmp 17) (
     .seq (
      .ops [⟨some 6, .val (.val (.lit (.int .i64 1))), none⟩]) (
     .ret)) (
     .skip))) (
  .seq (
   .seq (
    .ops [⟨some 18, .val (.tmp 0), none⟩,
      ⟨some 19, .nilck (.tmp 18), none⟩,
      ⟨some 20, .fieldAddr 1 (.tmp 19), none⟩,
      ⟨some 21, .load false 1 (.tmp 20), none⟩,
      ⟨some 22, .val (.tmp 1), none⟩,
      ⟨some 23, .indexAddr 1 (.tmp 21) (.tmp 22), none⟩,
      ⟨some 24, .load false 1 (.tmp 23), none⟩]) (
   .cond (.tmp 24) (
     .seq (
      .ops [⟨some 6, .val (.val (.lit (.int .i64 6))), none⟩]) (
     .ret)) (
     .skip))) (
  .seq (
   .ops [⟨some 25, .val (.tmp 0), none⟩,
     ⟨some 26, .nilck (.tmp 25), none⟩,
     ⟨some 27, .fieldAddr 1 (.tmp 26), none⟩,
     ⟨some 28, .load false 1 (.tmp 27), none⟩,
     ⟨some 29, .val (.tmp 1), none⟩,
     ⟨some 30, .indexAddr 1 (.tmp 28) (.tmp 29), none⟩,
     ⟨none, .store 1 (.tmp 30) (.val (.lit (.bool true))), none⟩]) (
  .seq (
   .ops [⟨some 31, .val (.tmp 0), none⟩,
     ⟨some 32, .nilck (.tmp 31), none⟩,
     ⟨some 33, .fieldAddr 2 (.tmp 32), none⟩,
     ⟨some 34, .load false 1 (.tmp 33), none⟩,
     ⟨some 35, .val (.tmp 1), none⟩,
     ⟨some 36, .val (.tmp 2), none⟩,
     ⟨some 37, .indexAddr 1 (.tmp 34) (.tmp 35), none⟩,
     ⟨none, .store 1 (.tmp 37) (.tmp 36), none⟩]) (
  .seq (
   .ops [⟨some 6, .val (.val (.lit (.int .i64 0))), none⟩]) (
  .ret))))))

theorem c_bobbinref08_Mem_Take : codeOf Try.prog {  } 48 = some (a_bobbinref08_Mem_Take, [.tmp 6], 38) := by kernel_rfl

/-- (*bobbin/bobbinref08.Mem).Give -/
def a_bobbinref08_Mem_Give : ACode :=
  .seq (
   .ops [⟨some 6, .val (.val (.lit (.int .i64 0))), none⟩]) (
  .seq (
   .seq (
    .ops [⟨some 7, .val (.tmp 1), none⟩,
      ⟨some 8, .bin .lss .num (.tmp 7) (.val (.lit (.int .i64 0))), none⟩,
      ⟨some 9, .val (.tmp 8), none⟩,
      ⟨some 10, .val (.tmp 1), some (9, false)⟩,
      ⟨some 11, .val (.tmp 0), some (9, false)⟩,
      ⟨some 12, .nilck (.tmp 11), some (9, false)⟩,
      ⟨some 13, .fieldAddr 1 (.tmp 12), some (9, false)⟩,
      ⟨some 14, .load false 1 (.tmp 13), some (9, false)⟩,
      ⟨some 15, .len 1 (.tmp 14), some (9, false)⟩,
      ⟨some 16, .bin .geq .num (.tmp 10) (.tmp 15), some (9, false)⟩,
      ⟨some 17, .pick (.tmp 9) (.val (.lit (.bool true))) (.tmp 16), none⟩]) (
   .cond (.tmp 17) (
     .seq (
      .ops [⟨some 6, .val (.val (.lit (.int .i64 1))), none⟩]) (
     .ret)) (
     .skip))) (
  .seq (
   .seq (
    .ops [⟨some 18, .val (.tmp 0), none⟩,
      ⟨some 19, .nilck (.tmp 18), none⟩,
      ⟨some 20, .fieldAddr 1 (.tmp 19), none⟩,
      ⟨some 21, .load false 1 (.tmp 20), none⟩,
      ⟨some 22, .val (.tmp 1), none⟩,
      ⟨some 23, .indexAddr 1 (.tmp 21) (.tmp 22), none⟩,
      ⟨some 24, .load false 1 (.tmp 23), none⟩,
      ⟨some 25, .un .not (.tmp 24), none⟩,
      ⟨some 26, .val (.tmp 25), none⟩,
      ⟨some 27, .val (.tmp 0), some (26, false)⟩,
      ⟨some 28, .nilck (.tmp 27), some (26, false)⟩,
      ⟨some 29, .fieldAddr 2 (.tmp 28), some (26, false)⟩,
      ⟨some 30, .load false 1 (.tmp 29), some (26, false)⟩,
      ⟨some 31, .val (.tmp 1), some (26, false)⟩,
      ⟨some 32, .indexAddr 1 (.tmp 30) (.tmp 31), some (26, false)⟩,
      ⟨some 33, .load false 1 (.tmp 32), some (26, false)⟩,
      ⟨some 34, .val (.tmp 2), some (26, false)⟩,
      ⟨some 35, .bin .neq .num (.tmp 33) (.tmp 34), some (26, false)⟩,
      ⟨some 36, .pick (.tmp 26) (.val (.lit (.bool true))) (.tmp 35), none⟩]) (
   .cond (.tmp 36) (
     .seq (
      .ops [⟨some 6, .val (.val (.lit (.int .i64 69))), none⟩]) (
     .ret)) (
     .skip))) (
  .seq (
   .ops [⟨some 37, .val (.tmp 0), none⟩,
     ⟨some 38, .nilck (.tmp 37), none⟩,
     ⟨some 39, .fieldAddr 1 (.tmp 38), none⟩,
     ⟨some 40, .load false 1 (.tmp 39), none⟩,
     ⟨some 41, .val (.tmp 1), none⟩,
     ⟨some 42, .indexAddr 1 (.tmp 40) (.tmp 41), none⟩,
     ⟨none, .store 1 (.tmp 42) (.val (.lit (.bool false))), none⟩]) (
  .seq (
   .ops [⟨some 43, .val (.tmp 0), none⟩,
     ⟨some 44, .nilck (.tmp 43), none⟩,
     ⟨some 45, .fieldAddr 2 (.tmp 44), none⟩,
     ⟨some 46, .load false 1 (.tmp 45), none⟩,
     ⟨some 47, .val (.tmp 1), none⟩,
     ⟨some 48, .indexAddr 1 (.tmp 46) (.tmp 47), none⟩,
     ⟨none, .store 1 (.tmp 48) (.val (.lit (.int .i64 0))), none⟩]) (
  .seq (
   .ops [⟨some 6, .val (.val (.lit (.int .i64 0))), none⟩]) (
  .ret))))))

theorem c_bobbinref08_Mem_Give : codeOf Try.prog {  } 49 = some (a_bobbinref08_Mem_Give, [.tmp 6], 49) := by kernel_rfl

/-- (*bobbin/bobbinref08.Mem).Get -/
def a_bobbinref08_Mem_Get : ACode :=
  .seq (
   .ops [⟨some 6, .val (.val (.lit (.int .i64 0))), none⟩,
     ⟨some 7, .val (.val (.lit (.int .i64 0))), none⟩]) (
  .seq (
   .ops [⟨some 9, .val (.tmp 0), none⟩,
     ⟨some 10, .val (.tmp 1), none⟩,
     ⟨some 11, .val (.tmp 2), none⟩,
     ⟨some 12, .call (.val (.fn (.func 68) [] [])) [(.tmp 9), (.tmp 10), (.tmp 11)], none⟩,
     ⟨some 8, .val (.tmp 12), none⟩]) (
  .seq (
   .seq (
    .ops [⟨some 13, .val (.tmp 8), none⟩,
      ⟨some 14, .bin .neq .num (.tmp 13) (.val (.lit (.int .i64 0))), none⟩]) (
   .cond (.tmp 14) (
     .seq (
      .ops [⟨some 15, .val (.tmp 8), none⟩,
        ⟨some 6, .val (.val (.lit (.int .i64 0))), none⟩,
        ⟨some 7, .val (.tmp 15), none⟩]) (
     .ret)) (
     .skip))) (
  .seq (
   .ops [⟨some 16, .val (.tmp 0), none⟩,
     ⟨some 17, .nilck (.tmp 16), none⟩,
     ⟨some 18, .fieldAddr 0 (.tmp 17), none⟩,
     ⟨some 19, .load false 1 (.tmp 18), none⟩,
     ⟨some 20, .val (.tmp 1), none⟩,
     ⟨some 21, .indexAddr 1 (.tmp 19) (.tmp 20), none⟩,
     ⟨some 22, .load false 1 (.tmp 21), none⟩,
     ⟨some 23, .val (.tmp 2), none⟩,
     ⟨some 24, .indexAddr 1 (.tmp 22) (.tmp 23), none⟩,
     ⟨some 25, .load false 1 (.tmp 24), none⟩,
     ⟨some 6, .val (.tmp 25), none⟩,
     ⟨some 7, .val (.val (.lit (.int .i64 0))), none⟩]) (
  .ret))))

theorem c_bobbinref08_Mem_Get : codeOf Try.prog {  } 50 = some (a_bobbinref08_Mem_Get, [.tmp 6, .tmp 7], 26) := by kernel_rfl

/-- (*bobbin/bobbinref08.Mem).Holder -/
def a_bobbinref08_Mem_Holder : ACode :=
  .seq (
   .ops [⟨some 4, .val (.val (.lit (.int .i64 0))), none⟩,
     ⟨some 5, .val (.val (.lit (.bool false))), none⟩]) (
  .seq (
   .seq (
    .ops [⟨some 6, .val (.tmp 1), none⟩,
      ⟨some 7, .bin .lss .num (.tmp 6) (.val (.lit (.int .i64 0))), none⟩,
      ⟨some 8, .val (.tmp 7), none⟩,
      ⟨some 9, .val (.tmp 1), some (8, false)⟩,
      ⟨some 10, .val (.tmp 0), some (8, false)⟩,
      ⟨some 11, .nilck (.tmp 10), some (8, false)⟩,
      ⟨some 12, .fieldAddr 1 (.tmp 11), some (8, false)⟩,
      ⟨some 13, .load false 1 (.tmp 12), some (8, false)⟩,
      ⟨some 14, .len 1 (.tmp 13), some (8, false)⟩,
      ⟨some 15, .bin .geq .num (.tmp 9) (.tmp 14), some (8, false)⟩,
      ⟨some 16, .pick (.tmp 8) (.val (.lit (.bool true))) (.tmp 15), none⟩,
      ⟨some 17, .val (.tmp 16), none⟩,
      ⟨some 18, .val (.tmp 0), some (17, false)⟩,
      ⟨some 19, .nilck (.tmp 18), some (17, false)⟩,
      ⟨some 20, .fieldAddr 1 (.tmp 19), some (17, false)⟩,
      ⟨some 21, .load false 1 (.tmp 20), some (17, false)⟩,
      ⟨some 22, .val (.tmp 1), some (17, false)⟩,
      ⟨some 23, .indexAddr 1 (.tmp 21) (.tmp 22), some (17, false)⟩,
      ⟨some 24, .load false 1 (.tmp 23), some (17, false)⟩,
      ⟨some 25, .un .not (.tmp 24), some (17, false)⟩,
      ⟨some 26, .pick (.tmp 17) (.val (.lit (.bool true))) (.tmp 25), none⟩]) (
   .cond (.tmp 26) (
     .seq (
      .ops [⟨some 4, .val (.val (.lit (.int .i64 0))), none⟩,
        ⟨some 5, .val (.val (.lit (.bool false))), none⟩]) (
     .ret)) (
     .skip))) (
  .seq (
   .ops [⟨some 27, .val (.tmp 0), none⟩,
     ⟨some 28, .nilck (.tmp 27), none⟩,
     ⟨some 29, .fieldAddr 2 (.tmp 28), none⟩,
     ⟨some 30, .load false 1 (.tmp 29), none⟩,
     ⟨some 31, .val (.tmp 1), none⟩,
     ⟨some 32, .indexAddr 1 (.tmp 30) (.tmp 31), none⟩,
     ⟨some 33, .load false 1 (.tmp 32), none⟩,
     ⟨some 4, .val (.tmp 33), none⟩,
     ⟨some 5, .val (.val (.lit (.bool true))), none⟩]) (
  .ret)))

theorem c_bobbinref08_Mem_Holder : codeOf Try.prog {  } 51 = some (a_bobbinref08_Mem_Holder, [.tmp 4, .tmp 5], 34) := by kernel_rfl

/-- (*bobbin/bobbinref08.Mem).at -/
def a_bobbinref08_Mem_at : ACode :=
  .seq (
   .ops [⟨some 6, .val (.val (.lit (.int .i64 0))), none⟩]) (
  .seq (
   .seq (
    .ops [⟨some 7, .val (.tmp 1), none⟩,
      ⟨some 8, .bin .lss .num (.tmp 7) (.val (.lit (.int .i64 0))), none⟩,
      ⟨some 9, .val (.tmp 8), none⟩,
      ⟨some 10, .val (.tmp 1), some (9, false)⟩,
      ⟨some 11, .val (.tmp 0), some (9, false)⟩,
      ⟨some 12, .nilck (.tmp 11), some (9, false)⟩,
      ⟨some 13, .fieldAddr 0 (.tmp 12), some (9, false)⟩,
      ⟨some 14, .load false 1 (.tmp 13), some (9, false)⟩,
      ⟨some 15, .len 1 (.tmp 14), some (9, false)⟩,
      ⟨some 16, .bin .geq .num (.tmp 10) (.tmp 15), some (9, false)⟩,
      ⟨some 17, .pick (.tmp 9) (.val (.lit (.bool true))) (.tmp 16), none⟩]) (
   .cond (.tmp 17) (
     .seq (
      .ops [⟨some 6, .val (.val (.lit (.int .i64 1))), none⟩]) (
     .ret)) (
     .skip))) (
  .seq (
   .seq (
    .ops [⟨some 18, .val (.tmp 2), none⟩,
      ⟨some 19, .bin .lss .num (.tmp 18) (.val (.lit (.int .i64 0))), none⟩,
      ⟨some 20, .val (.tmp 19), none⟩,
      ⟨some 21, .val (.tmp 2), some (20, false)⟩,
      ⟨some 22, .val (.tmp 0), some (20, false)⟩,
      ⟨some 23, .nilck (.tmp 22), some (20, false)⟩,
      ⟨some 24, .fieldAddr 0 (.tmp 23), some (20, false)⟩,
      ⟨some 25, .load false 1 (.tmp 24), some (20, false)⟩,
      ⟨some 26, .val (.tmp 1), some (20, false)⟩,
      ⟨some 27, .indexAddr 1 (.tmp 25) (.tmp 26), some (20, false)⟩,
      ⟨some 28, .load false 1 (.tmp 27), some (20, false)⟩,
      ⟨some 29, .len 1 (.tmp 28), some (20, false)⟩,
      ⟨some 30, .bin .geq .num (.tmp 21) (.tmp 29), some (20, false)⟩,
      ⟨some 31, .pick (.tmp 20) (.val (.lit (.bool true))) (.tmp 30), none⟩]) (
   .cond (.tmp 31) (
     .seq (
      .ops [⟨some 6, .val (.val (.lit (.int .i64 5))), none⟩]) (
     .ret)) (
     .skip))) (
  .seq (
   .ops [⟨some 6, .val (.val (.lit (.int .i64 0))), none⟩]) (
  .ret))))

theorem c_bobbinref08_Mem_at : codeOf Try.prog {  } 68 = some (a_bobbinref08_Mem_at, [.tmp 6], 32) := by kernel_rfl

/-- bobbin/bobbinref08.Same -/
def a_bobbinref08_Sameb1 : ACode :=
       .seq (
        .seq (
         .ops [⟨some 91, .val (.tmp 7), none⟩,
           ⟨some 92, .val (.tmp 0), none⟩,
           ⟨some 93, .nilck (.tmp 92), none⟩,
           ⟨some 94, .fieldAddr 1 (.tmp 93), none⟩,
           ⟨some 95, .load false 1 (.tmp 94), none⟩,
           ⟨some 96, .len 1 (.tmp 95), none⟩,
           ⟨some 97, .bin .lss .num (.tmp 91) (.tmp 96), none⟩]) (
        .cond (.tmp 97) (
          .skip) (
          .exit 4))) (
       .seq (
        .block 5 (
          .seq (
           .ops [⟨some 100, .val (.tmp 0), none⟩,
             ⟨some 101, .nilck (.tmp 100), none⟩,
             ⟨some 102, .fieldAddr 1 (.tmp 101), none⟩,
             ⟨some 104, .val (.tmp 7), none⟩,
             ⟨some 107, .val (.tmp 1), none⟩,
             ⟨some 108, .nilck (.tmp 107), none⟩,
             ⟨some 109, .fieldAddr 1 (.tmp 108), none⟩,
             ⟨some 111, .val (.tmp 7), none⟩,
             ⟨some 103, .load false 1 (.tmp 102), none⟩,
             ⟨some 105, .indexAddr 1 (.tmp 103) (.tmp 104), none⟩,
             ⟨some 106, .load false 1 (.tmp 105), none⟩,
             ⟨some 110, .load false 1 (.tmp 109), none⟩,
             ⟨some 112, .indexAddr 1 (.tmp 110) (.tmp 111), none⟩,
             ⟨some 113, .load false 1 (.tmp 112), none⟩,
             ⟨some 114, .bin .neq .bool (.tmp 106) (.tmp 113), none⟩,
             ⟨some 115, .val (.tmp 114), none⟩,
             ⟨some 116, .val (.tmp 0), some (115, false)⟩,
             ⟨some 117, .nilck (.tmp 116), some (115, false)⟩,
             ⟨some 118, .fieldAddr 2 (.tmp 117), some (115, false)⟩,
             ⟨some 120, .val (.tmp 7), some (115, false)⟩,
             ⟨some 123, .val (.tmp 1), some (115, false)⟩,
             ⟨some 124, .nilck (.tmp 123), some (115, false)⟩,
             ⟨some 125, .fieldAddr 2 (.tmp 124), some (115, false)⟩,
             ⟨some 127, .val (.tmp 7), some (115, false)⟩,
             ⟨some 119, .load false 1 (.tmp 118), some (115, false)⟩,
             ⟨some 121, .indexAddr 1 (.tmp 119) (.tmp 120), some (115, false)⟩,
             ⟨some 122, .load false 1 (.tmp 121), some (115, false)⟩,
             ⟨some 126, .load false 1 (.tmp 125), some (115, false)⟩,
             ⟨some 128, .indexAddr 1 (.tmp 126) (.tmp 127), some (115, false)⟩,
             ⟨some 129, .load false 1 (.tmp 128), some (115, false)⟩,
             ⟨some 130, .bin .neq .num (.tmp 122) (.tmp 129), some (115, false)⟩,
             ⟨some 131, .pick (.tmp 115) (.val (.lit (.bool true))) (.tmp 130), none⟩]) (
          .cond (.tmp 131) (
            .seq (
             .ops [⟨some 4, .val (.val (.lit (.bool false))), none⟩]) (
            .ret)) (
            .skip)))) (
       .ops [⟨some 98, .val (.tmp 7), none⟩,
         ⟨some 99, .bin .add .num (.tmp 98) (.val (.lit (.int .i64 1))), none⟩,
         ⟨some 7, .val (.tmp 99), none⟩]))

def a_bobbinref08_Sameb2 : ACode :=
              .seq (
               .seq (
                .ops [⟨some 58, .val (.tmp 6), none⟩,
                  ⟨some 59, .val (.tmp 0), none⟩,
                  ⟨some 60, .nilck (.tmp 59), none⟩,
                  ⟨some 61, .fieldAddr 0 (.tmp 60), none⟩,
                  ⟨some 62, .load false 1 (.tmp 61), none⟩,
                  ⟨some 63, .val (.tmp 5), none⟩,
                  ⟨some 64, .indexAddr 1 (.tmp 62) (.tmp 63), none⟩,
                  ⟨some 65, .load false 1 (.tmp 64), none⟩,
                  ⟨some 66, .len 1 (.tmp 65), none⟩,
                  ⟨some 67, .bin .lss .num (.tmp 58) (.tmp 66), none⟩]) (
               .cond (.tmp 67) (
                 .skip) (
                 .exit 2))) (
              .seq (
               .block 3 (
                 .seq (
                  .ops [⟨some 70, .val (.tmp 0), none⟩,
                    ⟨some 71, .nilck (.tmp 70), none⟩,
                    ⟨some 72, .fieldAddr 0 (.tmp 71), none⟩,
                    ⟨some 74, .val (.tmp 5), none⟩,
                    ⟨some 77, .val (.tmp 6), none⟩,
                    ⟨some 80, .val (.tmp 1), none⟩,
                    ⟨some 81, .nilck (.tmp 80), none⟩,
                    ⟨some 82, .fieldAddr 0 (.tmp 81), none⟩,
                    ⟨some 84, .val (.tmp 5), none⟩,
                    ⟨some 87, .val (.tmp 6), none⟩,
                    ⟨some 73, .load false 1 (.tmp 72), none⟩,
                    ⟨some 75, .indexAddr 1 (.tmp 73) (.tmp 74), none⟩,
                    ⟨some 76, .load false 1 (.tmp 75), none⟩,
                    ⟨some 78, .indexAddr 1 (.tmp 76) (.tmp 77), none⟩,
                    ⟨some 79, .load false 1 (.tmp 78), none⟩,
                    ⟨some 83, .load false 1 (.tmp 82), none⟩,
                    ⟨some 85, .indexAddr 1 (.tmp 83) (.tmp 84), none⟩,
                    ⟨some 86, .load false 1 (.tmp 85), none⟩,
                    ⟨some 88, .indexAddr 1 (.tmp 86) (.tmp 87), none⟩,
                    ⟨some 89, .load false 1 (.tmp 88), none⟩,
                    ⟨some 90, .bin .neq .num (.tmp 79) (.tmp 89), none⟩]) (
                 .cond (.tmp 90) (
                   .seq (
                    .ops [⟨some 4, .val (.val (.lit (.bool false))), none⟩]) (
                   .ret)) (
                   .skip)))) (
              .ops [⟨some 68, .val (.tmp 6), none⟩,
                ⟨some 69, .bin .add .num (.tmp 68) (.val (.lit (.int .i64 1))), none⟩,
                ⟨some 6, .val (.tmp 69), none⟩]))

def a_bobbinref08_Sameb3 : ACode :=
       .seq (
        .seq (
         .ops [⟨some 32, .val (.tmp 5), none⟩,
           ⟨some 33, .val (.tmp 0), none⟩,
           ⟨some 34, .nilck (.tmp 33), none⟩,
           ⟨some 35, .fieldAddr 0 (.tmp 34), none⟩,
           ⟨some 36, .load false 1 (.tmp 35), none⟩,
           ⟨some 37, .len 1 (.tmp 36), none⟩,
           ⟨some 38, .bin .lss .num (.tmp 32) (.tmp 37), none⟩]) (
        .cond (.tmp 38) (
          .skip) (
          .exit 0))) (
       .seq (
        .block 1 (
          .seq (
           .seq (
            .ops [⟨some 41, .val (.tmp 0), none⟩,
              ⟨some 42, .nilck (.tmp 41), none⟩,
              ⟨some 43, .fieldAddr 0 (.tmp 42), none⟩,
              ⟨some 45, .val (.tmp 5), none⟩,
              ⟨some 49, .val (.tmp 1), none⟩,
              ⟨some 50, .nilck (.tmp 49), none⟩,
              ⟨some 51, .fieldAddr 0 (.tmp 50), none⟩,
              ⟨some 53, .val (.tmp 5), none⟩,
              ⟨some 44, .load false 1 (.tmp 43), none⟩,
              ⟨some 46, .indexAddr 1 (.tmp 44) (.tmp 45), none⟩,
              ⟨some 47, .load false 1 (.tmp 46), none⟩,
              ⟨some 48, .len 1 (.tmp 47), none⟩,
              ⟨some 52, .load false 1 (.tmp 51), none⟩,
              ⟨some 54, .indexAddr 1 (.tmp 52) (.tmp 53), none⟩,
              ⟨some 55, .load false 1 (.tmp 54), none⟩,
              ⟨some 56, .len 1 (.tmp 55), none⟩,
              ⟨some 57, .bin .neq .num (.tmp 48) (.tmp 56), none⟩]) (
           .cond (.tmp 57) (
             .seq (
              .ops [⟨some 4, .val (.val (.lit (.bool false))), none⟩]) (
             .ret)) (
             .skip))) (
          .seq (
           .ops [⟨some 6, .val (.val (.lit (.int .i64 0))), none⟩]) (
          .block 2 (
            .loop a_bobbinref08_Sameb2))))) (
       .ops [⟨some 39, .val (.tmp 5), none⟩,
         ⟨some 40, .bin .add .num (.tmp 39) (.val (.lit (.int .i64 1))), none⟩,
         ⟨some 5, .val (.tmp 40), none⟩]))

def a_bobbinref08_Same : ACode :=
  .seq (
   .ops [⟨some 4, .val (.val (.lit (.bool false))), none⟩]) (
  .seq (
   .seq (
    .ops [⟨some 8, .val (.tmp 0), none⟩,
      ⟨some 9, .nilck (.tmp 8), none⟩,
      ⟨some 10, .fieldAddr 0 (.tmp 9), none⟩,
      ⟨some 13, .val (.tmp 1), none⟩,
      ⟨some 14, .nilck (.tmp 13), none⟩,
      ⟨some 15, .fieldAddr 0 (.tmp 14), none⟩,
      ⟨some 11, .load false 1 (.tmp 10), none⟩,
      ⟨some 12, .len 1 (.tmp 11), none⟩,
      ⟨some 16, .load false 1 (.tmp 15), none⟩,
      ⟨some 17, .len 1 (.tmp 16), none⟩,
      ⟨some 18, .bin .neq .num (.tmp 12) (.tmp 17), none⟩,
      ⟨some 19, .val (.tmp 18), none⟩,
      ⟨some 20, .val (.tmp 0), some (19, false)⟩,
      ⟨some 21, .nilck (.tmp 20), some (19, false)⟩,
      ⟨some 22, .fieldAddr 1 (.tmp 21), some (19, false)⟩,
      ⟨some 25, .val (.tmp 1), some (19, false)⟩,
      ⟨some 26, .nilck (.tmp 25), some (19, false)⟩,
      ⟨some 27, .fieldAddr 1 (.tmp 26), some (19, false)⟩,
      ⟨some 23, .load false 1 (.tmp 22), some (19, false)⟩,
      ⟨some 24, .len 1 (.tmp 23), some (19, false)⟩,
      ⟨some 28, .load false 1 (.tmp 27), some (19, false)⟩,
      ⟨some 29, .len 1 (.tmp 28), some (19, false)⟩,
      ⟨some 30, .bin .neq .num (.tmp 24) (.tmp 29), some (19, false)⟩,
      ⟨some 31, .pick (.tmp 19) (.val (.lit (.bool true))) (.tmp 30), none⟩]) (
   .cond (.tmp 31) (
     .seq (
      .ops [⟨some 4, .val (.val (.lit (.bool false))), none⟩]) (
     .ret)) (
     .skip))) (
  .seq (
   .seq (
    .ops [⟨some 5, .val (.val (.lit (.int .i64 0))), none⟩]) (
   .block 0 (
     .loop a_bobbinref08_Sameb3))) (
  .seq (
   .seq (
    .ops [⟨some 7, .val (.val (.lit (.int .i64 0))), none⟩]) (
   .block 4 (
     .loop a_bobbinref08_Sameb1))) (
  .seq (
   .ops [⟨some 4, .val (.val (.lit (.bool true))), none⟩]) (
  .ret)))))

theorem c_bobbinref08_Same : codeOf Try.prog {  } 33 = some (a_bobbinref08_Same, [.tmp 4], 132) := by kernel_rfl

/-- (bobbin/bobbinlaw08.Step).do -/
def a_bobbinlaw08_Step_do : ACode :=
  .seq (
   .ops [⟨some 3, .box true (.tmp 0), none⟩,
     ⟨some 6, .val (.val (.lit (.bool false))), none⟩]) (
  .seq (
   .seq (
    .ops [⟨some 11, .fieldAddr 0 (.tmp 3), none⟩,
      ⟨some 12, .iload false 1 (.tmp 11), none⟩]) (
   .block 0 (
     .seq (
      .ops [⟨some 14, .bin .eql .num (.tmp 12) (.val (.lit (.int .u8 0))), none⟩,
        ⟨some 13, .val (.tmp 14), none⟩]) (
     .cond (.tmp 13) (
       .seq (
        .ops [⟨some 15, .val (.tmp 1), none⟩,
          ⟨some 16, .fieldAddr 1 (.tmp 3), none⟩,
          ⟨some 17, .iload false 1 (.tmp 16), none⟩,
          ⟨some 18, .fieldAddr 2 (.tmp 3), none⟩,
          ⟨some 19, .iload false 1 (.tmp 18), none⟩,
          ⟨some 20, .fieldAddr 3 (.tmp 3), none⟩,
          ⟨some 21, .iload false 1 (.tmp 20), none⟩,
          ⟨some 23, .val (.tmp 2), none⟩,
          ⟨some 24, .fieldAddr 1 (.tmp 3), none⟩,
          ⟨some 25, .iload false 1 (.tmp 24), none⟩,
          ⟨some 26, .fieldAddr 2 (.tmp 3), none⟩,
          ⟨some 27, .iload false 1 (.tmp 26), none⟩,
          ⟨some 28, .fieldAddr 3 (.tmp 3), none⟩,
          ⟨some 29, .iload false 1 (.tmp 28), none⟩,
          ⟨some 22, .call (.val (.fn (.func 21) [] [])) [(.tmp 15), (.tmp 17), (.tmp 19), (.tmp 21)], none⟩,
          ⟨some 30, .call (.val (.fn (.func 47) [] [])) [(.tmp 23), (.tmp 25), (.tmp 27), (.tmp 29)], none⟩,
          ⟨some 31, .bin .eql .num (.tmp 22) (.tmp 30), none⟩,
          ⟨some 6, .val (.tmp 31), none⟩]) (
       .ret)) (
       .seq (
        .ops [⟨some 33, .bin .eql .num (.tmp 12) (.val (.lit (.int .u8 1))), none⟩,
          ⟨some 32, .val (.tmp 33), none⟩]) (
       .cond (.tmp 32) (
         .seq (
          .ops [⟨some 34, .val (.tmp 1), none⟩,
            ⟨some 35, .fieldAddr 1 (.tmp 3), none⟩,
            ⟨some 36, .iload false 1 (.tmp 35), none⟩,
            ⟨some 37, .fieldAddr 2 (.tmp 3), none⟩,
            ⟨some 38, .iload false 1 (.tmp 37), none⟩,
            ⟨some 40, .val (.tmp 2), none⟩,
            ⟨some 41, .fieldAddr 1 (.tmp 3), none⟩,
            ⟨some 42, .iload false 1 (.tmp 41), none⟩,
            ⟨some 43, .fieldAddr 2 (.tmp 3), none⟩,
            ⟨some 44, .iload false 1 (.tmp 43), none⟩,
            ⟨some 39, .call (.val (.fn (.func 22) [] [])) [(.tmp 34), (.tmp 36), (.tmp 38)], none⟩,
            ⟨some 45, .call (.val (.fn (.func 48) [] [])) [(.tmp 40), (.tmp 42), (.tmp 44)], none⟩,
            ⟨some 46, .bin .eql .num (.tmp 39) (.tmp 45), none⟩,
            ⟨some 6, .val (.tmp 46), none⟩]) (
         .ret)) (
         .seq (
          .ops [⟨some 48, .bin .eql .num (.tmp 12) (.val (.lit (.int .u8 2))), none⟩,
            ⟨some 47, .val (.tmp 48), none⟩]) (
         .cond (.tmp 47) (
           .seq (
            .ops [⟨some 49, .val (.tmp 1), none⟩,
              ⟨some 50, .fieldAddr 1 (.tmp 3), none⟩,
              ⟨some 51, .iload false 1 (.tmp 50), none⟩,
              ⟨some 52, .fieldAddr 2 (.tmp 3), none⟩,
              ⟨some 53, .iload false 1 (.tmp 52), none⟩,
              ⟨some 55, .val (.tmp 2), none⟩,
              ⟨some 56, .fieldAddr 1 (.tmp 3), none⟩,
              ⟨some 57, .iload false 1 (.tmp 56), none⟩,
              ⟨some 58, .fieldAddr 2 (.tmp 3), none⟩,
              ⟨some 59, .iload false 1 (.tmp 58), none⟩,
              ⟨some 54, .call (.val (.fn (.func 23) [] [])) [(.tmp 49), (.tmp 51), (.tmp 53)], none⟩,
              ⟨some 60, .call (.val (.fn (.func 49) [] [])) [(.tmp 55), (.tmp 57), (.tmp 59)], none⟩,
              ⟨some 61, .bin .eql .num (.tmp 54) (.tmp 60), none⟩,
              ⟨some 6, .val (.tmp 61), none⟩]) (
           .ret)) (
           .skip))))))))) (
  .seq (
   .ops [⟨some 63, .val (.tmp 1), none⟩,
     ⟨some 64, .fieldAddr 1 (.tmp 3), none⟩,
     ⟨some 65, .iload false 1 (.tmp 64), none⟩,
     ⟨some 66, .fieldAddr 2 (.tmp 3), none⟩,
     ⟨some 67, .iload false 1 (.tmp 66), none⟩,
     ⟨some 68, .call (.val (.fn (.func 24) [] [])) [(.tmp 63), (.tmp 65), (.tmp 67)], none⟩,
     ⟨some 62, .val (.tmp 68), none⟩,
     ⟨some 69, .extract (.tmp 62) 0, none⟩,
     ⟨some 70, .extract (.tmp 62) 1, none⟩,
     ⟨some 7, .val (.tmp 69), none⟩,
     ⟨some 8, .val (.tmp 70), none⟩]) (
  .seq (
   .ops [⟨some 72, .val (.tmp 2), none⟩,
     ⟨some 73, .fieldAddr 1 (.tmp 3), none⟩,
     ⟨some 74, .iload false 1 (.tmp 73), none⟩,
     ⟨some 75, .fieldAddr 2 (.tmp 3), none⟩,
     ⟨some 76, .iload false 1 (.tmp 75), none⟩,
     ⟨some 77, .call (.val (.fn (.func 50) [] [])) [(.tmp 72), (.tmp 74), (.tmp 76)], none⟩,
     ⟨some 71, .val (.tmp 77), none⟩,
     ⟨some 78, .extract (.tmp 71) 0, none⟩,
     ⟨some 79, .extract (.tmp 71) 1, none⟩,
     ⟨some 9, .val (.tmp 78), none⟩,
     ⟨some 10, .val (.tmp 79), none⟩]) (
  .seq (
   .ops [⟨some 80, .val (.tmp 7), none⟩,
     ⟨some 81, .val (.tmp 9), none⟩,
     ⟨some 82, .bin .eql .num (.tmp 80) (.tmp 81), none⟩,
     ⟨some 83, .val (.tmp 82), none⟩,
     ⟨some 84, .val (.tmp 8), some (83, true)⟩,
     ⟨some 85, .val (.tmp 10), some (83, true)⟩,
     ⟨some 86, .bin .eql .num (.tmp 84) (.tmp 85), some (83, true)⟩,
     ⟨some 87, .pick (.tmp 83) (.tmp 86) (.val (.lit (.bool false))), none⟩,
     ⟨some 6, .val (.tmp 87), none⟩]) (
  .ret)))))

theorem c_bobbinlaw08_Step_do : codeOf Try.prog { bz := [3], il := [12, 17, 19, 21, 25, 27, 29, 36, 38, 42, 44, 51, 53, 57, 59, 65, 67, 74, 76] } 31 = some (a_bobbinlaw08_Step_do, [.tmp 6], 88) := by kernel_rfl

/-- bobbin/bobbinlaw08.same -/
def a_bobbinlaw08_sameb1 : ACode :=
       .seq (
        .seq (
         .ops [⟨some 76, .val (.tmp 8), none⟩,
           ⟨some 77, .val (.tmp 1), none⟩,
           ⟨some 78, .nilck (.tmp 77), none⟩,
           ⟨some 79, .fieldAddr 1 (.tmp 78), none⟩,
           ⟨some 80, .load false 1 (.tmp 79), none⟩,
           ⟨some 81, .len 1 (.tmp 80), none⟩,
           ⟨some 82, .bin .leq .num (.tmp 76) (.tmp 81), none⟩]) (
        .cond (.tmp 82) (
          .skip) (
          .exit 4))) (
       .seq (
        .block 5 (
          .seq (
           .ops [⟨some 86, .val (.tmp 0), none⟩,
             ⟨some 87, .val (.tmp 8), none⟩,
             ⟨some 88, .call (.val (.fn (.func 25) [] [])) [(.tmp 86), (.tmp 87)], none⟩,
             ⟨some 85, .val (.tmp 88), none⟩,
             ⟨some 89, .extract (.tmp 85) 0, none⟩,
             ⟨some 90, .extract (.tmp 85) 1, none⟩,
             ⟨some 9, .val (.tmp 89), none⟩,
             ⟨some 10, .val (.tmp 90), none⟩]) (
          .seq (
           .ops [⟨some 92, .val (.tmp 1), none⟩,
             ⟨some 93, .val (.tmp 8), none⟩,
             ⟨some 94, .call (.val (.fn (.func 51) [] [])) [(.tmp 92), (.tmp 93)], none⟩,
             ⟨some 91, .val (.tmp 94), none⟩,
             ⟨some 95, .extract (.tmp 91) 0, none⟩,
             ⟨some 96, .extract (.tmp 91) 1, none⟩,
             ⟨some 11, .val (.tmp 95), none⟩,
             ⟨some 12, .val (.tmp 96), none⟩]) (
          .seq (
           .ops [⟨some 97, .val (.tmp 9), none⟩,
             ⟨some 98, .val (.tmp 11), none⟩,
             ⟨some 99, .bin .neq .num (.tmp 97) (.tmp 98), none⟩,
             ⟨some 100, .val (.tmp 99), none⟩,
             ⟨some 101, .val (.tmp 10), some (100, false)⟩,
             ⟨some 102, .val (.tmp 12), some (100, false)⟩,
             ⟨some 103, .bin .neq .bool (.tmp 101) (.tmp 102), some (100, false)⟩,
             ⟨some 104, .pick (.tmp 100) (.val (.lit (.bool true))) (.tmp 103), none⟩]) (
          .cond (.tmp 104) (
            .seq (
             .ops [⟨some 4, .val (.val (.lit (.bool false))), none⟩]) (
            .ret)) (
            .skip)))))) (
       .ops [⟨some 83, .val (.tmp 8), none⟩,
         ⟨some 84, .bin .add .num (.tmp 83) (.val (.lit (.int .i64 1))), none⟩,
         ⟨some 8, .val (.tmp 84), none⟩]))

def a_bobbinlaw08_sameb2 : ACode :=
              .seq (
               .seq (
                .ops [⟨some 43, .val (.tmp 7), none⟩,
                  ⟨some 44, .val (.tmp 5), none⟩,
                  ⟨some 45, .val (.tmp 6), none⟩,
                  ⟨some 46, .indexAddr 1 (.tmp 44) (.tmp 45), none⟩,
                  ⟨some 47, .load false 1 (.tmp 46), none⟩,
                  ⟨some 48, .len 1 (.tmp 47), none⟩,
                  ⟨some 49, .bin .lss .num (.tmp 43) (.tmp 48), none⟩]) (
               .cond (.tmp 49) (
                 .skip) (
                 .exit 2))) (
              .seq (
               .block 3 (
                 .seq (
                  .seq (
                   .ops [⟨some 52, .val (.tmp 5), none⟩,
                     ⟨some 53, .val (.tmp 6), none⟩,
                     ⟨some 54, .indexAddr 1 (.tmp 52) (.tmp 53), none⟩,
                     ⟨some 56, .val (.tmp 7), none⟩,
                     ⟨some 59, .val (.tmp 1), none⟩,
                     ⟨some 60, .nilck (.tmp 59), none⟩,
                     ⟨some 61, .fieldAddr 0 (.tmp 60), none⟩,
                     ⟨some 63, .val (.tmp 6), none⟩,
                     ⟨some 66, .val (.tmp 7), none⟩,
                     ⟨some 55, .load false 1 (.tmp 54), none⟩,
                     ⟨some 57, .indexAddr 1 (.tmp 55) (.tmp 56), none⟩,
                     ⟨some 58, .load false 1 (.tmp 57), none⟩,
                     ⟨some 62, .load false 1 (.tmp 61), none⟩,
                     ⟨some 64, .indexAddr 1 (.tmp 62) (.tmp 63), none⟩,
                     ⟨some 65, .load false 1 (.tmp 64), none⟩,
                     ⟨some 67, .indexAddr 1 (.tmp 65) (.tmp 66), none⟩,
                     ⟨some 68, .load false 1 (.tmp 67), none⟩,
                     ⟨some 69, .bin .neq .num (.tmp 58) (.tmp 68), none⟩]) (
                  .cond (.tmp 69) (
                    .seq (
                     .ops [⟨some 4, .val (.val (.lit (.bool false))), none⟩]) (
                    .ret)) (
                    .skip))) (
                 .ops [⟨some 70, .val (.tmp 5), none⟩,
                   ⟨some 71, .val (.tmp 6), none⟩,
                   ⟨some 72, .indexAddr 1 (.tmp 70) (.tmp 71), none⟩,
                   ⟨some 73, .load false 1 (.tmp 72), none⟩,
                   ⟨some 74, .val (.tmp 7), none⟩,
                   ⟨some 75, .indexAddr 1 (.tmp 73) (.tmp 74), none⟩,
                   ⟨none, .store 1 (.tmp 75) (.val (.lit (.int .i64 (-7)))), none⟩]))) (
              .ops [⟨some 50, .val (.tmp 7), none⟩,
                ⟨some 51, .bin .add .num (.tmp 50) (.val (.lit (.int .i64 1))), none⟩,
                ⟨some 7, .val (.tmp 51), none⟩]))

def a_bobbinlaw08_sameb3 : ACode :=
       .seq (
        .seq (
         .ops [⟨some 23, .val (.tmp 6), none⟩,
           ⟨some 24, .val (.tmp 5), none⟩,
           ⟨some 25, .len 1 (.tmp 24), none⟩,
           ⟨some 26, .bin .lss .num (.tmp 23) (.tmp 25), none⟩]) (
        .cond (.tmp 26) (
          .skip) (
          .exit 0))) (
       .seq (
        .block 1 (
          .seq (
           .seq (
            .ops [⟨some 29, .val (.tmp 5), none⟩,
              ⟨some 30, .val (.tmp 6), none⟩,
              ⟨some 31, .indexAddr 1 (.tmp 29) (.tmp 30), none⟩,
              ⟨some 34, .val (.tmp 1), none⟩,
              ⟨some 35, .nilck (.tmp 34), none⟩,
              ⟨some 36, .fieldAddr 0 (.tmp 35), none⟩,
              ⟨some 38, .val (.tmp 6), none⟩,
              ⟨some 32, .load false 1 (.tmp 31), none⟩,
              ⟨some 33, .len 1 (.tmp 32), none⟩,
              ⟨some 37, .load false 1 (.tmp 36), none⟩,
              ⟨some 39, .indexAddr 1 (.tmp 37) (.tmp 38), none⟩,
              ⟨some 40, .load false 1 (.tmp 39), none⟩,
              ⟨some 41, .len 1 (.tmp 40), none⟩,
              ⟨some 42, .bin .neq .num (.tmp 33) (.tmp 41), none⟩]) (
           .cond (.tmp 42) (
             .seq (
              .ops [⟨some 4, .val (.val (.lit (.bool false))), none⟩]) (
             .ret)) (
             .skip))) (
          .seq (
           .ops [⟨some 7, .val (.val (.lit (.int .i64 0))), none⟩]) (
          .block 2 (
            .loop a_bobbinlaw08_sameb2))))) (
       .ops [⟨some 27, .val (.tmp 6), none⟩,
         ⟨some 28, .bin .add .num (.tmp 27) (.val (.lit (.int .i64 1))), none⟩,
         ⟨some 6, .val (.tmp 28), none⟩]))

def a_bobbinlaw08_same : ACode :=
  .seq (
   .ops [⟨some 4, .val (.val (.lit (.bool false))), none⟩]) (
  .seq (
   .ops [⟨some 13, .val (.tmp 0), none⟩,
     ⟨some 14, .call (.val (.fn (.func 26) [] [])) [(.tmp 13)], none⟩,
     ⟨some 5, .val (.tmp 14), none⟩]) (
  .seq (
   .seq (
    .ops [⟨some 15, .val (.tmp 5), none⟩,
      ⟨some 16, .len 1 (.tmp 15), none⟩,
      ⟨some 17, .val (.tmp 1), none⟩,
      ⟨some 18, .nilck (.tmp 17), none⟩,
      ⟨some 19, .fieldAddr 0 (.tmp 18), none⟩,
      ⟨some 20, .load false 1 (.tmp 19), none⟩,
      ⟨some 21, .len 1 (.tmp 20), none⟩,
      ⟨some 22, .bin .neq .num (.tmp 16) (.tmp 21), none⟩]) (
   .cond (.tmp 22) (
     .seq (
      .ops [⟨some 4, .val (.val (.lit (.bool false))), none⟩]) (
     .ret)) (
     .skip))) (
  .seq (
   .seq (
    .ops [⟨some 6, .val (.val (.lit (.int .i64 0))), none⟩]) (
   .block 0 (
     .loop a_bobbinlaw08_sameb3))) (
  .seq (
   .seq (
    .ops [⟨some 8, .val (.val (.lit (.int .i64 (-1)))), none⟩]) (
   .block 4 (
     .loop a_bobbinlaw08_sameb1))) (
  .seq (
   .ops [⟨some 4, .val (.val (.lit (.bool true))), none⟩]) (
  .ret))))))

theorem c_bobbinlaw08_same : codeOf Try.prog {  } 32 = some (a_bobbinlaw08_same, [.tmp 4], 105) := by kernel_rfl

end Go.Proofs.Ytmgmgeijfkcglaa
