/- The code of functions, compiled (printed by wip/tools/kp.py). -/
import Derived.Test.YtanpcmkhhpaeiaaDoorProg
import Derived.Test.YtanpcmkhhpaeiaaDoorM3
namespace Go.Proofs.YtanpcmkhhpaeiaaDoor
set_option linter.unusedSimpArgs false
set_option linter.unusedVariables false
open Go Go.Fw
/-- bobbin/bobbinlaw07.CodeParts -/
def a_par_g : ACode :=
   .seq (
    .ops [⟨some 13, .call (.val (.fn (.func 8) [] [])) [], none⟩,
      ⟨some 14, .un .not (.tmp 13), none⟩,
      ⟨some 15, .val (.tmp 14), none⟩,
      ⟨some 16, .iload true 3 (.tmp 4), some (15, false)⟩,
      ⟨some 17, .call (.val (.fn (.func 11) [] [])) [(.tmp 16)], some (15, false)⟩,
      ⟨some 18, .pick (.tmp 15) (.val (.lit (.bool true))) (.tmp 17), none⟩,
      ⟨some 19, .val (.tmp 18), none⟩,
      ⟨some 20, .fieldAddr 5 (.tmp 7), some (19, false)⟩,
      ⟨some 21, .iload false 1 (.tmp 20), some (19, false)⟩,
      ⟨some 22, .len 1 (.tmp 21), some (19, false)⟩,
      ⟨some 23, .bin .gtr .num (.tmp 22) (.val (.lit (.int .i64 100))), some (19, false)⟩,
      ⟨some 24, .pick (.tmp 19) (.val (.lit (.bool true))) (.tmp 23), none⟩,
      ⟨some 25, .val (.tmp 24), none⟩,
      ⟨some 26, .iload true 3 (.tmp 4), some (25, false)⟩,
      ⟨some 27, .call (.val (.fn (.func 12) [] [])) [(.tmp 26)], some (25, false)⟩,
      ⟨some 28, .un .not (.tmp 27), some (25, false)⟩,
      ⟨some 29, .pick (.tmp 25) (.val (.lit (.bool true))) (.tmp 28), none⟩,
      ⟨some 30, .val (.tmp 29), none⟩,
      ⟨some 31, .fieldAddr 2 (.tmp 4), some (30, false)⟩,
      ⟨some 32, .iload false 1 (.tmp 31), some (30, false)⟩,
      ⟨some 33, .len 1 (.tmp 32), some (30, false)⟩,
      ⟨some 34, .bin .eql .num (.tmp 33) (.val (.lit (.int .i64 0))), some (30, false)⟩,
      ⟨some 35, .pick (.tmp 30) (.val (.lit (.bool true))) (.tmp 34), none⟩]) (
   .cond (.tmp 35) (
     .seq (
      .ops [⟨some 36, .call (.val (.fn (.func 8) [] [])) [], none⟩,
        ⟨some 8, .val (.tmp 36), none⟩]) (
     .ret)) (
     .skip))

def a_par_i : ACode :=
   .seq (
    .ops [⟨some 37, .iload true 3 (.tmp 4), none⟩,
      ⟨some 38, .call (.val (.fn (.func 23) [] [])) [(.tmp 37)], none⟩,
      ⟨some 39, .un .not (.tmp 38), none⟩]) (
   .cond (.tmp 39) (
     .seq (
      .ops [⟨some 8, .val (.val (.lit (.bool false))), none⟩]) (
     .ret)) (
     .skip))

def a_par_k : ACode :=
   .ops [⟨some 40, .val (.tmp 1), none⟩,
     ⟨some 41, .conv .u64 (.tmp 40), none⟩,
     ⟨some 42, .fieldAddr 2 (.tmp 4), none⟩,
     ⟨some 43, .iload false 1 (.tmp 42), none⟩,
     ⟨some 44, .len 1 (.tmp 43), none⟩,
     ⟨some 45, .conv .u64 (.tmp 44), none⟩,
     ⟨some 46, .bin .rem .num (.tmp 41) (.tmp 45), none⟩,
     ⟨some 47, .conv .i64 (.tmp 46), none⟩,
     ⟨some 9, .val (.tmp 47), none⟩]

def a_par_q1 : ACode :=
   .ops [⟨some 48, .iload true 3 (.tmp 4), none⟩,
     ⟨some 10, .alloc [(.sl .nil 0 []), (.sl .nil 0 []), (.sl .nil 0 [])], none⟩,
     ⟨none, .store 3 (.tmp 10) (.tmp 48), none⟩]

def a_par_q2 : ACode :=
   .ops [⟨some 49, .bslice false 5 0 [] [], none⟩,
     ⟨some 50, .fieldAddr 2 (.tmp 4), none⟩,
     ⟨some 51, .iload false 1 (.tmp 50), none⟩,
     ⟨some 52, .append false 5 64 (.tmp 49) (.tmp 51), none⟩,
     ⟨some 53, .fieldAddr 2 (.tmp 10), none⟩,
     ⟨none, .store 1 (.tmp 53) (.tmp 52), none⟩]

def a_par_q3 : ACode :=
   .ops [⟨some 54, .fieldAddr 2 (.tmp 10), none⟩,
     ⟨some 56, .val (.tmp 9), none⟩,
     ⟨some 57, .bslice false 6 0 [] [], none⟩,
     ⟨some 58, .fieldAddr 2 (.tmp 4), none⟩,
     ⟨some 59, .iload false 1 (.tmp 58), none⟩,
     ⟨some 60, .val (.tmp 9), none⟩,
     ⟨some 61, .indexAddr 5 (.tmp 59) (.tmp 60), none⟩,
     ⟨some 62, .fieldAddr 4 (.tmp 61), none⟩,
     ⟨some 55, .load false 1 (.tmp 54), none⟩,
     ⟨some 63, .load false 1 (.tmp 62), none⟩,
     ⟨some 64, .kappend 6 64 (.tmp 57) (.tmp 63), none⟩,
     ⟨some 65, .indexAddr 5 (.tmp 55) (.tmp 56), none⟩,
     ⟨some 66, .fieldAddr 4 (.tmp 65), none⟩,
     ⟨none, .store 1 (.tmp 66) (.tmp 64), none⟩]

def a_par_l : ACode :=
   .ops [⟨some 67, .val (.tmp 2), none⟩,
     ⟨some 68, .conv .u64 (.tmp 67), none⟩,
     ⟨some 69, .fieldAddr 2 (.tmp 10), none⟩,
     ⟨some 70, .load false 1 (.tmp 69), none⟩,
     ⟨some 71, .val (.tmp 9), none⟩,
     ⟨some 72, .indexAddr 5 (.tmp 70) (.tmp 71), none⟩,
     ⟨some 73, .fieldAddr 4 (.tmp 72), none⟩,
     ⟨some 74, .load false 1 (.tmp 73), none⟩,
     ⟨some 75, .len 1 (.tmp 74), none⟩,
     ⟨some 76, .conv .u64 (.tmp 75), none⟩,
     ⟨some 77, .bin .rem .num (.tmp 68) (.tmp 76), none⟩,
     ⟨some 78, .conv .i64 (.tmp 77), none⟩,
     ⟨some 11, .val (.tmp 78), none⟩]

def a_par_c1 : ACode :=
      .ops [⟨some 89, .fieldAddr 2 (.tmp 10), none⟩,
        ⟨some 91, .val (.tmp 9), none⟩,
        ⟨some 95, .val (.tmp 11), none⟩,
        ⟨some 96, .iload true 6 (.tmp 7), none⟩,
        ⟨some 90, .load false 1 (.tmp 89), none⟩,
        ⟨some 92, .indexAddr 5 (.tmp 90) (.tmp 91), none⟩,
        ⟨some 93, .fieldAddr 4 (.tmp 92), none⟩,
        ⟨some 94, .load false 1 (.tmp 93), none⟩,
        ⟨some 97, .indexAddr 6 (.tmp 94) (.tmp 95), none⟩,
        ⟨none, .store 6 (.tmp 97) (.tmp 96), none⟩]

def a_par_c2 : ACode :=
      .seq (
       .ops [⟨some 100, .iload true 3 (.tmp 4), none⟩,
         ⟨some 101, .val (.tmp 9), none⟩,
         ⟨some 102, .iload true 6 (.tmp 7), none⟩,
         ⟨some 98, .load true 3 (.tmp 10), none⟩,
         ⟨some 99, .call (.val (.fn (.func 12) [] [])) [(.tmp 98)], none⟩,
         ⟨some 103, .call (.val (.fn (.func 20) [] [])) [(.tmp 100), (.tmp 101), (.tmp 102)], none⟩,
         ⟨some 104, .bin .neq .bool (.tmp 99) (.tmp 103), none⟩]) (
      .cond (.tmp 104) (
        .seq (
         .ops [⟨some 8, .val (.val (.lit (.bool false))), none⟩]) (
        .ret)) (
        .skip))

def a_par_c3 : ACode :=
     .ops [⟨some 105, .fieldAddr 2 (.tmp 10), none⟩,
       ⟨some 107, .val (.tmp 9), none⟩,
       ⟨some 111, .val (.tmp 11), none⟩,
       ⟨some 112, .fieldAddr 2 (.tmp 4), none⟩,
       ⟨some 113, .iload false 1 (.tmp 112), none⟩,
       ⟨some 114, .val (.tmp 9), none⟩,
       ⟨some 115, .indexAddr 5 (.tmp 113) (.tmp 114), none⟩,
       ⟨some 116, .fieldAddr 4 (.tmp 115), none⟩,
       ⟨some 118, .val (.tmp 11), none⟩,
       ⟨some 106, .load false 1 (.tmp 105), none⟩,
       ⟨some 108, .indexAddr 5 (.tmp 106) (.tmp 107), none⟩,
       ⟨some 109, .fieldAddr 4 (.tmp 108), none⟩,
       ⟨some 110, .load false 1 (.tmp 109), none⟩,
       ⟨some 117, .load false 1 (.tmp 116), none⟩,
       ⟨some 119, .indexAddr 6 (.tmp 117) (.tmp 118), none⟩,
       ⟨some 120, .load true 6 (.tmp 119), none⟩,
       ⟨some 121, .indexAddr 6 (.tmp 110) (.tmp 111), none⟩,
       ⟨none, .store 6 (.tmp 121) (.tmp 120), none⟩]

def a_par_c : ACode :=
   .seq (
    .ops [⟨some 79, .val (.tmp 11), none⟩,
      ⟨some 80, .fieldAddr 2 (.tmp 10), none⟩,
      ⟨some 81, .load false 1 (.tmp 80), none⟩,
      ⟨some 82, .val (.tmp 9), none⟩,
      ⟨some 83, .indexAddr 5 (.tmp 81) (.tmp 82), none⟩,
      ⟨some 84, .fieldAddr 4 (.tmp 83), none⟩,
      ⟨some 85, .load false 1 (.tmp 84), none⟩,
      ⟨some 86, .len 1 (.tmp 85), none⟩,
      ⟨some 87, .bin .sub .num (.tmp 86) (.val (.lit (.int .i64 1))), none⟩,
      ⟨some 88, .bin .lss .num (.tmp 79) (.tmp 87), none⟩]) (
   .cond (.tmp 88) (
     .seq a_par_c1 (
     .seq a_par_c2 a_par_c3)) (
     .skip))

def a_par_m : ACode :=
   .ops [⟨some 122, .fieldAddr 2 (.tmp 10), none⟩,
     ⟨some 123, .load false 1 (.tmp 122), none⟩,
     ⟨some 124, .len 1 (.tmp 123), none⟩,
     ⟨some 125, .bin .sub .num (.tmp 124) (.val (.lit (.int .i64 1))), none⟩,
     ⟨some 12, .val (.tmp 125), none⟩]

def a_par_n0 : ACode :=
   .ops [⟨some 126, .fieldAddr 2 (.tmp 10), none⟩,
     ⟨some 128, .fieldAddr 2 (.tmp 4), none⟩,
     ⟨some 129, .iload false 1 (.tmp 128), none⟩,
     ⟨some 130, .val (.tmp 12), none⟩,
     ⟨some 131, .indexAddr 5 (.tmp 129) (.tmp 130), none⟩,
     ⟨some 132, .fieldAddr 0 (.tmp 131), none⟩,
     ⟨some 127, .load false 1 (.tmp 126), none⟩,
     ⟨some 133, .load false 1 (.tmp 132), none⟩,
     ⟨some 134, .indexAddr 5 (.tmp 127) (.val (.lit (.int .i64 0))), none⟩,
     ⟨some 135, .fieldAddr 0 (.tmp 134), none⟩,
     ⟨none, .store 1 (.tmp 135) (.tmp 133), none⟩]

def a_par_n1 : ACode :=
   .ops [⟨some 136, .fieldAddr 2 (.tmp 10), none⟩,
     ⟨some 138, .val (.tmp 12), none⟩,
     ⟨some 139, .fieldAddr 2 (.tmp 4), none⟩,
     ⟨some 140, .iload false 1 (.tmp 139), none⟩,
     ⟨some 141, .indexAddr 5 (.tmp 140) (.val (.lit (.int .i64 0))), none⟩,
     ⟨some 142, .fieldAddr 0 (.tmp 141), none⟩,
     ⟨some 137, .load false 1 (.tmp 136), none⟩,
     ⟨some 143, .load false 1 (.tmp 142), none⟩,
     ⟨some 144, .indexAddr 5 (.tmp 137) (.tmp 138), none⟩,
     ⟨some 145, .fieldAddr 0 (.tmp 144), none⟩,
     ⟨none, .store 1 (.tmp 145) (.tmp 143), none⟩]

def a_par_r : ACode :=
   .ops [⟨some 146, .load true 3 (.tmp 10), none⟩,
     ⟨some 147, .call (.val (.fn (.func 12) [] [])) [(.tmp 146)], none⟩,
     ⟨some 148, .val (.tmp 147), none⟩,
     ⟨some 149, .iload true 3 (.tmp 4), some (148, true)⟩,
     ⟨some 150, .load true 3 (.tmp 10), some (148, true)⟩,
     ⟨some 151, .call (.val (.fn (.func 14) [] [])) [(.tmp 149), (.tmp 150)], some (148, true)⟩,
     ⟨some 152, .val (.tmp 12), some (148, true)⟩,
     ⟨some 153, .bin .eql .num (.tmp 152) (.val (.lit (.int .i64 0))), some (148, true)⟩,
     ⟨some 154, .bin .eql .bool (.tmp 151) (.tmp 153), some (148, true)⟩,
     ⟨some 155, .pick (.tmp 148) (.tmp 154) (.val (.lit (.bool false))), none⟩,
     ⟨some 8, .val (.tmp 155), none⟩]

def a_bobbinlaw07_CodeParts : ACode :=
  .seq (
   .ops [⟨some 4, .box true (.tmp 0), none⟩,
     ⟨some 7, .box true (.tmp 3), none⟩,
     ⟨some 8, .val (.val (.lit (.bool false))), none⟩]) (
  .seq a_par_g (
  .seq a_par_i (
  .seq a_par_k (
  .seq a_par_q1 (
  .seq a_par_q2 (
  .seq a_par_q3 (
  .seq a_par_l (
  .seq a_par_c (
  .seq a_par_m (
  .seq a_par_n0 (
  .seq a_par_n1 (
  .seq a_par_r (
  .ret)))))))))))))

theorem c_bobbinlaw07_CodeParts : codeOf Tryd.prog { bz := [4, 7], il := [16, 21, 26, 32, 37, 43, 48, 51, 59, 96, 100, 102, 113, 129, 140, 149], ka := [64] } 7 = some (a_bobbinlaw07_CodeParts, [.tmp 8], 156) := by kernel_rfl

/-- bobbin/bobbinlaw07.inside -/
def a_bobbinlaw07_insideb1 : ACode :=
                      .seq (
                       .seq (
                        .ops [⟨some 51, .val (.tmp 9), none⟩,
                          ⟨some 52, .val (.tmp 6), none⟩,
                          ⟨some 53, .len 1 (.tmp 52), none⟩,
                          ⟨some 54, .bin .lss .num (.tmp 51) (.tmp 53), none⟩]) (
                       .cond (.tmp 54) (
                         .skip) (
                         .exit 4))) (
                      .seq (
                       .block 5 (
                         .seq (
                          .ops [⟨some 57, .val (.tmp 6), none⟩,
                            ⟨some 58, .val (.tmp 9), none⟩,
                            ⟨some 59, .indexAddr 1 (.tmp 57) (.tmp 58), none⟩,
                            ⟨some 60, .load false 1 (.tmp 59), none⟩,
                            ⟨some 61, .bin .lss .num (.tmp 60) (.val (.lit (.int .i64 0))), none⟩,
                            ⟨some 62, .val (.tmp 61), none⟩,
                            ⟨some 63, .val (.tmp 6), some (62, false)⟩,
                            ⟨some 64, .val (.tmp 9), some (62, false)⟩,
                            ⟨some 65, .indexAddr 1 (.tmp 63) (.tmp 64), some (62, false)⟩,
                            ⟨some 67, .fieldAddr 3 (.tmp 4), some (62, false)⟩,
                            ⟨some 66, .load false 1 (.tmp 65), some (62, false)⟩,
                            ⟨some 68, .load false 1 (.tmp 67), some (62, false)⟩,
                            ⟨some 69, .bin .geq .num (.tmp 66) (.tmp 68), some (62, false)⟩,
                            ⟨some 70, .pick (.tmp 62) (.val (.lit (.bool true))) (.tmp 69), none⟩]) (
                         .cond (.tmp 70) (
                           .seq (
                            .ops [⟨some 2, .val (.val (.lit (.bool false))), none⟩]) (
                           .ret)) (
                           .skip)))) (
                      .ops [⟨some 55, .val (.tmp 9), none⟩,
                        ⟨some 56, .bin .add .num (.tmp 55) (.val (.lit (.int .i64 1))), none⟩,
                        ⟨some 9, .val (.tmp 56), none⟩]))

def a_ins_r : ACode :=
                  .ops [⟨some 31, .fieldAddr 4 (.tmp 4), none⟩,
                    ⟨some 32, .load false 1 (.tmp 31), none⟩,
                    ⟨some 33, .val (.tmp 5), none⟩,
                    ⟨some 34, .indexAddr 6 (.tmp 32) (.tmp 33), none⟩,
                    ⟨some 35, .load true 6 (.tmp 34), none⟩,
                    ⟨some 36, .call (.val (.fn (.func 10) [] [])) [(.tmp 35)], none⟩,
                    ⟨some 6, .val (.tmp 36), none⟩]

def a_ins_w : ACode :=
                  .ops [⟨some 38, .fieldAddr 4 (.tmp 4), none⟩,
                    ⟨some 39, .load false 1 (.tmp 38), none⟩,
                    ⟨some 40, .val (.tmp 5), none⟩,
                    ⟨some 41, .indexAddr 6 (.tmp 39) (.tmp 40), none⟩,
                    ⟨some 42, .load true 6 (.tmp 41), none⟩,
                    ⟨some 43, .call (.val (.fn (.func 46) [] [])) [(.tmp 42)], none⟩,
                    ⟨some 37, .val (.tmp 43), none⟩,
                    ⟨some 44, .extract (.tmp 37) 0, none⟩,
                    ⟨some 45, .extract (.tmp 37) 1, none⟩,
                    ⟨some 7, .val (.tmp 44), none⟩,
                    ⟨some 8, .val (.tmp 45), none⟩]

def a_ins_p : ACode :=
                  .seq (
                   .ops [⟨some 46, .val (.tmp 8), none⟩]) (
                  .cond (.tmp 46) (
                    .ops [⟨some 47, .val (.tmp 6), none⟩,
                      ⟨some 48, .val (.tmp 7), none⟩,
                      ⟨some 49, .bslice false 1 1 [(.lit (.int .i64 0))] [(0, 1, (.tmp 48))], none⟩,
                      ⟨some 50, .append false 1 8 (.tmp 47) (.tmp 49), none⟩,
                      ⟨some 6, .val (.tmp 50), none⟩]) (
                    .skip))

def a_ins_l : ACode :=
                  .seq (
                   .ops [⟨some 9, .val (.val (.lit (.int .i64 0))), none⟩]) (
                  .block 4 (
                    .loop a_bobbinlaw07_insideb1))

def a_ins_g : ACode :=
                  .ops [⟨some 72, .fieldAddr 4 (.tmp 4), none⟩,
                    ⟨some 73, .load false 1 (.tmp 72), none⟩,
                    ⟨some 74, .val (.tmp 5), none⟩,
                    ⟨some 75, .indexAddr 6 (.tmp 73) (.tmp 74), none⟩,
                    ⟨some 76, .load true 6 (.tmp 75), none⟩,
                    ⟨some 77, .call (.val (.fn (.func 24) [] [])) [(.tmp 76)], none⟩,
                    ⟨some 71, .val (.tmp 77), none⟩,
                    ⟨some 78, .extract (.tmp 71) 0, none⟩,
                    ⟨some 79, .extract (.tmp 71) 1, none⟩,
                    ⟨some 10, .val (.tmp 78), none⟩,
                    ⟨some 11, .val (.tmp 79), none⟩]

def a_ins_e : ACode :=
                 .seq (
                  .ops [⟨some 80, .val (.tmp 11), none⟩,
                    ⟨some 81, .val (.tmp 80), none⟩,
                    ⟨some 82, .val (.tmp 10), some (81, true)⟩,
                    ⟨some 83, .bin .lss .num (.tmp 82) (.val (.lit (.int .i64 0))), some (81, true)⟩,
                    ⟨some 84, .val (.tmp 83), some (81, true)⟩,
                    ⟨some 85, .val (.tmp 10), some (84, false)⟩,
                    ⟨some 86, .fieldAddr 4 (.tmp 4), some (84, false)⟩,
                    ⟨some 87, .load false 1 (.tmp 86), some (84, false)⟩,
                    ⟨some 88, .len 1 (.tmp 87), some (84, false)⟩,
                    ⟨some 89, .bin .geq .num (.tmp 85) (.tmp 88), some (84, false)⟩,
                    ⟨some 90, .pick (.tmp 84) (.val (.lit (.bool true))) (.tmp 89), some (81, true)⟩,
                    ⟨some 91, .pick (.tmp 81) (.tmp 90) (.val (.lit (.bool false))), none⟩,
                    ⟨some 92, .val (.tmp 91), none⟩,
                    ⟨some 93, .iload true 3 (.tmp 1), some (92, false)⟩,
                    ⟨some 94, .val (.tmp 3), some (92, false)⟩,
                    ⟨some 95, .fieldAddr 4 (.tmp 4), some (92, false)⟩,
                    ⟨some 97, .val (.tmp 5), some (92, false)⟩,
                    ⟨some 96, .load false 1 (.tmp 95), some (92, false)⟩,
                    ⟨some 98, .indexAddr 6 (.tmp 96) (.tmp 97), some (92, false)⟩,
                    ⟨some 99, .load true 6 (.tmp 98), some (92, false)⟩,
                    ⟨some 100, .call (.val (.fn (.func 20) [] [])) [(.tmp 93), (.tmp 94), (.tmp 99)], some (92, false)⟩,
                    ⟨some 101, .un .not (.tmp 100), some (92, false)⟩,
                    ⟨some 102, .pick (.tmp 92) (.val (.lit (.bool true))) (.tmp 101), none⟩]) (
                 .cond (.tmp 102) (
                   .seq (
                    .ops [⟨some 2, .val (.val (.lit (.bool false))), none⟩]) (
                   .ret)) (
                   .skip))

def a_bobbinlaw07_insideb2 : ACode :=
              .seq (
               .seq (
                .ops [⟨some 24, .val (.tmp 5), none⟩,
                  ⟨some 25, .fieldAddr 4 (.tmp 4), none⟩,
                  ⟨some 26, .load false 1 (.tmp 25), none⟩,
                  ⟨some 27, .len 1 (.tmp 26), none⟩,
                  ⟨some 28, .bin .lss .num (.tmp 24) (.tmp 27), none⟩]) (
               .cond (.tmp 28) (
                 .skip) (
                 .exit 2))) (
              .seq (
               .block 3 (
                 .seq a_ins_r (
                 .seq a_ins_w (
                 .seq a_ins_p (
                 .seq a_ins_l (
                 .seq a_ins_g a_ins_e)))))) (
              .ops [⟨some 29, .val (.tmp 5), none⟩,
                ⟨some 30, .bin .add .num (.tmp 29) (.val (.lit (.int .i64 1))), none⟩,
                ⟨some 5, .val (.tmp 30), none⟩]))

def a_bobbinlaw07_insideb3 : ACode :=
       .seq (
        .seq (
         .ops [⟨some 12, .val (.tmp 3), none⟩,
           ⟨some 13, .fieldAddr 2 (.tmp 1), none⟩,
           ⟨some 14, .iload false 1 (.tmp 13), none⟩,
           ⟨some 15, .len 1 (.tmp 14), none⟩,
           ⟨some 16, .bin .lss .num (.tmp 12) (.tmp 15), none⟩]) (
        .cond (.tmp 16) (
          .skip) (
          .exit 0))) (
       .seq (
        .block 1 (
          .seq (
           .ops [⟨some 19, .fieldAddr 2 (.tmp 1), none⟩,
             ⟨some 20, .iload false 1 (.tmp 19), none⟩,
             ⟨some 21, .val (.tmp 3), none⟩,
             ⟨some 22, .indexAddr 5 (.tmp 20) (.tmp 21), none⟩,
             ⟨some 23, .load true 5 (.tmp 22), none⟩,
             ⟨some 4, .alloc [(.lit (.string ⟨#[]⟩)), (.lit (.bool false)), (.lit (.int .i64 0)), (.lit (.int .i64 0)), (.sl .nil 0 [])], none⟩,
             ⟨none, .store 5 (.tmp 4) (.tmp 23), none⟩]) (
          .seq (
           .ops [⟨some 5, .val (.val (.lit (.int .i64 0))), none⟩]) (
          .block 2 (
            .loop a_bobbinlaw07_insideb2))))) (
       .ops [⟨some 17, .val (.tmp 3), none⟩,
         ⟨some 18, .bin .add .num (.tmp 17) (.val (.lit (.int .i64 1))), none⟩,
         ⟨some 3, .val (.tmp 18), none⟩]))

def a_bobbinlaw07_inside : ACode :=
  .seq (
   .ops [⟨some 1, .box true (.tmp 0), none⟩,
     ⟨some 2, .val (.val (.lit (.bool false))), none⟩]) (
  .seq (
   .seq (
    .ops [⟨some 3, .val (.val (.lit (.int .i64 0))), none⟩]) (
   .block 0 (
     .loop a_bobbinlaw07_insideb3))) (
  .seq (
   .ops [⟨some 2, .val (.val (.lit (.bool true))), none⟩]) (
  .ret)))

theorem c_bobbinlaw07_inside : codeOf Tryd.prog { bz := [1], il := [14, 20, 93] } 23 = some (a_bobbinlaw07_inside, [.tmp 2], 103) := by kernel_rfl

end Go.Proofs.YtanpcmkhhpaeiaaDoor
