/- The code of MemCells, compiled (printed by wip/tools/pa.sh, pk.py and loops.py). -/
import Derived.Test.YtmgmgeijfkcglaaK1
namespace Go.Proofs.Ytmgmgeijfkcglaa
set_option linter.unusedSimpArgs false
set_option linter.unusedVariables false
open Go Go.Fw

def a7t : ACode :=
          .seq (
           .ops [⟨some 172, .val (.tmp 11), none⟩,
             ⟨some 173, .val (.tmp 2), none⟩,
             ⟨some 174, .val (.tmp 3), none⟩,
             ⟨some 175, .call (.val (.fn (.func 24) [] [])) [(.tmp 172), (.tmp 173), (.tmp 174)], none⟩,
             ⟨some 171, .val (.tmp 175), none⟩,
             ⟨some 176, .extract (.tmp 171) 0, none⟩,
             ⟨some 177, .extract (.tmp 171) 1, none⟩,
             ⟨some 23, .val (.tmp 176), none⟩,
             ⟨some 24, .val (.tmp 177), none⟩]) (
          .seq (
           .ops [⟨some 179, .val (.tmp 11), none⟩,
             ⟨some 180, .val (.tmp 4), none⟩,
             ⟨some 181, .call (.val (.fn (.func 25) [] [])) [(.tmp 179), (.tmp 180)], none⟩,
             ⟨some 178, .val (.tmp 181), none⟩,
             ⟨some 182, .extract (.tmp 178) 0, none⟩,
             ⟨some 183, .extract (.tmp 178) 1, none⟩,
             ⟨some 25, .val (.tmp 182), none⟩,
             ⟨some 26, .val (.tmp 183), none⟩]) (
          .seq (
           .ops [⟨some 184, .val (.tmp 24), none⟩,
             ⟨some 185, .bin .eql .num (.tmp 184) (.val (.lit (.int .i64 0))), none⟩,
             ⟨some 186, .val (.tmp 13), none⟩,
             ⟨some 187, .bin .neq .bool (.tmp 185) (.tmp 186), none⟩,
             ⟨some 188, .val (.tmp 187), none⟩,
             ⟨some 189, .val (.tmp 23), some (188, false)⟩,
             ⟨some 190, .val (.tmp 14), some (188, false)⟩,
             ⟨some 191, .bin .neq .num (.tmp 189) (.tmp 190), some (188, false)⟩,
             ⟨some 192, .pick (.tmp 188) (.val (.lit (.bool true))) (.tmp 191), none⟩,
             ⟨some 193, .val (.tmp 192), none⟩,
             ⟨some 194, .val (.tmp 26), some (193, false)⟩,
             ⟨some 195, .val (.tmp 15), some (193, false)⟩,
             ⟨some 196, .bin .neq .bool (.tmp 194) (.tmp 195), some (193, false)⟩,
             ⟨some 197, .pick (.tmp 193) (.val (.lit (.bool true))) (.tmp 196), none⟩,
             ⟨some 198, .val (.tmp 197), none⟩,
             ⟨some 199, .val (.tmp 15), some (198, false)⟩,
             ⟨some 200, .val (.tmp 199), some (198, false)⟩,
             ⟨some 201, .val (.tmp 25), some (200, true)⟩,
             ⟨some 202, .val (.tmp 16), some (200, true)⟩,
             ⟨some 203, .bin .neq .num (.tmp 201) (.tmp 202), some (200, true)⟩,
             ⟨some 204, .pick (.tmp 200) (.tmp 203) (.val (.lit (.bool false))), some (198, false)⟩,
             ⟨some 205, .pick (.tmp 198) (.val (.lit (.bool true))) (.tmp 204), none⟩]) (
          .cond (.tmp 205) (
            .seq (
             .ops [⟨some 10, .val (.val (.lit (.bool false))), none⟩]) (
            .ret)) (
            .skip))))

def a7s : ACode :=
               .seq (
                .ops [⟨some 104, .val (.tmp 13), none⟩,
                  ⟨some 105, .val (.tmp 104), none⟩,
                  ⟨some 106, .fieldAddr 1 (.tmp 19), some (105, true)⟩,
                  ⟨some 107, .load false 1 (.tmp 106), some (105, true)⟩,
                  ⟨some 108, .val (.tmp 2), some (105, true)⟩,
                  ⟨some 109, .bin .eql .num (.tmp 107) (.tmp 108), some (105, true)⟩,
                  ⟨some 110, .pick (.tmp 105) (.tmp 109) (.val (.lit (.bool false))), none⟩,
                  ⟨some 111, .val (.tmp 110), none⟩,
                  ⟨some 112, .fieldAddr 2 (.tmp 19), some (111, true)⟩,
                  ⟨some 113, .load false 1 (.tmp 112), some (111, true)⟩,
                  ⟨some 114, .val (.tmp 3), some (111, true)⟩,
                  ⟨some 115, .bin .eql .num (.tmp 113) (.tmp 114), some (111, true)⟩,
                  ⟨some 116, .pick (.tmp 111) (.tmp 115) (.val (.lit (.bool false))), none⟩]) (
               .cond (.tmp 116) (
                 .seq (
                  .ops [⟨some 117, .fieldAddr 3 (.tmp 19), none⟩,
                    ⟨some 118, .load false 1 (.tmp 117), none⟩,
                    ⟨some 14, .val (.tmp 118), none⟩]) (
                 .seq (
                  .ops [⟨some 119, .val (.tmp 20), none⟩,
                    ⟨some 120, .bin .neq .num (.tmp 119) (.val (.lit (.int .i64 0))), none⟩]) (
                 .cond (.tmp 120) (
                   .seq (
                    .ops [⟨some 10, .val (.val (.lit (.bool false))), none⟩]) (
                   .ret)) (
                   .skip)))) (
                 .skip))

def a7k : ACode :=
                 .seq (
                  .ops [⟨some 129, .val (.tmp 17), none⟩,
                    ⟨some 130, .val (.tmp 129), none⟩,
                    ⟨some 131, .fieldAddr 1 (.tmp 19), some (130, true)⟩,
                    ⟨some 132, .load false 1 (.tmp 131), some (130, true)⟩,
                    ⟨some 133, .val (.tmp 4), some (130, true)⟩,
                    ⟨some 134, .bin .eql .num (.tmp 132) (.tmp 133), some (130, true)⟩,
                    ⟨some 135, .pick (.tmp 130) (.tmp 134) (.val (.lit (.bool false))), none⟩]) (
                 .cond (.tmp 135) (
                   .seq (
                    .seq (
                     .ops [⟨some 136, .val (.tmp 21), none⟩,
                       ⟨some 137, .bin .eql .num (.tmp 136) (.val (.lit (.int .i64 0))), none⟩,
                       ⟨some 138, .val (.tmp 15), none⟩,
                       ⟨some 139, .bin .eql .bool (.tmp 137) (.tmp 138), none⟩]) (
                    .cond (.tmp 139) (
                      .seq (
                       .ops [⟨some 10, .val (.val (.lit (.bool false))), none⟩]) (
                      .ret)) (
                      .skip))) (
                   .seq (
                    .ops [⟨some 140, .val (.tmp 15), none⟩,
                      ⟨some 141, .un .not (.tmp 140), none⟩]) (
                   .cond (.tmp 141) (
                     .ops [⟨some 142, .fieldAddr 2 (.tmp 19), none⟩,
                       ⟨some 15, .val (.val (.lit (.bool true))), none⟩,
                       ⟨some 143, .load false 1 (.tmp 142), none⟩,
                       ⟨some 16, .val (.tmp 143), none⟩]) (
                     .skip)))) (
                   .skip))

def a7g : ACode :=
                   .seq (
                    .ops [⟨some 152, .val (.tmp 17), none⟩,
                      ⟨some 153, .val (.tmp 152), none⟩,
                      ⟨some 154, .fieldAddr 1 (.tmp 19), some (153, true)⟩,
                      ⟨some 155, .load false 1 (.tmp 154), some (153, true)⟩,
                      ⟨some 156, .val (.tmp 4), some (153, true)⟩,
                      ⟨some 157, .bin .eql .num (.tmp 155) (.tmp 156), some (153, true)⟩,
                      ⟨some 158, .pick (.tmp 153) (.tmp 157) (.val (.lit (.bool false))), none⟩]) (
                   .cond (.tmp 158) (
                     .seq (
                      .seq (
                       .ops [⟨some 159, .val (.tmp 22), none⟩,
                         ⟨some 160, .bin .eql .num (.tmp 159) (.val (.lit (.int .i64 0))), none⟩,
                         ⟨some 161, .val (.tmp 15), none⟩,
                         ⟨some 162, .val (.tmp 161), none⟩,
                         ⟨some 163, .val (.tmp 16), some (162, true)⟩,
                         ⟨some 164, .fieldAddr 2 (.tmp 19), some (162, true)⟩,
                         ⟨some 165, .load false 1 (.tmp 164), some (162, true)⟩,
                         ⟨some 166, .bin .eql .num (.tmp 163) (.tmp 165), some (162, true)⟩,
                         ⟨some 167, .pick (.tmp 162) (.tmp 166) (.val (.lit (.bool false))), none⟩,
                         ⟨some 168, .bin .neq .bool (.tmp 160) (.tmp 167), none⟩]) (
                      .cond (.tmp 168) (
                        .seq (
                         .ops [⟨some 10, .val (.val (.lit (.bool false))), none⟩]) (
                        .ret)) (
                        .skip))) (
                     .seq (
                      .ops [⟨some 169, .val (.tmp 22), none⟩,
                        ⟨some 170, .bin .eql .num (.tmp 169) (.val (.lit (.int .i64 0))), none⟩]) (
                     .cond (.tmp 170) (
                       .ops [⟨some 15, .val (.val (.lit (.bool false))), none⟩]) (
                       .skip)))) (
                     .skip))

def a7b1 : ACode :=
       .seq (
        .seq (
         .ops [⟨some 82, .val (.tmp 18), none⟩,
           ⟨some 83, .val (.tmp 1), none⟩,
           ⟨some 84, .len 1 (.tmp 83), none⟩,
           ⟨some 85, .bin .lss .num (.tmp 82) (.tmp 84), none⟩]) (
        .cond (.tmp 85) (
          .skip) (
          .exit 0))) (
       .seq (
        .block 1 (
          .seq (
           .ops [⟨some 88, .val (.tmp 1), none⟩,
             ⟨some 89, .val (.tmp 18), none⟩,
             ⟨some 90, .indexAddr 4 (.tmp 88) (.tmp 89), none⟩,
             ⟨some 91, .load true 4 (.tmp 90), none⟩,
             ⟨some 19, .alloc [(.lit (.int .u8 0)), (.lit (.int .i64 0)), (.lit (.int .i64 0)), (.lit (.int .i64 0))], none⟩,
             ⟨none, .store 4 (.tmp 19) (.tmp 91), none⟩]) (
          .seq (
           .seq (
            .ops [⟨some 92, .fieldAddr 0 (.tmp 19), none⟩,
              ⟨some 93, .load false 1 (.tmp 92), none⟩]) (
           .block 2 (
             .seq (
              .ops [⟨some 95, .bin .eql .num (.tmp 93) (.val (.lit (.int .u8 0))), none⟩,
                ⟨some 94, .val (.tmp 95), none⟩]) (
             .cond (.tmp 94) (
               .seq (
                .ops [⟨some 96, .val (.tmp 11), none⟩,
                  ⟨some 97, .fieldAddr 1 (.tmp 19), none⟩,
                  ⟨some 98, .load false 1 (.tmp 97), none⟩,
                  ⟨some 99, .fieldAddr 2 (.tmp 19), none⟩,
                  ⟨some 100, .load false 1 (.tmp 99), none⟩,
                  ⟨some 101, .fieldAddr 3 (.tmp 19), none⟩,
                  ⟨some 102, .load false 1 (.tmp 101), none⟩,
                  ⟨some 103, .call (.val (.fn (.func 21) [] [])) [(.tmp 96), (.tmp 98), (.tmp 100), (.tmp 102)], none⟩,
                  ⟨some 20, .val (.tmp 103), none⟩]) a7s) (
               .seq (
                .ops [⟨some 122, .bin .eql .num (.tmp 93) (.val (.lit (.int .u8 1))), none⟩,
                  ⟨some 121, .val (.tmp 122), none⟩]) (
               .cond (.tmp 121) (
                 .seq (
                  .ops [⟨some 123, .val (.tmp 11), none⟩,
                    ⟨some 124, .fieldAddr 1 (.tmp 19), none⟩,
                    ⟨some 125, .load false 1 (.tmp 124), none⟩,
                    ⟨some 126, .fieldAddr 2 (.tmp 19), none⟩,
                    ⟨some 127, .load false 1 (.tmp 126), none⟩,
                    ⟨some 128, .call (.val (.fn (.func 22) [] [])) [(.tmp 123), (.tmp 125), (.tmp 127)], none⟩,
                    ⟨some 21, .val (.tmp 128), none⟩]) a7k) (
                 .seq (
                  .ops [⟨some 145, .bin .eql .num (.tmp 93) (.val (.lit (.int .u8 2))), none⟩,
                    ⟨some 144, .val (.tmp 145), none⟩]) (
                 .cond (.tmp 144) (
                   .seq (
                    .ops [⟨some 146, .val (.tmp 11), none⟩,
                      ⟨some 147, .fieldAddr 1 (.tmp 19), none⟩,
                      ⟨some 148, .load false 1 (.tmp 147), none⟩,
                      ⟨some 149, .fieldAddr 2 (.tmp 19), none⟩,
                      ⟨some 150, .load false 1 (.tmp 149), none⟩,
                      ⟨some 151, .call (.val (.fn (.func 23) [] [])) [(.tmp 146), (.tmp 148), (.tmp 150)], none⟩,
                      ⟨some 22, .val (.tmp 151), none⟩]) a7g) (
                   .skip))))))))) a7t))) (
       .ops [⟨some 86, .val (.tmp 18), none⟩,
         ⟨some 87, .bin .add .num (.tmp 86) (.val (.lit (.int .i64 1))), none⟩,
         ⟨some 18, .val (.tmp 87), none⟩]))

def a7h2 : ACode :=
  .seq (
   .ops [⟨some 14, .val (.val (.lit (.int .i64 0))), none⟩]) (
  .seq (
   .seq (
    .ops [⟨some 70, .val (.tmp 13), none⟩]) (
   .cond (.tmp 70) (
     .ops [⟨some 71, .val (.tmp 0), none⟩,
       ⟨some 72, .val (.tmp 2), none⟩,
       ⟨some 73, .indexAddr 3 (.tmp 71) (.tmp 72), none⟩,
       ⟨some 74, .fieldAddr 2 (.tmp 73), none⟩,
       ⟨some 75, .load false 1 (.tmp 74), none⟩,
       ⟨some 14, .val (.tmp 75), none⟩]) (
     .skip))) (
  .seq (
   .ops [⟨some 15, .val (.val (.lit (.bool false))), none⟩,
     ⟨some 16, .val (.val (.lit (.int .i64 0))), none⟩]) (
  .seq (
   .ops [⟨some 76, .val (.tmp 4), none⟩,
     ⟨some 77, .bin .geq .num (.tmp 76) (.val (.lit (.int .i64 0))), none⟩,
     ⟨some 78, .val (.tmp 77), none⟩,
     ⟨some 79, .val (.tmp 4), some (78, true)⟩,
     ⟨some 80, .bin .lss .num (.tmp 79) (.val (.lit (.int .i64 4))), some (78, true)⟩,
     ⟨some 81, .pick (.tmp 78) (.tmp 80) (.val (.lit (.bool false))), none⟩,
     ⟨some 17, .val (.tmp 81), none⟩]) (
  .seq (
   .seq (
    .ops [⟨some 18, .val (.val (.lit (.int .i64 0))), none⟩]) (
   .block 0 (
     .loop a7b1))) (
  .seq (
   .ops [⟨some 10, .val (.val (.lit (.bool true))), none⟩]) (
  .ret))))))

def a7h : ACode :=
  .seq (
   .ops [⟨some 49, .val (.tmp 2), none⟩,
     ⟨some 50, .bin .geq .num (.tmp 49) (.val (.lit (.int .i64 0))), none⟩,
     ⟨some 51, .val (.tmp 50), none⟩,
     ⟨some 52, .val (.tmp 2), some (51, true)⟩,
     ⟨some 53, .val (.tmp 0), some (51, true)⟩,
     ⟨some 54, .len 1 (.tmp 53), some (51, true)⟩,
     ⟨some 55, .bin .lss .num (.tmp 52) (.tmp 54), some (51, true)⟩,
     ⟨some 56, .pick (.tmp 51) (.tmp 55) (.val (.lit (.bool false))), none⟩,
     ⟨some 57, .val (.tmp 56), none⟩,
     ⟨some 58, .val (.tmp 3), some (57, true)⟩,
     ⟨some 59, .bin .geq .num (.tmp 58) (.val (.lit (.int .i64 0))), some (57, true)⟩,
     ⟨some 60, .pick (.tmp 57) (.tmp 59) (.val (.lit (.bool false))), none⟩,
     ⟨some 61, .val (.tmp 60), none⟩,
     ⟨some 62, .val (.tmp 3), some (61, true)⟩,
     ⟨some 63, .val (.tmp 0), some (61, true)⟩,
     ⟨some 64, .val (.tmp 2), some (61, true)⟩,
     ⟨some 65, .indexAddr 3 (.tmp 63) (.tmp 64), some (61, true)⟩,
     ⟨some 66, .fieldAddr 1 (.tmp 65), some (61, true)⟩,
     ⟨some 67, .load false 1 (.tmp 66), some (61, true)⟩,
     ⟨some 68, .bin .lss .num (.tmp 62) (.tmp 67), some (61, true)⟩,
     ⟨some 69, .pick (.tmp 61) (.tmp 68) (.val (.lit (.bool false))), none⟩,
     ⟨some 13, .val (.tmp 69), none⟩]) a7h2

def a7 : ACode :=
  .seq (
   .ops [⟨some 10, .val (.val (.lit (.bool false))), none⟩]) (
  .seq (
   .seq (
    .ops [⟨some 27, .val (.tmp 0), none⟩,
      ⟨some 28, .len 1 (.tmp 27), none⟩,
      ⟨some 29, .bin .gtr .num (.tmp 28) (.val (.lit (.int .i64 20))), none⟩,
      ⟨some 30, .val (.tmp 29), none⟩,
      ⟨some 31, .val (.tmp 1), some (30, false)⟩,
      ⟨some 32, .len 1 (.tmp 31), some (30, false)⟩,
      ⟨some 33, .bin .gtr .num (.tmp 32) (.val (.lit (.int .i64 100))), some (30, false)⟩,
      ⟨some 34, .pick (.tmp 30) (.val (.lit (.bool true))) (.tmp 33), none⟩,
      ⟨some 35, .val (.tmp 34), none⟩,
      ⟨some 36, .call (.val (.fn (.func 15) [] [])) [], some (35, false)⟩,
      ⟨some 37, .un .not (.tmp 36), some (35, false)⟩,
      ⟨some 38, .pick (.tmp 35) (.val (.lit (.bool true))) (.tmp 37), none⟩]) (
   .cond (.tmp 38) (
     .seq (
      .ops [⟨some 39, .call (.val (.fn (.func 15) [] [])) [], none⟩,
        ⟨some 10, .val (.tmp 39), none⟩]) (
     .ret)) (
     .skip))) (
  .seq (
   .ops [⟨some 41, .val (.tmp 0), none⟩,
     ⟨some 42, .call (.val (.fn (.func 20) [] [])) [(.tmp 41), (.val (.lit (.int .i64 4)))], none⟩,
     ⟨some 40, .val (.tmp 42), none⟩,
     ⟨some 43, .extract (.tmp 40) 0, none⟩,
     ⟨some 44, .extract (.tmp 40) 1, none⟩,
     ⟨some 11, .val (.tmp 43), none⟩,
     ⟨some 12, .val (.tmp 44), none⟩]) (
  .seq (
   .seq (
    .ops [⟨some 45, .val (.tmp 12), none⟩,
      ⟨some 46, .bin .neq .num (.tmp 45) (.val (.lit (.int .i64 0))), none⟩]) (
   .cond (.tmp 46) (
     .seq (
      .ops [⟨some 47, .val (.tmp 11), none⟩,
        ⟨some 48, .bin .eql .ptr (.tmp 47) (.val (.lit (.pointer none))), none⟩,
        ⟨some 10, .val (.tmp 48), none⟩]) (
     .ret)) (
     .skip))) a7h)))

theorem c7 : codeOf Try.prog {  } 7 = some (a7, [.tmp 10], 206) := by kernel_rfl


end Go.Proofs.Ytmgmgeijfkcglaa
