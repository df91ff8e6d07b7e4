/- The code of functions, compiled (printed by wip/tools/kp.py). -/
import Derived.Test.YtanpcmkhhpaeiaaGreatDoorProg
import Derived.Test.YtanpcmkhhpaeiaaGreatDoorM3
namespace Go.Proofs.YtanpcmkhhpaeiaaGreatDoor
set_option linter.unusedSimpArgs false
set_option linter.unusedVariables false
open Go Go.Fw
/-- bobbin/bobbinlaw18.TouchAll -/
def a_bobbinlaw18_TouchAllb1 : ACode :=
               .seq (
                .seq (
                 .ops [⟨some 52, .val (.tmp 12), none⟩,
                   ⟨some 53, .fieldAddr 4 (.tmp 10), none⟩,
                   ⟨some 54, .load false 1 (.tmp 53), none⟩,
                   ⟨some 55, .len 1 (.tmp 54), none⟩,
                   ⟨some 56, .bin .lss .num (.tmp 52) (.tmp 55), none⟩]) (
                .cond (.tmp 56) (
                  .skip) (
                  .exit 2))) (
               .seq (
                .block 3 (
                  .ops [⟨some 60, .val (.tmp 7), none⟩,
                    ⟨some 61, .fieldAddr 4 (.tmp 10), none⟩,
                    ⟨some 63, .val (.tmp 12), none⟩,
                    ⟨some 59, .load true 5 (.tmp 11), none⟩,
                    ⟨some 62, .load false 1 (.tmp 61), none⟩,
                    ⟨some 64, .indexAddr 1 (.tmp 62) (.tmp 63), none⟩,
                    ⟨some 65, .load false 1 (.tmp 64), none⟩,
                    ⟨some 66, .indexAddr 5 (.tmp 60) (.tmp 65), none⟩,
                    ⟨some 67, .load true 5 (.tmp 66), none⟩,
                    ⟨some 68, .call (.val (.fn (.func 21) [] [])) [(.tmp 59), (.tmp 67)], none⟩,
                    ⟨none, .store 5 (.tmp 11) (.tmp 68), none⟩])) (
               .ops [⟨some 57, .val (.tmp 12), none⟩,
                 ⟨some 58, .bin .add .num (.tmp 57) (.val (.lit (.int .i64 1))), none⟩,
                 ⟨some 12, .val (.tmp 58), none⟩]))

def a_bobbinlaw18_TouchAllb2 : ACode :=
       .seq (
        .seq (
         .ops [⟨some 38, .val (.tmp 9), none⟩,
           ⟨some 39, .fieldAddr 2 (.tmp 3), none⟩,
           ⟨some 40, .iload false 1 (.tmp 39), none⟩,
           ⟨some 41, .len 1 (.tmp 40), none⟩,
           ⟨some 42, .bin .lss .num (.tmp 38) (.tmp 41), none⟩]) (
        .cond (.tmp 42) (
          .skip) (
          .exit 0))) (
       .seq (
        .block 1 (
          .seq (
           .ops [⟨some 45, .fieldAddr 2 (.tmp 3), none⟩,
             ⟨some 46, .iload false 1 (.tmp 45), none⟩,
             ⟨some 47, .val (.tmp 9), none⟩,
             ⟨some 48, .indexAddr 5 (.tmp 46) (.tmp 47), none⟩,
             ⟨some 49, .load true 5 (.tmp 48), none⟩,
             ⟨some 50, .call (.val (.fn (.func 19) [] [])) [(.tmp 49)], none⟩,
             ⟨some 10, .alloc [(.sl .nil 0 []), (.sl .nil 0 []), (.sl .nil 0 []), (.sl .nil 0 []), (.sl .nil 0 [])], none⟩,
             ⟨none, .store 5 (.tmp 10) (.tmp 50), none⟩]) (
          .seq (
           .ops [⟨some 51, .load true 5 (.tmp 10), none⟩,
             ⟨some 11, .alloc [(.sl .nil 0 []), (.sl .nil 0 []), (.sl .nil 0 []), (.sl .nil 0 []), (.sl .nil 0 [])], none⟩,
             ⟨none, .store 5 (.tmp 11) (.tmp 51), none⟩]) (
          .seq (
           .seq (
            .ops [⟨some 12, .val (.val (.lit (.int .i64 0))), none⟩]) (
           .block 2 (
             .loop a_bobbinlaw18_TouchAllb1))) (
          .seq (
           .ops [⟨some 71, .val (.tmp 7), none⟩,
             ⟨some 72, .val (.tmp 9), none⟩,
             ⟨some 73, .indexAddr 5 (.tmp 71) (.tmp 72), none⟩,
             ⟨some 69, .load true 5 (.tmp 11), none⟩,
             ⟨some 74, .load true 5 (.tmp 73), none⟩,
             ⟨some 70, .kcall (.val (.fn (.func 24) [] [])) [(.tmp 69)], none⟩,
             ⟨some 75, .kcall (.val (.fn (.func 24) [] [])) [(.tmp 74)], none⟩,
             ⟨some 76, .kcall (.val (.fn (.func 17) [] [])) [(.tmp 70), (.tmp 75)], none⟩,
             ⟨some 77, .un .not (.tmp 76), none⟩]) (
          .cond (.tmp 77) (
            .seq (
             .ops [⟨some 6, .val (.val (.lit (.bool false))), none⟩]) (
            .ret)) (
            .skip))))))) (
       .ops [⟨some 43, .val (.tmp 9), none⟩,
         ⟨some 44, .bin .add .num (.tmp 43) (.val (.lit (.int .i64 1))), none⟩,
         ⟨some 9, .val (.tmp 44), none⟩]))

def a_ta_g : ACode :=
   .seq (
    .ops [⟨some 78, .val (.tmp 1), none⟩,
      ⟨some 79, .bin .lss .num (.tmp 78) (.val (.lit (.int .i64 0))), none⟩,
      ⟨some 80, .val (.tmp 79), none⟩,
      ⟨some 81, .val (.tmp 1), some (80, false)⟩,
      ⟨some 82, .fieldAddr 2 (.tmp 3), some (80, false)⟩,
      ⟨some 83, .iload false 1 (.tmp 82), some (80, false)⟩,
      ⟨some 84, .len 1 (.tmp 83), some (80, false)⟩,
      ⟨some 85, .bin .geq .num (.tmp 81) (.tmp 84), some (80, false)⟩,
      ⟨some 86, .pick (.tmp 80) (.val (.lit (.bool true))) (.tmp 85), none⟩,
      ⟨some 87, .val (.tmp 86), none⟩,
      ⟨some 88, .val (.tmp 2), some (87, false)⟩,
      ⟨some 89, .bin .lss .num (.tmp 88) (.val (.lit (.int .i64 0))), some (87, false)⟩,
      ⟨some 90, .pick (.tmp 87) (.val (.lit (.bool true))) (.tmp 89), none⟩,
      ⟨some 91, .val (.tmp 90), none⟩,
      ⟨some 92, .val (.tmp 2), some (91, false)⟩,
      ⟨some 93, .fieldAddr 2 (.tmp 3), some (91, false)⟩,
      ⟨some 94, .iload false 1 (.tmp 93), some (91, false)⟩,
      ⟨some 95, .val (.tmp 1), some (91, false)⟩,
      ⟨some 96, .indexAddr 5 (.tmp 94) (.tmp 95), some (91, false)⟩,
      ⟨some 97, .fieldAddr 4 (.tmp 96), some (91, false)⟩,
      ⟨some 98, .load false 1 (.tmp 97), some (91, false)⟩,
      ⟨some 99, .len 1 (.tmp 98), some (91, false)⟩,
      ⟨some 100, .bin .geq .num (.tmp 92) (.tmp 99), some (91, false)⟩,
      ⟨some 101, .pick (.tmp 91) (.val (.lit (.bool true))) (.tmp 100), none⟩]) (
   .cond (.tmp 101) (
     .seq (
      .ops [⟨some 6, .val (.val (.lit (.bool true))), none⟩]) (
     .ret)) (
     .skip))

def a_ta_f : ACode :=
   .ops [⟨some 102, .fieldAddr 2 (.tmp 3), none⟩,
     ⟨some 103, .iload false 1 (.tmp 102), none⟩,
     ⟨some 104, .val (.tmp 1), none⟩,
     ⟨some 105, .indexAddr 5 (.tmp 103) (.tmp 104), none⟩,
     ⟨some 106, .load true 5 (.tmp 105), none⟩,
     ⟨some 13, .alloc [(.lit (.string ⟨#[]⟩)), (.lit (.bool false)), (.lit (.int .i64 0)), (.lit (.int .i64 0)), (.sl .nil 0 [])], none⟩,
     ⟨none, .store 5 (.tmp 13) (.tmp 106), none⟩]

def a_ta_p : ACode :=
   .ops [⟨some 107, .fieldAddr 4 (.tmp 13), none⟩,
     ⟨some 109, .val (.tmp 2), none⟩,
     ⟨some 113, .fieldAddr 4 (.tmp 13), none⟩,
     ⟨some 108, .load false 1 (.tmp 107), none⟩,
     ⟨some 110, .indexAddr 6 (.tmp 108) (.tmp 109), none⟩,
     ⟨some 111, .load true 6 (.tmp 110), none⟩,
     ⟨some 112, .bslice false 6 1 [(.lit (.int .u8 0)), (.lit (.int .i64 0)), (.lit (.int .i64 0)), (.lit (.int .i64 0)), (.lit (.int .i64 0)), (.sl .nil 0 [])] [(0, 6, (.tmp 111))], none⟩,
     ⟨some 114, .load false 1 (.tmp 113), none⟩,
     ⟨some 115, .append false 6 64 (.tmp 112) (.tmp 114), none⟩,
     ⟨some 116, .fieldAddr 4 (.tmp 13), none⟩,
     ⟨none, .store 1 (.tmp 116) (.tmp 115), none⟩]

def a_ta_d : ACode :=
   .seq (
    .ops [⟨some 117, .fieldAddr 2 (.tmp 3), none⟩,
      ⟨some 118, .iload false 1 (.tmp 117), none⟩,
      ⟨some 119, .val (.tmp 1), none⟩,
      ⟨some 120, .indexAddr 5 (.tmp 118) (.tmp 119), none⟩,
      ⟨some 121, .load true 5 (.tmp 120), none⟩,
      ⟨some 123, .load true 5 (.tmp 13), none⟩]) (
   .seq (
    .draw [(5, ⟨some 122, .kcall (.val (.fn (.func 19) [] [])) [(.tmp 121)], none⟩, []),
      (7, ⟨some 124, .kcall (.val (.fn (.func 19) [] [])) [(.tmp 123)], none⟩, [5]),
      (8, ⟨some 14, .kalloc [(.sl .nil 0 []), (.sl .nil 0 []), (.sl .nil 0 []), (.sl .nil 0 []), (.sl .nil 0 [])], none⟩, []),
      (9, ⟨some 15, .kalloc [(.sl .nil 0 []), (.sl .nil 0 []), (.sl .nil 0 []), (.sl .nil 0 []), (.sl .nil 0 [])], none⟩, [])]) (
   .ops [⟨none, .store 5 (.tmp 14) (.tmp 122), none⟩,
     ⟨none, .store 5 (.tmp 15) (.tmp 124), none⟩]))

def o_taw0 : List AOper :=
     [⟨some 125, .fieldAddr 0 (.tmp 14), none⟩,
     ⟨some 126, .load false 1 (.tmp 125), none⟩,
     ⟨some 127, .fieldAddr 0 (.tmp 15), none⟩,
     ⟨some 128, .load false 1 (.tmp 127), none⟩,
     ⟨some 129, .call (.val (.fn (.func 25) [] [])) [(.tmp 126), (.tmp 128)], none⟩,
     ⟨some 130, .val (.tmp 129), none⟩]

def o_taw1 : List AOper :=
     [⟨some 131, .fieldAddr 1 (.tmp 14), some (130, true)⟩,
     ⟨some 132, .load false 1 (.tmp 131), some (130, true)⟩,
     ⟨some 133, .fieldAddr 1 (.tmp 15), some (130, true)⟩,
     ⟨some 134, .load false 1 (.tmp 133), some (130, true)⟩,
     ⟨some 135, .call (.val (.fn (.func 25) [] [])) [(.tmp 132), (.tmp 134)], some (130, true)⟩,
     ⟨some 136, .pick (.tmp 130) (.tmp 135) (.val (.lit (.bool false))), none⟩,
     ⟨some 137, .val (.tmp 136), none⟩]

def o_taw2 : List AOper :=
     [⟨some 138, .fieldAddr 2 (.tmp 14), some (137, true)⟩,
     ⟨some 139, .load false 1 (.tmp 138), some (137, true)⟩,
     ⟨some 140, .fieldAddr 2 (.tmp 15), some (137, true)⟩,
     ⟨some 141, .load false 1 (.tmp 140), some (137, true)⟩,
     ⟨some 142, .call (.val (.fn (.func 25) [] [])) [(.tmp 139), (.tmp 141)], some (137, true)⟩,
     ⟨some 143, .pick (.tmp 137) (.tmp 142) (.val (.lit (.bool false))), none⟩,
     ⟨some 144, .val (.tmp 143), none⟩]

def o_taw3 : List AOper :=
     [⟨some 145, .fieldAddr 3 (.tmp 14), some (144, true)⟩,
     ⟨some 146, .load false 1 (.tmp 145), some (144, true)⟩,
     ⟨some 147, .fieldAddr 3 (.tmp 15), some (144, true)⟩,
     ⟨some 148, .load false 1 (.tmp 147), some (144, true)⟩,
     ⟨some 149, .call (.val (.fn (.func 25) [] [])) [(.tmp 146), (.tmp 148)], some (144, true)⟩,
     ⟨some 150, .pick (.tmp 144) (.tmp 149) (.val (.lit (.bool false))), none⟩,
     ⟨some 151, .val (.tmp 150), none⟩]

def o_taw4 : List AOper :=
     [⟨some 152, .fieldAddr 4 (.tmp 14), some (151, true)⟩,
     ⟨some 153, .load false 1 (.tmp 152), some (151, true)⟩,
     ⟨some 154, .fieldAddr 4 (.tmp 15), some (151, true)⟩,
     ⟨some 155, .load false 1 (.tmp 154), some (151, true)⟩,
     ⟨some 156, .call (.val (.fn (.func 25) [] [])) [(.tmp 153), (.tmp 155)], some (151, true)⟩,
     ⟨some 157, .pick (.tmp 151) (.tmp 156) (.val (.lit (.bool false))), none⟩,
     ⟨some 6, .val (.tmp 157), none⟩]

def a_ta_w : ACode :=
  .seq (
   .ops (o_taw0 ++ (o_taw1 ++ (o_taw2 ++ (o_taw3 ++ o_taw4))))) (
  .ret)

def a_bobbinlaw18_TouchAll : ACode :=
  .seq (
   .ops [⟨some 3, .box true (.tmp 0), none⟩,
     ⟨some 6, .val (.val (.lit (.bool false))), none⟩]) (
  .seq (
   .seq (
    .ops [⟨some 16, .iload true 3 (.tmp 3), none⟩,
      ⟨some 17, .call (.val (.fn (.func 10) [] [])) [(.tmp 16)], none⟩,
      ⟨some 18, .val (.tmp 17), none⟩,
      ⟨some 19, .call (.val (.fn (.func 11) [] [])) [], some (18, false)⟩,
      ⟨some 20, .un .not (.tmp 19), some (18, false)⟩,
      ⟨some 21, .pick (.tmp 18) (.val (.lit (.bool true))) (.tmp 20), none⟩]) (
   .cond (.tmp 21) (
     .seq (
      .ops [⟨some 22, .call (.val (.fn (.func 11) [] [])) [], none⟩,
        ⟨some 6, .val (.tmp 22), none⟩]) (
     .ret)) (
     .skip))) (
  .seq (
   .ops [⟨some 24, .iload true 3 (.tmp 3), none⟩,
     ⟨some 25, .call (.val (.fn (.func 12) [] [])) [(.tmp 24)], none⟩,
     ⟨some 23, .val (.tmp 25), none⟩,
     ⟨some 26, .extract (.tmp 23) 0, none⟩,
     ⟨some 27, .extract (.tmp 23) 1, none⟩,
     ⟨some 7, .val (.tmp 26), none⟩,
     ⟨some 8, .val (.tmp 27), none⟩]) (
  .seq (
   .seq (
    .ops [⟨some 28, .val (.tmp 8), none⟩,
      ⟨some 29, .bin .eql .num (.tmp 28) (.val (.lit (.int .i64 0))), none⟩,
      ⟨some 30, .iload true 3 (.tmp 3), none⟩,
      ⟨some 31, .call (.val (.fn (.func 23) [] [])) [(.tmp 30)], none⟩,
      ⟨some 32, .bin .neq .bool (.tmp 29) (.tmp 31), none⟩]) (
   .cond (.tmp 32) (
     .seq (
      .ops [⟨some 6, .val (.val (.lit (.bool false))), none⟩]) (
     .ret)) (
     .skip))) (
  .seq (
   .seq (
    .ops [⟨some 33, .val (.tmp 8), none⟩,
      ⟨some 34, .bin .neq .num (.tmp 33) (.val (.lit (.int .i64 0))), none⟩]) (
   .cond (.tmp 34) (
     .seq (
      .ops [⟨some 35, .val (.tmp 7), none⟩,
        ⟨some 36, .len 1 (.tmp 35), none⟩,
        ⟨some 37, .bin .eql .num (.tmp 36) (.val (.lit (.int .i64 0))), none⟩,
        ⟨some 6, .val (.tmp 37), none⟩]) (
     .ret)) (
     .skip))) (
  .seq (
   .seq (
    .ops [⟨some 9, .val (.val (.lit (.int .i64 0))), none⟩]) (
   .block 0 (
     .loop a_bobbinlaw18_TouchAllb2))) (
  .seq a_ta_g (
  .seq a_ta_f (
  .seq a_ta_p (
  .seq a_ta_d a_ta_w)))))))))

theorem c_bobbinlaw18_TouchAll : codeOf Tryz.prog { kc := [70, 75, 76, 122, 124], bz := [3], il := [16, 24, 30, 40, 46, 83, 94, 103, 118], ka := [14, 15] } 6 = some (a_bobbinlaw18_TouchAll, [.tmp 6], 158) := by kernel_rfl

end Go.Proofs.YtanpcmkhhpaeiaaGreatDoor
