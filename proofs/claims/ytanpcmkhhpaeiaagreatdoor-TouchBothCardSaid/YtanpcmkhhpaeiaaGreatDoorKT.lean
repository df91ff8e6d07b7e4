/- The code of functions, compiled (printed by wip/tools/kp.py). -/
import Derived.Test.YtanpcmkhhpaeiaaGreatDoorProg
import Derived.Test.YtanpcmkhhpaeiaaGreatDoorM3
namespace Go.Proofs.YtanpcmkhhpaeiaaGreatDoor
set_option linter.unusedSimpArgs false
set_option linter.unusedVariables false
open Go Go.Fw
/-- slices.Concat[[]int,int] -/
def a_slices_Concat_int_intb1 : ACode :=
       .seq (
        .ops [⟨some 28, .bin .lss .num (.tmp 27) (.tmp 26), none⟩]) (
       .seq (
        .cond (.tmp 28) (
          .skip) (
          .exit 2)) (
       .seq (
        .block 3 (
          .seq (
           .ops [⟨some 29, .indexAddr 1 (.tmp 25) (.tmp 27), none⟩,
             ⟨some 30, .load false 1 (.tmp 29), none⟩,
             ⟨some 8, .val (.tmp 30), none⟩]) (
          .ops [⟨some 31, .val (.tmp 6), none⟩,
            ⟨some 32, .val (.tmp 8), none⟩,
            ⟨some 33, .append false 1 8 (.tmp 31) (.tmp 32), none⟩,
            ⟨some 6, .val (.tmp 33), none⟩]))) (
       .ops [⟨some 34, .bin .add .num (.tmp 27) (.val (.lit (.int .i64 1))), none⟩,
         ⟨some 27, .val (.tmp 34), none⟩])))

def a_slices_Concat_int_intb2 : ACode :=
       .seq (
        .ops [⟨some 12, .bin .lss .num (.tmp 11) (.tmp 10), none⟩]) (
       .seq (
        .cond (.tmp 12) (
          .skip) (
          .exit 0)) (
       .seq (
        .block 1 (
          .seq (
           .ops [⟨some 13, .indexAddr 1 (.tmp 9) (.tmp 11), none⟩,
             ⟨some 14, .load false 1 (.tmp 13), none⟩,
             ⟨some 5, .val (.tmp 14), none⟩]) (
          .seq (
           .ops [⟨some 15, .val (.tmp 3), none⟩,
             ⟨some 16, .val (.tmp 5), none⟩,
             ⟨some 17, .len 1 (.tmp 16), none⟩,
             ⟨some 18, .bin .add .num (.tmp 15) (.tmp 17), none⟩,
             ⟨some 3, .val (.tmp 18), none⟩]) (
          .seq (
           .ops [⟨some 19, .val (.tmp 3), none⟩,
             ⟨some 20, .bin .lss .num (.tmp 19) (.val (.lit (.int .i64 0))), none⟩]) (
          .cond (.tmp 20) (
            .ops [⟨some 21, .mkifc 9 (.val (.lit (.string ⟨#[108, 101, 110, 32, 111, 117, 116, 32, 111, 102, 32, 114, 97, 110, 103, 101]⟩))), none⟩,
              ⟨none, .bad, none⟩]) (
            .skip)))))) (
       .ops [⟨some 22, .bin .add .num (.tmp 11) (.val (.lit (.int .i64 1))), none⟩,
         ⟨some 11, .val (.tmp 22), none⟩])))

def a_slices_Concat_int_int : ACode :=
  .seq (
   .ops [⟨some 2, .val (.val (.sl .nil 0 [])), none⟩]) (
  .seq (
   .ops [⟨some 3, .val (.val (.lit (.int .i64 0))), none⟩]) (
  .seq (
   .seq (
    .ops [⟨some 9, .val (.tmp 0), none⟩,
      ⟨some 10, .len 1 (.tmp 9), none⟩,
      ⟨some 11, .val (.val (.lit (.int .i64 0))), none⟩]) (
   .block 0 (
     .loop a_slices_Concat_int_intb2))) (
  .seq (
   .ops [⟨some 23, .val (.tmp 3), none⟩,
     ⟨some 24, .call (.val (.fn (.func 90) [] [])) [(.val (.sl .nil 0 [])), (.tmp 23)], none⟩,
     ⟨some 6, .val (.tmp 24), none⟩]) (
  .seq (
   .seq (
    .ops [⟨some 25, .val (.tmp 0), none⟩,
      ⟨some 26, .len 1 (.tmp 25), none⟩,
      ⟨some 27, .val (.val (.lit (.int .i64 0))), none⟩]) (
   .block 2 (
     .loop a_slices_Concat_int_intb1))) (
  .seq (
   .ops [⟨some 35, .val (.tmp 6), none⟩,
     ⟨some 2, .val (.tmp 35), none⟩]) (
  .ret))))))

theorem c_slices_Concat_int_int : codeOf Tryz.prog {  } 55 = some (a_slices_Concat_int_int, [.tmp 2], 36) := by kernel_rfl

/-- bobbin/touch.join[int] -/
def a_touch_join_int : ACode :=
  .seq (
   .ops [⟨some 4, .val (.val (.sl .nil 0 [])), none⟩]) (
  .seq (
   .ops [⟨some 6, .val (.tmp 0), none⟩,
     ⟨some 7, .val (.tmp 1), none⟩,
     ⟨some 8, .bslice false 1 2 [(.sl .nil 0 []), (.sl .nil 0 [])] [(0, 1, (.tmp 6)), (1, 1, (.tmp 7))], none⟩,
     ⟨some 9, .call (.val (.fn (.func 55) [] [])) [(.tmp 8)], none⟩,
     ⟨some 5, .val (.tmp 9), none⟩]) (
  .seq (
   .ops [⟨some 10, .val (.tmp 5), none⟩,
     ⟨some 11, .call (.val (.fn (.func 56) [] [])) [(.tmp 10)], none⟩]) (
  .seq (
   .ops [⟨some 12, .val (.tmp 5), none⟩,
     ⟨some 13, .call (.val (.fn (.func 57) [] [])) [(.tmp 12)], none⟩,
     ⟨some 4, .val (.tmp 13), none⟩]) (
  .ret))))

theorem c_touch_join_int : codeOf Tryz.prog {  } 34 = some (a_touch_join_int, [.tmp 4], 14) := by kernel_rfl

/-- bobbin/touch.Both -/
def a_touch_Both : ACode :=
  .seq (
   .ops [⟨some 2, .box true (.tmp 0), none⟩,
     ⟨some 3, .box true (.tmp 1), none⟩,
     ⟨some 4, .alloc [(.sl .nil 0 []), (.sl .nil 0 []), (.sl .nil 0 []), (.sl .nil 0 []), (.sl .nil 0 [])], none⟩]) (
  .seq (
   .ops [⟨some 5, .fieldAddr 0 (.tmp 2), none⟩,
     ⟨some 6, .iload false 1 (.tmp 5), none⟩,
     ⟨some 7, .fieldAddr 0 (.tmp 3), none⟩,
     ⟨some 8, .iload false 1 (.tmp 7), none⟩,
     ⟨some 10, .fieldAddr 1 (.tmp 2), none⟩,
     ⟨some 11, .iload false 1 (.tmp 10), none⟩,
     ⟨some 12, .fieldAddr 1 (.tmp 3), none⟩,
     ⟨some 13, .iload false 1 (.tmp 12), none⟩,
     ⟨some 15, .fieldAddr 2 (.tmp 2), none⟩,
     ⟨some 16, .iload false 1 (.tmp 15), none⟩,
     ⟨some 17, .fieldAddr 2 (.tmp 3), none⟩,
     ⟨some 18, .iload false 1 (.tmp 17), none⟩,
     ⟨some 20, .fieldAddr 3 (.tmp 2), none⟩,
     ⟨some 21, .iload false 1 (.tmp 20), none⟩,
     ⟨some 22, .fieldAddr 3 (.tmp 3), none⟩,
     ⟨some 23, .iload false 1 (.tmp 22), none⟩,
     ⟨some 25, .fieldAddr 4 (.tmp 2), none⟩,
     ⟨some 26, .iload false 1 (.tmp 25), none⟩,
     ⟨some 27, .fieldAddr 4 (.tmp 3), none⟩,
     ⟨some 28, .iload false 1 (.tmp 27), none⟩,
     ⟨some 9, .call (.val (.fn (.func 34) [] [])) [(.tmp 6), (.tmp 8)], none⟩,
     ⟨some 14, .call (.val (.fn (.func 34) [] [])) [(.tmp 11), (.tmp 13)], none⟩,
     ⟨some 19, .call (.val (.fn (.func 34) [] [])) [(.tmp 16), (.tmp 18)], none⟩,
     ⟨some 24, .call (.val (.fn (.func 34) [] [])) [(.tmp 21), (.tmp 23)], none⟩,
     ⟨some 29, .call (.val (.fn (.func 34) [] [])) [(.tmp 26), (.tmp 28)], none⟩,
     ⟨some 30, .build [(.sl .nil 0 []), (.sl .nil 0 []), (.sl .nil 0 []), (.sl .nil 0 []), (.sl .nil 0 [])] [(0, 1, (.tmp 9)), (1, 1, (.tmp 14)), (2, 1, (.tmp 19)), (3, 1, (.tmp 24)), (4, 1, (.tmp 29))], none⟩,
     ⟨none, .store 5 (.tmp 4) (.tmp 30), none⟩]) (
  .ret))

theorem c_touch_Both : codeOf Tryz.prog { bz := [2, 3], il := [6, 8, 11, 13, 16, 18, 21, 23, 26, 28] } 21 = some (a_touch_Both, [.cell 4 5 true], 31) := by kernel_rfl

/-- bobbin/touch.Own -/
def a_touch_Ownb1 : ACode :=
       .seq (
        .ops [⟨some 20, .bin .lss .num (.tmp 19) (.tmp 18), none⟩]) (
       .seq (
        .cond (.tmp 20) (
          .skip) (
          .exit 0)) (
       .seq (
        .block 1 (
          .seq (
           .ops [⟨some 21, .indexAddr 6 (.tmp 17) (.tmp 19), none⟩,
             ⟨some 22, .load true 6 (.tmp 21), none⟩,
             ⟨some 6, .alloc [(.lit (.int .u8 0)), (.lit (.int .i64 0)), (.lit (.int .i64 0)), (.lit (.int .i64 0)), (.lit (.int .i64 0)), (.sl .nil 0 [])], none⟩,
             ⟨none, .store 6 (.tmp 6) (.tmp 22), none⟩]) (
          .seq (
           .ops [⟨some 24, .val (.tmp 4), none⟩,
             ⟨some 25, .fieldAddr 0 (.tmp 6), none⟩,
             ⟨some 26, .load false 1 (.tmp 25), none⟩,
             ⟨some 27, .lookup 0 (.lit (.pointer none)) true (.tmp 24) (.tmp 26), none⟩,
             ⟨some 23, .val (.tmp 27), none⟩,
             ⟨some 28, .extract (.tmp 23) 0, none⟩,
             ⟨some 29, .extract (.tmp 23) 1, none⟩,
             ⟨some 7, .val (.tmp 28), none⟩,
             ⟨some 8, .val (.tmp 29), none⟩]) (
          .seq (
           .ops [⟨some 30, .val (.tmp 8), none⟩]) (
          .cond (.tmp 30) (
            .ops [⟨some 31, .val (.tmp 7), none⟩,
              ⟨some 32, .val (.tmp 7), none⟩,
              ⟨some 33, .nilck (.tmp 32), none⟩,
              ⟨some 35, .fieldAddr 4 (.tmp 6), none⟩,
              ⟨some 34, .load false 1 (.tmp 33), none⟩,
              ⟨some 36, .load false 1 (.tmp 35), none⟩,
              ⟨some 37, .bslice false 1 1 [(.lit (.int .i64 0))] [(0, 1, (.tmp 36))], none⟩,
              ⟨some 38, .append false 1 8 (.tmp 34) (.tmp 37), none⟩,
              ⟨some 39, .nilck (.tmp 31), none⟩,
              ⟨none, .store 1 (.tmp 39) (.tmp 38), none⟩]) (
            .skip)))))) (
       .ops [⟨some 40, .bin .add .num (.tmp 19) (.val (.lit (.int .i64 1))), none⟩,
         ⟨some 19, .val (.tmp 40), none⟩])))

def a_touch_Own : ACode :=
  .seq (
   .ops [⟨some 1, .box true (.tmp 0), none⟩,
     ⟨some 2, .alloc [(.sl .nil 0 []), (.sl .nil 0 []), (.sl .nil 0 []), (.sl .nil 0 []), (.sl .nil 0 [])], none⟩]) (
  .seq (
   .ops [⟨some 3, .alloc [(.sl .nil 0 []), (.sl .nil 0 []), (.sl .nil 0 []), (.sl .nil 0 []), (.sl .nil 0 [])], none⟩]) (
  .seq (
   .ops [⟨some 9, .mkmap, none⟩,
     ⟨some 10, .fieldAddr 0 (.tmp 3), none⟩,
     ⟨none, .mapset 0 (.tmp 9) (.val (.lit (.int .u8 5))) (.tmp 10), none⟩,
     ⟨some 11, .fieldAddr 1 (.tmp 3), none⟩,
     ⟨none, .mapset 0 (.tmp 9) (.val (.lit (.int .u8 6))) (.tmp 11), none⟩,
     ⟨some 12, .fieldAddr 2 (.tmp 3), none⟩,
     ⟨none, .mapset 0 (.tmp 9) (.val (.lit (.int .u8 7))) (.tmp 12), none⟩,
     ⟨some 13, .fieldAddr 3 (.tmp 3), none⟩,
     ⟨none, .mapset 0 (.tmp 9) (.val (.lit (.int .u8 8))) (.tmp 13), none⟩,
     ⟨some 14, .fieldAddr 4 (.tmp 3), none⟩,
     ⟨none, .mapset 0 (.tmp 9) (.val (.lit (.int .u8 10))) (.tmp 14), none⟩,
     ⟨some 15, .val (.tmp 9), none⟩,
     ⟨some 4, .val (.tmp 15), none⟩]) (
  .seq (
   .seq (
    .ops [⟨some 16, .fieldAddr 4 (.tmp 1), none⟩,
      ⟨some 17, .iload false 1 (.tmp 16), none⟩,
      ⟨some 18, .len 1 (.tmp 17), none⟩,
      ⟨some 19, .val (.val (.lit (.int .i64 0))), none⟩]) (
   .block 0 (
     .loop a_touch_Ownb1))) (
  .seq (
   .ops [⟨some 41, .load true 5 (.tmp 3), none⟩,
     ⟨some 42, .build [(.sl .nil 0 []), (.sl .nil 0 []), (.sl .nil 0 []), (.sl .nil 0 []), (.sl .nil 0 [])] [], none⟩,
     ⟨some 43, .call (.val (.fn (.func 21) [] [])) [(.tmp 41), (.tmp 42)], none⟩,
     ⟨none, .store 5 (.tmp 2) (.tmp 43), none⟩]) (
  .ret)))))

theorem c_touch_Own : codeOf Tryz.prog { bz := [1], il := [17] } 19 = some (a_touch_Own, [.cell 2 5 true], 44) := by kernel_rfl

/-- bobbin/touch.Of -/
def a_touch_Ofb1 : ACode :=
       .seq (
        .ops [⟨some 31, .bin .lss .num (.tmp 30) (.tmp 29), none⟩]) (
       .seq (
        .cond (.tmp 31) (
          .skip) (
          .exit 2)) (
       .seq (
        .block 3 (
          .seq (
           .ops [⟨some 32, .val (.tmp 30), none⟩,
             ⟨some 8, .val (.tmp 32), none⟩]) (
          .seq (
           .ops [⟨some 9, .alloc [(.sl .nil 0 []), (.sl .nil 0 []), (.sl .nil 0 []), (.sl .nil 0 []), (.sl .nil 0 [])], none⟩]) (
          .seq (
           .ops [⟨some 33, .mkmap, none⟩,
             ⟨some 10, .alloc [(.lit (.map none))], none⟩,
             ⟨none, .store 1 (.tmp 10) (.tmp 33), none⟩]) (
          .seq (
           .ops [⟨some 11, .alloc [(.lit .nilFunc)], none⟩]) (
          .seq (
           .ops [⟨some 34, .mkfn (.func 31) [] [(.tmp 10), (.tmp 9), (.tmp 4), (.tmp 11)], none⟩,
             ⟨none, .store 1 (.tmp 11) (.tmp 34), none⟩]) (
          .seq (
           .ops [⟨some 35, .load false 1 (.tmp 11), none⟩,
             ⟨some 36, .val (.tmp 8), none⟩,
             ⟨some 37, .call (.tmp 35) [(.tmp 36)], none⟩]) (
          .ops [⟨some 38, .val (.tmp 7), none⟩,
            ⟨some 39, .load true 5 (.tmp 9), none⟩,
            ⟨some 40, .bslice false 5 1 [(.sl .nil 0 []), (.sl .nil 0 []), (.sl .nil 0 []), (.sl .nil 0 []), (.sl .nil 0 [])] [(0, 5, (.tmp 39))], none⟩,
            ⟨some 41, .append false 5 120 (.tmp 38) (.tmp 40), none⟩,
            ⟨some 7, .val (.tmp 41), none⟩])))))))) (
       .ops [⟨some 42, .bin .add .num (.tmp 30) (.val (.lit (.int .i64 1))), none⟩,
         ⟨some 30, .val (.tmp 42), none⟩])))

def a_touch_Ofb2 : ACode :=
       .seq (
        .ops [⟨some 19, .bin .lss .num (.tmp 18) (.tmp 17), none⟩]) (
       .seq (
        .cond (.tmp 19) (
          .skip) (
          .exit 0)) (
       .seq (
        .block 1 (
          .seq (
           .ops [⟨some 20, .indexAddr 5 (.tmp 16) (.tmp 18), none⟩,
             ⟨some 21, .load true 5 (.tmp 20), none⟩,
             ⟨some 6, .alloc [(.lit (.string ⟨#[]⟩)), (.lit (.bool false)), (.lit (.int .i64 0)), (.lit (.int .i64 0)), (.sl .nil 0 [])], none⟩,
             ⟨none, .store 5 (.tmp 6) (.tmp 21), none⟩]) (
          .ops [⟨some 22, .load false 1 (.tmp 4), none⟩,
            ⟨some 23, .load true 5 (.tmp 6), none⟩,
            ⟨some 24, .kcall (.val (.fn (.func 19) [] [])) [(.tmp 23)], none⟩,
            ⟨some 25, .bslice false 5 1 [(.sl .nil 0 []), (.sl .nil 0 []), (.sl .nil 0 []), (.sl .nil 0 []), (.sl .nil 0 [])] [(0, 5, (.tmp 24))], none⟩,
            ⟨some 26, .append false 5 120 (.tmp 22) (.tmp 25), none⟩,
            ⟨none, .store 1 (.tmp 4) (.tmp 26), none⟩]))) (
       .ops [⟨some 27, .bin .add .num (.tmp 18) (.val (.lit (.int .i64 1))), none⟩,
         ⟨some 18, .val (.tmp 27), none⟩])))

def a_of_x : ACode :=
   .seq (
    .ops [⟨some 15, .fieldAddr 2 (.tmp 1), none⟩,
      ⟨some 16, .iload false 1 (.tmp 15), none⟩,
      ⟨some 17, .len 1 (.tmp 16), none⟩,
      ⟨some 18, .val (.val (.lit (.int .i64 0))), none⟩]) (
   .block 0 (
     .loop a_touch_Ofb2))

def a_of_y : ACode :=
   .seq (
    .ops [⟨some 28, .load false 1 (.tmp 4), none⟩,
      ⟨some 29, .len 1 (.tmp 28), none⟩,
      ⟨some 30, .val (.val (.lit (.int .i64 0))), none⟩]) (
   .block 2 (
     .loop a_touch_Ofb1))

def a_touch_Of : ACode :=
  .seq (
   .ops [⟨some 1, .box true (.tmp 0), none⟩,
     ⟨some 2, .val (.val (.sl .nil 0 [])), none⟩,
     ⟨some 3, .val (.val (.lit (.int .i64 0))), none⟩]) (
  .seq (
   .seq (
    .ops [⟨some 12, .iload true 3 (.tmp 1), none⟩,
      ⟨some 13, .call (.val (.fn (.func 23) [] [])) [(.tmp 12)], none⟩,
      ⟨some 14, .un .not (.tmp 13), none⟩]) (
   .cond (.tmp 14) (
     .seq (
      .ops [⟨some 2, .val (.val (.sl .nil 0 [])), none⟩,
        ⟨some 3, .val (.val (.lit (.int .i64 4))), none⟩]) (
     .ret)) (
     .skip))) (
  .seq (
   .ops [⟨some 4, .alloc [(.sl .nil 0 [])], none⟩]) (
  .seq a_of_x (
  .seq (
   .ops [⟨some 7, .val (.val (.sl .nil 0 [])), none⟩]) (
  .seq a_of_y (
  .seq (
   .ops [⟨some 43, .val (.tmp 7), none⟩,
     ⟨some 2, .val (.tmp 43), none⟩,
     ⟨some 3, .val (.val (.lit (.int .i64 0))), none⟩]) (
  .ret)))))))

theorem c_touch_Of : codeOf Tryz.prog { kc := [24], bz := [1], il := [12, 16] } 12 = some (a_touch_Of, [.tmp 2, .tmp 3], 44) := by kernel_rfl

/-- bobbin/touch.Of$1 -/
def a_touch_Of_1b1 : ACode :=
      .seq (
       .ops [⟨some 29, .bin .lss .num (.tmp 28) (.tmp 27), none⟩]) (
      .seq (
       .cond (.tmp 29) (
         .skip) (
         .exit 0)) (
      .seq (
       .block 1 (
         .seq (
          .ops [⟨some 30, .indexAddr 1 (.tmp 26) (.tmp 28), none⟩,
            ⟨some 31, .load false 1 (.tmp 30), none⟩,
            ⟨some 7, .val (.tmp 31), none⟩]) (
         .ops [⟨some 32, .load false 1 (.tmp 4), none⟩,
           ⟨some 33, .val (.tmp 7), none⟩,
           ⟨some 34, .call (.tmp 32) [(.tmp 33)], none⟩]))) (
      .ops [⟨some 35, .bin .add .num (.tmp 28) (.val (.lit (.int .i64 1))), none⟩,
        ⟨some 28, .val (.tmp 35), none⟩])))

def a_touch_Of_1 : ACode :=
  .seq (
   .seq (
    .ops [⟨some 8, .load false 1 (.tmp 1), none⟩,
      ⟨some 9, .val (.tmp 0), none⟩,
      ⟨some 10, .lookup 0 (.lit (.int .i64 0)) false (.tmp 8) (.tmp 9), none⟩,
      ⟨some 11, .bin .gtr .num (.tmp 10) (.val (.lit (.int .i64 0))), none⟩]) (
   .cond (.tmp 11) (
     .ret) (
     .skip))) (
  .seq (
   .ops [⟨some 12, .load false 1 (.tmp 1), none⟩,
     ⟨some 13, .val (.tmp 0), none⟩,
     ⟨some 14, .lookup 0 (.lit (.int .i64 0)) false (.tmp 12) (.tmp 13), none⟩,
     ⟨some 15, .bin .add .num (.tmp 14) (.val (.lit (.int .i64 1))), none⟩,
     ⟨none, .mapset 0 (.tmp 12) (.tmp 13) (.tmp 15), none⟩]) (
  .seq (
   .ops [⟨some 18, .val (.tmp 0), none⟩,
     ⟨some 16, .load true 5 (.tmp 2), none⟩,
     ⟨some 17, .load false 1 (.tmp 3), none⟩,
     ⟨some 19, .indexAddr 5 (.tmp 17) (.tmp 18), none⟩,
     ⟨some 20, .load true 5 (.tmp 19), none⟩,
     ⟨some 21, .call (.val (.fn (.func 21) [] [])) [(.tmp 16), (.tmp 20)], none⟩,
     ⟨none, .store 5 (.tmp 2) (.tmp 21), none⟩]) (
  .seq (
   .ops [⟨some 22, .load false 1 (.tmp 3), none⟩,
     ⟨some 23, .val (.tmp 0), none⟩,
     ⟨some 24, .indexAddr 5 (.tmp 22) (.tmp 23), none⟩,
     ⟨some 25, .fieldAddr 4 (.tmp 24), none⟩,
     ⟨some 26, .load false 1 (.tmp 25), none⟩,
     ⟨some 27, .len 1 (.tmp 26), none⟩,
     ⟨some 28, .val (.val (.lit (.int .i64 0))), none⟩]) (
  .block 0 (
    .loop a_touch_Of_1b1)))))

theorem c_touch_Of_1 : codeOf Tryz.prog {  } 31 = some (a_touch_Of_1, [], 36) := by kernel_rfl

/-- bobbin/touch.Threads -/
def a_touch_Threadsb1 : ACode :=
       .seq (
        .ops [⟨some 10, .bin .lss .num (.tmp 9) (.tmp 8), none⟩]) (
       .seq (
        .cond (.tmp 10) (
          .skip) (
          .exit 0)) (
       .seq (
        .block 1 (
          .seq (
           .ops [⟨some 11, .val (.tmp 9), none⟩,
             ⟨some 12, .indexAddr 5 (.tmp 7) (.tmp 9), none⟩,
             ⟨some 13, .load true 5 (.tmp 12), none⟩,
             ⟨some 5, .alloc [(.lit (.string ⟨#[]⟩)), (.lit (.bool false)), (.lit (.int .i64 0)), (.lit (.int .i64 0)), (.sl .nil 0 [])], none⟩,
             ⟨some 4, .val (.tmp 11), none⟩,
             ⟨none, .store 5 (.tmp 5) (.tmp 13), none⟩]) (
          .seq (
           .ops [⟨some 14, .fieldAddr 1 (.tmp 5), none⟩,
             ⟨some 15, .load false 1 (.tmp 14), none⟩]) (
          .cond (.tmp 15) (
            .ops [⟨some 16, .val (.tmp 3), none⟩,
              ⟨some 17, .val (.tmp 4), none⟩,
              ⟨some 18, .bslice false 1 1 [(.lit (.int .i64 0))] [(0, 1, (.tmp 17))], none⟩,
              ⟨some 19, .append false 1 8 (.tmp 16) (.tmp 18), none⟩,
              ⟨some 3, .val (.tmp 19), none⟩]) (
            .skip))))) (
       .ops [⟨some 20, .bin .add .num (.tmp 9) (.val (.lit (.int .i64 1))), none⟩,
         ⟨some 9, .val (.tmp 20), none⟩])))

def a_touch_Threads : ACode :=
  .seq (
   .ops [⟨some 1, .box true (.tmp 0), none⟩,
     ⟨some 2, .val (.val (.sl .nil 0 [])), none⟩]) (
  .seq (
   .ops [⟨some 3, .val (.val (.sl .nil 0 [])), none⟩]) (
  .seq (
   .seq (
    .ops [⟨some 6, .fieldAddr 2 (.tmp 1), none⟩,
      ⟨some 7, .iload false 1 (.tmp 6), none⟩,
      ⟨some 8, .len 1 (.tmp 7), none⟩,
      ⟨some 9, .val (.val (.lit (.int .i64 0))), none⟩]) (
   .block 0 (
     .loop a_touch_Threadsb1))) (
  .seq (
   .ops [⟨some 21, .val (.tmp 3), none⟩,
     ⟨some 2, .val (.tmp 21), none⟩]) (
  .ret))))

theorem c_touch_Threads : codeOf Tryz.prog { bz := [1], il := [7] } 15 = some (a_touch_Threads, [.tmp 2], 22) := by kernel_rfl

end Go.Proofs.YtanpcmkhhpaeiaaGreatDoor
