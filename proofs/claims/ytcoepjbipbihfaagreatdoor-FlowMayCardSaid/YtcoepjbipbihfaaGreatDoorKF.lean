/- The code of functions, compiled (printed by wip/tools/kp.py). -/
import Derived.Test.YtcoepjbipbihfaaGreatDoorProg
import Derived.Test.YtcoepjbipbihfaaGreatDoorM3
namespace Go.Proofs.YtcoepjbipbihfaaGreatDoor
set_option linter.unusedSimpArgs false
set_option linter.unusedVariables false
open Go Go.Fw
/-- bobbin/flow.samePhi -/
def a_flow_samePhi : ACode :=
  .seq (
   .ops [⟨some 2, .box true (.tmp 0), none⟩,
     ⟨some 3, .box true (.tmp 1), none⟩,
     ⟨some 4, .val (.val (.lit (.bool false))), none⟩]) (
  .seq (
   .ops [⟨some 5, .fieldAddr 0 (.tmp 2), none⟩,
     ⟨some 6, .iload false 1 (.tmp 5), none⟩,
     ⟨some 7, .fieldAddr 0 (.tmp 3), none⟩,
     ⟨some 8, .iload false 1 (.tmp 7), none⟩,
     ⟨some 9, .bin .eql .num (.tmp 6) (.tmp 8), none⟩,
     ⟨some 10, .val (.tmp 9), none⟩,
     ⟨some 11, .fieldAddr 1 (.tmp 2), some (10, true)⟩,
     ⟨some 12, .iload false 1 (.tmp 11), some (10, true)⟩,
     ⟨some 13, .fieldAddr 1 (.tmp 3), some (10, true)⟩,
     ⟨some 14, .iload false 1 (.tmp 13), some (10, true)⟩,
     ⟨some 15, .call (.val (.fn (.func 71) [] [])) [(.tmp 12), (.tmp 14)], some (10, true)⟩,
     ⟨some 16, .pick (.tmp 10) (.tmp 15) (.val (.lit (.bool false))), none⟩,
     ⟨some 4, .val (.tmp 16), none⟩]) (
  .ret))

theorem c_flow_samePhi : codeOf Tryz.prog { bz := [2, 3], il := [6, 8, 12, 14] } 78 = some (a_flow_samePhi, [.tmp 4], 17) := by kernel_rfl

/-- bobbin/flow.sameBlock -/
def a_flow_sameBlock : ACode :=
  .seq (
   .ops [⟨some 2, .box true (.tmp 0), none⟩,
     ⟨some 3, .box true (.tmp 1), none⟩,
     ⟨some 4, .val (.val (.lit (.bool false))), none⟩]) (
  .seq (
   .ops [⟨some 5, .fieldAddr 0 (.tmp 2), none⟩,
     ⟨some 6, .iload false 1 (.tmp 5), none⟩,
     ⟨some 7, .fieldAddr 0 (.tmp 3), none⟩,
     ⟨some 8, .iload false 1 (.tmp 7), none⟩,
     ⟨some 9, .call (.val (.fn (.func 77) [] [])) [(.tmp 6), (.tmp 8), (.val (.fn (.func 78) [] []))], none⟩,
     ⟨some 10, .val (.tmp 9), none⟩,
     ⟨some 11, .fieldAddr 1 (.tmp 2), some (10, true)⟩,
     ⟨some 12, .iload false 1 (.tmp 11), some (10, true)⟩,
     ⟨some 13, .fieldAddr 1 (.tmp 3), some (10, true)⟩,
     ⟨some 14, .iload false 1 (.tmp 13), some (10, true)⟩,
     ⟨some 15, .call (.val (.fn (.func 79) [] [])) [(.tmp 12), (.tmp 14), (.val (.fn (.func 80) [] []))], some (10, true)⟩,
     ⟨some 16, .pick (.tmp 10) (.tmp 15) (.val (.lit (.bool false))), none⟩,
     ⟨some 17, .val (.tmp 16), none⟩,
     ⟨some 18, .fieldAddr 2 (.tmp 2), some (17, true)⟩,
     ⟨some 19, .iload false 1 (.tmp 18), some (17, true)⟩,
     ⟨some 20, .fieldAddr 2 (.tmp 3), some (17, true)⟩,
     ⟨some 21, .iload false 1 (.tmp 20), some (17, true)⟩,
     ⟨some 22, .call (.val (.fn (.func 71) [] [])) [(.tmp 19), (.tmp 21)], some (17, true)⟩,
     ⟨some 23, .pick (.tmp 17) (.tmp 22) (.val (.lit (.bool false))), none⟩,
     ⟨some 24, .val (.tmp 23), none⟩,
     ⟨some 25, .fieldAddr 3 (.tmp 2), some (24, true)⟩,
     ⟨some 26, .iload false 1 (.tmp 25), some (24, true)⟩,
     ⟨some 27, .fieldAddr 3 (.tmp 3), some (24, true)⟩,
     ⟨some 28, .iload false 1 (.tmp 27), some (24, true)⟩,
     ⟨some 29, .call (.val (.fn (.func 71) [] [])) [(.tmp 26), (.tmp 28)], some (24, true)⟩,
     ⟨some 30, .pick (.tmp 24) (.tmp 29) (.val (.lit (.bool false))), none⟩,
     ⟨some 4, .val (.tmp 30), none⟩]) (
  .ret))

theorem c_flow_sameBlock : codeOf Tryz.prog { bz := [2, 3], il := [6, 8, 12, 14, 19, 21, 26, 28] } 32 = some (a_flow_sameBlock, [.tmp 4], 31) := by kernel_rfl

/-- bobbin/flow.SameGraph -/
def a_flow_SameGraph : ACode :=
  .seq (
   .ops [⟨some 2, .box true (.tmp 0), none⟩,
     ⟨some 3, .box true (.tmp 1), none⟩,
     ⟨some 4, .val (.val (.lit (.bool false))), none⟩]) (
  .seq (
   .ops [⟨some 5, .fieldAddr 0 (.tmp 2), none⟩,
     ⟨some 6, .iload false 1 (.tmp 5), none⟩,
     ⟨some 7, .fieldAddr 0 (.tmp 3), none⟩,
     ⟨some 8, .iload false 1 (.tmp 7), none⟩,
     ⟨some 9, .bin .eql .num (.tmp 6) (.tmp 8), none⟩,
     ⟨some 10, .val (.tmp 9), none⟩,
     ⟨some 11, .fieldAddr 1 (.tmp 2), some (10, true)⟩,
     ⟨some 12, .iload false 1 (.tmp 11), some (10, true)⟩,
     ⟨some 13, .fieldAddr 1 (.tmp 3), some (10, true)⟩,
     ⟨some 14, .iload false 1 (.tmp 13), some (10, true)⟩,
     ⟨some 15, .bin .eql .bool (.tmp 12) (.tmp 14), some (10, true)⟩,
     ⟨some 16, .pick (.tmp 10) (.tmp 15) (.val (.lit (.bool false))), none⟩,
     ⟨some 17, .val (.tmp 16), none⟩,
     ⟨some 18, .fieldAddr 2 (.tmp 2), some (17, true)⟩,
     ⟨some 19, .iload false 1 (.tmp 18), some (17, true)⟩,
     ⟨some 20, .fieldAddr 2 (.tmp 3), some (17, true)⟩,
     ⟨some 21, .iload false 1 (.tmp 20), some (17, true)⟩,
     ⟨some 22, .bin .eql .num (.tmp 19) (.tmp 21), some (17, true)⟩,
     ⟨some 23, .pick (.tmp 17) (.tmp 22) (.val (.lit (.bool false))), none⟩,
     ⟨some 24, .val (.tmp 23), none⟩,
     ⟨some 25, .fieldAddr 3 (.tmp 2), some (24, true)⟩,
     ⟨some 26, .iload false 1 (.tmp 25), some (24, true)⟩,
     ⟨some 27, .fieldAddr 3 (.tmp 3), some (24, true)⟩,
     ⟨some 28, .iload false 1 (.tmp 27), some (24, true)⟩,
     ⟨some 29, .bin .eql .num (.tmp 26) (.tmp 28), some (24, true)⟩,
     ⟨some 30, .pick (.tmp 24) (.tmp 29) (.val (.lit (.bool false))), none⟩,
     ⟨some 31, .val (.tmp 30), none⟩,
     ⟨some 32, .fieldAddr 4 (.tmp 2), some (31, true)⟩,
     ⟨some 33, .iload false 1 (.tmp 32), some (31, true)⟩,
     ⟨some 34, .fieldAddr 4 (.tmp 3), some (31, true)⟩,
     ⟨some 35, .iload false 1 (.tmp 34), some (31, true)⟩,
     ⟨some 36, .call (.val (.fn (.func 31) [] [])) [(.tmp 33), (.tmp 35), (.val (.fn (.func 32) [] []))], some (31, true)⟩,
     ⟨some 37, .pick (.tmp 31) (.tmp 36) (.val (.lit (.bool false))), none⟩,
     ⟨some 4, .val (.tmp 37), none⟩]) (
  .ret))

theorem c_flow_SameGraph : codeOf Tryz.prog { bz := [2, 3], il := [6, 8, 12, 14, 19, 21, 26, 28, 33, 35] } 10 = some (a_flow_SameGraph, [.tmp 4], 38) := by kernel_rfl

/-- bobbin/flow.Same -/
def a_flow_Same : ACode :=
  .seq (
   .ops [⟨some 2, .box true (.tmp 0), none⟩,
     ⟨some 3, .box true (.tmp 1), none⟩,
     ⟨some 4, .val (.val (.lit (.bool false))), none⟩]) (
  .seq (
   .ops [⟨some 5, .fieldAddr 0 (.tmp 2), none⟩,
     ⟨some 6, .iload false 1 (.tmp 5), none⟩,
     ⟨some 7, .fieldAddr 0 (.tmp 3), none⟩,
     ⟨some 8, .iload false 1 (.tmp 7), none⟩,
     ⟨some 9, .call (.val (.fn (.func 40) [] [])) [(.tmp 6), (.tmp 8)], none⟩,
     ⟨some 10, .val (.tmp 9), none⟩,
     ⟨some 11, .fieldAddr 1 (.tmp 2), some (10, true)⟩,
     ⟨some 12, .iload false 1 (.tmp 11), some (10, true)⟩,
     ⟨some 13, .fieldAddr 1 (.tmp 3), some (10, true)⟩,
     ⟨some 14, .iload false 1 (.tmp 13), some (10, true)⟩,
     ⟨some 15, .call (.val (.fn (.func 41) [] [])) [(.tmp 12), (.tmp 14)], some (10, true)⟩,
     ⟨some 16, .pick (.tmp 10) (.tmp 15) (.val (.lit (.bool false))), none⟩,
     ⟨some 17, .val (.tmp 16), none⟩,
     ⟨some 18, .fieldAddr 2 (.tmp 2), some (17, true)⟩,
     ⟨some 19, .iload false 1 (.tmp 18), some (17, true)⟩,
     ⟨some 20, .fieldAddr 2 (.tmp 3), some (17, true)⟩,
     ⟨some 21, .iload false 1 (.tmp 20), some (17, true)⟩,
     ⟨some 22, .call (.val (.fn (.func 42) [] [])) [(.tmp 19), (.tmp 21), (.val (.fn (.func 10) [] []))], some (17, true)⟩,
     ⟨some 23, .pick (.tmp 17) (.tmp 22) (.val (.lit (.bool false))), none⟩,
     ⟨some 4, .val (.tmp 23), none⟩]) (
  .ret))

theorem c_flow_Same : codeOf Tryz.prog { bz := [2, 3], il := [6, 8, 12, 14, 19, 21] } 14 = some (a_flow_Same, [.tmp 4], 24) := by kernel_rfl

/-- slices.EqualFunc[[]bobbin/api.Phi,[]bobbin/api.Phi,bobbin/api.Phi,bobbin/api.Phi] -/
def a_slices_EqualFunc_api_Phi_api_Phi_api_Phi_api_Phib1 : ACode :=
       .seq (
        .ops [⟨some 18, .bin .lss .num (.tmp 17) (.tmp 16), none⟩]) (
       .seq (
        .cond (.tmp 18) (
          .skip) (
          .exit 0)) (
       .seq (
        .block 1 (
          .seq (
           .ops [⟨some 19, .val (.tmp 17), none⟩,
             ⟨some 20, .indexAddr 2 (.tmp 15) (.tmp 17), none⟩,
             ⟨some 21, .load true 2 (.tmp 20), none⟩,
             ⟨some 8, .alloc [(.lit (.int .i64 0)), (.sl .nil 0 [])], none⟩,
             ⟨some 7, .val (.tmp 19), none⟩,
             ⟨none, .store 2 (.tmp 8) (.tmp 21), none⟩]) (
          .seq (
           .ops [⟨some 22, .val (.tmp 1), none⟩,
             ⟨some 23, .val (.tmp 7), none⟩,
             ⟨some 24, .indexAddr 2 (.tmp 22) (.tmp 23), none⟩,
             ⟨some 25, .load true 2 (.tmp 24), none⟩,
             ⟨some 9, .alloc [(.lit (.int .i64 0)), (.sl .nil 0 [])], none⟩,
             ⟨none, .store 2 (.tmp 9) (.tmp 25), none⟩]) (
          .seq (
           .ops [⟨some 26, .val (.tmp 2), none⟩,
             ⟨some 27, .load true 2 (.tmp 8), none⟩,
             ⟨some 28, .load true 2 (.tmp 9), none⟩,
             ⟨some 29, .call (.tmp 26) [(.tmp 27), (.tmp 28)], none⟩,
             ⟨some 30, .un .not (.tmp 29), none⟩]) (
          .cond (.tmp 30) (
            .seq (
             .ops [⟨some 6, .val (.val (.lit (.bool false))), none⟩]) (
            .ret)) (
            .skip)))))) (
       .ops [⟨some 31, .bin .add .num (.tmp 17) (.val (.lit (.int .i64 1))), none⟩,
         ⟨some 17, .val (.tmp 31), none⟩])))

def a_slices_EqualFunc_api_Phi_api_Phi_api_Phi_api_Phi : ACode :=
  .seq (
   .ops [⟨some 6, .val (.val (.lit (.bool false))), none⟩]) (
  .seq (
   .seq (
    .ops [⟨some 10, .val (.tmp 0), none⟩,
      ⟨some 11, .len 1 (.tmp 10), none⟩,
      ⟨some 12, .val (.tmp 1), none⟩,
      ⟨some 13, .len 1 (.tmp 12), none⟩,
      ⟨some 14, .bin .neq .num (.tmp 11) (.tmp 13), none⟩]) (
   .cond (.tmp 14) (
     .seq (
      .ops [⟨some 6, .val (.val (.lit (.bool false))), none⟩]) (
     .ret)) (
     .skip))) (
  .seq (
   .seq (
    .ops [⟨some 15, .val (.tmp 0), none⟩,
      ⟨some 16, .len 1 (.tmp 15), none⟩,
      ⟨some 17, .val (.val (.lit (.int .i64 0))), none⟩]) (
   .block 0 (
     .loop a_slices_EqualFunc_api_Phi_api_Phi_api_Phi_api_Phib1))) (
  .seq (
   .ops [⟨some 6, .val (.val (.lit (.bool true))), none⟩]) (
  .ret))))

theorem c_slices_EqualFunc_api_Phi_api_Phi_api_Phi_api_Phi : codeOf Tryz.prog {  } 77 = some (a_slices_EqualFunc_api_Phi_api_Phi_api_Phi_api_Phi, [.tmp 6], 32) := by kernel_rfl

/-- slices.EqualFunc[[]bobbin/api.Block,[]bobbin/api.Block,bobbin/api.Block,bobbin/api.Block] -/
def a_slices_EqualFunc_api_Block_api_Block_api_Block_api_Blockb1 : ACode :=
       .seq (
        .ops [⟨some 18, .bin .lss .num (.tmp 17) (.tmp 16), none⟩]) (
       .seq (
        .cond (.tmp 18) (
          .skip) (
          .exit 0)) (
       .seq (
        .block 1 (
          .seq (
           .ops [⟨some 19, .val (.tmp 17), none⟩,
             ⟨some 20, .indexAddr 4 (.tmp 15) (.tmp 17), none⟩,
             ⟨some 21, .load true 4 (.tmp 20), none⟩,
             ⟨some 8, .alloc [(.sl .nil 0 []), (.sl .nil 0 []), (.sl .nil 0 []), (.sl .nil 0 [])], none⟩,
             ⟨some 7, .val (.tmp 19), none⟩,
             ⟨none, .store 4 (.tmp 8) (.tmp 21), none⟩]) (
          .seq (
           .ops [⟨some 22, .val (.tmp 1), none⟩,
             ⟨some 23, .val (.tmp 7), none⟩,
             ⟨some 24, .indexAddr 4 (.tmp 22) (.tmp 23), none⟩,
             ⟨some 25, .load true 4 (.tmp 24), none⟩,
             ⟨some 9, .alloc [(.sl .nil 0 []), (.sl .nil 0 []), (.sl .nil 0 []), (.sl .nil 0 [])], none⟩,
             ⟨none, .store 4 (.tmp 9) (.tmp 25), none⟩]) (
          .seq (
           .ops [⟨some 26, .val (.tmp 2), none⟩,
             ⟨some 27, .load true 4 (.tmp 8), none⟩,
             ⟨some 28, .load true 4 (.tmp 9), none⟩,
             ⟨some 29, .call (.tmp 26) [(.tmp 27), (.tmp 28)], none⟩,
             ⟨some 30, .un .not (.tmp 29), none⟩]) (
          .cond (.tmp 30) (
            .seq (
             .ops [⟨some 6, .val (.val (.lit (.bool false))), none⟩]) (
            .ret)) (
            .skip)))))) (
       .ops [⟨some 31, .bin .add .num (.tmp 17) (.val (.lit (.int .i64 1))), none⟩,
         ⟨some 17, .val (.tmp 31), none⟩])))

def a_slices_EqualFunc_api_Block_api_Block_api_Block_api_Block : ACode :=
  .seq (
   .ops [⟨some 6, .val (.val (.lit (.bool false))), none⟩]) (
  .seq (
   .seq (
    .ops [⟨some 10, .val (.tmp 0), none⟩,
      ⟨some 11, .len 1 (.tmp 10), none⟩,
      ⟨some 12, .val (.tmp 1), none⟩,
      ⟨some 13, .len 1 (.tmp 12), none⟩,
      ⟨some 14, .bin .neq .num (.tmp 11) (.tmp 13), none⟩]) (
   .cond (.tmp 14) (
     .seq (
      .ops [⟨some 6, .val (.val (.lit (.bool false))), none⟩]) (
     .ret)) (
     .skip))) (
  .seq (
   .seq (
    .ops [⟨some 15, .val (.tmp 0), none⟩,
      ⟨some 16, .len 1 (.tmp 15), none⟩,
      ⟨some 17, .val (.val (.lit (.int .i64 0))), none⟩]) (
   .block 0 (
     .loop a_slices_EqualFunc_api_Block_api_Block_api_Block_api_Blockb1))) (
  .seq (
   .ops [⟨some 6, .val (.val (.lit (.bool true))), none⟩]) (
  .ret))))

theorem c_slices_EqualFunc_api_Block_api_Block_api_Block_api_Block : codeOf Tryz.prog {  } 31 = some (a_slices_EqualFunc_api_Block_api_Block_api_Block_api_Block, [.tmp 6], 32) := by kernel_rfl

/-- slices.EqualFunc[[]bobbin/api.Graph,[]bobbin/api.Graph,bobbin/api.Graph,bobbin/api.Graph] -/
def a_slices_EqualFunc_api_Graph_api_Graph_api_Graph_api_Graphb1 : ACode :=
       .seq (
        .ops [⟨some 18, .bin .lss .num (.tmp 17) (.tmp 16), none⟩]) (
       .seq (
        .cond (.tmp 18) (
          .skip) (
          .exit 0)) (
       .seq (
        .block 1 (
          .seq (
           .ops [⟨some 19, .val (.tmp 17), none⟩,
             ⟨some 20, .indexAddr 5 (.tmp 15) (.tmp 17), none⟩,
             ⟨some 21, .load true 5 (.tmp 20), none⟩,
             ⟨some 8, .alloc [(.lit (.string ⟨#[]⟩)), (.lit (.bool false)), (.lit (.int .i64 0)), (.lit (.int .i64 0)), (.sl .nil 0 [])], none⟩,
             ⟨some 7, .val (.tmp 19), none⟩,
             ⟨none, .store 5 (.tmp 8) (.tmp 21), none⟩]) (
          .seq (
           .ops [⟨some 22, .val (.tmp 1), none⟩,
             ⟨some 23, .val (.tmp 7), none⟩,
             ⟨some 24, .indexAddr 5 (.tmp 22) (.tmp 23), none⟩,
             ⟨some 25, .load true 5 (.tmp 24), none⟩,
             ⟨some 9, .alloc [(.lit (.string ⟨#[]⟩)), (.lit (.bool false)), (.lit (.int .i64 0)), (.lit (.int .i64 0)), (.sl .nil 0 [])], none⟩,
             ⟨none, .store 5 (.tmp 9) (.tmp 25), none⟩]) (
          .seq (
           .ops [⟨some 26, .val (.tmp 2), none⟩,
             ⟨some 27, .load true 5 (.tmp 8), none⟩,
             ⟨some 28, .load true 5 (.tmp 9), none⟩,
             ⟨some 29, .call (.tmp 26) [(.tmp 27), (.tmp 28)], none⟩,
             ⟨some 30, .un .not (.tmp 29), none⟩]) (
          .cond (.tmp 30) (
            .seq (
             .ops [⟨some 6, .val (.val (.lit (.bool false))), none⟩]) (
            .ret)) (
            .skip)))))) (
       .ops [⟨some 31, .bin .add .num (.tmp 17) (.val (.lit (.int .i64 1))), none⟩,
         ⟨some 17, .val (.tmp 31), none⟩])))

def a_slices_EqualFunc_api_Graph_api_Graph_api_Graph_api_Graph : ACode :=
  .seq (
   .ops [⟨some 6, .val (.val (.lit (.bool false))), none⟩]) (
  .seq (
   .seq (
    .ops [⟨some 10, .val (.tmp 0), none⟩,
      ⟨some 11, .len 1 (.tmp 10), none⟩,
      ⟨some 12, .val (.tmp 1), none⟩,
      ⟨some 13, .len 1 (.tmp 12), none⟩,
      ⟨some 14, .bin .neq .num (.tmp 11) (.tmp 13), none⟩]) (
   .cond (.tmp 14) (
     .seq (
      .ops [⟨some 6, .val (.val (.lit (.bool false))), none⟩]) (
     .ret)) (
     .skip))) (
  .seq (
   .seq (
    .ops [⟨some 15, .val (.tmp 0), none⟩,
      ⟨some 16, .len 1 (.tmp 15), none⟩,
      ⟨some 17, .val (.val (.lit (.int .i64 0))), none⟩]) (
   .block 0 (
     .loop a_slices_EqualFunc_api_Graph_api_Graph_api_Graph_api_Graphb1))) (
  .seq (
   .ops [⟨some 6, .val (.val (.lit (.bool true))), none⟩]) (
  .ret))))

theorem c_slices_EqualFunc_api_Graph_api_Graph_api_Graph_api_Graph : codeOf Tryz.prog {  } 42 = some (a_slices_EqualFunc_api_Graph_api_Graph_api_Graph_api_Graph, [.tmp 6], 32) := by kernel_rfl

/-- slices.ContainsFunc[[]bobbin/api.Phi,bobbin/api.Phi] -/
def a_slices_ContainsFunc_api_Phi_api_Phi : ACode :=
  .seq (
   .ops [⟨some 4, .val (.val (.lit (.bool false))), none⟩]) (
  .seq (
   .ops [⟨some 5, .val (.tmp 0), none⟩,
     ⟨some 6, .val (.tmp 1), none⟩,
     ⟨some 7, .call (.val (.fn (.func 103) [] [])) [(.tmp 5), (.tmp 6)], none⟩,
     ⟨some 8, .bin .geq .num (.tmp 7) (.val (.lit (.int .i64 0))), none⟩,
     ⟨some 4, .val (.tmp 8), none⟩]) (
  .ret))

theorem c_slices_ContainsFunc_api_Phi_api_Phi : codeOf Tryz.prog {  } 67 = some (a_slices_ContainsFunc_api_Phi_api_Phi, [.tmp 4], 9) := by kernel_rfl

/-- slices.IndexFunc[[]bobbin/api.Phi,bobbin/api.Phi] -/
def a_slices_IndexFunc_api_Phi_api_Phib1 : ACode :=
       .seq (
        .ops [⟨some 9, .bin .lss .num (.tmp 8) (.tmp 7), none⟩]) (
       .seq (
        .cond (.tmp 9) (
          .skip) (
          .exit 0)) (
       .seq (
        .block 1 (
          .seq (
           .ops [⟨some 10, .val (.tmp 8), none⟩,
             ⟨some 5, .val (.tmp 10), none⟩]) (
          .seq (
           .ops [⟨some 11, .val (.tmp 1), none⟩,
             ⟨some 12, .val (.tmp 0), none⟩,
             ⟨some 13, .val (.tmp 5), none⟩,
             ⟨some 14, .indexAddr 2 (.tmp 12) (.tmp 13), none⟩,
             ⟨some 15, .load true 2 (.tmp 14), none⟩,
             ⟨some 16, .call (.tmp 11) [(.tmp 15)], none⟩]) (
          .cond (.tmp 16) (
            .seq (
             .ops [⟨some 17, .val (.tmp 5), none⟩,
               ⟨some 4, .val (.tmp 17), none⟩]) (
            .ret)) (
            .skip))))) (
       .ops [⟨some 18, .bin .add .num (.tmp 8) (.val (.lit (.int .i64 1))), none⟩,
         ⟨some 8, .val (.tmp 18), none⟩])))

def a_slices_IndexFunc_api_Phi_api_Phi : ACode :=
  .seq (
   .ops [⟨some 4, .val (.val (.lit (.int .i64 0))), none⟩]) (
  .seq (
   .seq (
    .ops [⟨some 6, .val (.tmp 0), none⟩,
      ⟨some 7, .len 1 (.tmp 6), none⟩,
      ⟨some 8, .val (.val (.lit (.int .i64 0))), none⟩]) (
   .block 0 (
     .loop a_slices_IndexFunc_api_Phi_api_Phib1))) (
  .seq (
   .ops [⟨some 4, .val (.val (.lit (.int .i64 (-1)))), none⟩]) (
  .ret)))

theorem c_slices_IndexFunc_api_Phi_api_Phi : codeOf Tryz.prog {  } 103 = some (a_slices_IndexFunc_api_Phi_api_Phi, [.tmp 4], 19) := by kernel_rfl

/-- slices.ContainsFunc[[]bobbin/api.Block,bobbin/api.Block] -/
def a_slices_ContainsFunc_api_Block_api_Block : ACode :=
  .seq (
   .ops [⟨some 4, .val (.val (.lit (.bool false))), none⟩]) (
  .seq (
   .ops [⟨some 5, .val (.tmp 0), none⟩,
     ⟨some 6, .val (.tmp 1), none⟩,
     ⟨some 7, .call (.val (.fn (.func 63) [] [])) [(.tmp 5), (.tmp 6)], none⟩,
     ⟨some 8, .bin .geq .num (.tmp 7) (.val (.lit (.int .i64 0))), none⟩,
     ⟨some 4, .val (.tmp 8), none⟩]) (
  .ret))

theorem c_slices_ContainsFunc_api_Block_api_Block : codeOf Tryz.prog {  } 23 = some (a_slices_ContainsFunc_api_Block_api_Block, [.tmp 4], 9) := by kernel_rfl

/-- slices.IndexFunc[[]bobbin/api.Block,bobbin/api.Block] -/
def a_slices_IndexFunc_api_Block_api_Blockb1 : ACode :=
       .seq (
        .ops [⟨some 9, .bin .lss .num (.tmp 8) (.tmp 7), none⟩]) (
       .seq (
        .cond (.tmp 9) (
          .skip) (
          .exit 0)) (
       .seq (
        .block 1 (
          .seq (
           .ops [⟨some 10, .val (.tmp 8), none⟩,
             ⟨some 5, .val (.tmp 10), none⟩]) (
          .seq (
           .ops [⟨some 11, .val (.tmp 1), none⟩,
             ⟨some 12, .val (.tmp 0), none⟩,
             ⟨some 13, .val (.tmp 5), none⟩,
             ⟨some 14, .indexAddr 4 (.tmp 12) (.tmp 13), none⟩,
             ⟨some 15, .load true 4 (.tmp 14), none⟩,
             ⟨some 16, .call (.tmp 11) [(.tmp 15)], none⟩]) (
          .cond (.tmp 16) (
            .seq (
             .ops [⟨some 17, .val (.tmp 5), none⟩,
               ⟨some 4, .val (.tmp 17), none⟩]) (
            .ret)) (
            .skip))))) (
       .ops [⟨some 18, .bin .add .num (.tmp 8) (.val (.lit (.int .i64 1))), none⟩,
         ⟨some 8, .val (.tmp 18), none⟩])))

def a_slices_IndexFunc_api_Block_api_Block : ACode :=
  .seq (
   .ops [⟨some 4, .val (.val (.lit (.int .i64 0))), none⟩]) (
  .seq (
   .seq (
    .ops [⟨some 6, .val (.tmp 0), none⟩,
      ⟨some 7, .len 1 (.tmp 6), none⟩,
      ⟨some 8, .val (.val (.lit (.int .i64 0))), none⟩]) (
   .block 0 (
     .loop a_slices_IndexFunc_api_Block_api_Blockb1))) (
  .seq (
   .ops [⟨some 4, .val (.val (.lit (.int .i64 (-1)))), none⟩]) (
  .ret)))

theorem c_slices_IndexFunc_api_Block_api_Block : codeOf Tryz.prog {  } 63 = some (a_slices_IndexFunc_api_Block_api_Block, [.tmp 4], 19) := by kernel_rfl

/-- slices.ContainsFunc[[]int,int] -/
def a_slices_ContainsFunc_int_int : ACode :=
  .seq (
   .ops [⟨some 4, .val (.val (.lit (.bool false))), none⟩]) (
  .seq (
   .ops [⟨some 5, .val (.tmp 0), none⟩,
     ⟨some 6, .val (.tmp 1), none⟩,
     ⟨some 7, .call (.val (.fn (.func 104) [] [])) [(.tmp 5), (.tmp 6)], none⟩,
     ⟨some 8, .bin .geq .num (.tmp 7) (.val (.lit (.int .i64 0))), none⟩,
     ⟨some 4, .val (.tmp 8), none⟩]) (
  .ret))

theorem c_slices_ContainsFunc_int_int : codeOf Tryz.prog {  } 69 = some (a_slices_ContainsFunc_int_int, [.tmp 4], 9) := by kernel_rfl

/-- slices.IndexFunc[[]int,int] -/
def a_slices_IndexFunc_int_intb1 : ACode :=
       .seq (
        .ops [⟨some 9, .bin .lss .num (.tmp 8) (.tmp 7), none⟩]) (
       .seq (
        .cond (.tmp 9) (
          .skip) (
          .exit 0)) (
       .seq (
        .block 1 (
          .seq (
           .ops [⟨some 10, .val (.tmp 8), none⟩,
             ⟨some 5, .val (.tmp 10), none⟩]) (
          .seq (
           .ops [⟨some 11, .val (.tmp 1), none⟩,
             ⟨some 12, .val (.tmp 0), none⟩,
             ⟨some 13, .val (.tmp 5), none⟩,
             ⟨some 14, .indexAddr 1 (.tmp 12) (.tmp 13), none⟩,
             ⟨some 15, .load false 1 (.tmp 14), none⟩,
             ⟨some 16, .call (.tmp 11) [(.tmp 15)], none⟩]) (
          .cond (.tmp 16) (
            .seq (
             .ops [⟨some 17, .val (.tmp 5), none⟩,
               ⟨some 4, .val (.tmp 17), none⟩]) (
            .ret)) (
            .skip))))) (
       .ops [⟨some 18, .bin .add .num (.tmp 8) (.val (.lit (.int .i64 1))), none⟩,
         ⟨some 8, .val (.tmp 18), none⟩])))

def a_slices_IndexFunc_int_int : ACode :=
  .seq (
   .ops [⟨some 4, .val (.val (.lit (.int .i64 0))), none⟩]) (
  .seq (
   .seq (
    .ops [⟨some 6, .val (.tmp 0), none⟩,
      ⟨some 7, .len 1 (.tmp 6), none⟩,
      ⟨some 8, .val (.val (.lit (.int .i64 0))), none⟩]) (
   .block 0 (
     .loop a_slices_IndexFunc_int_intb1))) (
  .seq (
   .ops [⟨some 4, .val (.val (.lit (.int .i64 (-1)))), none⟩]) (
  .ret)))

theorem c_slices_IndexFunc_int_int : codeOf Tryz.prog {  } 104 = some (a_slices_IndexFunc_int_int, [.tmp 4], 19) := by kernel_rfl

/-- bobbin/flow.mayIns -/
def a_mi_rest : ACode :=
  .seq (
   .ops [⟨some 32, .build [(.lit (.int .u8 0)), (.lit (.int .i64 0)), (.lit (.int .i64 0)), (.lit (.int .i64 0)), (.lit (.int .i64 0)), (.sl .nil 0 [])] [], none⟩,
     ⟨some 33, .bslice false 6 1 [(.lit (.int .u8 0)), (.lit (.int .i64 0)), (.lit (.int .i64 0)), (.lit (.int .i64 0)), (.lit (.int .i64 0)), (.sl .nil 0 [])] [(0, 6, (.tmp 32))], none⟩,
     ⟨some 5, .val (.tmp 33), none⟩]) (
  .seq (
   .seq (
    .ops [⟨some 36, .val (.tmp 1), none⟩,
      ⟨some 37, .val (.tmp 5), none⟩,
      ⟨some 38, .build [(.lit (.string ⟨#[]⟩)), (.lit (.bool false)), (.lit (.int .i64 0)), (.lit (.int .i64 0)), (.sl .nil 0 [])] [(3, 1, (.tmp 36)), (4, 1, (.tmp 37))], none⟩,
      ⟨some 39, .fieldAddr 5 (.tmp 2), none⟩,
      ⟨some 42, .val (.tmp 5), none⟩]) (
   .seq (
    .draw [(0, ⟨some 34, .mkslice 3 32 [(.lit (.string ⟨#[]⟩)), (.lit (.int .i64 0)), (.lit (.int .i64 0))] (.val (.lit (.int .i64 1))) (.val (.lit (.int .i64 1))), none⟩, []),
      (1, ⟨some 35, .mkslice 1 16 [(.lit (.string ⟨#[]⟩))] (.val (.lit (.int .i64 1))) (.val (.lit (.int .i64 1))), none⟩, []),
      (6, ⟨some 40, .load false 1 (.tmp 39), none⟩, []),
      (7, ⟨some 41, .len 1 (.tmp 40), none⟩, [6]),
      (9, ⟨some 43, .build [(.lit (.string ⟨#[]⟩)), (.lit (.bool false)), (.lit (.int .i64 0)), (.lit (.int .i64 0)), (.sl .nil 0 [])] [(2, 1, (.tmp 41)), (4, 1, (.tmp 42))], none⟩, [7]),
      (10, ⟨some 44, .bslice false 5 2 [(.lit (.string ⟨#[]⟩)), (.lit (.bool false)), (.lit (.int .i64 0)), (.lit (.int .i64 0)), (.sl .nil 0 []), (.lit (.string ⟨#[]⟩)), (.lit (.bool false)), (.lit (.int .i64 0)), (.lit (.int .i64 0)), (.sl .nil 0 [])] [(0, 5, (.tmp 38)), (5, 5, (.tmp 43))], none⟩, [9]),
      (11, ⟨some 45, .build [(.sl .nil 0 []), (.sl .nil 0 []), (.sl .nil 0 [])] [(0, 1, (.tmp 34)), (1, 1, (.tmp 35)), (2, 1, (.tmp 44))], none⟩, [0, 1, 10]),
      (12, ⟨some 6, .alloc [(.sl .nil 0 []), (.sl .nil 0 []), (.sl .nil 0 [])], none⟩, [])]) (
   .ops [⟨none, .store 3 (.tmp 6) (.tmp 45), none⟩]))) (
  .seq (
   .ops [⟨some 46, .load true 3 (.tmp 6), none⟩,
     ⟨some 47, .load true 6 (.tmp 2), none⟩,
     ⟨some 48, .call (.val (.fn (.func 37) [] [])) [(.tmp 46), (.val (.lit (.int .i64 0))), (.tmp 47)], none⟩,
     ⟨some 4, .val (.tmp 48), none⟩]) (
  .ret)))

def a_flow_mayIns : ACode :=
  .seq (
   .ops [⟨some 2, .box false (.tmp 0), none⟩,
     ⟨some 4, .val (.val (.lit (.bool false))), none⟩]) (
  .seq (
   .seq (
    .ops [⟨some 7, .fieldAddr 4 (.tmp 2), none⟩,
      ⟨some 8, .load false 1 (.tmp 7), none⟩,
      ⟨some 9, .bin .lss .num (.tmp 8) (.val (.lit (.int .i64 0))), none⟩,
      ⟨some 10, .val (.tmp 9), none⟩,
      ⟨some 11, .fieldAddr 0 (.tmp 2), some (10, true)⟩,
      ⟨some 12, .load false 1 (.tmp 11), some (10, true)⟩,
      ⟨some 13, .bin .neq .num (.tmp 12) (.val (.lit (.int .u8 1))), some (10, true)⟩,
      ⟨some 14, .pick (.tmp 10) (.tmp 13) (.val (.lit (.bool false))), none⟩,
      ⟨some 15, .val (.tmp 14), none⟩,
      ⟨some 16, .fieldAddr 5 (.tmp 2), some (15, false)⟩,
      ⟨some 17, .load false 1 (.tmp 16), some (15, false)⟩,
      ⟨some 18, .len 1 (.tmp 17), some (15, false)⟩,
      ⟨some 19, .bin .gtr .num (.tmp 18) (.val (.lit (.int .i64 8))), some (15, false)⟩,
      ⟨some 20, .pick (.tmp 15) (.val (.lit (.bool true))) (.tmp 19), none⟩]) (
   .cond (.tmp 20) (
     .seq (
      .ops [⟨some 4, .val (.val (.lit (.bool false))), none⟩]) (
     .ret)) (
     .skip))) (
  .seq (
   .seq (
    .ops [⟨some 21, .fieldAddr 0 (.tmp 2), none⟩,
      ⟨some 22, .load false 1 (.tmp 21), none⟩]) (
   .block 0 (
     .seq (
      .seq (
       .ops [⟨some 24, .bin .eql .num (.tmp 22) (.val (.lit (.int .u8 5))), none⟩,
         ⟨some 23, .val (.tmp 24), none⟩]) (
      .cond (.tmp 23) (
        .skip) (
        .seq (
         .ops [⟨some 25, .bin .eql .num (.tmp 22) (.val (.lit (.int .u8 6))), none⟩,
           ⟨some 23, .val (.tmp 25), none⟩]) (
        .cond (.tmp 23) (
          .skip) (
          .seq (
           .ops [⟨some 26, .bin .eql .num (.tmp 22) (.val (.lit (.int .u8 7))), none⟩,
             ⟨some 23, .val (.tmp 26), none⟩]) (
          .cond (.tmp 23) (
            .skip) (
            .ops [⟨some 27, .bin .eql .num (.tmp 22) (.val (.lit (.int .u8 8))), none⟩,
              ⟨some 23, .val (.tmp 27), none⟩]))))))) (
     .cond (.tmp 23) (
       .ops [⟨some 28, .fieldAddr 4 (.tmp 2), none⟩,
         ⟨none, .store 1 (.tmp 28) (.val (.lit (.int .i64 0))), none⟩]) (
       .seq (
        .ops [⟨some 30, .bin .eql .num (.tmp 22) (.val (.lit (.int .u8 10))), none⟩,
          ⟨some 29, .val (.tmp 30), none⟩]) (
       .cond (.tmp 29) (
         .ops [⟨some 31, .fieldAddr 4 (.tmp 2), none⟩,
           ⟨none, .store 1 (.tmp 31) (.val (.lit (.int .i64 1))), none⟩]) (
         .skip))))))) a_mi_rest))

theorem c_flow_mayIns : codeOf Tryz.prog {  } 64 = some (a_flow_mayIns, [.tmp 4], 49) := by kernel_rfl

/-- bobbin/flow.ends -/
def a_flow_ends : ACode :=
  .seq (
   .ops [⟨some 2, .val (.val (.lit (.bool false))), none⟩]) (
  .seq (
   .ops [⟨some 3, .val (.tmp 0), none⟩,
     ⟨some 4, .bin .eql .num (.tmp 3) (.val (.lit (.int .u8 11))), none⟩,
     ⟨some 5, .val (.tmp 4), none⟩,
     ⟨some 6, .val (.tmp 0), some (5, false)⟩,
     ⟨some 7, .bin .eql .num (.tmp 6) (.val (.lit (.int .u8 12))), some (5, false)⟩,
     ⟨some 8, .pick (.tmp 5) (.val (.lit (.bool true))) (.tmp 7), none⟩,
     ⟨some 9, .val (.tmp 8), none⟩,
     ⟨some 10, .val (.tmp 0), some (9, false)⟩,
     ⟨some 11, .bin .eql .num (.tmp 10) (.val (.lit (.int .u8 13))), some (9, false)⟩,
     ⟨some 12, .pick (.tmp 9) (.val (.lit (.bool true))) (.tmp 11), none⟩,
     ⟨some 2, .val (.tmp 12), none⟩]) (
  .ret))

theorem c_flow_ends : codeOf Tryz.prog {  } 65 = some (a_flow_ends, [.tmp 2], 13) := by kernel_rfl

/-- bobbin/flow.from -/
def a_flow_fromb1 : ACode :=
             .seq (
              .ops [⟨some 18, .bin .lss .num (.tmp 17) (.tmp 16), none⟩]) (
             .seq (
              .cond (.tmp 18) (
                .skip) (
                .exit 2)) (
             .seq (
              .block 3 (
                .seq (
                 .ops [⟨some 19, .indexAddr 1 (.tmp 15) (.tmp 17), none⟩,
                   ⟨some 20, .load false 1 (.tmp 19), none⟩,
                   ⟨some 4, .val (.tmp 20), none⟩]) (
                .seq (
                 .ops [⟨some 21, .val (.tmp 0), none⟩,
                   ⟨some 22, .val (.tmp 4), none⟩,
                   ⟨some 23, .indexAddr 4 (.tmp 21) (.tmp 22), none⟩,
                   ⟨some 24, .fieldAddr 2 (.tmp 23), none⟩,
                   ⟨some 25, .load false 1 (.tmp 24), none⟩,
                   ⟨some 26, .len 1 (.tmp 25), none⟩,
                   ⟨some 5, .val (.tmp 26), none⟩]) (
                .seq (
                 .ops [⟨some 27, .val (.tmp 5), none⟩,
                   ⟨some 28, .bin .eql .num (.tmp 27) (.val (.lit (.int .i64 0))), none⟩,
                   ⟨some 29, .val (.tmp 28), none⟩,
                   ⟨some 30, .val (.tmp 0), some (29, false)⟩,
                   ⟨some 31, .val (.tmp 4), some (29, false)⟩,
                   ⟨some 32, .indexAddr 4 (.tmp 30) (.tmp 31), some (29, false)⟩,
                   ⟨some 33, .fieldAddr 2 (.tmp 32), some (29, false)⟩,
                   ⟨some 34, .load false 1 (.tmp 33), some (29, false)⟩,
                   ⟨some 35, .val (.tmp 5), some (29, false)⟩,
                   ⟨some 36, .bin .sub .num (.tmp 35) (.val (.lit (.int .i64 1))), some (29, false)⟩,
                   ⟨some 37, .indexAddr 1 (.tmp 34) (.tmp 36), some (29, false)⟩,
                   ⟨some 38, .load false 1 (.tmp 37), some (29, false)⟩,
                   ⟨some 39, .val (.tmp 2), some (29, false)⟩,
                   ⟨some 40, .bin .neq .num (.tmp 38) (.tmp 39), some (29, false)⟩,
                   ⟨some 41, .pick (.tmp 29) (.val (.lit (.bool true))) (.tmp 40), none⟩]) (
                .cond (.tmp 41) (
                  .ops [⟨some 42, .val (.tmp 0), none⟩,
                    ⟨some 43, .val (.tmp 4), none⟩,
                    ⟨some 44, .val (.tmp 0), none⟩,
                    ⟨some 45, .val (.tmp 4), none⟩,
                    ⟨some 46, .indexAddr 4 (.tmp 44) (.tmp 45), none⟩,
                    ⟨some 47, .fieldAddr 2 (.tmp 46), none⟩,
                    ⟨some 48, .load false 1 (.tmp 47), none⟩,
                    ⟨some 49, .val (.tmp 2), none⟩,
                    ⟨some 50, .bslice false 1 1 [(.lit (.int .i64 0))] [(0, 1, (.tmp 49))], none⟩,
                    ⟨some 51, .append false 1 8 (.tmp 48) (.tmp 50), none⟩,
                    ⟨some 52, .indexAddr 4 (.tmp 42) (.tmp 43), none⟩,
                    ⟨some 53, .fieldAddr 2 (.tmp 52), none⟩,
                    ⟨none, .store 1 (.tmp 53) (.tmp 51), none⟩]) (
                  .skip)))))) (
             .ops [⟨some 54, .bin .add .num (.tmp 17) (.val (.lit (.int .i64 1))), none⟩,
               ⟨some 17, .val (.tmp 54), none⟩])))

def a_flow_fromb2 : ACode :=
      .seq (
       .ops [⟨some 9, .bin .lss .num (.tmp 8) (.tmp 7), none⟩]) (
      .seq (
       .cond (.tmp 9) (
         .skip) (
         .exit 0)) (
      .seq (
       .block 1 (
         .seq (
          .ops [⟨some 10, .val (.tmp 8), none⟩,
            ⟨some 2, .val (.tmp 10), none⟩]) (
         .seq (
          .ops [⟨some 11, .val (.tmp 0), none⟩,
            ⟨some 12, .val (.tmp 2), none⟩,
            ⟨some 13, .indexAddr 4 (.tmp 11) (.tmp 12), none⟩,
            ⟨some 14, .fieldAddr 3 (.tmp 13), none⟩,
            ⟨some 15, .load false 1 (.tmp 14), none⟩,
            ⟨some 16, .len 1 (.tmp 15), none⟩,
            ⟨some 17, .val (.val (.lit (.int .i64 0))), none⟩]) (
         .block 2 (
           .loop a_flow_fromb1))))) (
      .ops [⟨some 55, .bin .add .num (.tmp 8) (.val (.lit (.int .i64 1))), none⟩,
        ⟨some 8, .val (.tmp 55), none⟩])))

def a_flow_from : ACode :=
  .seq (
   .ops [⟨some 6, .val (.tmp 0), none⟩,
     ⟨some 7, .len 1 (.tmp 6), none⟩,
     ⟨some 8, .val (.val (.lit (.int .i64 0))), none⟩]) (
  .block 0 (
    .loop a_flow_fromb2))

theorem c_flow_from : codeOf Tryz.prog {  } 70 = some (a_flow_from, [], 56) := by kernel_rfl

/-- bobbin/flow.froms -/
def a_flow_fromsb1 : ACode :=
       .seq (
        .ops [⟨some 48, .bin .lss .num (.tmp 47) (.tmp 46), none⟩]) (
       .seq (
        .cond (.tmp 48) (
          .skip) (
          .exit 4)) (
       .seq (
        .block 5 (
          .seq (
           .ops [⟨some 49, .val (.tmp 47), none⟩,
             ⟨some 50, .indexAddr 4 (.tmp 45) (.tmp 47), none⟩,
             ⟨some 51, .load true 4 (.tmp 50), none⟩,
             ⟨some 9, .alloc [(.sl .nil 0 []), (.sl .nil 0 []), (.sl .nil 0 []), (.sl .nil 0 [])], none⟩,
             ⟨some 8, .val (.tmp 49), none⟩,
             ⟨none, .store 4 (.tmp 9) (.tmp 51), none⟩]) (
          .seq (
           .ops [⟨some 52, .fieldAddr 2 (.tmp 9), none⟩,
             ⟨some 54, .val (.tmp 3), none⟩,
             ⟨some 55, .val (.tmp 8), none⟩,
             ⟨some 56, .indexAddr 4 (.tmp 54) (.tmp 55), none⟩,
             ⟨some 57, .fieldAddr 2 (.tmp 56), none⟩,
             ⟨some 53, .load false 1 (.tmp 52), none⟩,
             ⟨some 58, .load false 1 (.tmp 57), none⟩,
             ⟨some 59, .call (.val (.fn (.func 71) [] [])) [(.tmp 53), (.tmp 58)], none⟩,
             ⟨some 60, .un .not (.tmp 59), none⟩]) (
          .cond (.tmp 60) (
            .seq (
             .ops [⟨some 2, .val (.val (.lit (.bool false))), none⟩]) (
            .ret)) (
            .skip))))) (
       .ops [⟨some 61, .bin .add .num (.tmp 47) (.val (.lit (.int .i64 1))), none⟩,
         ⟨some 47, .val (.tmp 61), none⟩])))

def a_flow_fromsb2 : ACode :=
               .seq (
                .ops [⟨some 24, .bin .lss .num (.tmp 23) (.tmp 22), none⟩]) (
               .seq (
                .cond (.tmp 24) (
                  .skip) (
                  .exit 2)) (
               .seq (
                .block 3 (
                  .seq (
                   .ops [⟨some 25, .indexAddr 1 (.tmp 21) (.tmp 23), none⟩,
                     ⟨some 26, .load false 1 (.tmp 25), none⟩,
                     ⟨some 7, .val (.tmp 26), none⟩]) (
                  .seq (
                   .ops [⟨some 27, .val (.tmp 7), none⟩,
                     ⟨some 28, .bin .lss .num (.tmp 27) (.val (.lit (.int .i64 0))), none⟩,
                     ⟨some 29, .val (.tmp 28), none⟩,
                     ⟨some 30, .val (.tmp 7), some (29, false)⟩,
                     ⟨some 31, .val (.tmp 0), some (29, false)⟩,
                     ⟨some 32, .len 1 (.tmp 31), some (29, false)⟩,
                     ⟨some 33, .bin .geq .num (.tmp 30) (.tmp 32), some (29, false)⟩,
                     ⟨some 34, .pick (.tmp 29) (.val (.lit (.bool true))) (.tmp 33), none⟩]) (
                  .cond (.tmp 34) (
                    .seq (
                     .ops [⟨some 2, .val (.val (.lit (.bool false))), none⟩]) (
                    .ret)) (
                    .skip))))) (
               .ops [⟨some 35, .bin .add .num (.tmp 23) (.val (.lit (.int .i64 1))), none⟩,
                 ⟨some 23, .val (.tmp 35), none⟩])))

def a_flow_fromsb3 : ACode :=
       .seq (
        .ops [⟨some 16, .bin .lss .num (.tmp 15) (.tmp 14), none⟩]) (
       .seq (
        .cond (.tmp 16) (
          .skip) (
          .exit 0)) (
       .seq (
        .block 1 (
          .seq (
           .ops [⟨some 17, .val (.tmp 15), none⟩,
             ⟨some 18, .indexAddr 4 (.tmp 13) (.tmp 15), none⟩,
             ⟨some 19, .load true 4 (.tmp 18), none⟩,
             ⟨some 5, .alloc [(.sl .nil 0 []), (.sl .nil 0 []), (.sl .nil 0 []), (.sl .nil 0 [])], none⟩,
             ⟨some 4, .val (.tmp 17), none⟩,
             ⟨none, .store 4 (.tmp 5) (.tmp 19), none⟩]) (
          .seq (
           .seq (
            .ops [⟨some 20, .fieldAddr 3 (.tmp 5), none⟩,
              ⟨some 21, .load false 1 (.tmp 20), none⟩,
              ⟨some 22, .len 1 (.tmp 21), none⟩,
              ⟨some 23, .val (.val (.lit (.int .i64 0))), none⟩]) (
           .block 2 (
             .loop a_flow_fromsb2))) (
          .ops [⟨some 36, .val (.tmp 3), none⟩,
            ⟨some 37, .val (.tmp 4), none⟩,
            ⟨some 38, .fieldAddr 3 (.tmp 5), none⟩,
            ⟨some 39, .load false 1 (.tmp 38), none⟩,
            ⟨some 40, .indexAddr 4 (.tmp 36) (.tmp 37), none⟩,
            ⟨some 41, .fieldAddr 3 (.tmp 40), none⟩,
            ⟨none, .store 1 (.tmp 41) (.tmp 39), none⟩])))) (
       .ops [⟨some 42, .bin .add .num (.tmp 15) (.val (.lit (.int .i64 1))), none⟩,
         ⟨some 15, .val (.tmp 42), none⟩])))

def a_flow_froms : ACode :=
  .seq (
   .ops [⟨some 2, .val (.val (.lit (.bool false))), none⟩]) (
  .seq (
   .ops [⟨some 10, .val (.tmp 0), none⟩,
     ⟨some 11, .len 1 (.tmp 10), none⟩,
     ⟨some 12, .mkslice 4 96 [(.sl .nil 0 []), (.sl .nil 0 []), (.sl .nil 0 []), (.sl .nil 0 [])] (.tmp 11) (.tmp 11), none⟩,
     ⟨some 3, .val (.tmp 12), none⟩]) (
  .seq (
   .seq (
    .ops [⟨some 13, .val (.tmp 0), none⟩,
      ⟨some 14, .len 1 (.tmp 13), none⟩,
      ⟨some 15, .val (.val (.lit (.int .i64 0))), none⟩]) (
   .block 0 (
     .loop a_flow_fromsb3))) (
  .seq (
   .ops [⟨some 43, .val (.tmp 3), none⟩,
     ⟨some 44, .call (.val (.fn (.func 70) [] [])) [(.tmp 43)], none⟩]) (
  .seq (
   .seq (
    .ops [⟨some 45, .val (.tmp 0), none⟩,
      ⟨some 46, .len 1 (.tmp 45), none⟩,
      ⟨some 47, .val (.val (.lit (.int .i64 0))), none⟩]) (
   .block 4 (
     .loop a_flow_fromsb1))) (
  .seq (
   .ops [⟨some 62, .val (.tmp 0), none⟩,
     ⟨some 63, .indexAddr 4 (.tmp 62) (.val (.lit (.int .i64 0))), none⟩,
     ⟨some 64, .fieldAddr 2 (.tmp 63), none⟩,
     ⟨some 65, .load false 1 (.tmp 64), none⟩,
     ⟨some 66, .len 1 (.tmp 65), none⟩,
     ⟨some 67, .bin .eql .num (.tmp 66) (.val (.lit (.int .i64 0))), none⟩,
     ⟨some 2, .val (.tmp 67), none⟩]) (
  .ret))))))

theorem c_flow_froms : codeOf Tryz.prog {  } 26 = some (a_flow_froms, [.tmp 2], 68) := by kernel_rfl

/-- bobbin/flow.circle -/
def a_flow_circleb1 : ACode :=
       .seq (
        .ops [⟨some 10, .bin .lss .num (.tmp 9) (.tmp 8), none⟩]) (
       .seq (
        .cond (.tmp 10) (
          .skip) (
          .exit 0)) (
       .seq (
        .block 1 (
          .seq (
           .seq (
            .ops [⟨some 11, .val (.tmp 0), none⟩,
              ⟨some 12, .val (.tmp 5), none⟩,
              ⟨some 13, .indexAddr 4 (.tmp 11) (.tmp 12), none⟩,
              ⟨some 14, .fieldAddr 1 (.tmp 13), none⟩,
              ⟨some 15, .load false 1 (.tmp 14), none⟩,
              ⟨some 16, .len 1 (.tmp 15), none⟩,
              ⟨some 17, .bin .gtr .num (.tmp 16) (.val (.lit (.int .i64 0))), none⟩]) (
           .cond (.tmp 17) (
             .seq (
              .ops [⟨some 4, .val (.val (.lit (.bool false))), none⟩]) (
             .ret)) (
             .skip))) (
          .seq (
           .ops [⟨some 18, .val (.tmp 0), none⟩,
             ⟨some 19, .val (.tmp 5), none⟩,
             ⟨some 20, .indexAddr 4 (.tmp 18) (.tmp 19), none⟩,
             ⟨some 21, .fieldAddr 3 (.tmp 20), none⟩,
             ⟨some 22, .load false 1 (.tmp 21), none⟩,
             ⟨some 23, .indexAddr 1 (.tmp 22) (.val (.lit (.int .i64 0))), none⟩,
             ⟨some 24, .load false 1 (.tmp 23), none⟩,
             ⟨some 5, .val (.tmp 24), none⟩]) (
          .seq (
           .ops [⟨some 25, .val (.tmp 5), none⟩,
             ⟨some 26, .val (.tmp 1), none⟩,
             ⟨some 27, .bin .eql .num (.tmp 25) (.tmp 26), none⟩]) (
          .cond (.tmp 27) (
            .seq (
             .ops [⟨some 4, .val (.val (.lit (.bool true))), none⟩]) (
            .ret)) (
            .skip)))))) (
       .ops [⟨some 28, .bin .add .num (.tmp 9) (.val (.lit (.int .i64 1))), none⟩,
         ⟨some 9, .val (.tmp 28), none⟩])))

def a_flow_circle : ACode :=
  .seq (
   .ops [⟨some 4, .val (.val (.lit (.bool false))), none⟩]) (
  .seq (
   .ops [⟨some 6, .val (.tmp 1), none⟩,
     ⟨some 5, .val (.tmp 6), none⟩]) (
  .seq (
   .seq (
    .ops [⟨some 7, .val (.tmp 0), none⟩,
      ⟨some 8, .len 1 (.tmp 7), none⟩,
      ⟨some 9, .val (.val (.lit (.int .i64 0))), none⟩]) (
   .block 0 (
     .loop a_flow_circleb1))) (
  .seq (
   .ops [⟨some 4, .val (.val (.lit (.bool false))), none⟩]) (
  .ret))))

theorem c_flow_circle : codeOf Tryz.prog {  } 27 = some (a_flow_circle, [.tmp 4], 29) := by kernel_rfl

/-- bobbin/flow.block -/
def a_flow_blockb1 : ACode :=
       .seq (
        .ops [⟨some 13, .bin .lss .num (.tmp 12) (.tmp 11), none⟩]) (
       .seq (
        .cond (.tmp 13) (
          .skip) (
          .exit 0)) (
       .seq (
        .block 1 (
          .seq (
           .ops [⟨some 14, .val (.tmp 12), none⟩,
             ⟨some 15, .indexAddr 6 (.tmp 10) (.tmp 12), none⟩,
             ⟨some 16, .load true 6 (.tmp 15), none⟩,
             ⟨some 7, .alloc [(.lit (.int .u8 0)), (.lit (.int .i64 0)), (.lit (.int .i64 0)), (.lit (.int .i64 0)), (.lit (.int .i64 0)), (.sl .nil 0 [])], none⟩,
             ⟨some 6, .val (.tmp 14), none⟩,
             ⟨none, .store 6 (.tmp 7) (.tmp 16), none⟩]) (
          .seq (
           .seq (
            .ops [⟨some 17, .load true 6 (.tmp 7), none⟩,
              ⟨some 18, .iload false 1 (.tmp 3), none⟩,
              ⟨some 19, .call (.val (.fn (.func 64) [] [])) [(.tmp 17), (.tmp 18)], none⟩,
              ⟨some 20, .un .not (.tmp 19), none⟩,
              ⟨some 21, .val (.tmp 20), none⟩,
              ⟨some 22, .fieldAddr 0 (.tmp 7), some (21, false)⟩,
              ⟨some 23, .load false 1 (.tmp 22), some (21, false)⟩,
              ⟨some 24, .call (.val (.fn (.func 65) [] [])) [(.tmp 23)], some (21, false)⟩,
              ⟨some 25, .val (.tmp 24), some (21, false)⟩,
              ⟨some 26, .val (.tmp 6), some (25, true)⟩,
              ⟨some 27, .bin .add .num (.tmp 26) (.val (.lit (.int .i64 1))), some (25, true)⟩,
              ⟨some 28, .fieldAddr 1 (.tmp 2), some (25, true)⟩,
              ⟨some 29, .iload false 1 (.tmp 28), some (25, true)⟩,
              ⟨some 30, .len 1 (.tmp 29), some (25, true)⟩,
              ⟨some 31, .bin .lss .num (.tmp 27) (.tmp 30), some (25, true)⟩,
              ⟨some 32, .pick (.tmp 25) (.tmp 31) (.val (.lit (.bool false))), some (21, false)⟩,
              ⟨some 33, .pick (.tmp 21) (.val (.lit (.bool true))) (.tmp 32), none⟩]) (
           .cond (.tmp 33) (
             .seq (
              .ops [⟨some 4, .val (.val (.lit (.bool false))), none⟩]) (
             .ret)) (
             .skip))) (
          .seq (
           .ops [⟨some 34, .fieldAddr 0 (.tmp 7), none⟩,
             ⟨some 35, .load false 1 (.tmp 34), none⟩]) (
          .block 2 (
            .seq (
             .ops [⟨some 37, .bin .eql .num (.tmp 35) (.val (.lit (.int .u8 12))), none⟩,
               ⟨some 36, .val (.tmp 37), none⟩]) (
            .cond (.tmp 36) (
              .ops [⟨some 5, .val (.val (.lit (.int .i64 2))), none⟩]) (
              .seq (
               .ops [⟨some 39, .bin .eql .num (.tmp 35) (.val (.lit (.int .u8 13))), none⟩,
                 ⟨some 38, .val (.tmp 39), none⟩]) (
              .cond (.tmp 38) (
                .ops [⟨some 5, .val (.val (.lit (.int .i64 0))), none⟩]) (
                .skip)))))))))) (
       .ops [⟨some 40, .bin .add .num (.tmp 12) (.val (.lit (.int .i64 1))), none⟩,
         ⟨some 12, .val (.tmp 40), none⟩])))

def a_flow_block : ACode :=
  .seq (
   .ops [⟨some 2, .box true (.tmp 0), none⟩,
     ⟨some 3, .box true (.tmp 1), none⟩,
     ⟨some 4, .val (.val (.lit (.bool false))), none⟩]) (
  .seq (
   .ops [⟨some 5, .val (.val (.lit (.int .i64 1))), none⟩]) (
  .seq (
   .seq (
    .ops [⟨some 9, .fieldAddr 1 (.tmp 2), none⟩,
      ⟨some 10, .iload false 1 (.tmp 9), none⟩,
      ⟨some 11, .len 1 (.tmp 10), none⟩,
      ⟨some 12, .val (.val (.lit (.int .i64 0))), none⟩]) (
   .block 0 (
     .loop a_flow_blockb1))) (
  .seq (
   .ops [⟨some 41, .mkfn (.func 66) [] [(.tmp 3)], none⟩,
     ⟨some 8, .alloc [(.lit .nilFunc)], none⟩,
     ⟨none, .store 1 (.tmp 8) (.tmp 41), none⟩]) (
  .seq (
   .ops [⟨some 42, .fieldAddr 3 (.tmp 2), none⟩,
     ⟨some 43, .iload false 1 (.tmp 42), none⟩,
     ⟨some 44, .len 1 (.tmp 43), none⟩,
     ⟨some 45, .val (.tmp 5), none⟩,
     ⟨some 46, .bin .eql .num (.tmp 44) (.tmp 45), none⟩,
     ⟨some 47, .val (.tmp 46), none⟩,
     ⟨some 48, .fieldAddr 0 (.tmp 2), some (47, true)⟩,
     ⟨some 49, .iload false 1 (.tmp 48), some (47, true)⟩,
     ⟨some 50, .mkfn (.func 68) [] [(.tmp 8), (.tmp 2)], some (47, true)⟩,
     ⟨some 51, .call (.val (.fn (.func 67) [] [])) [(.tmp 49), (.tmp 50)], some (47, true)⟩,
     ⟨some 52, .un .not (.tmp 51), some (47, true)⟩,
     ⟨some 53, .pick (.tmp 47) (.tmp 52) (.val (.lit (.bool false))), none⟩,
     ⟨some 4, .val (.tmp 53), none⟩]) (
  .ret)))))

theorem c_flow_block : codeOf Tryz.prog { bz := [2, 3], il := [10, 18, 29, 43, 49] } 25 = some (a_flow_block, [.tmp 4], 54) := by kernel_rfl

/-- bobbin/flow.block$1 -/
def a_flow_block_1 : ACode :=
  .seq (
   .ops [⟨some 3, .val (.val (.lit (.bool false))), none⟩]) (
  .seq (
   .ops [⟨some 4, .val (.tmp 0), none⟩,
     ⟨some 5, .bin .lss .num (.tmp 4) (.val (.lit (.int .i64 0))), none⟩,
     ⟨some 6, .val (.tmp 5), none⟩,
     ⟨some 7, .val (.tmp 0), some (6, false)⟩,
     ⟨some 8, .load false 1 (.tmp 1), some (6, false)⟩,
     ⟨some 9, .bin .geq .num (.tmp 7) (.tmp 8), some (6, false)⟩,
     ⟨some 10, .pick (.tmp 6) (.val (.lit (.bool true))) (.tmp 9), none⟩,
     ⟨some 3, .val (.tmp 10), none⟩]) (
  .ret))

theorem c_flow_block_1 : codeOf Tryz.prog {  } 66 = some (a_flow_block_1, [.tmp 3], 11) := by kernel_rfl

/-- bobbin/flow.block$2 -/
def a_flow_block_2 : ACode :=
  .seq (
   .ops [⟨some 3, .box true (.tmp 0), none⟩,
     ⟨some 4, .val (.val (.lit (.bool false))), none⟩]) (
  .seq (
   .ops [⟨some 5, .load false 1 (.tmp 1), none⟩,
     ⟨some 6, .fieldAddr 0 (.tmp 3), none⟩,
     ⟨some 7, .iload false 1 (.tmp 6), none⟩,
     ⟨some 8, .call (.tmp 5) [(.tmp 7)], none⟩,
     ⟨some 9, .val (.tmp 8), none⟩,
     ⟨some 10, .fieldAddr 1 (.tmp 3), some (9, false)⟩,
     ⟨some 11, .iload false 1 (.tmp 10), some (9, false)⟩,
     ⟨some 12, .len 1 (.tmp 11), some (9, false)⟩,
     ⟨some 13, .fieldAddr 2 (.tmp 2), some (9, false)⟩,
     ⟨some 14, .load false 1 (.tmp 13), some (9, false)⟩,
     ⟨some 15, .len 1 (.tmp 14), some (9, false)⟩,
     ⟨some 16, .bin .neq .num (.tmp 12) (.tmp 15), some (9, false)⟩,
     ⟨some 17, .pick (.tmp 9) (.val (.lit (.bool true))) (.tmp 16), none⟩,
     ⟨some 18, .val (.tmp 17), none⟩,
     ⟨some 19, .fieldAddr 1 (.tmp 3), some (18, false)⟩,
     ⟨some 20, .iload false 1 (.tmp 19), some (18, false)⟩,
     ⟨some 21, .load false 1 (.tmp 1), some (18, false)⟩,
     ⟨some 22, .call (.val (.fn (.func 69) [] [])) [(.tmp 20), (.tmp 21)], some (18, false)⟩,
     ⟨some 23, .pick (.tmp 18) (.val (.lit (.bool true))) (.tmp 22), none⟩,
     ⟨some 4, .val (.tmp 23), none⟩]) (
  .ret))

theorem c_flow_block_2 : codeOf Tryz.prog { bz := [3], il := [7, 11, 20] } 68 = some (a_flow_block_2, [.tmp 4], 24) := by kernel_rfl

/-- bobbin/flow.May -/
def a_flow_Mayb1 : ACode :=
       .seq (
        .ops [⟨some 68, .bin .lss .num (.tmp 67) (.tmp 66), none⟩]) (
       .seq (
        .cond (.tmp 68) (
          .skip) (
          .exit 0)) (
       .seq (
        .block 1 (
          .seq (
           .ops [⟨some 69, .val (.tmp 67), none⟩,
             ⟨some 4, .val (.tmp 69), none⟩]) (
          .seq (
           .ops [⟨some 70, .fieldAddr 4 (.tmp 1), none⟩,
             ⟨some 71, .iload false 1 (.tmp 70), none⟩,
             ⟨some 72, .val (.tmp 4), none⟩,
             ⟨some 73, .call (.val (.fn (.func 27) [] [])) [(.tmp 71), (.tmp 72)], none⟩]) (
          .cond (.tmp 73) (
            .seq (
             .ops [⟨some 2, .val (.val (.lit (.bool false))), none⟩]) (
            .ret)) (
            .skip))))) (
       .ops [⟨some 74, .bin .add .num (.tmp 67) (.val (.lit (.int .i64 1))), none⟩,
         ⟨some 67, .val (.tmp 74), none⟩])))

def a_may_rest : ACode :=
  .seq (
   .seq (
    .ops [⟨some 54, .fieldAddr 4 (.tmp 1), none⟩,
      ⟨some 55, .iload false 1 (.tmp 54), none⟩,
      ⟨some 56, .mkfn (.func 24) [] [(.tmp 1)], none⟩,
      ⟨some 57, .call (.val (.fn (.func 23) [] [])) [(.tmp 55), (.tmp 56)], none⟩,
      ⟨some 58, .val (.tmp 57), none⟩,
      ⟨some 59, .fieldAddr 4 (.tmp 1), some (58, false)⟩,
      ⟨some 60, .iload false 1 (.tmp 59), some (58, false)⟩,
      ⟨some 61, .call (.val (.fn (.func 26) [] [])) [(.tmp 60)], some (58, false)⟩,
      ⟨some 62, .un .not (.tmp 61), some (58, false)⟩,
      ⟨some 63, .pick (.tmp 58) (.val (.lit (.bool true))) (.tmp 62), none⟩]) (
   .cond (.tmp 63) (
     .seq (
      .ops [⟨some 2, .val (.val (.lit (.bool false))), none⟩]) (
     .ret)) (
     .skip))) (
  .seq (
   .seq (
    .ops [⟨some 64, .fieldAddr 4 (.tmp 1), none⟩,
      ⟨some 65, .iload false 1 (.tmp 64), none⟩,
      ⟨some 66, .len 1 (.tmp 65), none⟩,
      ⟨some 67, .val (.val (.lit (.int .i64 0))), none⟩]) (
   .block 0 (
     .loop a_flow_Mayb1))) (
  .seq (
   .ops [⟨some 2, .val (.val (.lit (.bool true))), none⟩]) (
  .ret)))

def a_flow_May : ACode :=
  .seq (
   .ops [⟨some 1, .box true (.tmp 0), none⟩,
     ⟨some 2, .val (.val (.lit (.bool false))), none⟩]) (
  .seq (
   .ops [⟨some 5, .fieldAddr 4 (.tmp 1), none⟩,
     ⟨some 6, .iload false 1 (.tmp 5), none⟩,
     ⟨some 7, .len 1 (.tmp 6), none⟩,
     ⟨some 3, .val (.tmp 7), none⟩]) (
  .seq (
   .seq (
    .ops [⟨some 8, .fieldAddr 2 (.tmp 1), none⟩,
      ⟨some 9, .iload false 1 (.tmp 8), none⟩,
      ⟨some 10, .bin .lss .num (.tmp 9) (.val (.lit (.int .i64 0))), none⟩,
      ⟨some 11, .val (.tmp 10), none⟩,
      ⟨some 12, .fieldAddr 2 (.tmp 1), some (11, false)⟩,
      ⟨some 13, .iload false 1 (.tmp 12), some (11, false)⟩,
      ⟨some 14, .bin .gtr .num (.tmp 13) (.val (.lit (.int .i64 8))), some (11, false)⟩,
      ⟨some 15, .pick (.tmp 11) (.val (.lit (.bool true))) (.tmp 14), none⟩,
      ⟨some 16, .val (.tmp 15), none⟩,
      ⟨some 17, .fieldAddr 1 (.tmp 1), some (16, false)⟩,
      ⟨some 18, .iload false 1 (.tmp 17), some (16, false)⟩,
      ⟨some 19, .val (.tmp 18), some (16, false)⟩,
      ⟨some 20, .fieldAddr 2 (.tmp 1), some (19, true)⟩,
      ⟨some 21, .iload false 1 (.tmp 20), some (19, true)⟩,
      ⟨some 22, .bin .gtr .num (.tmp 21) (.val (.lit (.int .i64 0))), some (19, true)⟩,
      ⟨some 23, .pick (.tmp 19) (.tmp 22) (.val (.lit (.bool false))), some (16, false)⟩,
      ⟨some 24, .pick (.tmp 16) (.val (.lit (.bool true))) (.tmp 23), none⟩,
      ⟨some 25, .val (.tmp 24), none⟩,
      ⟨some 26, .fieldAddr 3 (.tmp 1), some (25, false)⟩,
      ⟨some 27, .iload false 1 (.tmp 26), some (25, false)⟩,
      ⟨some 28, .fieldAddr 2 (.tmp 1), some (25, false)⟩,
      ⟨some 29, .iload false 1 (.tmp 28), some (25, false)⟩,
      ⟨some 30, .bin .lss .num (.tmp 27) (.tmp 29), some (25, false)⟩,
      ⟨some 31, .pick (.tmp 25) (.val (.lit (.bool true))) (.tmp 30), none⟩,
      ⟨some 32, .val (.tmp 31), none⟩,
      ⟨some 33, .fieldAddr 3 (.tmp 1), some (32, false)⟩,
      ⟨some 34, .iload false 1 (.tmp 33), some (32, false)⟩,
      ⟨some 35, .bin .gtr .num (.tmp 34) (.val (.lit (.int .i64 65536))), some (32, false)⟩,
      ⟨some 36, .pick (.tmp 32) (.val (.lit (.bool true))) (.tmp 35), none⟩,
      ⟨some 37, .val (.tmp 36), none⟩,
      ⟨some 38, .val (.tmp 3), some (37, false)⟩,
      ⟨some 39, .bin .lss .num (.tmp 38) (.val (.lit (.int .i64 1))), some (37, false)⟩,
      ⟨some 40, .pick (.tmp 37) (.val (.lit (.bool true))) (.tmp 39), none⟩,
      ⟨some 41, .val (.tmp 40), none⟩,
      ⟨some 42, .val (.tmp 3), some (41, false)⟩,
      ⟨some 43, .bin .gtr .num (.tmp 42) (.val (.lit (.int .i64 32768))), some (41, false)⟩,
      ⟨some 44, .pick (.tmp 41) (.val (.lit (.bool true))) (.tmp 43), none⟩,
      ⟨some 45, .val (.tmp 44), none⟩,
      ⟨some 46, .fieldAddr 4 (.tmp 1), some (45, false)⟩,
      ⟨some 47, .iload false 1 (.tmp 46), some (45, false)⟩,
      ⟨some 48, .indexAddr 4 (.tmp 47) (.val (.lit (.int .i64 0))), some (45, false)⟩,
      ⟨some 49, .fieldAddr 0 (.tmp 48), some (45, false)⟩,
      ⟨some 50, .load false 1 (.tmp 49), some (45, false)⟩,
      ⟨some 51, .len 1 (.tmp 50), some (45, false)⟩,
      ⟨some 52, .bin .gtr .num (.tmp 51) (.val (.lit (.int .i64 0))), some (45, false)⟩,
      ⟨some 53, .pick (.tmp 45) (.val (.lit (.bool true))) (.tmp 52), none⟩]) (
   .cond (.tmp 53) (
     .seq (
      .ops [⟨some 2, .val (.val (.lit (.bool false))), none⟩]) (
     .ret)) (
     .skip))) a_may_rest))

theorem c_flow_May : codeOf Tryz.prog { bz := [1], il := [6, 9, 13, 18, 21, 27, 29, 34, 47, 55, 60, 65, 71] } 8 = some (a_flow_May, [.tmp 2], 75) := by kernel_rfl

/-- bobbin/flow.May$1 -/
def a_flow_May_1 : ACode :=
  .seq (
   .ops [⟨some 2, .box true (.tmp 0), none⟩,
     ⟨some 3, .val (.val (.lit (.bool false))), none⟩]) (
  .seq (
   .ops [⟨some 4, .iload true 4 (.tmp 2), none⟩,
     ⟨some 5, .fieldAddr 3 (.tmp 1), none⟩,
     ⟨some 6, .load false 1 (.tmp 5), none⟩,
     ⟨some 7, .call (.val (.fn (.func 25) [] [])) [(.tmp 4), (.tmp 6)], none⟩,
     ⟨some 8, .un .not (.tmp 7), none⟩,
     ⟨some 3, .val (.tmp 8), none⟩]) (
  .ret))

theorem c_flow_May_1 : codeOf Tryz.prog { bz := [2], il := [4] } 24 = some (a_flow_May_1, [.tmp 3], 9) := by kernel_rfl

/-- bobbin/flow.bare -/
def a_flow_bareb1 : ACode :=
       .seq (
        .ops [⟨some 15, .bin .lss .num (.tmp 14) (.tmp 13), none⟩]) (
       .seq (
        .cond (.tmp 15) (
          .skip) (
          .exit 0)) (
       .seq (
        .block 1 (
          .seq (
           .ops [⟨some 16, .indexAddr 5 (.tmp 12) (.tmp 14), none⟩,
             ⟨some 17, .load true 5 (.tmp 16), none⟩,
             ⟨some 5, .alloc [(.lit (.string ⟨#[]⟩)), (.lit (.bool false)), (.lit (.int .i64 0)), (.lit (.int .i64 0)), (.sl .nil 0 [])], none⟩,
             ⟨none, .store 5 (.tmp 5) (.tmp 17), none⟩]) (
          .ops [⟨some 18, .fieldAddr 2 (.tmp 3), none⟩,
            ⟨some 19, .load false 1 (.tmp 18), none⟩,
            ⟨some 20, .fieldAddr 0 (.tmp 5), none⟩,
            ⟨some 21, .load false 1 (.tmp 20), none⟩,
            ⟨some 22, .fieldAddr 1 (.tmp 5), none⟩,
            ⟨some 23, .load false 1 (.tmp 22), none⟩,
            ⟨some 24, .fieldAddr 2 (.tmp 5), none⟩,
            ⟨some 25, .load false 1 (.tmp 24), none⟩,
            ⟨some 26, .fieldAddr 2 (.tmp 5), none⟩,
            ⟨some 27, .load false 1 (.tmp 26), none⟩,
            ⟨some 28, .build [(.lit (.int .u8 0)), (.lit (.int .i64 0)), (.lit (.int .i64 0)), (.lit (.int .i64 0)), (.lit (.int .i64 0)), (.sl .nil 0 [])] [(0, 1, (.val (.lit (.int .u8 11))))], none⟩,
            ⟨some 29, .bslice false 6 1 [(.lit (.int .u8 0)), (.lit (.int .i64 0)), (.lit (.int .i64 0)), (.lit (.int .i64 0)), (.lit (.int .i64 0)), (.sl .nil 0 [])] [(0, 6, (.tmp 28))], none⟩,
            ⟨some 30, .build [(.lit (.string ⟨#[]⟩)), (.lit (.bool false)), (.lit (.int .i64 0)), (.lit (.int .i64 0)), (.sl .nil 0 [])] [(0, 1, (.tmp 21)), (1, 1, (.tmp 23)), (2, 1, (.tmp 25)), (3, 1, (.tmp 27)), (4, 1, (.tmp 29))], none⟩,
            ⟨some 31, .bslice false 5 1 [(.lit (.string ⟨#[]⟩)), (.lit (.bool false)), (.lit (.int .i64 0)), (.lit (.int .i64 0)), (.sl .nil 0 [])] [(0, 5, (.tmp 30))], none⟩,
            ⟨some 32, .append false 5 64 (.tmp 19) (.tmp 31), none⟩,
            ⟨some 33, .fieldAddr 2 (.tmp 3), none⟩,
            ⟨none, .store 1 (.tmp 33) (.tmp 32), none⟩]))) (
       .ops [⟨some 34, .bin .add .num (.tmp 14) (.val (.lit (.int .i64 1))), none⟩,
         ⟨some 14, .val (.tmp 34), none⟩])))

def a_flow_bare : ACode :=
  .seq (
   .ops [⟨some 1, .box true (.tmp 0), none⟩,
     ⟨some 2, .alloc [(.sl .nil 0 []), (.sl .nil 0 []), (.sl .nil 0 [])], none⟩]) (
  .seq (
   .ops [⟨some 6, .fieldAddr 0 (.tmp 1), none⟩,
     ⟨some 7, .iload false 1 (.tmp 6), none⟩,
     ⟨some 8, .fieldAddr 1 (.tmp 1), none⟩,
     ⟨some 9, .iload false 1 (.tmp 8), none⟩,
     ⟨some 10, .build [(.sl .nil 0 []), (.sl .nil 0 []), (.sl .nil 0 [])] [(0, 1, (.tmp 7)), (1, 1, (.tmp 9))], none⟩,
     ⟨some 3, .alloc [(.sl .nil 0 []), (.sl .nil 0 []), (.sl .nil 0 [])], none⟩,
     ⟨none, .store 3 (.tmp 3) (.tmp 10), none⟩]) (
  .seq (
   .seq (
    .ops [⟨some 11, .fieldAddr 2 (.tmp 1), none⟩,
      ⟨some 12, .iload false 1 (.tmp 11), none⟩,
      ⟨some 13, .len 1 (.tmp 12), none⟩,
      ⟨some 14, .val (.val (.lit (.int .i64 0))), none⟩]) (
   .block 0 (
     .loop a_flow_bareb1))) (
  .seq (
   .ops [⟨some 35, .load true 3 (.tmp 3), none⟩,
     ⟨none, .store 3 (.tmp 2) (.tmp 35), none⟩]) (
  .ret))))

theorem c_flow_bare : codeOf Tryz.prog { bz := [1], il := [7, 9, 12] } 34 = some (a_flow_bare, [.cell 2 3 true], 36) := by kernel_rfl

/-- bobbin/flow.MayForm -/
def a_flow_MayFormb1 : ACode :=
              .seq (
               .ops [⟨some 35, .bin .lss .num (.tmp 34) (.tmp 33), none⟩]) (
              .seq (
               .cond (.tmp 35) (
                 .skip) (
                 .exit 2)) (
              .seq (
               .block 3 (
                 .seq (
                  .ops [⟨some 36, .indexAddr 4 (.tmp 32) (.tmp 34), none⟩,
                    ⟨some 37, .load true 4 (.tmp 36), none⟩,
                    ⟨some 7, .alloc [(.sl .nil 0 []), (.sl .nil 0 []), (.sl .nil 0 []), (.sl .nil 0 [])], none⟩,
                    ⟨none, .store 4 (.tmp 7) (.tmp 37), none⟩]) (
                 .seq (
                  .ops [⟨some 38, .fieldAddr 1 (.tmp 7), none⟩,
                    ⟨some 39, .load false 1 (.tmp 38), none⟩,
                    ⟨some 40, .mkfn (.func 36) [] [(.tmp 3), (.tmp 4)], none⟩,
                    ⟨some 41, .call (.val (.fn (.func 35) [] [])) [(.tmp 39), (.tmp 40)], none⟩]) (
                 .cond (.tmp 41) (
                   .seq (
                    .ops [⟨some 2, .val (.val (.lit (.bool false))), none⟩]) (
                   .ret)) (
                   .skip))))) (
              .ops [⟨some 42, .bin .add .num (.tmp 34) (.val (.lit (.int .i64 1))), none⟩,
                ⟨some 34, .val (.tmp 42), none⟩])))

def a_flow_MayFormb2 : ACode :=
       .seq (
        .ops [⟨some 17, .bin .lss .num (.tmp 16) (.tmp 15), none⟩]) (
       .seq (
        .cond (.tmp 17) (
          .skip) (
          .exit 0)) (
       .seq (
        .block 1 (
          .seq (
           .ops [⟨some 18, .val (.tmp 16), none⟩,
             ⟨some 19, .indexAddr 5 (.tmp 14) (.tmp 16), none⟩,
             ⟨some 20, .load true 5 (.tmp 19), none⟩,
             ⟨some 4, .alloc [(.lit (.int .i64 0))], none⟩,
             ⟨some 5, .alloc [(.lit (.string ⟨#[]⟩)), (.lit (.bool false)), (.lit (.int .i64 0)), (.lit (.int .i64 0)), (.sl .nil 0 [])], none⟩,
             ⟨none, .store 1 (.tmp 4) (.tmp 18), none⟩,
             ⟨none, .store 5 (.tmp 5) (.tmp 20), none⟩]) (
          .seq (
           .seq (
            .ops [⟨some 21, .load true 5 (.tmp 5), none⟩,
              ⟨some 22, .call (.val (.fn (.func 8) [] [])) [(.tmp 21)], none⟩,
              ⟨some 23, .un .not (.tmp 22), none⟩]) (
           .cond (.tmp 23) (
             .seq (
              .ops [⟨some 2, .val (.val (.lit (.bool false))), none⟩]) (
             .ret)) (
             .skip))) (
          .seq (
           .ops [⟨some 24, .fieldAddr 2 (.tmp 3), none⟩,
             ⟨some 25, .load false 1 (.tmp 24), none⟩,
             ⟨some 26, .load false 1 (.tmp 4), none⟩,
             ⟨some 27, .fieldAddr 3 (.tmp 5), none⟩,
             ⟨some 28, .load false 1 (.tmp 27), none⟩,
             ⟨some 29, .indexAddr 5 (.tmp 25) (.tmp 26), none⟩,
             ⟨some 30, .fieldAddr 3 (.tmp 29), none⟩,
             ⟨none, .store 1 (.tmp 30) (.tmp 28), none⟩]) (
          .seq (
           .ops [⟨some 31, .fieldAddr 4 (.tmp 5), none⟩,
             ⟨some 32, .load false 1 (.tmp 31), none⟩,
             ⟨some 33, .len 1 (.tmp 32), none⟩,
             ⟨some 34, .val (.val (.lit (.int .i64 0))), none⟩]) (
          .block 2 (
            .loop a_flow_MayFormb1))))))) (
       .ops [⟨some 43, .bin .add .num (.tmp 16) (.val (.lit (.int .i64 1))), none⟩,
         ⟨some 16, .val (.tmp 43), none⟩])))

def a_flow_MayForm : ACode :=
  .seq (
   .ops [⟨some 1, .box true (.tmp 0), none⟩,
     ⟨some 2, .val (.val (.lit (.bool false))), none⟩]) (
  .seq (
   .ops [⟨some 8, .iload true 3 (.tmp 1), none⟩,
     ⟨some 9, .call (.val (.fn (.func 34) [] [])) [(.tmp 8)], none⟩,
     ⟨some 3, .alloc [(.sl .nil 0 []), (.sl .nil 0 []), (.sl .nil 0 [])], none⟩,
     ⟨none, .store 3 (.tmp 3) (.tmp 9), none⟩]) (
  .seq (
   .seq (
    .ops [⟨some 10, .load true 3 (.tmp 3), none⟩,
      ⟨some 11, .call (.val (.fn (.func 20) [] [])) [(.tmp 10)], none⟩,
      ⟨some 12, .un .not (.tmp 11), none⟩]) (
   .cond (.tmp 12) (
     .seq (
      .ops [⟨some 2, .val (.val (.lit (.bool false))), none⟩]) (
     .ret)) (
     .skip))) (
  .seq (
   .seq (
    .ops [⟨some 13, .fieldAddr 2 (.tmp 1), none⟩,
      ⟨some 14, .iload false 1 (.tmp 13), none⟩,
      ⟨some 15, .len 1 (.tmp 14), none⟩,
      ⟨some 16, .val (.val (.lit (.int .i64 0))), none⟩]) (
   .block 0 (
     .loop a_flow_MayFormb2))) (
  .seq (
   .ops [⟨some 2, .val (.val (.lit (.bool true))), none⟩]) (
  .ret)))))

theorem c_flow_MayForm : codeOf Tryz.prog { bz := [1], il := [8, 14] } 12 = some (a_flow_MayForm, [.tmp 2], 44) := by kernel_rfl

/-- bobbin/flow.MayForm$1 -/
def a_flow_MayForm_1 : ACode :=
  .seq (
   .ops [⟨some 3, .box true (.tmp 0), none⟩,
     ⟨some 4, .val (.val (.lit (.bool false))), none⟩]) (
  .seq (
   .ops [⟨some 5, .load true 3 (.tmp 1), none⟩,
     ⟨some 6, .load false 1 (.tmp 2), none⟩,
     ⟨some 7, .iload true 6 (.tmp 3), none⟩,
     ⟨some 8, .call (.val (.fn (.func 37) [] [])) [(.tmp 5), (.tmp 6), (.tmp 7)], none⟩,
     ⟨some 9, .un .not (.tmp 8), none⟩,
     ⟨some 4, .val (.tmp 9), none⟩]) (
  .ret))

theorem c_flow_MayForm_1 : codeOf Tryz.prog { bz := [3], il := [7] } 36 = some (a_flow_MayForm_1, [.tmp 4], 10) := by kernel_rfl

end Go.Proofs.YtcoepjbipbihfaaGreatDoor
