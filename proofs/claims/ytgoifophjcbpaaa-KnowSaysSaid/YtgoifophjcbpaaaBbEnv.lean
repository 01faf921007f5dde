/- The short forms are those of the program's functions, checked one by one. -/
import Derived.Test.YtgoifophjcbpaaaBbG3
import Derived.Test.YtgoifophjcbpaaaBbTab
import Derived.Test.YtgoifophjcbpaaaChecked
import Derived.KernelRfl
namespace Go.Proofs.Ytgoifophjcbpaaa
open Go.Bb
set_option maxRecDepth 100000
def ids : List (Nat × FuncId) := [(5, 7), (15, 17), (16, 18), (17, 19), (18, 20), (19, 21), (20, 22), (21, 23), (22, 24), (23, 25), (24, 26), (25, 27), (44, 46), (45, 47), (46, 48), (47, 49), (48, 50), (49, 51), (50, 52)]
theorem row5 : RowOk Try.prog (numOf ids) tab (5, 7) := rowOk Try.f7 h_bandboxlaw18_KnowSays ir_bandboxlaw18_KnowSays Try.func7 rfl (by kernel_rfl) (by kernel_rfl) (by kernel_rfl)
theorem row15 : RowOk Try.prog (numOf ids) tab (15, 17) := rowOk Try.f17 h_bandboxlaw18_awake ir_bandboxlaw18_awake Try.func17 rfl (by kernel_rfl) (by kernel_rfl) (by kernel_rfl)
theorem row16 : RowOk Try.prog (numOf ids) tab (16, 18) := rowOk Try.f18 h_know_Good ir_know_Good Try.func18 rfl (by kernel_rfl) (by kernel_rfl) (by kernel_rfl)
theorem row17 : RowOk Try.prog (numOf ids) tab (17, 19) := rowOk Try.f19 h_know_All ir_know_All Try.func19 rfl (by kernel_rfl) (by kernel_rfl) (by kernel_rfl)
theorem row18 : RowOk Try.prog (numOf ids) tab (18, 20) := rowOk Try.f20 h_bandboxlaw18_has ir_bandboxlaw18_has Try.func20 rfl (by kernel_rfl) (by kernel_rfl) (by kernel_rfl)
theorem row19 : RowOk Try.prog (numOf ids) tab (19, 21) := rowOk Try.f21 h_bandboxlaw18_same ir_bandboxlaw18_same Try.func21 rfl (by kernel_rfl) (by kernel_rfl) (by kernel_rfl)
theorem row20 : RowOk Try.prog (numOf ids) tab (20, 22) := rowOk Try.f22 h_know_Can ir_know_Can Try.func22 rfl (by kernel_rfl) (by kernel_rfl) (by kernel_rfl)
theorem row21 : RowOk Try.prog (numOf ids) tab (21, 23) := rowOk Try.f23 h_know_Same ir_know_Same Try.func23 rfl (by kernel_rfl) (by kernel_rfl) (by kernel_rfl)
theorem row22 : RowOk Try.prog (numOf ids) tab (22, 24) := rowOk Try.f24 h_bandboxref15_Know ir_bandboxref15_Know Try.func24 rfl (by kernel_rfl) (by kernel_rfl) (by kernel_rfl)
theorem row23 : RowOk Try.prog (numOf ids) tab (23, 25) := rowOk Try.f25 h_bandboxlaw18_things ir_bandboxlaw18_things Try.func25 rfl (by kernel_rfl) (by kernel_rfl) (by kernel_rfl)
theorem row24 : RowOk Try.prog (numOf ids) tab (24, 26) := rowOk Try.f26 h_bandboxref15_SameThing ir_bandboxref15_SameThing Try.func26 rfl (by kernel_rfl) (by kernel_rfl) (by kernel_rfl)
theorem row25 : RowOk Try.prog (numOf ids) tab (25, 27) := rowOk Try.f27 h_bandboxref15_GoodTable ir_bandboxref15_GoodTable Try.func27 rfl (by kernel_rfl) (by kernel_rfl) (by kernel_rfl)
theorem row44 : RowOk Try.prog (numOf ids) tab (44, 46) := rowOk Try.f46 h_bandboxlaw18_box ir_bandboxlaw18_box Try.func46 rfl (by kernel_rfl) (by kernel_rfl) (by kernel_rfl)
theorem row45 : RowOk Try.prog (numOf ids) tab (45, 47) := rowOk Try.f47 h_know_below ir_know_below Try.func47 rfl (by kernel_rfl) (by kernel_rfl) (by kernel_rfl)
theorem row46 : RowOk Try.prog (numOf ids) tab (46, 48) := rowOk Try.f48 h_know_firsts ir_know_firsts Try.func48 rfl (by kernel_rfl) (by kernel_rfl) (by kernel_rfl)
theorem row47 : RowOk Try.prog (numOf ids) tab (47, 49) := rowOk Try.f49 h_know_knower_learn ir_know_knower_learn Try.func49 rfl (by kernel_rfl) (by kernel_rfl) (by kernel_rfl)
theorem row48 : RowOk Try.prog (numOf ids) tab (48, 50) := rowOk Try.f50 h_know_knower_step ir_know_knower_step Try.func50 rfl (by kernel_rfl) (by kernel_rfl) (by kernel_rfl)
theorem row49 : RowOk Try.prog (numOf ids) tab (49, 51) := rowOk Try.f51 h_know_knower_has ir_know_knower_has Try.func51 rfl (by kernel_rfl) (by kernel_rfl) (by kernel_rfl)
theorem row50 : RowOk Try.prog (numOf ids) tab (50, 52) := rowOk Try.f52 h_bandboxref15_like ir_bandboxref15_like Try.func52 rfl (by kernel_rfl) (by kernel_rfl) (by kernel_rfl)
theorem rows : ∀ p ∈ ids, RowOk Try.prog (numOf ids) tab p := List.forall_mem_cons.2 ⟨row5, List.forall_mem_cons.2 ⟨row15, List.forall_mem_cons.2 ⟨row16, List.forall_mem_cons.2 ⟨row17, List.forall_mem_cons.2 ⟨row18, List.forall_mem_cons.2 ⟨row19, List.forall_mem_cons.2 ⟨row20, List.forall_mem_cons.2 ⟨row21, List.forall_mem_cons.2 ⟨row22, List.forall_mem_cons.2 ⟨row23, List.forall_mem_cons.2 ⟨row24, List.forall_mem_cons.2 ⟨row25, List.forall_mem_cons.2 ⟨row44, List.forall_mem_cons.2 ⟨row45, List.forall_mem_cons.2 ⟨row46, List.forall_mem_cons.2 ⟨row47, List.forall_mem_cons.2 ⟨row48, List.forall_mem_cons.2 ⟨row49, List.forall_mem_cons.2 ⟨row50, (by intro p hp; cases hp)⟩⟩⟩⟩⟩⟩⟩⟩⟩⟩⟩⟩⟩⟩⟩⟩⟩⟩⟩
noncomputable def env : EnvT tab := envOf Try.prog tab ids (by decide) rows (full_of (by decide +kernel))
end Go.Proofs.Ytgoifophjcbpaaa
