/- The short forms are those of the program's functions, checked one by one. -/
import Derived.Test.YtfekancobbplaaaBbG3
import Derived.Test.YtfekancobbplaaaBbTab
import Derived.Test.YtfekancobbplaaaChecked
import Derived.KernelRfl
namespace Go.Proofs.Ytfekancobbplaaa
open Go.Bb
set_option maxRecDepth 100000
def ids : List (Nat × FuncId) := [(7, 3), (26, 8), (27, 9), (28, 10), (29, 11), (30, 12), (31, 13), (51, 27), (52, 26), (53, 41), (54, 42), (55, 43), (56, 44), (57, 45), (58, 46), (64, 67), (73, 64), (74, 65), (75, 66), (80, 74)]
theorem row7 : RowOk Try.prog (numOf ids) tab (7, 3) := rowOk Try.f3 h_bandboxlaw13_DiskApart ir_bandboxlaw13_DiskApart Try.func3 rfl (by kernel_rfl) (by kernel_rfl) (by kernel_rfl)
theorem row26 : RowOk Try.prog (numOf ids) tab (26, 8) := rowOk Try.f8 h_bandboxlaw13_awake ir_bandboxlaw13_awake Try.func8 rfl (by kernel_rfl) (by kernel_rfl) (by kernel_rfl)
theorem row27 : RowOk Try.prog (numOf ids) tab (27, 9) := rowOk Try.f9 h_disk_New ir_disk_New Try.func9 rfl (by kernel_rfl) (by kernel_rfl) (by kernel_rfl)
theorem row28 : RowOk Try.prog (numOf ids) tab (28, 10) := rowOk Try.f10 h_disk_Disk_Append ir_disk_Disk_Append Try.func10 rfl (by kernel_rfl) (by kernel_rfl) (by kernel_rfl)
theorem row29 : RowOk Try.prog (numOf ids) tab (29, 11) := rowOk Try.f11 h_disk_Disk_Crash ir_disk_Disk_Crash Try.func11 rfl (by kernel_rfl) (by kernel_rfl) (by kernel_rfl)
theorem row30 : RowOk Try.prog (numOf ids) tab (30, 12) := rowOk Try.f12 h_disk_Disk_On ir_disk_Disk_On Try.func12 rfl (by kernel_rfl) (by kernel_rfl) (by kernel_rfl)
theorem row31 : RowOk Try.prog (numOf ids) tab (31, 13) := rowOk Try.f13 h_disk_Disk_Read ir_disk_Disk_Read Try.func13 rfl (by kernel_rfl) (by kernel_rfl) (by kernel_rfl)
theorem row51 : RowOk Try.prog (numOf ids) tab (51, 27) := rowOk Try.f27 h_disk_Disk_Lives ir_disk_Disk_Lives Try.func27 rfl (by kernel_rfl) (by kernel_rfl) (by kernel_rfl)
theorem row52 : RowOk Try.prog (numOf ids) tab (52, 26) := rowOk Try.f26 h_disk_Disk_Power ir_disk_Disk_Power Try.func26 rfl (by kernel_rfl) (by kernel_rfl) (by kernel_rfl)
theorem row53 : RowOk Try.prog (numOf ids) tab (53, 41) := rowOk Try.f41 h_disk_Disk_ask ir_disk_Disk_ask Try.func41 rfl (by kernel_rfl) (by kernel_rfl) (by kernel_rfl)
theorem row54 : RowOk Try.prog (numOf ids) tab (54, 42) := rowOk Try.f42 h_disk_Disk_size ir_disk_Disk_size Try.func42 rfl (by kernel_rfl) (by kernel_rfl) (by kernel_rfl)
theorem row55 : RowOk Try.prog (numOf ids) tab (55, 43) := rowOk Try.f43 h_slices_Clone_byte_byte ir_slices_Clone_byte_byte Try.func43 rfl (by kernel_rfl) (by kernel_rfl) (by kernel_rfl)
theorem row56 : RowOk Try.prog (numOf ids) tab (56, 44) := rowOk Try.f44 h_disk_file_crash ir_disk_file_crash Try.func44 rfl (by kernel_rfl) (by kernel_rfl) (by kernel_rfl)
theorem row57 : RowOk Try.prog (numOf ids) tab (57, 45) := rowOk Try.f45 h_disk_Disk_find ir_disk_Disk_find Try.func45 rfl (by kernel_rfl) (by kernel_rfl) (by kernel_rfl)
theorem row58 : RowOk Try.prog (numOf ids) tab (58, 46) := rowOk Try.f46 h_disk_file_all ir_disk_file_all Try.func46 rfl (by kernel_rfl) (by kernel_rfl) (by kernel_rfl)
theorem row64 : RowOk Try.prog (numOf ids) tab (64, 67) := rowOk Try.f67 h_slices_Concat_byte_byte ir_slices_Concat_byte_byte Try.func67 rfl (by kernel_rfl) (by kernel_rfl) (by kernel_rfl)
theorem row73 : RowOk Try.prog (numOf ids) tab (73, 64) := rowOk Try.f64 h_disk_good ir_disk_good Try.func64 rfl (by kernel_rfl) (by kernel_rfl) (by kernel_rfl)
theorem row74 : RowOk Try.prog (numOf ids) tab (74, 65) := rowOk Try.f65 h_disk_file_size ir_disk_file_size Try.func65 rfl (by kernel_rfl) (by kernel_rfl) (by kernel_rfl)
theorem row75 : RowOk Try.prog (numOf ids) tab (75, 66) := rowOk Try.f66 h_disk_file_crash_1 ir_disk_file_crash_1 Try.func66 rfl (by kernel_rfl) (by kernel_rfl) (by kernel_rfl)
theorem row80 : RowOk Try.prog (numOf ids) tab (80, 74) := rowOk Try.f74 h_slices_Grow_byte_byte ir_slices_Grow_byte_byte Try.func74 rfl (by kernel_rfl) (by kernel_rfl) (by kernel_rfl)
theorem rows : ∀ p ∈ ids, RowOk Try.prog (numOf ids) tab p := List.forall_mem_cons.2 ⟨row7, List.forall_mem_cons.2 ⟨row26, List.forall_mem_cons.2 ⟨row27, List.forall_mem_cons.2 ⟨row28, List.forall_mem_cons.2 ⟨row29, List.forall_mem_cons.2 ⟨row30, List.forall_mem_cons.2 ⟨row31, List.forall_mem_cons.2 ⟨row51, List.forall_mem_cons.2 ⟨row52, List.forall_mem_cons.2 ⟨row53, List.forall_mem_cons.2 ⟨row54, List.forall_mem_cons.2 ⟨row55, List.forall_mem_cons.2 ⟨row56, List.forall_mem_cons.2 ⟨row57, List.forall_mem_cons.2 ⟨row58, List.forall_mem_cons.2 ⟨row64, List.forall_mem_cons.2 ⟨row73, List.forall_mem_cons.2 ⟨row74, List.forall_mem_cons.2 ⟨row75, List.forall_mem_cons.2 ⟨row80, (by intro p hp; cases hp)⟩⟩⟩⟩⟩⟩⟩⟩⟩⟩⟩⟩⟩⟩⟩⟩⟩⟩⟩⟩
noncomputable def env : EnvT tab := envOf Try.prog tab ids (by decide) rows (full_of (by decide +kernel))
end Go.Proofs.Ytfekancobbplaaa
