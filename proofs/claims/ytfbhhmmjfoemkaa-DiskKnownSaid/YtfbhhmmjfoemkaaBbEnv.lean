/- The short forms are those of the program's functions, checked one by one. -/
import Derived.Test.YtfbhhmmjfoemkaaBbG3
import Derived.Test.YtfbhhmmjfoemkaaBbTab
import Derived.Test.YtfbhhmmjfoemkaaChecked
import Derived.KernelRfl
namespace Go.Proofs.Ytfbhhmmjfoemkaa
open Go.Bb
set_option maxRecDepth 100000
def ids : List (Nat × FuncId) := [(26, 15), (27, 16), (28, 17), (29, 18), (30, 19), (31, 20), (34, 21), (51, 44), (52, 43), (53, 56), (54, 57), (55, 58), (56, 59), (57, 60), (58, 61), (60, 62), (64, 67), (73, 91), (74, 92), (75, 93), (80, 98), (98, 9), (103, 32), (104, 33), (105, 34)]
theorem row26 : RowOk Try.prog (numOf ids) tab (26, 15) := rowOk Try.f15 h_bandboxlaw13_awake ir_bandboxlaw13_awake Try.func15 rfl (by kernel_rfl) (by kernel_rfl) (by kernel_rfl)
theorem row27 : RowOk Try.prog (numOf ids) tab (27, 16) := rowOk Try.f16 h_disk_New ir_disk_New Try.func16 rfl (by kernel_rfl) (by kernel_rfl) (by kernel_rfl)
theorem row28 : RowOk Try.prog (numOf ids) tab (28, 17) := rowOk Try.f17 h_disk_Disk_Append ir_disk_Disk_Append Try.func17 rfl (by kernel_rfl) (by kernel_rfl) (by kernel_rfl)
theorem row29 : RowOk Try.prog (numOf ids) tab (29, 18) := rowOk Try.f18 h_disk_Disk_Crash ir_disk_Disk_Crash Try.func18 rfl (by kernel_rfl) (by kernel_rfl) (by kernel_rfl)
theorem row30 : RowOk Try.prog (numOf ids) tab (30, 19) := rowOk Try.f19 h_disk_Disk_On ir_disk_Disk_On Try.func19 rfl (by kernel_rfl) (by kernel_rfl) (by kernel_rfl)
theorem row31 : RowOk Try.prog (numOf ids) tab (31, 20) := rowOk Try.f20 h_disk_Disk_Read ir_disk_Disk_Read Try.func20 rfl (by kernel_rfl) (by kernel_rfl) (by kernel_rfl)
theorem row34 : RowOk Try.prog (numOf ids) tab (34, 21) := rowOk Try.f21 h_disk_Disk_Sync ir_disk_Disk_Sync Try.func21 rfl (by kernel_rfl) (by kernel_rfl) (by kernel_rfl)
theorem row51 : RowOk Try.prog (numOf ids) tab (51, 44) := rowOk Try.f44 h_disk_Disk_Lives ir_disk_Disk_Lives Try.func44 rfl (by kernel_rfl) (by kernel_rfl) (by kernel_rfl)
theorem row52 : RowOk Try.prog (numOf ids) tab (52, 43) := rowOk Try.f43 h_disk_Disk_Power ir_disk_Disk_Power Try.func43 rfl (by kernel_rfl) (by kernel_rfl) (by kernel_rfl)
theorem row53 : RowOk Try.prog (numOf ids) tab (53, 56) := rowOk Try.f56 h_disk_Disk_ask ir_disk_Disk_ask Try.func56 rfl (by kernel_rfl) (by kernel_rfl) (by kernel_rfl)
theorem row54 : RowOk Try.prog (numOf ids) tab (54, 57) := rowOk Try.f57 h_disk_Disk_size ir_disk_Disk_size Try.func57 rfl (by kernel_rfl) (by kernel_rfl) (by kernel_rfl)
theorem row55 : RowOk Try.prog (numOf ids) tab (55, 58) := rowOk Try.f58 h_slices_Clone_byte_byte ir_slices_Clone_byte_byte Try.func58 rfl (by kernel_rfl) (by kernel_rfl) (by kernel_rfl)
theorem row56 : RowOk Try.prog (numOf ids) tab (56, 59) := rowOk Try.f59 h_disk_file_crash ir_disk_file_crash Try.func59 rfl (by kernel_rfl) (by kernel_rfl) (by kernel_rfl)
theorem row57 : RowOk Try.prog (numOf ids) tab (57, 60) := rowOk Try.f60 h_disk_Disk_find ir_disk_Disk_find Try.func60 rfl (by kernel_rfl) (by kernel_rfl) (by kernel_rfl)
theorem row58 : RowOk Try.prog (numOf ids) tab (58, 61) := rowOk Try.f61 h_disk_file_all ir_disk_file_all Try.func61 rfl (by kernel_rfl) (by kernel_rfl) (by kernel_rfl)
theorem row60 : RowOk Try.prog (numOf ids) tab (60, 62) := rowOk Try.f62 h_disk_file_sync ir_disk_file_sync Try.func62 rfl (by kernel_rfl) (by kernel_rfl) (by kernel_rfl)
theorem row64 : RowOk Try.prog (numOf ids) tab (64, 67) := rowOk Try.f67 h_slices_Concat_byte_byte ir_slices_Concat_byte_byte Try.func67 rfl (by kernel_rfl) (by kernel_rfl) (by kernel_rfl)
theorem row73 : RowOk Try.prog (numOf ids) tab (73, 91) := rowOk Try.f91 h_disk_good ir_disk_good Try.func91 rfl (by kernel_rfl) (by kernel_rfl) (by kernel_rfl)
theorem row74 : RowOk Try.prog (numOf ids) tab (74, 92) := rowOk Try.f92 h_disk_file_size ir_disk_file_size Try.func92 rfl (by kernel_rfl) (by kernel_rfl) (by kernel_rfl)
theorem row75 : RowOk Try.prog (numOf ids) tab (75, 93) := rowOk Try.f93 h_disk_file_crash_1 ir_disk_file_crash_1 Try.func93 rfl (by kernel_rfl) (by kernel_rfl) (by kernel_rfl)
theorem row80 : RowOk Try.prog (numOf ids) tab (80, 98) := rowOk Try.f98 h_slices_Grow_byte_byte ir_slices_Grow_byte_byte Try.func98 rfl (by kernel_rfl) (by kernel_rfl) (by kernel_rfl)
theorem row98 : RowOk Try.prog (numOf ids) tab (98, 9) := rowOk Try.f9 h_bandboxlaw13_DiskKnown ir_bandboxlaw13_DiskKnown Try.func9 rfl (by kernel_rfl) (by kernel_rfl) (by kernel_rfl)
theorem row103 : RowOk Try.prog (numOf ids) tab (103, 32) := rowOk Try.f32 h_disk_Disk_Rename ir_disk_Disk_Rename Try.func32 rfl (by kernel_rfl) (by kernel_rfl) (by kernel_rfl)
theorem row104 : RowOk Try.prog (numOf ids) tab (104, 33) := rowOk Try.f33 h_disk_Disk_Drop ir_disk_Disk_Drop Try.func33 rfl (by kernel_rfl) (by kernel_rfl) (by kernel_rfl)
theorem row105 : RowOk Try.prog (numOf ids) tab (105, 34) := rowOk Try.f34 h_disk_Disk_Size ir_disk_Disk_Size Try.func34 rfl (by kernel_rfl) (by kernel_rfl) (by kernel_rfl)
theorem rows : ∀ p ∈ ids, RowOk Try.prog (numOf ids) tab p := List.forall_mem_cons.2 ⟨row26, List.forall_mem_cons.2 ⟨row27, List.forall_mem_cons.2 ⟨row28, List.forall_mem_cons.2 ⟨row29, List.forall_mem_cons.2 ⟨row30, List.forall_mem_cons.2 ⟨row31, List.forall_mem_cons.2 ⟨row34, List.forall_mem_cons.2 ⟨row51, List.forall_mem_cons.2 ⟨row52, List.forall_mem_cons.2 ⟨row53, List.forall_mem_cons.2 ⟨row54, List.forall_mem_cons.2 ⟨row55, List.forall_mem_cons.2 ⟨row56, List.forall_mem_cons.2 ⟨row57, List.forall_mem_cons.2 ⟨row58, List.forall_mem_cons.2 ⟨row60, List.forall_mem_cons.2 ⟨row64, List.forall_mem_cons.2 ⟨row73, List.forall_mem_cons.2 ⟨row74, List.forall_mem_cons.2 ⟨row75, List.forall_mem_cons.2 ⟨row80, List.forall_mem_cons.2 ⟨row98, List.forall_mem_cons.2 ⟨row103, List.forall_mem_cons.2 ⟨row104, List.forall_mem_cons.2 ⟨row105, (by intro p hp; cases hp)⟩⟩⟩⟩⟩⟩⟩⟩⟩⟩⟩⟩⟩⟩⟩⟩⟩⟩⟩⟩⟩⟩⟩⟩⟩
noncomputable def env : EnvT tab := envOf Try.prog tab ids (by decide) rows (full_of (by decide +kernel))
end Go.Proofs.Ytfbhhmmjfoemkaa
