/- The short forms are those of the program's functions, checked one by one. -/
import Derived.Test.YtfekancobbplaaaBbG3
import Derived.Test.YtfekancobbplaaaBbTab
import Derived.Test.YtfekancobbplaaaChecked
import Derived.KernelRfl
namespace Go.Proofs.Ytfekancobbplaaa
open Go.Bb
set_option maxRecDepth 100000
def ids : List (Nat × FuncId) := [(26, 8), (27, 9), (28, 10), (29, 11), (30, 12), (31, 13), (34, 14), (51, 27), (52, 26), (53, 41), (54, 42), (55, 43), (56, 44), (57, 45), (58, 46), (60, 47), (64, 67), (73, 64), (74, 65), (75, 66), (80, 74), (99, 5), (103, 17), (104, 19), (105, 24), (106, 15), (107, 16), (108, 18), (109, 20), (110, 21), (111, 22), (112, 23), (113, 25), (121, 48), (122, 49), (123, 50), (124, 51), (125, 52), (126, 53)]
theorem row26 : RowOk Try.prog (numOf ids) tab (26, 8) := rowOk Try.f8 h_bandboxlaw13_awake ir_bandboxlaw13_awake Try.func8 rfl (by kernel_rfl) (by kernel_rfl) (by kernel_rfl)
theorem row27 : RowOk Try.prog (numOf ids) tab (27, 9) := rowOk Try.f9 h_disk_New ir_disk_New Try.func9 rfl (by kernel_rfl) (by kernel_rfl) (by kernel_rfl)
theorem row28 : RowOk Try.prog (numOf ids) tab (28, 10) := rowOk Try.f10 h_disk_Disk_Append ir_disk_Disk_Append Try.func10 rfl (by kernel_rfl) (by kernel_rfl) (by kernel_rfl)
theorem row29 : RowOk Try.prog (numOf ids) tab (29, 11) := rowOk Try.f11 h_disk_Disk_Crash ir_disk_Disk_Crash Try.func11 rfl (by kernel_rfl) (by kernel_rfl) (by kernel_rfl)
theorem row30 : RowOk Try.prog (numOf ids) tab (30, 12) := rowOk Try.f12 h_disk_Disk_On ir_disk_Disk_On Try.func12 rfl (by kernel_rfl) (by kernel_rfl) (by kernel_rfl)
theorem row31 : RowOk Try.prog (numOf ids) tab (31, 13) := rowOk Try.f13 h_disk_Disk_Read ir_disk_Disk_Read Try.func13 rfl (by kernel_rfl) (by kernel_rfl) (by kernel_rfl)
theorem row34 : RowOk Try.prog (numOf ids) tab (34, 14) := rowOk Try.f14 h_disk_Disk_Sync ir_disk_Disk_Sync Try.func14 rfl (by kernel_rfl) (by kernel_rfl) (by kernel_rfl)
theorem row51 : RowOk Try.prog (numOf ids) tab (51, 27) := rowOk Try.f27 h_disk_Disk_Lives ir_disk_Disk_Lives Try.func27 rfl (by kernel_rfl) (by kernel_rfl) (by kernel_rfl)
theorem row52 : RowOk Try.prog (numOf ids) tab (52, 26) := rowOk Try.f26 h_disk_Disk_Power ir_disk_Disk_Power Try.func26 rfl (by kernel_rfl) (by kernel_rfl) (by kernel_rfl)
theorem row53 : RowOk Try.prog (numOf ids) tab (53, 41) := rowOk Try.f41 h_disk_Disk_ask ir_disk_Disk_ask Try.func41 rfl (by kernel_rfl) (by kernel_rfl) (by kernel_rfl)
theorem row54 : RowOk Try.prog (numOf ids) tab (54, 42) := rowOk Try.f42 h_disk_Disk_size ir_disk_Disk_size Try.func42 rfl (by kernel_rfl) (by kernel_rfl) (by kernel_rfl)
theorem row55 : RowOk Try.prog (numOf ids) tab (55, 43) := rowOk Try.f43 h_slices_Clone_byte_byte ir_slices_Clone_byte_byte Try.func43 rfl (by kernel_rfl) (by kernel_rfl) (by kernel_rfl)
theorem row56 : RowOk Try.prog (numOf ids) tab (56, 44) := rowOk Try.f44 h_disk_file_crash ir_disk_file_crash Try.func44 rfl (by kernel_rfl) (by kernel_rfl) (by kernel_rfl)
theorem row57 : RowOk Try.prog (numOf ids) tab (57, 45) := rowOk Try.f45 h_disk_Disk_find ir_disk_Disk_find Try.func45 rfl (by kernel_rfl) (by kernel_rfl) (by kernel_rfl)
theorem row58 : RowOk Try.prog (numOf ids) tab (58, 46) := rowOk Try.f46 h_disk_file_all ir_disk_file_all Try.func46 rfl (by kernel_rfl) (by kernel_rfl) (by kernel_rfl)
theorem row60 : RowOk Try.prog (numOf ids) tab (60, 47) := rowOk Try.f47 h_disk_file_sync ir_disk_file_sync Try.func47 rfl (by kernel_rfl) (by kernel_rfl) (by kernel_rfl)
theorem row64 : RowOk Try.prog (numOf ids) tab (64, 67) := rowOk Try.f67 h_slices_Concat_byte_byte ir_slices_Concat_byte_byte Try.func67 rfl (by kernel_rfl) (by kernel_rfl) (by kernel_rfl)
theorem row73 : RowOk Try.prog (numOf ids) tab (73, 64) := rowOk Try.f64 h_disk_good ir_disk_good Try.func64 rfl (by kernel_rfl) (by kernel_rfl) (by kernel_rfl)
theorem row74 : RowOk Try.prog (numOf ids) tab (74, 65) := rowOk Try.f65 h_disk_file_size ir_disk_file_size Try.func65 rfl (by kernel_rfl) (by kernel_rfl) (by kernel_rfl)
theorem row75 : RowOk Try.prog (numOf ids) tab (75, 66) := rowOk Try.f66 h_disk_file_crash_1 ir_disk_file_crash_1 Try.func66 rfl (by kernel_rfl) (by kernel_rfl) (by kernel_rfl)
theorem row80 : RowOk Try.prog (numOf ids) tab (80, 74) := rowOk Try.f74 h_slices_Grow_byte_byte ir_slices_Grow_byte_byte Try.func74 rfl (by kernel_rfl) (by kernel_rfl) (by kernel_rfl)
theorem row99 : RowOk Try.prog (numOf ids) tab (99, 5) := rowOk Try.f5 h_bandboxlaw13_DiskPlays ir_bandboxlaw13_DiskPlays Try.func5 rfl (by kernel_rfl) (by kernel_rfl) (by kernel_rfl)
theorem row103 : RowOk Try.prog (numOf ids) tab (103, 17) := rowOk Try.f17 h_disk_Disk_Rename ir_disk_Disk_Rename Try.func17 rfl (by kernel_rfl) (by kernel_rfl) (by kernel_rfl)
theorem row104 : RowOk Try.prog (numOf ids) tab (104, 19) := rowOk Try.f19 h_disk_Disk_Drop ir_disk_Disk_Drop Try.func19 rfl (by kernel_rfl) (by kernel_rfl) (by kernel_rfl)
theorem row105 : RowOk Try.prog (numOf ids) tab (105, 24) := rowOk Try.f24 h_disk_Disk_Size ir_disk_Disk_Size Try.func24 rfl (by kernel_rfl) (by kernel_rfl) (by kernel_rfl)
theorem row106 : RowOk Try.prog (numOf ids) tab (106, 15) := rowOk Try.f15 h_bandboxref11_Disk_Append ir_bandboxref11_Disk_Append Try.func15 rfl (by kernel_rfl) (by kernel_rfl) (by kernel_rfl)
theorem row107 : RowOk Try.prog (numOf ids) tab (107, 16) := rowOk Try.f16 h_bandboxref11_Disk_Sync ir_bandboxref11_Disk_Sync Try.func16 rfl (by kernel_rfl) (by kernel_rfl) (by kernel_rfl)
theorem row108 : RowOk Try.prog (numOf ids) tab (108, 18) := rowOk Try.f18 h_bandboxref11_Disk_Rename ir_bandboxref11_Disk_Rename Try.func18 rfl (by kernel_rfl) (by kernel_rfl) (by kernel_rfl)
theorem row109 : RowOk Try.prog (numOf ids) tab (109, 20) := rowOk Try.f20 h_bandboxref11_Disk_Drop ir_bandboxref11_Disk_Drop Try.func20 rfl (by kernel_rfl) (by kernel_rfl) (by kernel_rfl)
theorem row110 : RowOk Try.prog (numOf ids) tab (110, 21) := rowOk Try.f21 h_bandboxref11_Disk_Crash ir_bandboxref11_Disk_Crash Try.func21 rfl (by kernel_rfl) (by kernel_rfl) (by kernel_rfl)
theorem row111 : RowOk Try.prog (numOf ids) tab (111, 22) := rowOk Try.f22 h_bandboxref11_Disk_On ir_bandboxref11_Disk_On Try.func22 rfl (by kernel_rfl) (by kernel_rfl) (by kernel_rfl)
theorem row112 : RowOk Try.prog (numOf ids) tab (112, 23) := rowOk Try.f23 h_bandboxref11_Disk_Read ir_bandboxref11_Disk_Read Try.func23 rfl (by kernel_rfl) (by kernel_rfl) (by kernel_rfl)
theorem row113 : RowOk Try.prog (numOf ids) tab (113, 25) := rowOk Try.f25 h_bandboxref11_Disk_Size ir_bandboxref11_Disk_Size Try.func25 rfl (by kernel_rfl) (by kernel_rfl) (by kernel_rfl)
theorem row121 : RowOk Try.prog (numOf ids) tab (121, 48) := rowOk Try.f48 h_bandboxref11_Disk_ask ir_bandboxref11_Disk_ask Try.func48 rfl (by kernel_rfl) (by kernel_rfl) (by kernel_rfl)
theorem row122 : RowOk Try.prog (numOf ids) tab (122, 49) := rowOk Try.f49 h_bandboxref11_File_all ir_bandboxref11_File_all Try.func49 rfl (by kernel_rfl) (by kernel_rfl) (by kernel_rfl)
theorem row123 : RowOk Try.prog (numOf ids) tab (123, 50) := rowOk Try.f50 h_bandboxref11_May ir_bandboxref11_May Try.func50 rfl (by kernel_rfl) (by kernel_rfl) (by kernel_rfl)
theorem row124 : RowOk Try.prog (numOf ids) tab (124, 51) := rowOk Try.f51 h_bandboxref11_Disk_find ir_bandboxref11_Disk_find Try.func51 rfl (by kernel_rfl) (by kernel_rfl) (by kernel_rfl)
theorem row125 : RowOk Try.prog (numOf ids) tab (125, 52) := rowOk Try.f52 h_bandboxref11_Disk_drop ir_bandboxref11_Disk_drop Try.func52 rfl (by kernel_rfl) (by kernel_rfl) (by kernel_rfl)
theorem row126 : RowOk Try.prog (numOf ids) tab (126, 53) := rowOk Try.f53 h_bandboxref11_stays ir_bandboxref11_stays Try.func53 rfl (by kernel_rfl) (by kernel_rfl) (by kernel_rfl)
theorem rows : ∀ p ∈ ids, RowOk Try.prog (numOf ids) tab p := List.forall_mem_cons.2 ⟨row26, List.forall_mem_cons.2 ⟨row27, List.forall_mem_cons.2 ⟨row28, List.forall_mem_cons.2 ⟨row29, List.forall_mem_cons.2 ⟨row30, List.forall_mem_cons.2 ⟨row31, List.forall_mem_cons.2 ⟨row34, List.forall_mem_cons.2 ⟨row51, List.forall_mem_cons.2 ⟨row52, List.forall_mem_cons.2 ⟨row53, List.forall_mem_cons.2 ⟨row54, List.forall_mem_cons.2 ⟨row55, List.forall_mem_cons.2 ⟨row56, List.forall_mem_cons.2 ⟨row57, List.forall_mem_cons.2 ⟨row58, List.forall_mem_cons.2 ⟨row60, List.forall_mem_cons.2 ⟨row64, List.forall_mem_cons.2 ⟨row73, List.forall_mem_cons.2 ⟨row74, List.forall_mem_cons.2 ⟨row75, List.forall_mem_cons.2 ⟨row80, List.forall_mem_cons.2 ⟨row99, List.forall_mem_cons.2 ⟨row103, List.forall_mem_cons.2 ⟨row104, List.forall_mem_cons.2 ⟨row105, List.forall_mem_cons.2 ⟨row106, List.forall_mem_cons.2 ⟨row107, List.forall_mem_cons.2 ⟨row108, List.forall_mem_cons.2 ⟨row109, List.forall_mem_cons.2 ⟨row110, List.forall_mem_cons.2 ⟨row111, List.forall_mem_cons.2 ⟨row112, List.forall_mem_cons.2 ⟨row113, List.forall_mem_cons.2 ⟨row121, List.forall_mem_cons.2 ⟨row122, List.forall_mem_cons.2 ⟨row123, List.forall_mem_cons.2 ⟨row124, List.forall_mem_cons.2 ⟨row125, List.forall_mem_cons.2 ⟨row126, (by intro p hp; cases hp)⟩⟩⟩⟩⟩⟩⟩⟩⟩⟩⟩⟩⟩⟩⟩⟩⟩⟩⟩⟩⟩⟩⟩⟩⟩⟩⟩⟩⟩⟩⟩⟩⟩⟩⟩⟩⟩⟩⟩
noncomputable def env : EnvT tab := envOf Try.prog tab ids (by decide) rows (full_of (by decide +kernel))
end Go.Proofs.Ytfekancobbplaaa
