/- The short forms are those of the program's functions, checked one by one. -/
import Derived.Test.YtgoifophjcbpaaaBbG3
import Derived.Test.YtgoifophjcbpaaaBbTab
import Derived.Test.YtgoifophjcbpaaaChecked
import Derived.KernelRfl
namespace Go.Proofs.Ytgoifophjcbpaaa
open Go.Bb
set_option maxRecDepth 100000
def ids : List (Nat × FuncId) := [(8, 10), (32, 34), (33, 35), (36, 38), (55, 57), (59, 61), (61, 63), (62, 64), (76, 78), (77, 79), (78, 80), (84, 87), (85, 88), (86, 89), (87, 90), (88, 91), (91, 94), (92, 95), (94, 97)]
theorem row8 : RowOk Try.prog (numOf ids) tab (8, 10) := rowOk Try.f10 h_bandboxlaw3_KdfBegins ir_bandboxlaw3_KdfBegins Try.func10 rfl (by kernel_rfl) (by kernel_rfl) (by kernel_rfl)
theorem row32 : RowOk Try.prog (numOf ids) tab (32, 34) := rowOk Try.f34 h_bandboxlaw3_awake ir_bandboxlaw3_awake Try.func34 rfl (by kernel_rfl) (by kernel_rfl) (by kernel_rfl)
theorem row33 : RowOk Try.prog (numOf ids) tab (33, 35) := rowOk Try.f35 h_kdf_Expand ir_kdf_Expand Try.func35 rfl (by kernel_rfl) (by kernel_rfl) (by kernel_rfl)
theorem row36 : RowOk Try.prog (numOf ids) tab (36, 38) := rowOk Try.f38 h_kdf_Mac ir_kdf_Mac Try.func38 rfl (by kernel_rfl) (by kernel_rfl) (by kernel_rfl)
theorem row55 : RowOk Try.prog (numOf ids) tab (55, 57) := rowOk Try.f57 h_slices_Clone_byte_byte ir_slices_Clone_byte_byte Try.func57 rfl (by kernel_rfl) (by kernel_rfl) (by kernel_rfl)
theorem row59 : RowOk Try.prog (numOf ids) tab (59, 61) := rowOk Try.f61 h_bandboxref1_Hex ir_bandboxref1_Hex Try.func61 rfl (by kernel_rfl) (by kernel_rfl) (by kernel_rfl)
theorem row61 : RowOk Try.prog (numOf ids) tab (61, 63) := rowOk Try.f63 h_octet_Big ir_octet_Big Try.func63 rfl (by kernel_rfl) (by kernel_rfl) (by kernel_rfl)
theorem row62 : RowOk Try.prog (numOf ids) tab (62, 64) := rowOk Try.f64 h_sha_Of ir_sha_Of Try.func64 rfl (by kernel_rfl) (by kernel_rfl) (by kernel_rfl)
theorem row76 : RowOk Try.prog (numOf ids) tab (76, 78) := rowOk Try.f78 h_sha_New ir_sha_New Try.func78 rfl (by kernel_rfl) (by kernel_rfl) (by kernel_rfl)
theorem row77 : RowOk Try.prog (numOf ids) tab (77, 79) := rowOk Try.f79 h_sha_Sum_Add ir_sha_Sum_Add Try.func79 rfl (by kernel_rfl) (by kernel_rfl) (by kernel_rfl)
theorem row78 : RowOk Try.prog (numOf ids) tab (78, 80) := rowOk Try.f80 h_sha_Sum_Word ir_sha_Sum_Word Try.func80 rfl (by kernel_rfl) (by kernel_rfl) (by kernel_rfl)
theorem row84 : RowOk Try.prog (numOf ids) tab (84, 87) := rowOk Try.f87 h_sha_start ir_sha_start Try.func87 rfl (by kernel_rfl) (by kernel_rfl) (by kernel_rfl)
theorem row85 : RowOk Try.prog (numOf ids) tab (85, 88) := rowOk Try.f88 h_sha_constants ir_sha_constants Try.func88 rfl (by kernel_rfl) (by kernel_rfl) (by kernel_rfl)
theorem row86 : RowOk Try.prog (numOf ids) tab (86, 89) := rowOk Try.f89 h_sha_mix ir_sha_mix Try.func89 rfl (by kernel_rfl) (by kernel_rfl) (by kernel_rfl)
theorem row87 : RowOk Try.prog (numOf ids) tab (87, 90) := rowOk Try.f90 h_sha_padding ir_sha_padding Try.func90 rfl (by kernel_rfl) (by kernel_rfl) (by kernel_rfl)
theorem row88 : RowOk Try.prog (numOf ids) tab (88, 91) := rowOk Try.f91 h_octet_FromBig ir_octet_FromBig Try.func91 rfl (by kernel_rfl) (by kernel_rfl) (by kernel_rfl)
theorem row91 : RowOk Try.prog (numOf ids) tab (91, 94) := rowOk Try.f94 h_sha_schedule ir_sha_schedule Try.func94 rfl (by kernel_rfl) (by kernel_rfl) (by kernel_rfl)
theorem row92 : RowOk Try.prog (numOf ids) tab (92, 95) := rowOk Try.f95 h_sha_turn ir_sha_turn Try.func95 rfl (by kernel_rfl) (by kernel_rfl) (by kernel_rfl)
theorem row94 : RowOk Try.prog (numOf ids) tab (94, 97) := rowOk Try.f97 h_math_bits_RotateLeft32 ir_math_bits_RotateLeft32 Try.func97 rfl (by kernel_rfl) (by kernel_rfl) (by kernel_rfl)
theorem rows : ∀ p ∈ ids, RowOk Try.prog (numOf ids) tab p := List.forall_mem_cons.2 ⟨row8, List.forall_mem_cons.2 ⟨row32, List.forall_mem_cons.2 ⟨row33, List.forall_mem_cons.2 ⟨row36, List.forall_mem_cons.2 ⟨row55, List.forall_mem_cons.2 ⟨row59, List.forall_mem_cons.2 ⟨row61, List.forall_mem_cons.2 ⟨row62, List.forall_mem_cons.2 ⟨row76, List.forall_mem_cons.2 ⟨row77, List.forall_mem_cons.2 ⟨row78, List.forall_mem_cons.2 ⟨row84, List.forall_mem_cons.2 ⟨row85, List.forall_mem_cons.2 ⟨row86, List.forall_mem_cons.2 ⟨row87, List.forall_mem_cons.2 ⟨row88, List.forall_mem_cons.2 ⟨row91, List.forall_mem_cons.2 ⟨row92, List.forall_mem_cons.2 ⟨row94, (by intro p hp; cases hp)⟩⟩⟩⟩⟩⟩⟩⟩⟩⟩⟩⟩⟩⟩⟩⟩⟩⟩⟩
noncomputable def env : EnvT tab := envOf Try.prog tab ids (by decide) rows (full_of (by decide +kernel))
end Go.Proofs.Ytgoifophjcbpaaa
