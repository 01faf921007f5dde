/- The short forms are those of the program's functions, checked one by one. -/
import Derived.Test.YtfbhhmmjfoemkaaBbG3
import Derived.Test.YtfbhhmmjfoemkaaBbTab
import Derived.Test.YtfbhhmmjfoemkaaChecked
import Derived.KernelRfl
namespace Go.Proofs.Ytfbhhmmjfoemkaa
open Go.Bb
set_option maxRecDepth 100000
def ids : List (Nat × FuncId) := [(10, 5), (32, 22), (33, 23), (35, 24), (36, 25), (55, 58), (59, 50), (61, 63), (62, 64), (76, 94), (77, 95), (78, 96), (84, 109), (85, 110), (86, 111), (87, 112), (88, 113), (91, 120), (92, 121), (94, 123)]
theorem row10 : RowOk Try.prog (numOf ids) tab (10, 5) := rowOk Try.f5 h_bandboxlaw3_KdfNames ir_bandboxlaw3_KdfNames Try.func5 rfl (by kernel_rfl) (by kernel_rfl) (by kernel_rfl)
theorem row32 : RowOk Try.prog (numOf ids) tab (32, 22) := rowOk Try.f22 h_bandboxlaw3_awake ir_bandboxlaw3_awake Try.func22 rfl (by kernel_rfl) (by kernel_rfl) (by kernel_rfl)
theorem row33 : RowOk Try.prog (numOf ids) tab (33, 23) := rowOk Try.f23 h_kdf_Expand ir_kdf_Expand Try.func23 rfl (by kernel_rfl) (by kernel_rfl) (by kernel_rfl)
theorem row35 : RowOk Try.prog (numOf ids) tab (35, 24) := rowOk Try.f24 h_kdf_Key ir_kdf_Key Try.func24 rfl (by kernel_rfl) (by kernel_rfl) (by kernel_rfl)
theorem row36 : RowOk Try.prog (numOf ids) tab (36, 25) := rowOk Try.f25 h_kdf_Mac ir_kdf_Mac Try.func25 rfl (by kernel_rfl) (by kernel_rfl) (by kernel_rfl)
theorem row55 : RowOk Try.prog (numOf ids) tab (55, 58) := rowOk Try.f58 h_slices_Clone_byte_byte ir_slices_Clone_byte_byte Try.func58 rfl (by kernel_rfl) (by kernel_rfl) (by kernel_rfl)
theorem row59 : RowOk Try.prog (numOf ids) tab (59, 50) := rowOk Try.f50 h_bandboxref1_Hex ir_bandboxref1_Hex Try.func50 rfl (by kernel_rfl) (by kernel_rfl) (by kernel_rfl)
theorem row61 : RowOk Try.prog (numOf ids) tab (61, 63) := rowOk Try.f63 h_octet_Big ir_octet_Big Try.func63 rfl (by kernel_rfl) (by kernel_rfl) (by kernel_rfl)
theorem row62 : RowOk Try.prog (numOf ids) tab (62, 64) := rowOk Try.f64 h_sha_Of ir_sha_Of Try.func64 rfl (by kernel_rfl) (by kernel_rfl) (by kernel_rfl)
theorem row76 : RowOk Try.prog (numOf ids) tab (76, 94) := rowOk Try.f94 h_sha_New ir_sha_New Try.func94 rfl (by kernel_rfl) (by kernel_rfl) (by kernel_rfl)
theorem row77 : RowOk Try.prog (numOf ids) tab (77, 95) := rowOk Try.f95 h_sha_Sum_Add ir_sha_Sum_Add Try.func95 rfl (by kernel_rfl) (by kernel_rfl) (by kernel_rfl)
theorem row78 : RowOk Try.prog (numOf ids) tab (78, 96) := rowOk Try.f96 h_sha_Sum_Word ir_sha_Sum_Word Try.func96 rfl (by kernel_rfl) (by kernel_rfl) (by kernel_rfl)
theorem row84 : RowOk Try.prog (numOf ids) tab (84, 109) := rowOk Try.f109 h_sha_start ir_sha_start Try.func109 rfl (by kernel_rfl) (by kernel_rfl) (by kernel_rfl)
theorem row85 : RowOk Try.prog (numOf ids) tab (85, 110) := rowOk Try.f110 h_sha_constants ir_sha_constants Try.func110 rfl (by kernel_rfl) (by kernel_rfl) (by kernel_rfl)
theorem row86 : RowOk Try.prog (numOf ids) tab (86, 111) := rowOk Try.f111 h_sha_mix ir_sha_mix Try.func111 rfl (by kernel_rfl) (by kernel_rfl) (by kernel_rfl)
theorem row87 : RowOk Try.prog (numOf ids) tab (87, 112) := rowOk Try.f112 h_sha_padding ir_sha_padding Try.func112 rfl (by kernel_rfl) (by kernel_rfl) (by kernel_rfl)
theorem row88 : RowOk Try.prog (numOf ids) tab (88, 113) := rowOk Try.f113 h_octet_FromBig ir_octet_FromBig Try.func113 rfl (by kernel_rfl) (by kernel_rfl) (by kernel_rfl)
theorem row91 : RowOk Try.prog (numOf ids) tab (91, 120) := rowOk Try.f120 h_sha_schedule ir_sha_schedule Try.func120 rfl (by kernel_rfl) (by kernel_rfl) (by kernel_rfl)
theorem row92 : RowOk Try.prog (numOf ids) tab (92, 121) := rowOk Try.f121 h_sha_turn ir_sha_turn Try.func121 rfl (by kernel_rfl) (by kernel_rfl) (by kernel_rfl)
theorem row94 : RowOk Try.prog (numOf ids) tab (94, 123) := rowOk Try.f123 h_math_bits_RotateLeft32 ir_math_bits_RotateLeft32 Try.func123 rfl (by kernel_rfl) (by kernel_rfl) (by kernel_rfl)
theorem rows : ∀ p ∈ ids, RowOk Try.prog (numOf ids) tab p := List.forall_mem_cons.2 ⟨row10, List.forall_mem_cons.2 ⟨row32, List.forall_mem_cons.2 ⟨row33, List.forall_mem_cons.2 ⟨row35, List.forall_mem_cons.2 ⟨row36, List.forall_mem_cons.2 ⟨row55, List.forall_mem_cons.2 ⟨row59, List.forall_mem_cons.2 ⟨row61, List.forall_mem_cons.2 ⟨row62, List.forall_mem_cons.2 ⟨row76, List.forall_mem_cons.2 ⟨row77, List.forall_mem_cons.2 ⟨row78, List.forall_mem_cons.2 ⟨row84, List.forall_mem_cons.2 ⟨row85, List.forall_mem_cons.2 ⟨row86, List.forall_mem_cons.2 ⟨row87, List.forall_mem_cons.2 ⟨row88, List.forall_mem_cons.2 ⟨row91, List.forall_mem_cons.2 ⟨row92, List.forall_mem_cons.2 ⟨row94, (by intro p hp; cases hp)⟩⟩⟩⟩⟩⟩⟩⟩⟩⟩⟩⟩⟩⟩⟩⟩⟩⟩⟩⟩
noncomputable def env : EnvT tab := envOf Try.prog tab ids (by decide) rows (full_of (by decide +kernel))
end Go.Proofs.Ytfbhhmmjfoemkaa
