/- The short forms are those of the program's functions, checked one by one. -/
import Derived.Test.YtfbhhmmjfoemkaaBbG3
import Derived.Test.YtfbhhmmjfoemkaaBbTab
import Derived.Test.YtfbhhmmjfoemkaaChecked
import Derived.KernelRfl
namespace Go.Proofs.Ytfbhhmmjfoemkaa
open Go.Bb
set_option maxRecDepth 100000
def ids : List (Nat × FuncId) := [(12, 6), (37, 26), (38, 27), (39, 65), (40, 30), (41, 28), (42, 29), (43, 31), (55, 58), (59, 50), (63, 66), (64, 67), (65, 68), (66, 69), (67, 70), (68, 71), (69, 46), (70, 72), (71, 73), (72, 74), (79, 97), (80, 98), (81, 100), (82, 101), (83, 81), (88, 113), (89, 114), (90, 115), (93, 122), (97, 8)]
theorem row12 : RowOk Try.prog (numOf ids) tab (12, 6) := rowOk Try.f6 h_bandboxlaw5_PolySays ir_bandboxlaw5_PolySays Try.func6 rfl (by kernel_rfl) (by kernel_rfl) (by kernel_rfl)
theorem row37 : RowOk Try.prog (numOf ids) tab (37, 26) := rowOk Try.f26 h_bandboxlaw5_awake ir_bandboxlaw5_awake Try.func26 rfl (by kernel_rfl) (by kernel_rfl) (by kernel_rfl)
theorem row38 : RowOk Try.prog (numOf ids) tab (38, 27) := rowOk Try.f27 h_poly_Tag ir_poly_Tag Try.func27 rfl (by kernel_rfl) (by kernel_rfl) (by kernel_rfl)
theorem row39 : RowOk Try.prog (numOf ids) tab (39, 65) := rowOk Try.f65 h_bandboxlaw5_word ir_bandboxlaw5_word Try.func65 rfl (by kernel_rfl) (by kernel_rfl) (by kernel_rfl)
theorem row40 : RowOk Try.prog (numOf ids) tab (40, 30) := rowOk Try.f30 h_poly_Clamp ir_poly_Clamp Try.func30 rfl (by kernel_rfl) (by kernel_rfl) (by kernel_rfl)
theorem row41 : RowOk Try.prog (numOf ids) tab (41, 28) := rowOk Try.f28 h_bandboxref4_Tag ir_bandboxref4_Tag Try.func28 rfl (by kernel_rfl) (by kernel_rfl) (by kernel_rfl)
theorem row42 : RowOk Try.prog (numOf ids) tab (42, 29) := rowOk Try.f29 h_bandboxref1_Join ir_bandboxref1_Join Try.func29 rfl (by kernel_rfl) (by kernel_rfl) (by kernel_rfl)
theorem row43 : RowOk Try.prog (numOf ids) tab (43, 31) := rowOk Try.f31 h_bandboxref4_Clamp ir_bandboxref4_Clamp Try.func31 rfl (by kernel_rfl) (by kernel_rfl) (by kernel_rfl)
theorem row55 : RowOk Try.prog (numOf ids) tab (55, 58) := rowOk Try.f58 h_slices_Clone_byte_byte ir_slices_Clone_byte_byte Try.func58 rfl (by kernel_rfl) (by kernel_rfl) (by kernel_rfl)
theorem row59 : RowOk Try.prog (numOf ids) tab (59, 50) := rowOk Try.f50 h_bandboxref1_Hex ir_bandboxref1_Hex Try.func50 rfl (by kernel_rfl) (by kernel_rfl) (by kernel_rfl)
theorem row63 : RowOk Try.prog (numOf ids) tab (63, 66) := rowOk Try.f66 h_poly_word ir_poly_word Try.func66 rfl (by kernel_rfl) (by kernel_rfl) (by kernel_rfl)
theorem row64 : RowOk Try.prog (numOf ids) tab (64, 67) := rowOk Try.f67 h_slices_Concat_byte_byte ir_slices_Concat_byte_byte Try.func67 rfl (by kernel_rfl) (by kernel_rfl) (by kernel_rfl)
theorem row65 : RowOk Try.prog (numOf ids) tab (65, 68) := rowOk Try.f68 h_poly_num_plus ir_poly_num_plus Try.func68 rfl (by kernel_rfl) (by kernel_rfl) (by kernel_rfl)
theorem row66 : RowOk Try.prog (numOf ids) tab (66, 69) := rowOk Try.f69 h_poly_num_times ir_poly_num_times Try.func69 rfl (by kernel_rfl) (by kernel_rfl) (by kernel_rfl)
theorem row67 : RowOk Try.prog (numOf ids) tab (67, 70) := rowOk Try.f70 h_poly_num_last ir_poly_num_last Try.func70 rfl (by kernel_rfl) (by kernel_rfl) (by kernel_rfl)
theorem row68 : RowOk Try.prog (numOf ids) tab (68, 71) := rowOk Try.f71 h_octet_Little ir_octet_Little Try.func71 rfl (by kernel_rfl) (by kernel_rfl) (by kernel_rfl)
theorem row69 : RowOk Try.prog (numOf ids) tab (69, 46) := rowOk Try.f46 h_bandboxref1_Unhex ir_bandboxref1_Unhex Try.func46 rfl (by kernel_rfl) (by kernel_rfl) (by kernel_rfl)
theorem row70 : RowOk Try.prog (numOf ids) tab (70, 72) := rowOk Try.f72 h_bandboxref4_times ir_bandboxref4_times Try.func72 rfl (by kernel_rfl) (by kernel_rfl) (by kernel_rfl)
theorem row71 : RowOk Try.prog (numOf ids) tab (71, 73) := rowOk Try.f73 h_bandboxref4_plus ir_bandboxref4_plus Try.func73 rfl (by kernel_rfl) (by kernel_rfl) (by kernel_rfl)
theorem row72 : RowOk Try.prog (numOf ids) tab (72, 74) := rowOk Try.f74 h_bandboxref4_least ir_bandboxref4_least Try.func74 rfl (by kernel_rfl) (by kernel_rfl) (by kernel_rfl)
theorem row79 : RowOk Try.prog (numOf ids) tab (79, 97) := rowOk Try.f97 h_octet_FromLittle ir_octet_FromLittle Try.func97 rfl (by kernel_rfl) (by kernel_rfl) (by kernel_rfl)
theorem row80 : RowOk Try.prog (numOf ids) tab (80, 98) := rowOk Try.f98 h_slices_Grow_byte_byte ir_slices_Grow_byte_byte Try.func98 rfl (by kernel_rfl) (by kernel_rfl) (by kernel_rfl)
theorem row81 : RowOk Try.prog (numOf ids) tab (81, 100) := rowOk Try.f100 h_poly_column ir_poly_column Try.func100 rfl (by kernel_rfl) (by kernel_rfl) (by kernel_rfl)
theorem row82 : RowOk Try.prog (numOf ids) tab (82, 101) := rowOk Try.f101 h_poly_num_cut ir_poly_num_cut Try.func101 rfl (by kernel_rfl) (by kernel_rfl) (by kernel_rfl)
theorem row83 : RowOk Try.prog (numOf ids) tab (83, 81) := rowOk Try.f81 h_bandboxref1_digit ir_bandboxref1_digit Try.func81 rfl (by kernel_rfl) (by kernel_rfl) (by kernel_rfl)
theorem row88 : RowOk Try.prog (numOf ids) tab (88, 113) := rowOk Try.f113 h_octet_FromBig ir_octet_FromBig Try.func113 rfl (by kernel_rfl) (by kernel_rfl) (by kernel_rfl)
theorem row89 : RowOk Try.prog (numOf ids) tab (89, 114) := rowOk Try.f114 h_octet_Turn ir_octet_Turn Try.func114 rfl (by kernel_rfl) (by kernel_rfl) (by kernel_rfl)
theorem row90 : RowOk Try.prog (numOf ids) tab (90, 115) := rowOk Try.f115 h_math_bits_Mul64 ir_math_bits_Mul64 Try.func115 rfl (by kernel_rfl) (by kernel_rfl) (by kernel_rfl)
theorem row93 : RowOk Try.prog (numOf ids) tab (93, 122) := rowOk Try.f122 h_slices_Reverse_byte_byte ir_slices_Reverse_byte_byte Try.func122 rfl (by kernel_rfl) (by kernel_rfl) (by kernel_rfl)
theorem row97 : RowOk Try.prog (numOf ids) tab (97, 8) := rowOk Try.f8 h_bandboxlaw5_PolyEnds ir_bandboxlaw5_PolyEnds Try.func8 rfl (by kernel_rfl) (by kernel_rfl) (by kernel_rfl)
theorem rows : ∀ p ∈ ids, RowOk Try.prog (numOf ids) tab p := List.forall_mem_cons.2 ⟨row12, List.forall_mem_cons.2 ⟨row37, List.forall_mem_cons.2 ⟨row38, List.forall_mem_cons.2 ⟨row39, List.forall_mem_cons.2 ⟨row40, List.forall_mem_cons.2 ⟨row41, List.forall_mem_cons.2 ⟨row42, List.forall_mem_cons.2 ⟨row43, List.forall_mem_cons.2 ⟨row55, List.forall_mem_cons.2 ⟨row59, List.forall_mem_cons.2 ⟨row63, List.forall_mem_cons.2 ⟨row64, List.forall_mem_cons.2 ⟨row65, List.forall_mem_cons.2 ⟨row66, List.forall_mem_cons.2 ⟨row67, List.forall_mem_cons.2 ⟨row68, List.forall_mem_cons.2 ⟨row69, List.forall_mem_cons.2 ⟨row70, List.forall_mem_cons.2 ⟨row71, List.forall_mem_cons.2 ⟨row72, List.forall_mem_cons.2 ⟨row79, List.forall_mem_cons.2 ⟨row80, List.forall_mem_cons.2 ⟨row81, List.forall_mem_cons.2 ⟨row82, List.forall_mem_cons.2 ⟨row83, List.forall_mem_cons.2 ⟨row88, List.forall_mem_cons.2 ⟨row89, List.forall_mem_cons.2 ⟨row90, List.forall_mem_cons.2 ⟨row93, List.forall_mem_cons.2 ⟨row97, (by intro p hp; cases hp)⟩⟩⟩⟩⟩⟩⟩⟩⟩⟩⟩⟩⟩⟩⟩⟩⟩⟩⟩⟩⟩⟩⟩⟩⟩⟩⟩⟩⟩⟩
noncomputable def env : EnvT tab := envOf Try.prog tab ids (by decide) rows (full_of (by decide +kernel))
end Go.Proofs.Ytfbhhmmjfoemkaa
