/- The short forms are those of the program's functions, checked one by one. -/
import Derived.Test.YtgoifophjcbpaaaBbW
import Derived.Test.YtgoifophjcbpaaaBbTab
import Derived.Test.YtgoifophjcbpaaaChecked
import Derived.KernelRfl
namespace Go.Proofs.Ytgoifophjcbpaaa
open Go.Bb
set_option maxRecDepth 100000
def ids : List (Nat × FuncId) := [(11, 13), (37, 39), (38, 40), (39, 41), (40, 42), (55, 57), (59, 61), (63, 65), (64, 66), (65, 67), (66, 68), (67, 69), (68, 70), (69, 71), (79, 81), (80, 82), (81, 84), (82, 85), (83, 86), (88, 91), (89, 92), (90, 93), (93, 96)]
theorem row11 : RowOk Try.prog (numOf ids) tab (11, 13) := rowOk Try.f13 h_bandboxlaw5_PolyKnown ir_bandboxlaw5_PolyKnown Try.func13 rfl (by kernel_rfl) (by kernel_rfl) (by kernel_rfl)
theorem row37 : RowOk Try.prog (numOf ids) tab (37, 39) := rowOk Try.f39 h_bandboxlaw5_awake ir_bandboxlaw5_awake Try.func39 rfl (by kernel_rfl) (by kernel_rfl) (by kernel_rfl)
theorem row38 : RowOk Try.prog (numOf ids) tab (38, 40) := rowOk Try.f40 h_poly_Tag ir_poly_Tag Try.func40 rfl (by kernel_rfl) (by kernel_rfl) (by kernel_rfl)
theorem row39 : RowOk Try.prog (numOf ids) tab (39, 41) := rowOk Try.f41 h_bandboxlaw5_word ir_bandboxlaw5_word Try.func41 rfl (by kernel_rfl) (by kernel_rfl) (by kernel_rfl)
theorem row40 : RowOk Try.prog (numOf ids) tab (40, 42) := rowOk Try.f42 h_poly_Clamp ir_poly_Clamp Try.func42 rfl (by kernel_rfl) (by kernel_rfl) (by kernel_rfl)
theorem row55 : RowOk Try.prog (numOf ids) tab (55, 57) := rowOk Try.f57 h_slices_Clone_byte_byte ir_slices_Clone_byte_byte Try.func57 rfl (by kernel_rfl) (by kernel_rfl) (by kernel_rfl)
theorem row59 : RowOk Try.prog (numOf ids) tab (59, 61) := rowOk Try.f61 h_bandboxref1_Hex ir_bandboxref1_Hex Try.func61 rfl (by kernel_rfl) (by kernel_rfl) (by kernel_rfl)
theorem row63 : RowOk Try.prog (numOf ids) tab (63, 65) := rowOk Try.f65 h_poly_word ir_poly_word Try.func65 rfl (by kernel_rfl) (by kernel_rfl) (by kernel_rfl)
theorem row64 : RowOk Try.prog (numOf ids) tab (64, 66) := rowOk Try.f66 h_slices_Concat_byte_byte ir_slices_Concat_byte_byte Try.func66 rfl (by kernel_rfl) (by kernel_rfl) (by kernel_rfl)
theorem row65 : RowOk Try.prog (numOf ids) tab (65, 67) := rowOk Try.f67 h_poly_num_plus ir_poly_num_plus Try.func67 rfl (by kernel_rfl) (by kernel_rfl) (by kernel_rfl)
theorem row66 : RowOk Try.prog (numOf ids) tab (66, 68) := rowOk Try.f68 h_poly_num_times ir_poly_num_times Try.func68 rfl (by kernel_rfl) (by kernel_rfl) (by kernel_rfl)
theorem row67 : RowOk Try.prog (numOf ids) tab (67, 69) := rowOk Try.f69 h_poly_num_last ir_poly_num_last Try.func69 rfl (by kernel_rfl) (by kernel_rfl) (by kernel_rfl)
theorem row68 : RowOk Try.prog (numOf ids) tab (68, 70) := rowOk Try.f70 h_octet_Little ir_octet_Little Try.func70 rfl (by kernel_rfl) (by kernel_rfl) (by kernel_rfl)
theorem row69 : RowOk Try.prog (numOf ids) tab (69, 71) := rowOk Try.f71 h_bandboxref1_Unhex ir_bandboxref1_Unhex Try.func71 rfl (by kernel_rfl) (by kernel_rfl) (by kernel_rfl)
theorem row79 : RowOk Try.prog (numOf ids) tab (79, 81) := rowOk Try.f81 h_octet_FromLittle ir_octet_FromLittle Try.func81 rfl (by kernel_rfl) (by kernel_rfl) (by kernel_rfl)
theorem row80 : RowOk Try.prog (numOf ids) tab (80, 82) := rowOk Try.f82 h_slices_Grow_byte_byte ir_slices_Grow_byte_byte Try.func82 rfl (by kernel_rfl) (by kernel_rfl) (by kernel_rfl)
theorem row81 : RowOk Try.prog (numOf ids) tab (81, 84) := rowOk Try.f84 h_poly_column ir_poly_column Try.func84 rfl (by kernel_rfl) (by kernel_rfl) (by kernel_rfl)
theorem row82 : RowOk Try.prog (numOf ids) tab (82, 85) := rowOk Try.f85 h_poly_num_cut ir_poly_num_cut Try.func85 rfl (by kernel_rfl) (by kernel_rfl) (by kernel_rfl)
theorem row83 : RowOk Try.prog (numOf ids) tab (83, 86) := rowOk Try.f86 h_bandboxref1_digit ir_bandboxref1_digit Try.func86 rfl (by kernel_rfl) (by kernel_rfl) (by kernel_rfl)
theorem row88 : RowOk Try.prog (numOf ids) tab (88, 91) := rowOk Try.f91 h_octet_FromBig ir_octet_FromBig Try.func91 rfl (by kernel_rfl) (by kernel_rfl) (by kernel_rfl)
theorem row89 : RowOk Try.prog (numOf ids) tab (89, 92) := rowOk Try.f92 h_octet_Turn ir_octet_Turn Try.func92 rfl (by kernel_rfl) (by kernel_rfl) (by kernel_rfl)
theorem row90 : RowOk Try.prog (numOf ids) tab (90, 93) := rowOk Try.f93 h_math_bits_Mul64 ir_math_bits_Mul64 Try.func93 rfl (by kernel_rfl) (by kernel_rfl) (by kernel_rfl)
theorem row93 : RowOk Try.prog (numOf ids) tab (93, 96) := rowOk Try.f96 h_slices_Reverse_byte_byte ir_slices_Reverse_byte_byte Try.func96 rfl (by kernel_rfl) (by kernel_rfl) (by kernel_rfl)
theorem rows : ∀ p ∈ ids, RowOk Try.prog (numOf ids) tab p := List.forall_mem_cons.2 ⟨row11, List.forall_mem_cons.2 ⟨row37, List.forall_mem_cons.2 ⟨row38, List.forall_mem_cons.2 ⟨row39, List.forall_mem_cons.2 ⟨row40, List.forall_mem_cons.2 ⟨row55, List.forall_mem_cons.2 ⟨row59, List.forall_mem_cons.2 ⟨row63, List.forall_mem_cons.2 ⟨row64, List.forall_mem_cons.2 ⟨row65, List.forall_mem_cons.2 ⟨row66, List.forall_mem_cons.2 ⟨row67, List.forall_mem_cons.2 ⟨row68, List.forall_mem_cons.2 ⟨row69, List.forall_mem_cons.2 ⟨row79, List.forall_mem_cons.2 ⟨row80, List.forall_mem_cons.2 ⟨row81, List.forall_mem_cons.2 ⟨row82, List.forall_mem_cons.2 ⟨row83, List.forall_mem_cons.2 ⟨row88, List.forall_mem_cons.2 ⟨row89, List.forall_mem_cons.2 ⟨row90, List.forall_mem_cons.2 ⟨row93, (by intro p hp; cases hp)⟩⟩⟩⟩⟩⟩⟩⟩⟩⟩⟩⟩⟩⟩⟩⟩⟩⟩⟩⟩⟩⟩⟩
noncomputable def env : EnvT tab := envOf Try.prog tab ids (by decide) rows (full_of (by decide +kernel))
end Go.Proofs.Ytgoifophjcbpaaa
