/- The short forms are those of the program's functions, checked one by one. -/
import Derived.Test.YtfnofecgpheaoaaBbG3
import Derived.Test.YtfnofecgpheaoaaBbTab
import Derived.Test.YtfnofecgpheaoaaChecked
import Derived.KernelRfl
namespace Go.Proofs.Ytfnofecgpheaoaa
open Go.Bb
set_option maxRecDepth 100000
def ids : List (Nat × FuncId) := [(37, 11), (38, 13), (39, 44), (40, 12), (55, 47), (59, 40), (63, 45), (64, 46), (65, 48), (66, 49), (67, 50), (68, 51), (69, 36), (79, 76), (80, 77), (81, 79), (82, 80), (83, 68), (88, 92), (89, 93), (90, 94), (93, 100), (95, 3)]
theorem row37 : RowOk Try.prog (numOf ids) tab (37, 11) := rowOk Try.f11 h_bandboxlaw5_awake ir_bandboxlaw5_awake Try.func11 rfl (by kernel_rfl) (by kernel_rfl) (by kernel_rfl)
theorem row38 : RowOk Try.prog (numOf ids) tab (38, 13) := rowOk Try.f13 h_poly_Tag ir_poly_Tag Try.func13 rfl (by kernel_rfl) (by kernel_rfl) (by kernel_rfl)
theorem row39 : RowOk Try.prog (numOf ids) tab (39, 44) := rowOk Try.f44 h_bandboxlaw5_word ir_bandboxlaw5_word Try.func44 rfl (by kernel_rfl) (by kernel_rfl) (by kernel_rfl)
theorem row40 : RowOk Try.prog (numOf ids) tab (40, 12) := rowOk Try.f12 h_poly_Clamp ir_poly_Clamp Try.func12 rfl (by kernel_rfl) (by kernel_rfl) (by kernel_rfl)
theorem row55 : RowOk Try.prog (numOf ids) tab (55, 47) := rowOk Try.f47 h_slices_Clone_byte_byte ir_slices_Clone_byte_byte Try.func47 rfl (by kernel_rfl) (by kernel_rfl) (by kernel_rfl)
theorem row59 : RowOk Try.prog (numOf ids) tab (59, 40) := rowOk Try.f40 h_bandboxref1_Hex ir_bandboxref1_Hex Try.func40 rfl (by kernel_rfl) (by kernel_rfl) (by kernel_rfl)
theorem row63 : RowOk Try.prog (numOf ids) tab (63, 45) := rowOk Try.f45 h_poly_word ir_poly_word Try.func45 rfl (by kernel_rfl) (by kernel_rfl) (by kernel_rfl)
theorem row64 : RowOk Try.prog (numOf ids) tab (64, 46) := rowOk Try.f46 h_slices_Concat_byte_byte ir_slices_Concat_byte_byte Try.func46 rfl (by kernel_rfl) (by kernel_rfl) (by kernel_rfl)
theorem row65 : RowOk Try.prog (numOf ids) tab (65, 48) := rowOk Try.f48 h_poly_num_plus ir_poly_num_plus Try.func48 rfl (by kernel_rfl) (by kernel_rfl) (by kernel_rfl)
theorem row66 : RowOk Try.prog (numOf ids) tab (66, 49) := rowOk Try.f49 h_poly_num_times ir_poly_num_times Try.func49 rfl (by kernel_rfl) (by kernel_rfl) (by kernel_rfl)
theorem row67 : RowOk Try.prog (numOf ids) tab (67, 50) := rowOk Try.f50 h_poly_num_last ir_poly_num_last Try.func50 rfl (by kernel_rfl) (by kernel_rfl) (by kernel_rfl)
theorem row68 : RowOk Try.prog (numOf ids) tab (68, 51) := rowOk Try.f51 h_octet_Little ir_octet_Little Try.func51 rfl (by kernel_rfl) (by kernel_rfl) (by kernel_rfl)
theorem row69 : RowOk Try.prog (numOf ids) tab (69, 36) := rowOk Try.f36 h_bandboxref1_Unhex ir_bandboxref1_Unhex Try.func36 rfl (by kernel_rfl) (by kernel_rfl) (by kernel_rfl)
theorem row79 : RowOk Try.prog (numOf ids) tab (79, 76) := rowOk Try.f76 h_octet_FromLittle ir_octet_FromLittle Try.func76 rfl (by kernel_rfl) (by kernel_rfl) (by kernel_rfl)
theorem row80 : RowOk Try.prog (numOf ids) tab (80, 77) := rowOk Try.f77 h_slices_Grow_byte_byte ir_slices_Grow_byte_byte Try.func77 rfl (by kernel_rfl) (by kernel_rfl) (by kernel_rfl)
theorem row81 : RowOk Try.prog (numOf ids) tab (81, 79) := rowOk Try.f79 h_poly_column ir_poly_column Try.func79 rfl (by kernel_rfl) (by kernel_rfl) (by kernel_rfl)
theorem row82 : RowOk Try.prog (numOf ids) tab (82, 80) := rowOk Try.f80 h_poly_num_cut ir_poly_num_cut Try.func80 rfl (by kernel_rfl) (by kernel_rfl) (by kernel_rfl)
theorem row83 : RowOk Try.prog (numOf ids) tab (83, 68) := rowOk Try.f68 h_bandboxref1_digit ir_bandboxref1_digit Try.func68 rfl (by kernel_rfl) (by kernel_rfl) (by kernel_rfl)
theorem row88 : RowOk Try.prog (numOf ids) tab (88, 92) := rowOk Try.f92 h_octet_FromBig ir_octet_FromBig Try.func92 rfl (by kernel_rfl) (by kernel_rfl) (by kernel_rfl)
theorem row89 : RowOk Try.prog (numOf ids) tab (89, 93) := rowOk Try.f93 h_octet_Turn ir_octet_Turn Try.func93 rfl (by kernel_rfl) (by kernel_rfl) (by kernel_rfl)
theorem row90 : RowOk Try.prog (numOf ids) tab (90, 94) := rowOk Try.f94 h_math_bits_Mul64 ir_math_bits_Mul64 Try.func94 rfl (by kernel_rfl) (by kernel_rfl) (by kernel_rfl)
theorem row93 : RowOk Try.prog (numOf ids) tab (93, 100) := rowOk Try.f100 h_slices_Reverse_byte_byte ir_slices_Reverse_byte_byte Try.func100 rfl (by kernel_rfl) (by kernel_rfl) (by kernel_rfl)
theorem row95 : RowOk Try.prog (numOf ids) tab (95, 3) := rowOk Try.f3 h_bandboxlaw5_PolyClamps ir_bandboxlaw5_PolyClamps Try.func3 rfl (by kernel_rfl) (by kernel_rfl) (by kernel_rfl)
theorem rows : ∀ p ∈ ids, RowOk Try.prog (numOf ids) tab p := List.forall_mem_cons.2 ⟨row37, List.forall_mem_cons.2 ⟨row38, List.forall_mem_cons.2 ⟨row39, List.forall_mem_cons.2 ⟨row40, List.forall_mem_cons.2 ⟨row55, List.forall_mem_cons.2 ⟨row59, List.forall_mem_cons.2 ⟨row63, List.forall_mem_cons.2 ⟨row64, List.forall_mem_cons.2 ⟨row65, List.forall_mem_cons.2 ⟨row66, List.forall_mem_cons.2 ⟨row67, List.forall_mem_cons.2 ⟨row68, List.forall_mem_cons.2 ⟨row69, List.forall_mem_cons.2 ⟨row79, List.forall_mem_cons.2 ⟨row80, List.forall_mem_cons.2 ⟨row81, List.forall_mem_cons.2 ⟨row82, List.forall_mem_cons.2 ⟨row83, List.forall_mem_cons.2 ⟨row88, List.forall_mem_cons.2 ⟨row89, List.forall_mem_cons.2 ⟨row90, List.forall_mem_cons.2 ⟨row93, List.forall_mem_cons.2 ⟨row95, (by intro p hp; cases hp)⟩⟩⟩⟩⟩⟩⟩⟩⟩⟩⟩⟩⟩⟩⟩⟩⟩⟩⟩⟩⟩⟩⟩
noncomputable def env : EnvT tab := envOf Try.prog tab ids (by decide) rows (full_of (by decide +kernel))
end Go.Proofs.Ytfnofecgpheaoaa
