/- The short forms are those of the program's functions, checked one by one. -/
import Derived.Test.YtgoifophjcbpaaaBbW
import Derived.Test.YtgoifophjcbpaaaBbTab
import Derived.Test.YtgoifophjcbpaaaChecked
import Derived.KernelRfl
namespace Go.Proofs.Ytgoifophjcbpaaa
open Go.Bb
set_option maxRecDepth 100000
def ids : List (Nat × FuncId) := [(1, 3), (13, 15), (14, 16)]
theorem row1 : RowOk Try.prog (numOf ids) tab (1, 3) := rowOk Try.f3 h_bandboxlaw12_PadBuckets ir_bandboxlaw12_PadBuckets Try.func3 rfl (by kernel_rfl) (by kernel_rfl) (by kernel_rfl)
theorem row13 : RowOk Try.prog (numOf ids) tab (13, 15) := rowOk Try.f15 h_bandboxlaw12_awake ir_bandboxlaw12_awake Try.func15 rfl (by kernel_rfl) (by kernel_rfl) (by kernel_rfl)
theorem row14 : RowOk Try.prog (numOf ids) tab (14, 16) := rowOk Try.f16 h_pad_Bucket ir_pad_Bucket Try.func16 rfl (by kernel_rfl) (by kernel_rfl) (by kernel_rfl)
theorem rows : ∀ p ∈ ids, RowOk Try.prog (numOf ids) tab p := List.forall_mem_cons.2 ⟨row1, List.forall_mem_cons.2 ⟨row13, List.forall_mem_cons.2 ⟨row14, (by intro p hp; cases hp)⟩⟩⟩
noncomputable def env : EnvT tab := envOf Try.prog tab ids (by decide) rows
end Go.Proofs.Ytgoifophjcbpaaa
