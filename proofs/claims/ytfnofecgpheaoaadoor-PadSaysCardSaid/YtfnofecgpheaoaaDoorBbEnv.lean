/- The short forms are those of the program's functions, checked one by one. -/
import Derived.Test.YtfnofecgpheaoaaDoorBbG3
import Derived.Test.YtfnofecgpheaoaaDoorBbTab
import Derived.Test.YtfnofecgpheaoaaDoorChecked
import Derived.KernelRfl
namespace Go.Proofs.YtfnofecgpheaoaaDoor
open Go.Bb
set_option maxRecDepth 100000
def ids : List (Nat × FuncId) := [(13, 6), (14, 7), (150, 4), (151, 5), (152, 8), (153, 9), (154, 10), (155, 11), (156, 12), (157, 13), (158, 14), (159, 15), (160, 16), (161, 17), (162, 18), (163, 19), (164, 20), (165, 21), (166, 22), (167, 23), (168, 24)]
theorem row13 : RowOk Tryd.prog (numOf ids) tab (13, 6) := rowOk Tryd.f6 h_bandboxlaw12_awake ir_bandboxlaw12_awake Tryd.func6 rfl (by kernel_rfl) (by kernel_rfl) (by kernel_rfl)
theorem row14 : RowOk Tryd.prog (numOf ids) tab (14, 7) := rowOk Tryd.f7 h_pad_Bucket ir_pad_Bucket Tryd.func7 rfl (by kernel_rfl) (by kernel_rfl) (by kernel_rfl)
theorem row150 : RowOk Tryd.prog (numOf ids) tab (150, 4) := rowOk Tryd.f4 h_bandboxlaw12_PadSays ir_bandboxlaw12_PadSays Tryd.func4 rfl (by kernel_rfl) (by kernel_rfl) (by kernel_rfl)
theorem row151 : RowOk Tryd.prog (numOf ids) tab (151, 5) := rowOk Tryd.f5 h_bandboxlaw12_PadBack ir_bandboxlaw12_PadBack Tryd.func5 rfl (by kernel_rfl) (by kernel_rfl) (by kernel_rfl)
theorem row152 : RowOk Tryd.prog (numOf ids) tab (152, 8) := rowOk Tryd.f8 h_pad_Pad ir_pad_Pad Tryd.func8 rfl (by kernel_rfl) (by kernel_rfl) (by kernel_rfl)
theorem row153 : RowOk Tryd.prog (numOf ids) tab (153, 9) := rowOk Tryd.f9 h_pad_Unpad ir_pad_Unpad Tryd.func9 rfl (by kernel_rfl) (by kernel_rfl) (by kernel_rfl)
theorem row154 : RowOk Tryd.prog (numOf ids) tab (154, 10) := rowOk Tryd.f10 h_bandboxref11_Bucket ir_bandboxref11_Bucket Tryd.func10 rfl (by kernel_rfl) (by kernel_rfl) (by kernel_rfl)
theorem row155 : RowOk Tryd.prog (numOf ids) tab (155, 11) := rowOk Tryd.f11 h_bandboxref11_Pad ir_bandboxref11_Pad Tryd.func11 rfl (by kernel_rfl) (by kernel_rfl) (by kernel_rfl)
theorem row156 : RowOk Tryd.prog (numOf ids) tab (156, 12) := rowOk Tryd.f12 h_bandboxref11_Unpad ir_bandboxref11_Unpad Tryd.func12 rfl (by kernel_rfl) (by kernel_rfl) (by kernel_rfl)
theorem row157 : RowOk Tryd.prog (numOf ids) tab (157, 13) := rowOk Tryd.f13 h_bytes_TrimRight ir_bytes_TrimRight Tryd.func13 rfl (by kernel_rfl) (by kernel_rfl) (by kernel_rfl)
theorem row158 : RowOk Tryd.prog (numOf ids) tab (158, 14) := rowOk Tryd.f14 h_bytes_Clone ir_bytes_Clone Tryd.func14 rfl (by kernel_rfl) (by kernel_rfl) (by kernel_rfl)
theorem row159 : RowOk Tryd.prog (numOf ids) tab (159, 15) := rowOk Tryd.f15 h_bytes_trimRightByte ir_bytes_trimRightByte Tryd.func15 rfl (by kernel_rfl) (by kernel_rfl) (by kernel_rfl)
theorem row160 : RowOk Tryd.prog (numOf ids) tab (160, 16) := rowOk Tryd.f16 h_bytes_makeASCIISet ir_bytes_makeASCIISet Tryd.func16 rfl (by kernel_rfl) (by kernel_rfl) (by kernel_rfl)
theorem row161 : RowOk Tryd.prog (numOf ids) tab (161, 17) := rowOk Tryd.f17 h_bytes_trimRightASCII ir_bytes_trimRightASCII Tryd.func17 rfl (by kernel_rfl) (by kernel_rfl) (by kernel_rfl)
theorem row162 : RowOk Tryd.prog (numOf ids) tab (162, 18) := rowOk Tryd.f18 h_bytes_trimRightUnicode ir_bytes_trimRightUnicode Tryd.func18 rfl (by kernel_rfl) (by kernel_rfl) (by kernel_rfl)
theorem row163 : RowOk Tryd.prog (numOf ids) tab (163, 19) := rowOk Tryd.f19 h_bytes_asciiSet_contains ir_bytes_asciiSet_contains Tryd.func19 rfl (by kernel_rfl) (by kernel_rfl) (by kernel_rfl)
theorem row164 : RowOk Tryd.prog (numOf ids) tab (164, 20) := rowOk Tryd.f20 h_unicode_utf8_DecodeLastRune ir_unicode_utf8_DecodeLastRune Tryd.func20 rfl (by kernel_rfl) (by kernel_rfl) (by kernel_rfl)
theorem row165 : RowOk Tryd.prog (numOf ids) tab (165, 21) := rowOk Tryd.f21 h_bytes_containsRune ir_bytes_containsRune Tryd.func21 rfl (by kernel_rfl) (by kernel_rfl) (by kernel_rfl)
theorem row166 : RowOk Tryd.prog (numOf ids) tab (166, 22) := rowOk Tryd.f22 h_unicode_utf8_RuneStart ir_unicode_utf8_RuneStart Tryd.func22 rfl (by kernel_rfl) (by kernel_rfl) (by kernel_rfl)
theorem row167 : RowOk Tryd.prog (numOf ids) tab (167, 23) := rowOk Tryd.f23 h_unicode_utf8_DecodeRune ir_unicode_utf8_DecodeRune Tryd.func23 rfl (by kernel_rfl) (by kernel_rfl) (by kernel_rfl)
theorem row168 : RowOk Tryd.prog (numOf ids) tab (168, 24) := rowOk Tryd.f24 h_unicode_utf8_decodeRuneSlow ir_unicode_utf8_decodeRuneSlow Tryd.func24 rfl (by kernel_rfl) (by kernel_rfl) (by kernel_rfl)
theorem rows : ∀ p ∈ ids, RowOk Tryd.prog (numOf ids) tab p := List.forall_mem_cons.2 ⟨row13, List.forall_mem_cons.2 ⟨row14, List.forall_mem_cons.2 ⟨row150, List.forall_mem_cons.2 ⟨row151, List.forall_mem_cons.2 ⟨row152, List.forall_mem_cons.2 ⟨row153, List.forall_mem_cons.2 ⟨row154, List.forall_mem_cons.2 ⟨row155, List.forall_mem_cons.2 ⟨row156, List.forall_mem_cons.2 ⟨row157, List.forall_mem_cons.2 ⟨row158, List.forall_mem_cons.2 ⟨row159, List.forall_mem_cons.2 ⟨row160, List.forall_mem_cons.2 ⟨row161, List.forall_mem_cons.2 ⟨row162, List.forall_mem_cons.2 ⟨row163, List.forall_mem_cons.2 ⟨row164, List.forall_mem_cons.2 ⟨row165, List.forall_mem_cons.2 ⟨row166, List.forall_mem_cons.2 ⟨row167, List.forall_mem_cons.2 ⟨row168, (by intro p hp; cases hp)⟩⟩⟩⟩⟩⟩⟩⟩⟩⟩⟩⟩⟩⟩⟩⟩⟩⟩⟩⟩⟩
noncomputable def env : EnvT tab := envOf Tryd.prog tab ids (by decide) rows (full_of (by decide +kernel))
end Go.Proofs.YtfnofecgpheaoaaDoor
