/- What is closed in the statements on pads. -/
import Derived.Test.YtfnofecgpheaoaaDoorBbY6
import Derived.Test.YtfnofecgpheaoaaDoorBbTab
namespace Go.Bb
set_option maxRecDepth 100000
theorem pk12 : isTrue (evF tab noHooks 1000 50 n_bandboxlaw12_PadKnown [] VM.start) = true := by decide +kernel
theorem bandboxlaw12_PadKnown_c (E : EnvT tab) (W : World) : ACallN E.toEnv n_bandboxlaw12_PadKnown [] (roHeap W) fun v _ => v = .bool true :=
  (evF_true noHooks_ok _ pk12).mono fun _ _ h => h.1
end Go.Bb
