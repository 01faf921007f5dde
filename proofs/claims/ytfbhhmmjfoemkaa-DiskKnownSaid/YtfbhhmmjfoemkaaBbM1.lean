/- My contracts: BbKnown13. -/
import Derived.Test.YtfbhhmmjfoemkaaBbG3
import Derived.Test.YtfbhhmmjfoemkaaBbG4
import Derived.Test.YtfbhhmmjfoemkaaBbTab
/- What is closed in the statements on disks. -/
namespace Go.Bb
set_option maxRecDepth 100000
theorem pk13 : isTrue (evF tab noHooks 1000 50 n_bandboxlaw13_DiskKnown [] VM.start) = true := by decide +kernel
theorem bandboxlaw13_DiskKnown_c (E : EnvT tab) (W : World) : ACallN E.toEnv n_bandboxlaw13_DiskKnown [] (roHeap W) fun v _ => v = .bool true :=
  (evF_true noHooks_ok _ pk13).mono fun _ _ h => h.1
end Go.Bb
