/- What is closed in the statements on tags. -/
import Derived.Test.YtgoifophjcbpaaaBbY6
import Derived.Test.YtgoifophjcbpaaaBbTab
namespace Go.Bb
set_option maxRecDepth 100000
theorem pk5 : isTrue (evF tab noHooks 1000 50 n_bandboxlaw5_PolyKnown [] VM.start) = true := by decide +kernel
theorem bandboxlaw5_PolyKnown_c (E : EnvT tab) (W : World) : ACallN E.toEnv n_bandboxlaw5_PolyKnown [] (roHeap W) fun v _ => v = .bool true :=
  (evF_true noHooks_ok _ pk5).mono fun _ _ h => h.1
end Go.Bb
