/- What is closed in the statements on what can be known. -/
import Derived.Test.YtgoifophjcbpaaaBbY6
import Derived.Test.YtgoifophjcbpaaaBbTab
namespace Go.Bb
set_option maxRecDepth 100000
theorem kk18 : isTrue (evF tab noHooks 1000 50 n_bandboxlaw18_KnowKnown [] VM.start) = true := by decide +kernel
theorem bandboxlaw18_KnowKnown_c (E : EnvT tab) (W : World) : ACallN E.toEnv n_bandboxlaw18_KnowKnown [] (roHeap W) fun v _ => v = .bool true :=
  (evF_true noHooks_ok _ kk18).mono fun _ _ h => h.1
end Go.Bb
