/-
  Texts joined.
-/
import Derived.Test.YtpglmogoddgmoaaJC11
import Derived.Test.YtpglmogoddgmoaaJC17
import Derived.Test.YtpglmogoddgmoaaJC19
set_option linter.unusedVariables false
set_option linter.unusedSimpArgs false
set_option maxRecDepth 100000
set_option maxHeartbeats 40000000

