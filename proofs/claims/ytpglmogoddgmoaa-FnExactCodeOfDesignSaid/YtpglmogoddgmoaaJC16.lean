/-
  Texts joined.
-/
import Derived.Test.YtpglmogoddgmoaaJC6
import Derived.Test.YtpglmogoddgmoaaJC13
import Derived.Test.YtpglmogoddgmoaaJC15
set_option linter.unusedVariables false
set_option linter.unusedSimpArgs false
set_option maxRecDepth 100000
set_option maxHeartbeats 40000000

