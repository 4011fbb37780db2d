/-
  Texts joined.
-/
import Derived.Test.YtpglmogoddgmoaaJB6
import Derived.Test.YtpglmogoddgmoaaJB13
import Derived.Test.YtpglmogoddgmoaaJB15
set_option linter.unusedVariables false
set_option linter.unusedSimpArgs false
set_option maxRecDepth 100000
set_option maxHeartbeats 40000000

