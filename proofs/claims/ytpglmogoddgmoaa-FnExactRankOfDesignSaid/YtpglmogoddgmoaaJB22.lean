/-
  Texts joined.
-/
import Derived.Test.YtpglmogoddgmoaaJB17
import Derived.Test.YtpglmogoddgmoaaJB19
import Derived.Test.YtpglmogoddgmoaaJB20
import Derived.Test.YtpglmogoddgmoaaJB21
set_option linter.unusedVariables false
set_option linter.unusedSimpArgs false
set_option maxRecDepth 100000
set_option maxHeartbeats 40000000

