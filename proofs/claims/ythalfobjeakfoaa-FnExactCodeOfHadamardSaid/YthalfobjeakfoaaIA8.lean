/-
  Texts joined.
-/
import Derived.Test.YthalfobjeakfoaaIA5
import Derived.Test.YthalfobjeakfoaaIA6
import Derived.Test.YthalfobjeakfoaaIA7
set_option linter.unusedVariables false
set_option linter.unusedSimpArgs false
set_option maxRecDepth 100000
set_option maxHeartbeats 40000000

