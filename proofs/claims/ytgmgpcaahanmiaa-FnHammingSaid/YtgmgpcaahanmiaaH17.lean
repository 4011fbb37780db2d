/-
  Texts joined.
-/
import Derived.Test.YtgmgpcaahanmiaaH7
import Derived.Test.YtgmgpcaahanmiaaH13
import Derived.Test.YtgmgpcaahanmiaaH15
set_option linter.unusedVariables false
set_option linter.unusedSimpArgs false
set_option maxRecDepth 100000
set_option maxHeartbeats 40000000

