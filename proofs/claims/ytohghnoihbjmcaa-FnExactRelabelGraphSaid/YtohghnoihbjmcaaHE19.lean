/-
  Texts joined.
-/
import Derived.Test.YtohghnoihbjmcaaHE1
import Derived.Test.YtohghnoihbjmcaaHE7
import Derived.Test.YtohghnoihbjmcaaHE10
import Derived.Test.YtohghnoihbjmcaaHE17
import Derived.Test.YtohghnoihbjmcaaHE18
set_option linter.unusedVariables false
set_option linter.unusedSimpArgs false
set_option maxRecDepth 100000
set_option maxHeartbeats 40000000

