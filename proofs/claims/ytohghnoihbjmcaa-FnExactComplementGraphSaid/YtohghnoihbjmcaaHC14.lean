/-
  Texts joined.
-/
import Derived.Test.YtohghnoihbjmcaaHC1
import Derived.Test.YtohghnoihbjmcaaHC7
import Derived.Test.YtohghnoihbjmcaaHC10
import Derived.Test.YtohghnoihbjmcaaHC11
import Derived.Test.YtohghnoihbjmcaaHC13
set_option linter.unusedVariables false
set_option linter.unusedSimpArgs false
set_option maxRecDepth 100000
set_option maxHeartbeats 40000000

