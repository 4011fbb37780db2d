/-
  Texts joined.
-/
import Derived.Test.YtgfcbmflnldicaaGreatDA10
import Derived.Test.YtgfcbmflnldicaaGreatDA16
import Derived.Test.YtgfcbmflnldicaaGreatDA18
set_option linter.unusedVariables false
set_option linter.unusedSimpArgs false
set_option maxRecDepth 100000
set_option maxHeartbeats 40000000

