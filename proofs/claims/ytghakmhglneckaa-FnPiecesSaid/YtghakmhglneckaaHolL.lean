/-
  The number of holes: both sides.
-/
import Derived.Test.YtghakmhglneckaaHolS
import Derived.Test.YtghakmhglneckaaHolI
import Derived.Test.YtghakmhglneckaaRegL
