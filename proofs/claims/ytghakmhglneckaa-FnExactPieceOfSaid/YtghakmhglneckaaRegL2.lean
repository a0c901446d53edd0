/-
  What a law over a region with a list of cells wants.
-/
import Derived.Test.YtghakmhglneckaaRegL
import Derived.Test.YtghakmhglneckaaMark
