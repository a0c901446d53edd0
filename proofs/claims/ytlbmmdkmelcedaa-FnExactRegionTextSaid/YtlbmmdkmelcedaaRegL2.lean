/-
  What a law over a region with a list of cells wants.
-/
import Derived.Test.YtlbmmdkmelcedaaRegL
import Derived.Test.YtlbmmdkmelcedaaMark
