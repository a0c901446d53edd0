/-
  What a law over a region with a list of cells wants.
-/
import Derived.Test.YtfckmopdojgggaaRegL
import Derived.Test.YtfckmopdojgggaaMark
