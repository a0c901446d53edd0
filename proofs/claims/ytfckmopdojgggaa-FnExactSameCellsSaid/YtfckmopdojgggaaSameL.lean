/-
  What the law on the same cells wants.
-/
import Derived.Test.YtfckmopdojgggaaSame
import Derived.Test.YtfckmopdojgggaaSz2
