/-
  What the law on the neighbors wants.
-/
import Derived.Test.YtfckmopdojgggaaNbr
import Derived.Test.YtfckmopdojgggaaMark
