/-
  The law CheadBack, with what opens its arrays.
-/
import Derived.Test.YtdjbgojdkaipfaaHeadBack
import Derived.Test.YtdjbgojdkaipfaaOpenArr
