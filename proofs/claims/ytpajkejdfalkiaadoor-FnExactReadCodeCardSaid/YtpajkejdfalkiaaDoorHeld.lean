/-
  The tactics for a region in which loads stand beside calls that make memory. No statement of its own.
-/
import Derived.Test.YtpajkejdfalkiaaDoorRows
import Derived.Deep.RegionHeld3
