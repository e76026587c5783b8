/- SlabTurns: the walk and the opened argument. -/
import Derived.Test.YtfmgncajhjkdlaaStw
import Derived.Test.YtfmgncajhjkdlaaSrn
