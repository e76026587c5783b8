/- SlabMoves: the walk and the opened arguments. -/
import Derived.Test.YtfmgncajhjkdlaaSmw
import Derived.Test.YtfmgncajhjkdlaaSrn
