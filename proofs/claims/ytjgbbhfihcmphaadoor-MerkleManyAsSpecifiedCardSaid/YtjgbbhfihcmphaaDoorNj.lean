/- Walks and plain laws. Conditions: none. -/
import Derived.Test.YtjgbbhfihcmphaaDoorBodiesL4
set_option linter.all false
set_option maxRecDepth 10000
set_option maxHeartbeats 4000000
namespace Go.Proofs.YtjgbbhfihcmphaaDoor
open Go Go.Cn Go.RowKit
end Go.Proofs.YtjgbbhfihcmphaaDoor
