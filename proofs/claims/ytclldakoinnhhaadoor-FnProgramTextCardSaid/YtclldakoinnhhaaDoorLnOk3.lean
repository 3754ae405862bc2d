import Derived.Test.YtclldakoinnhhaaDoorLnOk2
namespace Go.Proofs.YtclldakoinnhhaaDoor
open Go.RowKit
set_option maxRecDepth 100000
end Go.Proofs.YtclldakoinnhhaaDoor
