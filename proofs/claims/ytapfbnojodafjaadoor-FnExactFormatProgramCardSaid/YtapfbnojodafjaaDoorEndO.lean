import Derived.Test.YtapfbnojodafjaaDoorStrc
namespace Go.Proofs.YtapfbnojodafjaaDoor
open Go.RowKit
set_option maxRecDepth 100000
end Go.Proofs.YtapfbnojodafjaaDoor
