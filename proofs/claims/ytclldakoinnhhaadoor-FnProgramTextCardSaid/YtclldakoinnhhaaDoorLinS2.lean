import Derived.Test.YtclldakoinnhhaaDoorLinS
namespace Go.Proofs.YtclldakoinnhhaaDoor
open Go.RowKit
set_option maxRecDepth 100000
theorem lnC_flat_length (P : List LP) : (P.flatMap lnC).length = P.length * 4 := flat_length lnC 4 (fun _ => rfl) P
theorem Tryd.infoLine : (Tryd.prog.info? 29).map (fun i => (i.zero, i.size, i.bytes)) = some (some (.agg #[.int .i64 0, .string ByteArray.empty, .slice none 0 0, .slice none 0 0]), 4, 72) := by kernel_rfl
end Go.Proofs.YtclldakoinnhhaaDoor
