/- The law of a nil side and a zero one: the machine reckons it, whatever the event's fields. -/
import Derived.Test.YtpnnkjhofkignaaGreatDoorK
import Derived.Test.YtpnnkjhofkignaaGreatDoorAvmMono
set_option linter.all false
namespace Go.Proofs.YtpnnkjhofkignaaGreatDoor
open Go Go.Avm
set_option maxRecDepth 100000 in
theorem assocNil_N (w k a b c : Int) (d : ByteArray) : callN cfg 60 0 3 [.agg [.int .i64 w, .int .i64 k, .int .i64 a, .int .i64 b, .int .i64 c, .str d]] [] = some (.bool true, []) := by kernel_rfl
theorem assocNil_ok (w k a b c : Int) (d : ByteArray) : callL cfg 0 3 [.agg [.int .i64 w, .int .i64 k, .int .i64 a, .int .i64 b, .int .i64 c, .str d]] [] = some (.bool true, []) := callN_L 60 _ _ _ _ _ (assocNil_N w k a b c d)
end Go.Proofs.YtpnnkjhofkignaaGreatDoor
