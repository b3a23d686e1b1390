/- Floats of 64 bits as a kind of their own: the bits, looked at by the model's own order alone. -/
import Derived.Test.YtlpllhpnnhablaaGreatSDictTextsOwnWMore
import Derived.Laws.Cover2
import Derived.Laws.Externs
import Derived.Test.YtlpllhpnnhablaaGreatProg
import Derived.KernelRfl
namespace Go.Proofs.YtlpllhpnnhablaaGreatW.PrintWords
open Go.RowKit
namespace Kd
end Kd
end Go.Proofs.YtlpllhpnnhablaaGreatW.PrintWords
namespace Go.Proofs.YtlpllhpnnhablaaGreat.XFloat
open Go.RowKit
end Go.Proofs.YtlpllhpnnhablaaGreat.XFloat
