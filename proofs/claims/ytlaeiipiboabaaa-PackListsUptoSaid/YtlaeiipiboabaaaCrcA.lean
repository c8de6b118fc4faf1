import Derived.Test.YtlaeiipiboabaaaProg
import Derived.Test.YtlaeiipiboabaaaCrcBits
import Derived.Test.YtlaeiipiboabaaaMem
import Derived.WalkKit
import Derived.Below
import Derived.WalkLawsBesides
import Derived.WalkSpells
namespace Go.Proofs.Ytlaeiipiboabaaa
open Go.RowKit
set_option maxRecDepth 100000
set_option linter.unusedVariables false
end Go.Proofs.Ytlaeiipiboabaaa
