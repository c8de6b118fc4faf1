import Derived.Test.YtcaljnlicohkaaaProg
import Derived.Test.YtcaljnlicohkaaaCrcBits
import Derived.Test.YtcaljnlicohkaaaMem
import Derived.WalkKit
import Derived.Below
import Derived.WalkLawsBesides
import Derived.WalkSpells
namespace Go.Proofs.Ytcaljnlicohkaaa
open Go.RowKit
set_option maxRecDepth 100000
set_option linter.unusedVariables false
end Go.Proofs.Ytcaljnlicohkaaa
