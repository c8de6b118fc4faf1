import Derived.Test.YtbebinlnjpfbeaaProg
import Derived.Test.YtbebinlnjpfbeaaCrcBits
import Derived.Test.YtbebinlnjpfbeaaMem
import Derived.WalkKit
import Derived.Below
import Derived.WalkLawsBesides
import Derived.WalkSpells
namespace Go.Proofs.Ytbebinlnjpfbeaa
open Go.RowKit
set_option maxRecDepth 100000
set_option linter.unusedVariables false
end Go.Proofs.Ytbebinlnjpfbeaa
