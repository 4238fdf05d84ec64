/- PancakeOrderTurns: turns that order any short row, the smallest number of them, or ErrArg: a part of the proof (8 of 14): contracts of the functions, and plain lemmas. -/
import Derived.Test.YtepjhdblmghckaaUo
import Derived.Test.YtepjhdblmghckaaEo1
import Derived.Test.YtepjhdblmghckaaEo2
import Derived.Test.YtepjhdblmghckaaEo3
import Derived.Test.YtepjhdblmghckaaEo4
import Derived.Test.YtepjhdblmghckaaEo5
import Derived.Test.YtepjhdblmghckaaEo6
import Derived.Test.YtepjhdblmghckaaEo7
set_option linter.unusedVariables false
set_option linter.unusedSimpArgs false
namespace Go.Proofs.Ytepjhdblmghckaa.G
set_option maxRecDepth 100000
theorem chkt6_0:piece vt6 3 3 20 0 (chkO 6 ft6 mt6)=true:=by decide+kernel
theorem chkt6_1:piece vt6 3 3 20 1 (chkO 6 ft6 mt6)=true:=by decide+kernel
theorem chkt6_2:piece vt6 3 3 20 2 (chkO 6 ft6 mt6)=true:=by decide+kernel
theorem chkt6_3:piece vt6 3 3 20 3 (chkO 6 ft6 mt6)=true:=by decide+kernel
theorem chkt6_4:piece vt6 3 3 20 4 (chkO 6 ft6 mt6)=true:=by decide+kernel
theorem chkt6_5:piece vt6 3 3 20 5 (chkO 6 ft6 mt6)=true:=by decide+kernel
theorem chkt6_6:piece vt6 3 3 20 6 (chkO 6 ft6 mt6)=true:=by decide+kernel
theorem chkt6_7:piece vt6 3 3 20 7 (chkO 6 ft6 mt6)=true:=by decide+kernel
end Go.Proofs.Ytepjhdblmghckaa.G