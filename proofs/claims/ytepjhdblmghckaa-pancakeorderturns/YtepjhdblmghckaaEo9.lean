/- PancakeOrderTurns: turns that order any short row, the smallest number of them, or ErrArg: a part of the proof (9 of 14): contracts of the functions, and plain lemmas. -/
import Derived.Test.YtepjhdblmghckaaUo
import Derived.Test.YtepjhdblmghckaaEo1
import Derived.Test.YtepjhdblmghckaaEo2
import Derived.Test.YtepjhdblmghckaaEo3
import Derived.Test.YtepjhdblmghckaaEo4
import Derived.Test.YtepjhdblmghckaaEo5
import Derived.Test.YtepjhdblmghckaaEo6
import Derived.Test.YtepjhdblmghckaaEo7
set_option linter.unusedVariables false
set_option linter.unusedSimpArgs false
namespace Go.Proofs.Ytepjhdblmghckaa.G
set_option maxRecDepth 100000
theorem chkt6_8:piece vt6 3 3 20 8 (chkO 6 ft6 mt6)=true:=by decide+kernel
theorem chkt6_9:piece vt6 3 3 20 9 (chkO 6 ft6 mt6)=true:=by decide+kernel
theorem chkt6_10:piece vt6 3 3 20 10 (chkO 6 ft6 mt6)=true:=by decide+kernel
theorem chkt6_11:piece vt6 3 3 20 11 (chkO 6 ft6 mt6)=true:=by decide+kernel
theorem chkt6_12:piece vt6 3 3 20 12 (chkO 6 ft6 mt6)=true:=by decide+kernel
theorem chkt6_13:piece vt6 3 3 20 13 (chkO 6 ft6 mt6)=true:=by decide+kernel
theorem chkt6_14:piece vt6 3 3 20 14 (chkO 6 ft6 mt6)=true:=by decide+kernel
theorem chkt6_15:piece vt6 3 3 20 15 (chkO 6 ft6 mt6)=true:=by decide+kernel
end Go.Proofs.Ytepjhdblmghckaa.G