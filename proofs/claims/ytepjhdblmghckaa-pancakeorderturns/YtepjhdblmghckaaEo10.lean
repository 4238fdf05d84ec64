/- PancakeOrderTurns: turns that order any short row, the smallest number of them, or ErrArg: a part of the proof (10 of 14): contracts of the functions, and plain lemmas. -/
import Derived.Test.YtepjhdblmghckaaUo
import Derived.Test.YtepjhdblmghckaaEo1
import Derived.Test.YtepjhdblmghckaaEo2
import Derived.Test.YtepjhdblmghckaaEo3
import Derived.Test.YtepjhdblmghckaaEo4
import Derived.Test.YtepjhdblmghckaaEo5
import Derived.Test.YtepjhdblmghckaaEo6
import Derived.Test.YtepjhdblmghckaaEo7
set_option linter.unusedVariables false
set_option linter.unusedSimpArgs false
namespace Go.Proofs.Ytepjhdblmghckaa.G
set_option maxRecDepth 100000
theorem chkt6_16:piece vt6 3 3 20 16 (chkO 6 ft6 mt6)=true:=by decide+kernel
theorem chkt6_17:piece vt6 3 3 20 17 (chkO 6 ft6 mt6)=true:=by decide+kernel
theorem chkt6_18:piece vt6 3 3 20 18 (chkO 6 ft6 mt6)=true:=by decide+kernel
theorem chkt6_19:piece vt6 3 3 20 19 (chkO 6 ft6 mt6)=true:=by decide+kernel
theorem chkt6_20:piece vt6 3 3 20 20 (chkO 6 ft6 mt6)=true:=by decide+kernel
theorem chkt6_21:piece vt6 3 3 20 21 (chkO 6 ft6 mt6)=true:=by decide+kernel
theorem chkt6_22:piece vt6 3 3 20 22 (chkO 6 ft6 mt6)=true:=by decide+kernel
theorem chkt6_23:piece vt6 3 3 20 23 (chkO 6 ft6 mt6)=true:=by decide+kernel
end Go.Proofs.Ytepjhdblmghckaa.G