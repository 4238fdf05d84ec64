/- PancakeOrderTurns: turns that order any short row, the smallest number of them, or ErrArg: a part of the proof (11 of 14): contracts of the functions, and plain lemmas. -/
import Derived.Test.YtepjhdblmghckaaUo
import Derived.Test.YtepjhdblmghckaaEo1
import Derived.Test.YtepjhdblmghckaaEo2
import Derived.Test.YtepjhdblmghckaaEo3
import Derived.Test.YtepjhdblmghckaaEo4
import Derived.Test.YtepjhdblmghckaaEo5
import Derived.Test.YtepjhdblmghckaaEo6
import Derived.Test.YtepjhdblmghckaaEo7
set_option linter.unusedVariables false
set_option linter.unusedSimpArgs false
namespace Go.Proofs.Ytepjhdblmghckaa.G
set_option maxRecDepth 100000
theorem chkt6_24:piece vt6 3 3 20 24 (chkO 6 ft6 mt6)=true:=by decide+kernel
theorem chkt6_25:piece vt6 3 3 20 25 (chkO 6 ft6 mt6)=true:=by decide+kernel
theorem chkt6_26:piece vt6 3 3 20 26 (chkO 6 ft6 mt6)=true:=by decide+kernel
theorem chkt6_27:piece vt6 3 3 20 27 (chkO 6 ft6 mt6)=true:=by decide+kernel
theorem chkt6_28:piece vt6 3 3 20 28 (chkO 6 ft6 mt6)=true:=by decide+kernel
theorem chkt6_29:piece vt6 3 3 20 29 (chkO 6 ft6 mt6)=true:=by decide+kernel
theorem chkt6_30:piece vt6 3 3 20 30 (chkO 6 ft6 mt6)=true:=by decide+kernel
theorem chkt6_31:piece vt6 3 3 20 31 (chkO 6 ft6 mt6)=true:=by decide+kernel
end Go.Proofs.Ytepjhdblmghckaa.G