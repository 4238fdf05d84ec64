/- PancakeOrderTurns: turns that order any short row, the smallest number of them, or ErrArg: a part of the proof (12 of 14): contracts of the functions, and plain lemmas. -/
import Derived.Test.YtepjhdblmghckaaUo
import Derived.Test.YtepjhdblmghckaaEo1
import Derived.Test.YtepjhdblmghckaaEo2
import Derived.Test.YtepjhdblmghckaaEo3
import Derived.Test.YtepjhdblmghckaaEo4
import Derived.Test.YtepjhdblmghckaaEo5
import Derived.Test.YtepjhdblmghckaaEo6
import Derived.Test.YtepjhdblmghckaaEo7
set_option linter.unusedVariables false
set_option linter.unusedSimpArgs false
namespace Go.Proofs.Ytepjhdblmghckaa.G
set_option maxRecDepth 100000
theorem chkt6_32:piece vt6 3 3 20 32 (chkO 6 ft6 mt6)=true:=by decide+kernel
theorem chkt6_33:piece vt6 3 3 20 33 (chkO 6 ft6 mt6)=true:=by decide+kernel
theorem chkt6_34:piece vt6 3 3 20 34 (chkO 6 ft6 mt6)=true:=by decide+kernel
theorem chkt6_35:piece vt6 3 3 20 35 (chkO 6 ft6 mt6)=true:=by decide+kernel
theorem chkt6_36:piece vt6 3 3 20 36 (chkO 6 ft6 mt6)=true:=by decide+kernel
theorem chkt6_37:piece vt6 3 3 20 37 (chkO 6 ft6 mt6)=true:=by decide+kernel
theorem chkt6_38:piece vt6 3 3 20 38 (chkO 6 ft6 mt6)=true:=by decide+kernel
theorem chkt6_39:piece vt6 3 3 20 39 (chkO 6 ft6 mt6)=true:=by decide+kernel
end Go.Proofs.Ytepjhdblmghckaa.G