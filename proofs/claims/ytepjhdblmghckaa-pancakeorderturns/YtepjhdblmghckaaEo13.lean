/- PancakeOrderTurns: turns that order any short row, the smallest number of them, or ErrArg: a part of the proof (13 of 14): contracts of the functions, and plain lemmas. -/
import Derived.Test.YtepjhdblmghckaaUo
import Derived.Test.YtepjhdblmghckaaEo1
import Derived.Test.YtepjhdblmghckaaEo2
import Derived.Test.YtepjhdblmghckaaEo3
import Derived.Test.YtepjhdblmghckaaEo4
import Derived.Test.YtepjhdblmghckaaEo5
import Derived.Test.YtepjhdblmghckaaEo6
import Derived.Test.YtepjhdblmghckaaEo7
set_option linter.unusedVariables false
set_option linter.unusedSimpArgs false
namespace Go.Proofs.Ytepjhdblmghckaa.G
set_option maxRecDepth 100000
theorem chkt6_40:piece vt6 3 3 20 40 (chkO 6 ft6 mt6)=true:=by decide+kernel
theorem chkt6_41:piece vt6 3 3 20 41 (chkO 6 ft6 mt6)=true:=by decide+kernel
theorem chkt6_42:piece vt6 3 3 20 42 (chkO 6 ft6 mt6)=true:=by decide+kernel
theorem chkt6_43:piece vt6 3 3 20 43 (chkO 6 ft6 mt6)=true:=by decide+kernel
theorem chkt6_44:piece vt6 3 3 20 44 (chkO 6 ft6 mt6)=true:=by decide+kernel
theorem chkt6_45:piece vt6 3 3 20 45 (chkO 6 ft6 mt6)=true:=by decide+kernel
theorem chkt6_46:piece vt6 3 3 20 46 (chkO 6 ft6 mt6)=true:=by decide+kernel
theorem chkt6_47:piece vt6 3 3 20 47 (chkO 6 ft6 mt6)=true:=by decide+kernel
end Go.Proofs.Ytepjhdblmghckaa.G