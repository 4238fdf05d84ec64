/- TopTastes: the runs behind the first loop. -/
import Derived.Test.YtbadfjogakhhbaaGreatDoorF31
namespace Go.Proofs.YtbadfjogakhhbaaGreatDoor.Re
open Go Go.RowKit
set_option linter.unusedVariables false
set_option maxRecDepth 100000
theorem rt_1 (σ gt gw val gf m ok mok) : @rest (SX σ gt gw val gf (tabT 1) m ok mok) Tryz.prog (@GT (SX σ gt gw val gf (tabT 1) m ok mok)) (KK (fT 1) (sT 1)) 4000 0 3 3 (litN 1) = endR tT := by kernel_rfl
theorem rt_2 (σ gt gw val gf m ok mok) : @rest (SX σ gt gw val gf (tabT 2) m ok mok) Tryz.prog (@GT (SX σ gt gw val gf (tabT 2) m ok mok)) (KK (fT 2) (sT 2)) 4000 0 3 3 (litN 2) = endR tT := by kernel_rfl
theorem rt_3 (σ gt gw val gf m ok mok) : @rest (SX σ gt gw val gf (tabT 3) m ok mok) Tryz.prog (@GT (SX σ gt gw val gf (tabT 3) m ok mok)) (KK (fT 3) (sT 3)) 4000 0 3 3 (litN 3) = endR tT := by kernel_rfl
theorem rt_4 (σ gt gw val gf m ok mok) : @rest (SX σ gt gw val gf (tabT 4) m ok mok) Tryz.prog (@GT (SX σ gt gw val gf (tabT 4) m ok mok)) (KK (fT 4) (sT 4)) 4000 0 3 3 (litN 4) = endR tT := by kernel_rfl
theorem rt_5 (σ gt gw val gf m ok mok) : @rest (SX σ gt gw val gf (tabT 5) m ok mok) Tryz.prog (@GT (SX σ gt gw val gf (tabT 5) m ok mok)) (KK (fT 5) (sT 5)) 4000 0 3 3 (litN 5) = endR tT := by kernel_rfl
end Go.Proofs.YtbadfjogakhhbaaGreatDoor.Re
