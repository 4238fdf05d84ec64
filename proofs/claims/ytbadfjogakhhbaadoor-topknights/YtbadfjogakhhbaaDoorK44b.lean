/- The board of 4 times 4: the search for guards. -/
import Derived.Test.YtbadfjogakhhbaaDoorK44a
namespace Go.Proofs.YtbadfjogakhhbaaDoor.Re
open Go Go.RowKit
set_option linter.unusedVariables false
set_option linter.unusedSectionVars false
set_option maxRecDepth 100000
variable [Sig]
def dse_4_4_3 : SFact := ⟨38, [U 3, .ptr 0 0, .ptr 1 0, .ptr 2 0], [([.ptr 3 0], 66), ([U 65535], 70), ([.clo 38 [] [.ptr 0 0, .ptr 1 0, .ptr 2 0]], 90), ([I 4, I 4, I 16, U 576, U 1408, U 2576, U 1056, U 9220, U 22536, U 41217, U 16898, U 16450, U 32901, U 4122, U 8228, U 1056, U 2128, U 416, U 576, U 0, U 0, U 0, U 0, U 0, U 0, U 0, U 0, U 0, U 0, U 0, U 0, U 0, U 0, U 0, U 0, U 0, U 0, U 0, U 0], 73)], .tup [], [([.ptr 3 0], 66), ([U 103], 70), ([.clo 38 [] [.ptr 0 0, .ptr 1 0, .ptr 2 0]], 90), ([I 4, I 4, I 16, U 576, U 1408, U 2576, U 1056, U 9220, U 22536, U 41217, U 16898, U 16450, U 32901, U 4122, U 8228, U 1056, U 2128, U 416, U 576, U 0, U 0, U 0, U 0, U 0, U 0, U 0, U 0, U 0, U 0, U 0, U 0, U 0, U 0, U 0, U 0, U 0, U 0, U 0, U 0], 73)]⟩
theorem se_4_4_3 : SOK dse_4_4_3 := sr (l := []) (s := []) fn fn dse_4_4_3 (by kernel_rfl) rfl rfl
def dse_4_4_1 : SFact := ⟨38, [U 1, .ptr 0 0, .ptr 1 0, .ptr 2 0], [([.ptr 3 0], 66), ([U 65535], 70), ([.clo 38 [] [.ptr 0 0, .ptr 1 0, .ptr 2 0]], 90), ([I 4, I 4, I 16, U 576, U 1408, U 2576, U 1056, U 9220, U 22536, U 41217, U 16898, U 16450, U 32901, U 4122, U 8228, U 1056, U 2128, U 416, U 576, U 0, U 0, U 0, U 0, U 0, U 0, U 0, U 0, U 0, U 0, U 0, U 0, U 0, U 0, U 0, U 0, U 0, U 0, U 0, U 0], 73)], .tup [], [([.ptr 3 0], 66), ([U 103], 70), ([.clo 38 [] [.ptr 0 0, .ptr 1 0, .ptr 2 0]], 90), ([I 4, I 4, I 16, U 576, U 1408, U 2576, U 1056, U 9220, U 22536, U 41217, U 16898, U 16450, U 32901, U 4122, U 8228, U 1056, U 2128, U 416, U 576, U 0, U 0, U 0, U 0, U 0, U 0, U 0, U 0, U 0, U 0, U 0, U 0, U 0, U 0, U 0, U 0, U 0, U 0, U 0, U 0], 73)]⟩
theorem se_4_4_1 : SOK dse_4_4_1 := sr (l := []) (s := [dse_4_4_3]) fn (fa se_4_4_3 fn) dse_4_4_1 (by kernel_rfl) rfl rfl
end Go.Proofs.YtbadfjogakhhbaaDoor.Re
