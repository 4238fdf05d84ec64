/- The board of 4 times 4: guards. -/
import Derived.Test.YtbadfjogakhhbaaDoorK44b
namespace Go.Proofs.YtbadfjogakhhbaaDoor.Re
open Go Go.RowKit
set_option linter.unusedVariables false
set_option linter.unusedSectionVars false
set_option maxRecDepth 100000
variable [Sig]
def dse_4_4_64 : SFact := ⟨38, [U 64, .ptr 0 0, .ptr 1 0, .ptr 2 0], [([.ptr 3 0], 66), ([U 103], 70), ([.clo 38 [] [.ptr 0 0, .ptr 1 0, .ptr 2 0]], 90), ([I 4, I 4, I 16, U 576, U 1408, U 2576, U 1056, U 9220, U 22536, U 41217, U 16898, U 16450, U 32901, U 4122, U 8228, U 1056, U 2128, U 416, U 576, U 0, U 0, U 0, U 0, U 0, U 0, U 0, U 0, U 0, U 0, U 0, U 0, U 0, U 0, U 0, U 0, U 0, U 0, U 0, U 0], 73)], .tup [], [([.ptr 3 0], 66), ([U 102], 70), ([.clo 38 [] [.ptr 0 0, .ptr 1 0, .ptr 2 0]], 90), ([I 4, I 4, I 16, U 576, U 1408, U 2576, U 1056, U 9220, U 22536, U 41217, U 16898, U 16450, U 32901, U 4122, U 8228, U 1056, U 2128, U 416, U 576, U 0, U 0, U 0, U 0, U 0, U 0, U 0, U 0, U 0, U 0, U 0, U 0, U 0, U 0, U 0, U 0, U 0, U 0, U 0, U 0], 73)]⟩
theorem se_4_4_64 : SOK dse_4_4_64 := sr (l := []) (s := []) fn fn dse_4_4_64 (by kernel_rfl) rfl rfl
def dse_4_4_512 : SFact := ⟨38, [U 512, .ptr 0 0, .ptr 1 0, .ptr 2 0], [([.ptr 3 0], 66), ([U 102], 70), ([.clo 38 [] [.ptr 0 0, .ptr 1 0, .ptr 2 0]], 90), ([I 4, I 4, I 16, U 576, U 1408, U 2576, U 1056, U 9220, U 22536, U 41217, U 16898, U 16450, U 32901, U 4122, U 8228, U 1056, U 2128, U 416, U 576, U 0, U 0, U 0, U 0, U 0, U 0, U 0, U 0, U 0, U 0, U 0, U 0, U 0, U 0, U 0, U 0, U 0, U 0, U 0, U 0], 73)], .tup [], [([.ptr 3 0], 66), ([U 102], 70), ([.clo 38 [] [.ptr 0 0, .ptr 1 0, .ptr 2 0]], 90), ([I 4, I 4, I 16, U 576, U 1408, U 2576, U 1056, U 9220, U 22536, U 41217, U 16898, U 16450, U 32901, U 4122, U 8228, U 1056, U 2128, U 416, U 576, U 0, U 0, U 0, U 0, U 0, U 0, U 0, U 0, U 0, U 0, U 0, U 0, U 0, U 0, U 0, U 0, U 0, U 0, U 0, U 0], 73)]⟩
theorem se_4_4_512 : SOK dse_4_4_512 := sr (l := []) (s := []) fn fn dse_4_4_512 (by kernel_rfl) rfl rfl
def dgd_4_4 : Fact := ⟨14, [I 4, I 4], .tup [I 102, I 4, I 0], []⟩
theorem gd_4_4 : FOK dgd_4_4 := fr (l := [dop_4_4]) (s := [dse_4_4_1, dse_4_4_64, dse_4_4_512]) (fa op_4_4 fn) (fa se_4_4_1 (fa se_4_4_64 (fa se_4_4_512 fn))) dgd_4_4 rfl rfl (by kernel_rfl)
end Go.Proofs.YtbadfjogakhhbaaDoor.Re
