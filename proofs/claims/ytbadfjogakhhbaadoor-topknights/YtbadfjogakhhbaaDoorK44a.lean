/- The board of 4 times 4: facts. -/
import Derived.Test.YtbadfjogakhhbaaDoorE22
namespace Go.Proofs.YtbadfjogakhhbaaDoor.Re
open Go Go.RowKit
set_option linter.unusedVariables false
set_option linter.unusedSectionVars false
set_option maxRecDepth 100000
variable [Sig]
def dop_4_4 : Fact := ⟨29, [I 4, I 4, .raw (.slice none 0 0)], .tup [.ptr 0 0, I 0], [([I 4, I 4, I 16, U 576, U 1408, U 2576, U 1056, U 9220, U 22536, U 41217, U 16898, U 16450, U 32901, U 4122, U 8228, U 1056, U 2128, U 416, U 576, U 0, U 0, U 0, U 0, U 0, U 0, U 0, U 0, U 0, U 0, U 0, U 0, U 0, U 0, U 0, U 0, U 0, U 0, U 0, U 0], 73)]⟩
theorem op_4_4 : FOK dop_4_4 := fr (l := []) (s := []) fn fn dop_4_4 rfl rfl (by kernel_rfl)
def ol_4_4 (x : Int) : Lit := ⟨122, [(0, I 4), (1, I 4), (2, .sl 0 0 1 1), (8, .ptr 1 0)], [([.raw (.int .i64 x)], 3), ([.ptr 2 0], 66), ([I 4, I 4, I 16, U 576, U 1408, U 2576, U 1056, U 9220, U 22536, U 41217, U 16898, U 16450, U 32901, U 4122, U 8228, U 1056, U 2128, U 416, U 576, U 0, U 0, U 0, U 0, U 0, U 0, U 0, U 0, U 0, U 0, U 0, U 0, U 0, U 0, U 0, U 0, U 0, U 0, U 0, U 0], 73)]⟩
theorem oh_4_4 (x : Int) : half Tryd.prog GT noK 4000 1 3 [0, 1, 2, 8] 29 [I 4, I 4, .sl 0 0 1 1] [([.raw (.int .i64 x)], 3)] = litR (ol_4_4 x) := by kernel_rfl
def dos_4_4_0 : SFact := ⟨29, [I 4, I 4, .sl 0 0 1 1], [([I 0], 3)], .tup [.ptr 1 0, I 0], [([I 0], 3), ([I 4, I 4, I 16, U 576, U 1408, U 2576, U 1056, U 9220, U 22536, U 41217, U 16898, U 16450, U 32901, U 4122, U 8228, U 1056, U 2128, U 416, U 576, U 0, U 0, U 0, U 0, U 0, U 0, U 0, U 0, U 0, U 0, U 0, U 0, U 0, U 0, U 0, U 0, U 0, U 0, U 0, U 0], 73)]⟩
theorem os_4_4_0 : SOK dos_4_4_0 := ⟨scut (fun _ => noK_ok) (fun _ => noK_ok) (k2 := 4000) (t := dos_4_4_0) (ol_4_4 (.ofNat 0)) (oh_4_4 (.ofNat 0)) (by kernel_rfl) rfl, rfl⟩
def dos_4_4_1 : SFact := ⟨29, [I 4, I 4, .sl 0 0 1 1], [([I 1], 3)], .tup [.ptr 1 0, I 0], [([I 1], 3), ([I 4, I 4, I 16, U 576, U 1408, U 2576, U 1056, U 9220, U 22536, U 41217, U 16898, U 16450, U 32901, U 4122, U 8228, U 1056, U 2128, U 416, U 576, U 0, U 0, U 0, U 0, U 0, U 0, U 0, U 0, U 0, U 0, U 0, U 0, U 0, U 0, U 0, U 0, U 0, U 0, U 0, U 0], 73)]⟩
theorem os_4_4_1 : SOK dos_4_4_1 := ⟨scut (fun _ => noK_ok) (fun _ => noK_ok) (k2 := 4000) (t := dos_4_4_1) (ol_4_4 (.ofNat 1)) (oh_4_4 (.ofNat 1)) (by kernel_rfl) rfl, rfl⟩
def dos_4_4_2 : SFact := ⟨29, [I 4, I 4, .sl 0 0 1 1], [([I 2], 3)], .tup [.ptr 1 0, I 0], [([I 2], 3), ([I 4, I 4, I 16, U 576, U 1408, U 2576, U 1056, U 9220, U 22536, U 41217, U 16898, U 16450, U 32901, U 4122, U 8228, U 1056, U 2128, U 416, U 576, U 0, U 0, U 0, U 0, U 0, U 0, U 0, U 0, U 0, U 0, U 0, U 0, U 0, U 0, U 0, U 0, U 0, U 0, U 0, U 0], 73)]⟩
theorem os_4_4_2 : SOK dos_4_4_2 := ⟨scut (fun _ => noK_ok) (fun _ => noK_ok) (k2 := 4000) (t := dos_4_4_2) (ol_4_4 (.ofNat 2)) (oh_4_4 (.ofNat 2)) (by kernel_rfl) rfl, rfl⟩
def dos_4_4_3 : SFact := ⟨29, [I 4, I 4, .sl 0 0 1 1], [([I 3], 3)], .tup [.ptr 1 0, I 0], [([I 3], 3), ([I 4, I 4, I 16, U 576, U 1408, U 2576, U 1056, U 9220, U 22536, U 41217, U 16898, U 16450, U 32901, U 4122, U 8228, U 1056, U 2128, U 416, U 576, U 0, U 0, U 0, U 0, U 0, U 0, U 0, U 0, U 0, U 0, U 0, U 0, U 0, U 0, U 0, U 0, U 0, U 0, U 0, U 0], 73)]⟩
theorem os_4_4_3 : SOK dos_4_4_3 := ⟨scut (fun _ => noK_ok) (fun _ => noK_ok) (k2 := 4000) (t := dos_4_4_3) (ol_4_4 (.ofNat 3)) (oh_4_4 (.ofNat 3)) (by kernel_rfl) rfl, rfl⟩
def dos_4_4_4 : SFact := ⟨29, [I 4, I 4, .sl 0 0 1 1], [([I 4], 3)], .tup [.ptr 1 0, I 0], [([I 4], 3), ([I 4, I 4, I 16, U 576, U 1408, U 2576, U 1056, U 9220, U 22536, U 41217, U 16898, U 16450, U 32901, U 4122, U 8228, U 1056, U 2128, U 416, U 576, U 0, U 0, U 0, U 0, U 0, U 0, U 0, U 0, U 0, U 0, U 0, U 0, U 0, U 0, U 0, U 0, U 0, U 0, U 0, U 0], 73)]⟩
theorem os_4_4_4 : SOK dos_4_4_4 := ⟨scut (fun _ => noK_ok) (fun _ => noK_ok) (k2 := 4000) (t := dos_4_4_4) (ol_4_4 (.ofNat 4)) (oh_4_4 (.ofNat 4)) (by kernel_rfl) rfl, rfl⟩
def dos_4_4_5 : SFact := ⟨29, [I 4, I 4, .sl 0 0 1 1], [([I 5], 3)], .tup [.ptr 1 0, I 0], [([I 5], 3), ([I 4, I 4, I 16, U 576, U 1408, U 2576, U 1056, U 9220, U 22536, U 41217, U 16898, U 16450, U 32901, U 4122, U 8228, U 1056, U 2128, U 416, U 576, U 0, U 0, U 0, U 0, U 0, U 0, U 0, U 0, U 0, U 0, U 0, U 0, U 0, U 0, U 0, U 0, U 0, U 0, U 0, U 0], 73)]⟩
theorem os_4_4_5 : SOK dos_4_4_5 := ⟨scut (fun _ => noK_ok) (fun _ => noK_ok) (k2 := 4000) (t := dos_4_4_5) (ol_4_4 (.ofNat 5)) (oh_4_4 (.ofNat 5)) (by kernel_rfl) rfl, rfl⟩
def dos_4_4_6 : SFact := ⟨29, [I 4, I 4, .sl 0 0 1 1], [([I 6], 3)], .tup [.ptr 1 0, I 0], [([I 6], 3), ([I 4, I 4, I 16, U 576, U 1408, U 2576, U 1056, U 9220, U 22536, U 41217, U 16898, U 16450, U 32901, U 4122, U 8228, U 1056, U 2128, U 416, U 576, U 0, U 0, U 0, U 0, U 0, U 0, U 0, U 0, U 0, U 0, U 0, U 0, U 0, U 0, U 0, U 0, U 0, U 0, U 0, U 0], 73)]⟩
theorem os_4_4_6 : SOK dos_4_4_6 := ⟨scut (fun _ => noK_ok) (fun _ => noK_ok) (k2 := 4000) (t := dos_4_4_6) (ol_4_4 (.ofNat 6)) (oh_4_4 (.ofNat 6)) (by kernel_rfl) rfl, rfl⟩
def dos_4_4_7 : SFact := ⟨29, [I 4, I 4, .sl 0 0 1 1], [([I 7], 3)], .tup [.ptr 1 0, I 0], [([I 7], 3), ([I 4, I 4, I 16, U 576, U 1408, U 2576, U 1056, U 9220, U 22536, U 41217, U 16898, U 16450, U 32901, U 4122, U 8228, U 1056, U 2128, U 416, U 576, U 0, U 0, U 0, U 0, U 0, U 0, U 0, U 0, U 0, U 0, U 0, U 0, U 0, U 0, U 0, U 0, U 0, U 0, U 0, U 0], 73)]⟩
theorem os_4_4_7 : SOK dos_4_4_7 := ⟨scut (fun _ => noK_ok) (fun _ => noK_ok) (k2 := 4000) (t := dos_4_4_7) (ol_4_4 (.ofNat 7)) (oh_4_4 (.ofNat 7)) (by kernel_rfl) rfl, rfl⟩
def dos_4_4_8 : SFact := ⟨29, [I 4, I 4, .sl 0 0 1 1], [([I 8], 3)], .tup [.ptr 1 0, I 0], [([I 8], 3), ([I 4, I 4, I 16, U 576, U 1408, U 2576, U 1056, U 9220, U 22536, U 41217, U 16898, U 16450, U 32901, U 4122, U 8228, U 1056, U 2128, U 416, U 576, U 0, U 0, U 0, U 0, U 0, U 0, U 0, U 0, U 0, U 0, U 0, U 0, U 0, U 0, U 0, U 0, U 0, U 0, U 0, U 0], 73)]⟩
theorem os_4_4_8 : SOK dos_4_4_8 := ⟨scut (fun _ => noK_ok) (fun _ => noK_ok) (k2 := 4000) (t := dos_4_4_8) (ol_4_4 (.ofNat 8)) (oh_4_4 (.ofNat 8)) (by kernel_rfl) rfl, rfl⟩
def dos_4_4_9 : SFact := ⟨29, [I 4, I 4, .sl 0 0 1 1], [([I 9], 3)], .tup [.ptr 1 0, I 0], [([I 9], 3), ([I 4, I 4, I 16, U 576, U 1408, U 2576, U 1056, U 9220, U 22536, U 41217, U 16898, U 16450, U 32901, U 4122, U 8228, U 1056, U 2128, U 416, U 576, U 0, U 0, U 0, U 0, U 0, U 0, U 0, U 0, U 0, U 0, U 0, U 0, U 0, U 0, U 0, U 0, U 0, U 0, U 0, U 0], 73)]⟩
theorem os_4_4_9 : SOK dos_4_4_9 := ⟨scut (fun _ => noK_ok) (fun _ => noK_ok) (k2 := 4000) (t := dos_4_4_9) (ol_4_4 (.ofNat 9)) (oh_4_4 (.ofNat 9)) (by kernel_rfl) rfl, rfl⟩
def dos_4_4_10 : SFact := ⟨29, [I 4, I 4, .sl 0 0 1 1], [([I 10], 3)], .tup [.ptr 1 0, I 0], [([I 10], 3), ([I 4, I 4, I 16, U 576, U 1408, U 2576, U 1056, U 9220, U 22536, U 41217, U 16898, U 16450, U 32901, U 4122, U 8228, U 1056, U 2128, U 416, U 576, U 0, U 0, U 0, U 0, U 0, U 0, U 0, U 0, U 0, U 0, U 0, U 0, U 0, U 0, U 0, U 0, U 0, U 0, U 0, U 0], 73)]⟩
theorem os_4_4_10 : SOK dos_4_4_10 := ⟨scut (fun _ => noK_ok) (fun _ => noK_ok) (k2 := 4000) (t := dos_4_4_10) (ol_4_4 (.ofNat 10)) (oh_4_4 (.ofNat 10)) (by kernel_rfl) rfl, rfl⟩
def dos_4_4_11 : SFact := ⟨29, [I 4, I 4, .sl 0 0 1 1], [([I 11], 3)], .tup [.ptr 1 0, I 0], [([I 11], 3), ([I 4, I 4, I 16, U 576, U 1408, U 2576, U 1056, U 9220, U 22536, U 41217, U 16898, U 16450, U 32901, U 4122, U 8228, U 1056, U 2128, U 416, U 576, U 0, U 0, U 0, U 0, U 0, U 0, U 0, U 0, U 0, U 0, U 0, U 0, U 0, U 0, U 0, U 0, U 0, U 0, U 0, U 0], 73)]⟩
theorem os_4_4_11 : SOK dos_4_4_11 := ⟨scut (fun _ => noK_ok) (fun _ => noK_ok) (k2 := 4000) (t := dos_4_4_11) (ol_4_4 (.ofNat 11)) (oh_4_4 (.ofNat 11)) (by kernel_rfl) rfl, rfl⟩
def dos_4_4_12 : SFact := ⟨29, [I 4, I 4, .sl 0 0 1 1], [([I 12], 3)], .tup [.ptr 1 0, I 0], [([I 12], 3), ([I 4, I 4, I 16, U 576, U 1408, U 2576, U 1056, U 9220, U 22536, U 41217, U 16898, U 16450, U 32901, U 4122, U 8228, U 1056, U 2128, U 416, U 576, U 0, U 0, U 0, U 0, U 0, U 0, U 0, U 0, U 0, U 0, U 0, U 0, U 0, U 0, U 0, U 0, U 0, U 0, U 0, U 0], 73)]⟩
theorem os_4_4_12 : SOK dos_4_4_12 := ⟨scut (fun _ => noK_ok) (fun _ => noK_ok) (k2 := 4000) (t := dos_4_4_12) (ol_4_4 (.ofNat 12)) (oh_4_4 (.ofNat 12)) (by kernel_rfl) rfl, rfl⟩
def dos_4_4_13 : SFact := ⟨29, [I 4, I 4, .sl 0 0 1 1], [([I 13], 3)], .tup [.ptr 1 0, I 0], [([I 13], 3), ([I 4, I 4, I 16, U 576, U 1408, U 2576, U 1056, U 9220, U 22536, U 41217, U 16898, U 16450, U 32901, U 4122, U 8228, U 1056, U 2128, U 416, U 576, U 0, U 0, U 0, U 0, U 0, U 0, U 0, U 0, U 0, U 0, U 0, U 0, U 0, U 0, U 0, U 0, U 0, U 0, U 0, U 0], 73)]⟩
theorem os_4_4_13 : SOK dos_4_4_13 := ⟨scut (fun _ => noK_ok) (fun _ => noK_ok) (k2 := 4000) (t := dos_4_4_13) (ol_4_4 (.ofNat 13)) (oh_4_4 (.ofNat 13)) (by kernel_rfl) rfl, rfl⟩
def dos_4_4_14 : SFact := ⟨29, [I 4, I 4, .sl 0 0 1 1], [([I 14], 3)], .tup [.ptr 1 0, I 0], [([I 14], 3), ([I 4, I 4, I 16, U 576, U 1408, U 2576, U 1056, U 9220, U 22536, U 41217, U 16898, U 16450, U 32901, U 4122, U 8228, U 1056, U 2128, U 416, U 576, U 0, U 0, U 0, U 0, U 0, U 0, U 0, U 0, U 0, U 0, U 0, U 0, U 0, U 0, U 0, U 0, U 0, U 0, U 0, U 0], 73)]⟩
theorem os_4_4_14 : SOK dos_4_4_14 := ⟨scut (fun _ => noK_ok) (fun _ => noK_ok) (k2 := 4000) (t := dos_4_4_14) (ol_4_4 (.ofNat 14)) (oh_4_4 (.ofNat 14)) (by kernel_rfl) rfl, rfl⟩
def dos_4_4_15 : SFact := ⟨29, [I 4, I 4, .sl 0 0 1 1], [([I 15], 3)], .tup [.ptr 1 0, I 0], [([I 15], 3), ([I 4, I 4, I 16, U 576, U 1408, U 2576, U 1056, U 9220, U 22536, U 41217, U 16898, U 16450, U 32901, U 4122, U 8228, U 1056, U 2128, U 416, U 576, U 0, U 0, U 0, U 0, U 0, U 0, U 0, U 0, U 0, U 0, U 0, U 0, U 0, U 0, U 0, U 0, U 0, U 0, U 0, U 0], 73)]⟩
theorem os_4_4_15 : SOK dos_4_4_15 := ⟨scut (fun _ => noK_ok) (fun _ => noK_ok) (k2 := 4000) (t := dos_4_4_15) (ol_4_4 (.ofNat 15)) (oh_4_4 (.ofNat 15)) (by kernel_rfl) rfl, rfl⟩
def dmv_4_4_0 : Fact := ⟨11, [I 4, I 4, I 0], .tup [.gs 0 0 2 1, I 0], [([I 6, I 9], 3)]⟩
theorem mv_4_4_0 : FOK dmv_4_4_0 := fr (l := []) (s := [dos_4_4_0]) fn (fa os_4_4_0 fn) dmv_4_4_0 rfl rfl (by kernel_rfl)
def dmv_4_4_1 : Fact := ⟨11, [I 4, I 4, I 1], .tup [.gs 0 0 3 1, I 0], [([I 7, I 8, I 10], 3)]⟩
theorem mv_4_4_1 : FOK dmv_4_4_1 := fr (l := []) (s := [dos_4_4_1]) fn (fa os_4_4_1 fn) dmv_4_4_1 rfl rfl (by kernel_rfl)
def dmv_4_4_2 : Fact := ⟨11, [I 4, I 4, I 2], .tup [.gs 0 0 3 1, I 0], [([I 4, I 9, I 11], 3)]⟩
theorem mv_4_4_2 : FOK dmv_4_4_2 := fr (l := []) (s := [dos_4_4_2]) fn (fa os_4_4_2 fn) dmv_4_4_2 rfl rfl (by kernel_rfl)
def dmv_4_4_3 : Fact := ⟨11, [I 4, I 4, I 3], .tup [.gs 0 0 2 1, I 0], [([I 5, I 10], 3)]⟩
theorem mv_4_4_3 : FOK dmv_4_4_3 := fr (l := []) (s := [dos_4_4_3]) fn (fa os_4_4_3 fn) dmv_4_4_3 rfl rfl (by kernel_rfl)
def dmv_4_4_4 : Fact := ⟨11, [I 4, I 4, I 4], .tup [.gs 0 0 3 1, I 0], [([I 2, I 10, I 13], 3)]⟩
theorem mv_4_4_4 : FOK dmv_4_4_4 := fr (l := []) (s := [dos_4_4_4]) fn (fa os_4_4_4 fn) dmv_4_4_4 rfl rfl (by kernel_rfl)
def dmv_4_4_5 : Fact := ⟨11, [I 4, I 4, I 5], .tup [.gs 0 0 4 1, I 0], [([I 3, I 11, I 12, I 14], 3)]⟩
theorem mv_4_4_5 : FOK dmv_4_4_5 := fr (l := []) (s := [dos_4_4_5]) fn (fa os_4_4_5 fn) dmv_4_4_5 rfl rfl (by kernel_rfl)
def dmv_4_4_6 : Fact := ⟨11, [I 4, I 4, I 6], .tup [.gs 0 0 4 1, I 0], [([I 0, I 8, I 13, I 15], 3)]⟩
theorem mv_4_4_6 : FOK dmv_4_4_6 := fr (l := []) (s := [dos_4_4_6]) fn (fa os_4_4_6 fn) dmv_4_4_6 rfl rfl (by kernel_rfl)
def dmv_4_4_7 : Fact := ⟨11, [I 4, I 4, I 7], .tup [.gs 0 0 3 1, I 0], [([I 1, I 9, I 14], 3)]⟩
theorem mv_4_4_7 : FOK dmv_4_4_7 := fr (l := []) (s := [dos_4_4_7]) fn (fa os_4_4_7 fn) dmv_4_4_7 rfl rfl (by kernel_rfl)
def dmv_4_4_8 : Fact := ⟨11, [I 4, I 4, I 8], .tup [.gs 0 0 3 1, I 0], [([I 1, I 6, I 14], 3)]⟩
theorem mv_4_4_8 : FOK dmv_4_4_8 := fr (l := []) (s := [dos_4_4_8]) fn (fa os_4_4_8 fn) dmv_4_4_8 rfl rfl (by kernel_rfl)
def dmv_4_4_9 : Fact := ⟨11, [I 4, I 4, I 9], .tup [.gs 0 0 4 1, I 0], [([I 0, I 2, I 7, I 15], 3)]⟩
theorem mv_4_4_9 : FOK dmv_4_4_9 := fr (l := []) (s := [dos_4_4_9]) fn (fa os_4_4_9 fn) dmv_4_4_9 rfl rfl (by kernel_rfl)
def dmv_4_4_10 : Fact := ⟨11, [I 4, I 4, I 10], .tup [.gs 0 0 4 1, I 0], [([I 1, I 3, I 4, I 12], 3)]⟩
theorem mv_4_4_10 : FOK dmv_4_4_10 := fr (l := []) (s := [dos_4_4_10]) fn (fa os_4_4_10 fn) dmv_4_4_10 rfl rfl (by kernel_rfl)
def dmv_4_4_11 : Fact := ⟨11, [I 4, I 4, I 11], .tup [.gs 0 0 3 1, I 0], [([I 2, I 5, I 13], 3)]⟩
theorem mv_4_4_11 : FOK dmv_4_4_11 := fr (l := []) (s := [dos_4_4_11]) fn (fa os_4_4_11 fn) dmv_4_4_11 rfl rfl (by kernel_rfl)
def dmv_4_4_12 : Fact := ⟨11, [I 4, I 4, I 12], .tup [.gs 0 0 2 1, I 0], [([I 5, I 10], 3)]⟩
theorem mv_4_4_12 : FOK dmv_4_4_12 := fr (l := []) (s := [dos_4_4_12]) fn (fa os_4_4_12 fn) dmv_4_4_12 rfl rfl (by kernel_rfl)
def dmv_4_4_13 : Fact := ⟨11, [I 4, I 4, I 13], .tup [.gs 0 0 3 1, I 0], [([I 4, I 6, I 11], 3)]⟩
theorem mv_4_4_13 : FOK dmv_4_4_13 := fr (l := []) (s := [dos_4_4_13]) fn (fa os_4_4_13 fn) dmv_4_4_13 rfl rfl (by kernel_rfl)
def dmv_4_4_14 : Fact := ⟨11, [I 4, I 4, I 14], .tup [.gs 0 0 3 1, I 0], [([I 5, I 7, I 8], 3)]⟩
theorem mv_4_4_14 : FOK dmv_4_4_14 := fr (l := []) (s := [dos_4_4_14]) fn (fa os_4_4_14 fn) dmv_4_4_14 rfl rfl (by kernel_rfl)
def dmv_4_4_15 : Fact := ⟨11, [I 4, I 4, I 15], .tup [.gs 0 0 2 1, I 0], [([I 6, I 9], 3)]⟩
theorem mv_4_4_15 : FOK dmv_4_4_15 := fr (l := []) (s := [dos_4_4_15]) fn (fa os_4_4_15 fn) dmv_4_4_15 rfl rfl (by kernel_rfl)
def dqt_4_4 : Fact := ⟨13, [I 4, I 4], .tup [I 23130, I 8, I 0], []⟩
theorem qt_4_4 : FOK dqt_4_4 := fr (l := [dop_4_4]) (s := []) (fa op_4_4 fn) fn dqt_4_4 rfl rfl (by kernel_rfl)
end Go.Proofs.YtbadfjogakhhbaaDoor.Re
