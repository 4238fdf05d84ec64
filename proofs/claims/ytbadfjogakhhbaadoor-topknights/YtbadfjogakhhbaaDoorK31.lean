/- The board of 3 times 1: facts; the law. -/
import Derived.Test.YtbadfjogakhhbaaDoorE22
namespace Go.Proofs.YtbadfjogakhhbaaDoor.Re
open Go Go.RowKit
set_option linter.unusedVariables false
set_option linter.unusedSectionVars false
set_option maxRecDepth 100000
variable [Sig]
def dop_3_1 : Fact := ⟨29, [I 3, I 1, .raw (.slice none 0 0)], .tup [.ptr 0 0, I 0], [([I 3, I 1, I 3, U 0, U 0, U 0, U 0, U 0, U 0, U 0, U 0, U 0, U 0, U 0, U 0, U 0, U 0, U 0, U 0, U 0, U 0, U 0, U 0, U 0, U 0, U 0, U 0, U 0, U 0, U 0, U 0, U 0, U 0, U 0, U 0, U 0, U 0, U 0, U 0], 73)]⟩
theorem op_3_1 : FOK dop_3_1 := fr (l := []) (s := []) fn fn dop_3_1 rfl rfl (by kernel_rfl)
def ol_3_1 (x : Int) : Lit := ⟨122, [(0, I 3), (1, I 1), (2, .sl 0 0 1 1), (8, .ptr 1 0)], [([.raw (.int .i64 x)], 3), ([.ptr 2 0], 66), ([I 3, I 1, I 3, U 0, U 0, U 0, U 0, U 0, U 0, U 0, U 0, U 0, U 0, U 0, U 0, U 0, U 0, U 0, U 0, U 0, U 0, U 0, U 0, U 0, U 0, U 0, U 0, U 0, U 0, U 0, U 0, U 0, U 0, U 0, U 0, U 0, U 0, U 0, U 0], 73)]⟩
theorem oh_3_1 (x : Int) : half Tryd.prog GT noK 4000 1 3 [0, 1, 2, 8] 29 [I 3, I 1, .sl 0 0 1 1] [([.raw (.int .i64 x)], 3)] = litR (ol_3_1 x) := by kernel_rfl
def dos_3_1_0 : SFact := ⟨29, [I 3, I 1, .sl 0 0 1 1], [([I 0], 3)], .tup [.ptr 1 0, I 0], [([I 0], 3), ([I 3, I 1, I 3, U 0, U 0, U 0, U 0, U 0, U 0, U 0, U 0, U 0, U 0, U 0, U 0, U 0, U 0, U 0, U 0, U 0, U 0, U 0, U 0, U 0, U 0, U 0, U 0, U 0, U 0, U 0, U 0, U 0, U 0, U 0, U 0, U 0, U 0, U 0, U 0], 73)]⟩
theorem os_3_1_0 : SOK dos_3_1_0 := ⟨scut (fun _ => noK_ok) (fun _ => noK_ok) (k2 := 4000) (t := dos_3_1_0) (ol_3_1 (.ofNat 0)) (oh_3_1 (.ofNat 0)) (by kernel_rfl) rfl, rfl⟩
def dos_3_1_1 : SFact := ⟨29, [I 3, I 1, .sl 0 0 1 1], [([I 1], 3)], .tup [.ptr 1 0, I 0], [([I 1], 3), ([I 3, I 1, I 3, U 0, U 0, U 0, U 0, U 0, U 0, U 0, U 0, U 0, U 0, U 0, U 0, U 0, U 0, U 0, U 0, U 0, U 0, U 0, U 0, U 0, U 0, U 0, U 0, U 0, U 0, U 0, U 0, U 0, U 0, U 0, U 0, U 0, U 0, U 0, U 0], 73)]⟩
theorem os_3_1_1 : SOK dos_3_1_1 := ⟨scut (fun _ => noK_ok) (fun _ => noK_ok) (k2 := 4000) (t := dos_3_1_1) (ol_3_1 (.ofNat 1)) (oh_3_1 (.ofNat 1)) (by kernel_rfl) rfl, rfl⟩
def dos_3_1_2 : SFact := ⟨29, [I 3, I 1, .sl 0 0 1 1], [([I 2], 3)], .tup [.ptr 1 0, I 0], [([I 2], 3), ([I 3, I 1, I 3, U 0, U 0, U 0, U 0, U 0, U 0, U 0, U 0, U 0, U 0, U 0, U 0, U 0, U 0, U 0, U 0, U 0, U 0, U 0, U 0, U 0, U 0, U 0, U 0, U 0, U 0, U 0, U 0, U 0, U 0, U 0, U 0, U 0, U 0, U 0, U 0], 73)]⟩
theorem os_3_1_2 : SOK dos_3_1_2 := ⟨scut (fun _ => noK_ok) (fun _ => noK_ok) (k2 := 4000) (t := dos_3_1_2) (ol_3_1 (.ofNat 2)) (oh_3_1 (.ofNat 2)) (by kernel_rfl) rfl, rfl⟩
def dmv_3_1_0 : Fact := ⟨11, [I 3, I 1, I 0], .tup [.raw (.slice none 0 0), I 0], []⟩
theorem mv_3_1_0 : FOK dmv_3_1_0 := fr (l := []) (s := [dos_3_1_0]) fn (fa os_3_1_0 fn) dmv_3_1_0 rfl rfl (by kernel_rfl)
def dmv_3_1_1 : Fact := ⟨11, [I 3, I 1, I 1], .tup [.raw (.slice none 0 0), I 0], []⟩
theorem mv_3_1_1 : FOK dmv_3_1_1 := fr (l := []) (s := [dos_3_1_1]) fn (fa os_3_1_1 fn) dmv_3_1_1 rfl rfl (by kernel_rfl)
def dmv_3_1_2 : Fact := ⟨11, [I 3, I 1, I 2], .tup [.raw (.slice none 0 0), I 0], []⟩
theorem mv_3_1_2 : FOK dmv_3_1_2 := fr (l := []) (s := [dos_3_1_2]) fn (fa os_3_1_2 fn) dmv_3_1_2 rfl rfl (by kernel_rfl)
def dqt_3_1 : Fact := ⟨13, [I 3, I 1], .tup [I 7, I 3, I 0], []⟩
theorem qt_3_1 : FOK dqt_3_1 := fr (l := [dop_3_1]) (s := []) (fa op_3_1 fn) fn dqt_3_1 rfl rfl (by kernel_rfl)
def dgd_3_1 : Fact := ⟨14, [I 3, I 1], .tup [I 7, I 3, I 0], []⟩
theorem gd_3_1 : FOK dgd_3_1 := fr (l := [dop_3_1]) (s := []) (fa op_3_1 fn) fn dgd_3_1 rfl rfl (by kernel_rfl)
def dck_3_1 : SFact := ⟨12, [I 3, .raw (.slice none 0 0)], [], I 0, []⟩
theorem ck_3_1 : SOK dck_3_1 := sr (l := []) (s := []) fn fn dck_3_1 (by kernel_rfl) rfl rfl
def def_3_1_0 : SFact := ⟨16, [I 3, .raw (.slice none 0 0), .raw (.bool false), I 1], [], .tup [I 0, I 0], []⟩
theorem ef_3_1_0 : SOK def_3_1_0 := sr (l := []) (s := []) fn fn def_3_1_0 (by kernel_rfl) rfl rfl
def def_3_1_1 : SFact := ⟨16, [I 3, .raw (.slice none 0 0), .raw (.bool false), I 2], [], .tup [I 0, I 0], []⟩
theorem ef_3_1_1 : SOK def_3_1_1 := sr (l := []) (s := []) fn fn def_3_1_1 (by kernel_rfl) rfl rfl
def def_3_1_2 : SFact := ⟨16, [I 3, .raw (.slice none 0 0), .raw (.bool false), I 4], [], .tup [I 0, I 0], []⟩
theorem ef_3_1_2 : SOK def_3_1_2 := sr (l := []) (s := []) fn fn def_3_1_2 (by kernel_rfl) rfl rfl
def la_3_1 : Lit := ⟨256, [(0, I 3), (1, I 1), (2, .sym 2)], []⟩
def lb_3_1 : Lit := ⟨256, [(0, I 3), (1, I 1), (2, .sym 2), (7, .raw (.slice none 0 0)), (18, I 7)], []⟩
theorem lw_3_1_a (h0 : smallI (Sig.σ 0) (.ofNat 3) = .ofNat 2) (h1 : smallI (Sig.σ 1) (.ofNat 3) = .ofNat 0) (h2 : RestOK Tryd.prog GT 1 tK la_3_1) : SFactOK Tryd.prog GT tK := law_cut h0 h1 (by kernel_rfl) h2
theorem lw_3_1_b (h2 : RestOK Tryd.prog GT 9 tK lb_3_1) : RestOK Tryd.prog GT 1 tK la_3_1 := law_mid (l := [dmv_3_1_0, dmv_3_1_1, dmv_3_1_2, dqt_3_1, dgd_3_1]) (s := [dck_3_1, def_3_1_0, def_3_1_1, def_3_1_2]) (fa mv_3_1_0 (fa mv_3_1_1 (fa mv_3_1_2 (fa qt_3_1 (fa gd_3_1 fn))))) (fa ck_3_1 (fa ef_3_1_0 (fa ef_3_1_1 (fa ef_3_1_2 fn)))) (n2 := 7) (ts := [0, 1, 2, 7, 18]) (by kernel_rfl) rfl h2
theorem lw_3_1_0 (h : smallI (Sig.σ 2) (.ofNat 2) = .ofNat 0) : RestOK Tryd.prog GT 9 tK lb_3_1 := law_rest (l := [sm 2 2 0, dmv_3_1_0, t7]) (s := [def_3_1_0]) (fa (sm_ok (m := 2) h (by kernel_rfl)) (fa mv_3_1_0 (fa seven_fact fn))) (fa ef_3_1_0 fn) (by kernel_rfl)
theorem lw_3_1_1 (h : smallI (Sig.σ 2) (.ofNat 2) = .ofNat 1) : RestOK Tryd.prog GT 9 tK lb_3_1 := law_rest (l := [sm 2 2 1, dmv_3_1_1, t7]) (s := [def_3_1_1]) (fa (sm_ok (m := 2) h (by kernel_rfl)) (fa mv_3_1_1 (fa seven_fact fn))) (fa ef_3_1_1 fn) (by kernel_rfl)
theorem lw_3_1_2 (h : smallI (Sig.σ 2) (.ofNat 2) = .ofNat 2) : RestOK Tryd.prog GT 9 tK lb_3_1 := law_rest (l := [sm 2 2 2, dmv_3_1_2, t7]) (s := [def_3_1_2]) (fa (sm_ok (m := 2) h (by kernel_rfl)) (fa mv_3_1_2 (fa seven_fact fn))) (fa ef_3_1_2 fn) (by kernel_rfl)
end Go.Proofs.YtbadfjogakhhbaaDoor.Re
