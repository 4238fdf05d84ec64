/- The board of 2 times 2: facts; the law. -/
import Derived.Test.YtbadfjogakhhbaaDoorE22
namespace Go.Proofs.YtbadfjogakhhbaaDoor.Re
open Go Go.RowKit
set_option linter.unusedVariables false
set_option linter.unusedSectionVars false
set_option maxRecDepth 100000
variable [Sig]
def dop_2_2 : Fact := ⟨29, [I 2, I 2, .raw (.slice none 0 0)], .tup [.ptr 0 0, I 0], [([I 2, I 2, I 4, U 0, U 0, U 0, U 0, U 0, U 0, U 0, U 0, U 0, U 0, U 0, U 0, U 0, U 0, U 0, U 0, U 0, U 0, U 0, U 0, U 0, U 0, U 0, U 0, U 0, U 0, U 0, U 0, U 0, U 0, U 0, U 0, U 0, U 0, U 0, U 0], 73)]⟩
theorem op_2_2 : FOK dop_2_2 := fr (l := []) (s := []) fn fn dop_2_2 rfl rfl (by kernel_rfl)
def ol_2_2 (x : Int) : Lit := ⟨122, [(0, I 2), (1, I 2), (2, .sl 0 0 1 1), (8, .ptr 1 0)], [([.raw (.int .i64 x)], 3), ([.ptr 2 0], 66), ([I 2, I 2, I 4, U 0, U 0, U 0, U 0, U 0, U 0, U 0, U 0, U 0, U 0, U 0, U 0, U 0, U 0, U 0, U 0, U 0, U 0, U 0, U 0, U 0, U 0, U 0, U 0, U 0, U 0, U 0, U 0, U 0, U 0, U 0, U 0, U 0, U 0, U 0, U 0], 73)]⟩
theorem oh_2_2 (x : Int) : half Tryd.prog GT noK 4000 1 3 [0, 1, 2, 8] 29 [I 2, I 2, .sl 0 0 1 1] [([.raw (.int .i64 x)], 3)] = litR (ol_2_2 x) := by kernel_rfl
def dos_2_2_0 : SFact := ⟨29, [I 2, I 2, .sl 0 0 1 1], [([I 0], 3)], .tup [.ptr 1 0, I 0], [([I 0], 3), ([I 2, I 2, I 4, U 0, U 0, U 0, U 0, U 0, U 0, U 0, U 0, U 0, U 0, U 0, U 0, U 0, U 0, U 0, U 0, U 0, U 0, U 0, U 0, U 0, U 0, U 0, U 0, U 0, U 0, U 0, U 0, U 0, U 0, U 0, U 0, U 0, U 0, U 0, U 0], 73)]⟩
theorem os_2_2_0 : SOK dos_2_2_0 := ⟨scut (fun _ => noK_ok) (fun _ => noK_ok) (k2 := 4000) (t := dos_2_2_0) (ol_2_2 (.ofNat 0)) (oh_2_2 (.ofNat 0)) (by kernel_rfl) rfl, rfl⟩
def dos_2_2_1 : SFact := ⟨29, [I 2, I 2, .sl 0 0 1 1], [([I 1], 3)], .tup [.ptr 1 0, I 0], [([I 1], 3), ([I 2, I 2, I 4, U 0, U 0, U 0, U 0, U 0, U 0, U 0, U 0, U 0, U 0, U 0, U 0, U 0, U 0, U 0, U 0, U 0, U 0, U 0, U 0, U 0, U 0, U 0, U 0, U 0, U 0, U 0, U 0, U 0, U 0, U 0, U 0, U 0, U 0, U 0, U 0], 73)]⟩
theorem os_2_2_1 : SOK dos_2_2_1 := ⟨scut (fun _ => noK_ok) (fun _ => noK_ok) (k2 := 4000) (t := dos_2_2_1) (ol_2_2 (.ofNat 1)) (oh_2_2 (.ofNat 1)) (by kernel_rfl) rfl, rfl⟩
def dos_2_2_2 : SFact := ⟨29, [I 2, I 2, .sl 0 0 1 1], [([I 2], 3)], .tup [.ptr 1 0, I 0], [([I 2], 3), ([I 2, I 2, I 4, U 0, U 0, U 0, U 0, U 0, U 0, U 0, U 0, U 0, U 0, U 0, U 0, U 0, U 0, U 0, U 0, U 0, U 0, U 0, U 0, U 0, U 0, U 0, U 0, U 0, U 0, U 0, U 0, U 0, U 0, U 0, U 0, U 0, U 0, U 0, U 0], 73)]⟩
theorem os_2_2_2 : SOK dos_2_2_2 := ⟨scut (fun _ => noK_ok) (fun _ => noK_ok) (k2 := 4000) (t := dos_2_2_2) (ol_2_2 (.ofNat 2)) (oh_2_2 (.ofNat 2)) (by kernel_rfl) rfl, rfl⟩
def dos_2_2_3 : SFact := ⟨29, [I 2, I 2, .sl 0 0 1 1], [([I 3], 3)], .tup [.ptr 1 0, I 0], [([I 3], 3), ([I 2, I 2, I 4, U 0, U 0, U 0, U 0, U 0, U 0, U 0, U 0, U 0, U 0, U 0, U 0, U 0, U 0, U 0, U 0, U 0, U 0, U 0, U 0, U 0, U 0, U 0, U 0, U 0, U 0, U 0, U 0, U 0, U 0, U 0, U 0, U 0, U 0, U 0, U 0], 73)]⟩
theorem os_2_2_3 : SOK dos_2_2_3 := ⟨scut (fun _ => noK_ok) (fun _ => noK_ok) (k2 := 4000) (t := dos_2_2_3) (ol_2_2 (.ofNat 3)) (oh_2_2 (.ofNat 3)) (by kernel_rfl) rfl, rfl⟩
def dmv_2_2_0 : Fact := ⟨11, [I 2, I 2, I 0], .tup [.raw (.slice none 0 0), I 0], []⟩
theorem mv_2_2_0 : FOK dmv_2_2_0 := fr (l := []) (s := [dos_2_2_0]) fn (fa os_2_2_0 fn) dmv_2_2_0 rfl rfl (by kernel_rfl)
def dmv_2_2_1 : Fact := ⟨11, [I 2, I 2, I 1], .tup [.raw (.slice none 0 0), I 0], []⟩
theorem mv_2_2_1 : FOK dmv_2_2_1 := fr (l := []) (s := [dos_2_2_1]) fn (fa os_2_2_1 fn) dmv_2_2_1 rfl rfl (by kernel_rfl)
def dmv_2_2_2 : Fact := ⟨11, [I 2, I 2, I 2], .tup [.raw (.slice none 0 0), I 0], []⟩
theorem mv_2_2_2 : FOK dmv_2_2_2 := fr (l := []) (s := [dos_2_2_2]) fn (fa os_2_2_2 fn) dmv_2_2_2 rfl rfl (by kernel_rfl)
def dmv_2_2_3 : Fact := ⟨11, [I 2, I 2, I 3], .tup [.raw (.slice none 0 0), I 0], []⟩
theorem mv_2_2_3 : FOK dmv_2_2_3 := fr (l := []) (s := [dos_2_2_3]) fn (fa os_2_2_3 fn) dmv_2_2_3 rfl rfl (by kernel_rfl)
def dqt_2_2 : Fact := ⟨13, [I 2, I 2], .tup [I 15, I 4, I 0], []⟩
theorem qt_2_2 : FOK dqt_2_2 := fr (l := [dop_2_2]) (s := []) (fa op_2_2 fn) fn dqt_2_2 rfl rfl (by kernel_rfl)
def dgd_2_2 : Fact := ⟨14, [I 2, I 2], .tup [I 15, I 4, I 0], []⟩
theorem gd_2_2 : FOK dgd_2_2 := fr (l := [dop_2_2]) (s := []) (fa op_2_2 fn) fn dgd_2_2 rfl rfl (by kernel_rfl)
def dck_2_2 : SFact := ⟨12, [I 4, .raw (.slice none 0 0)], [], I 0, []⟩
theorem ck_2_2 : SOK dck_2_2 := sr (l := []) (s := []) fn fn dck_2_2 (by kernel_rfl) rfl rfl
def def_2_2_0 : SFact := ⟨16, [I 4, .raw (.slice none 0 0), .raw (.bool false), I 1], [], .tup [I 0, I 0], []⟩
theorem ef_2_2_0 : SOK def_2_2_0 := sr (l := []) (s := []) fn fn def_2_2_0 (by kernel_rfl) rfl rfl
def def_2_2_1 : SFact := ⟨16, [I 4, .raw (.slice none 0 0), .raw (.bool false), I 2], [], .tup [I 0, I 0], []⟩
theorem ef_2_2_1 : SOK def_2_2_1 := sr (l := []) (s := []) fn fn def_2_2_1 (by kernel_rfl) rfl rfl
def def_2_2_2 : SFact := ⟨16, [I 4, .raw (.slice none 0 0), .raw (.bool false), I 4], [], .tup [I 0, I 0], []⟩
theorem ef_2_2_2 : SOK def_2_2_2 := sr (l := []) (s := []) fn fn def_2_2_2 (by kernel_rfl) rfl rfl
def def_2_2_3 : SFact := ⟨16, [I 4, .raw (.slice none 0 0), .raw (.bool false), I 8], [], .tup [I 0, I 0], []⟩
theorem ef_2_2_3 : SOK def_2_2_3 := sr (l := []) (s := []) fn fn def_2_2_3 (by kernel_rfl) rfl rfl
def la_2_2 : Lit := ⟨256, [(0, I 2), (1, I 2), (2, .sym 2)], []⟩
def lb_2_2 : Lit := ⟨256, [(0, I 2), (1, I 2), (2, .sym 2), (7, .raw (.slice none 0 0)), (18, I 15)], []⟩
theorem lw_2_2_a (h0 : smallI (Sig.σ 0) (.ofNat 3) = .ofNat 1) (h1 : smallI (Sig.σ 1) (.ofNat 3) = .ofNat 1) (h2 : RestOK Tryd.prog GT 1 tK la_2_2) : SFactOK Tryd.prog GT tK := law_cut h0 h1 (by kernel_rfl) h2
theorem lw_2_2_b (h2 : RestOK Tryd.prog GT 9 tK lb_2_2) : RestOK Tryd.prog GT 1 tK la_2_2 := law_mid (l := [dmv_2_2_0, dmv_2_2_1, dmv_2_2_2, dmv_2_2_3, dqt_2_2, dgd_2_2]) (s := [dck_2_2, def_2_2_0, def_2_2_1, def_2_2_2, def_2_2_3]) (fa mv_2_2_0 (fa mv_2_2_1 (fa mv_2_2_2 (fa mv_2_2_3 (fa qt_2_2 (fa gd_2_2 fn)))))) (fa ck_2_2 (fa ef_2_2_0 (fa ef_2_2_1 (fa ef_2_2_2 (fa ef_2_2_3 fn))))) (n2 := 7) (ts := [0, 1, 2, 7, 18]) (by kernel_rfl) rfl h2
theorem lw_2_2_0 (h : smallI (Sig.σ 2) (.ofNat 3) = .ofNat 0) : RestOK Tryd.prog GT 9 tK lb_2_2 := law_rest (l := [sm 2 3 0, dmv_2_2_0, t7]) (s := [def_2_2_0]) (fa (sm_ok (m := 3) h (by kernel_rfl)) (fa mv_2_2_0 (fa seven_fact fn))) (fa ef_2_2_0 fn) (by kernel_rfl)
theorem lw_2_2_1 (h : smallI (Sig.σ 2) (.ofNat 3) = .ofNat 1) : RestOK Tryd.prog GT 9 tK lb_2_2 := law_rest (l := [sm 2 3 1, dmv_2_2_1, t7]) (s := [def_2_2_1]) (fa (sm_ok (m := 3) h (by kernel_rfl)) (fa mv_2_2_1 (fa seven_fact fn))) (fa ef_2_2_1 fn) (by kernel_rfl)
theorem lw_2_2_2 (h : smallI (Sig.σ 2) (.ofNat 3) = .ofNat 2) : RestOK Tryd.prog GT 9 tK lb_2_2 := law_rest (l := [sm 2 3 2, dmv_2_2_2, t7]) (s := [def_2_2_2]) (fa (sm_ok (m := 3) h (by kernel_rfl)) (fa mv_2_2_2 (fa seven_fact fn))) (fa ef_2_2_2 fn) (by kernel_rfl)
theorem lw_2_2_3 (h : smallI (Sig.σ 2) (.ofNat 3) = .ofNat 3) : RestOK Tryd.prog GT 9 tK lb_2_2 := law_rest (l := [sm 2 3 3, dmv_2_2_3, t7]) (s := [def_2_2_3]) (fa (sm_ok (m := 3) h (by kernel_rfl)) (fa mv_2_2_3 (fa seven_fact fn))) (fa ef_2_2_3 fn) (by kernel_rfl)
end Go.Proofs.YtbadfjogakhhbaaDoor.Re
