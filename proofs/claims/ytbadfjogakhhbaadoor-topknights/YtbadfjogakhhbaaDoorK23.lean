/- The board of 2 times 3: facts; the law. -/
import Derived.Test.YtbadfjogakhhbaaDoorE22
namespace Go.Proofs.YtbadfjogakhhbaaDoor.Re
open Go Go.RowKit
set_option linter.unusedVariables false
set_option linter.unusedSectionVars false
set_option maxRecDepth 100000
variable [Sig]
def dop_2_3 : Fact := ⟨29, [I 2, I 3, .raw (.slice none 0 0)], .tup [.ptr 0 0, I 0], [([I 2, I 3, I 6, U 32, U 0, U 8, U 4, U 0, U 1, U 0, U 0, U 0, U 0, U 0, U 0, U 0, U 0, U 0, U 0, U 0, U 0, U 0, U 0, U 0, U 0, U 0, U 0, U 0, U 0, U 0, U 0, U 0, U 0, U 0, U 0, U 0, U 0, U 0, U 0], 73)]⟩
theorem op_2_3 : FOK dop_2_3 := fr (l := []) (s := []) fn fn dop_2_3 rfl rfl (by kernel_rfl)
def ol_2_3 (x : Int) : Lit := ⟨122, [(0, I 2), (1, I 3), (2, .sl 0 0 1 1), (8, .ptr 1 0)], [([.raw (.int .i64 x)], 3), ([.ptr 2 0], 66), ([I 2, I 3, I 6, U 32, U 0, U 8, U 4, U 0, U 1, U 0, U 0, U 0, U 0, U 0, U 0, U 0, U 0, U 0, U 0, U 0, U 0, U 0, U 0, U 0, U 0, U 0, U 0, U 0, U 0, U 0, U 0, U 0, U 0, U 0, U 0, U 0, U 0, U 0, U 0], 73)]⟩
theorem oh_2_3 (x : Int) : half Tryd.prog GT noK 4000 1 3 [0, 1, 2, 8] 29 [I 2, I 3, .sl 0 0 1 1] [([.raw (.int .i64 x)], 3)] = litR (ol_2_3 x) := by kernel_rfl
def dos_2_3_0 : SFact := ⟨29, [I 2, I 3, .sl 0 0 1 1], [([I 0], 3)], .tup [.ptr 1 0, I 0], [([I 0], 3), ([I 2, I 3, I 6, U 32, U 0, U 8, U 4, U 0, U 1, U 0, U 0, U 0, U 0, U 0, U 0, U 0, U 0, U 0, U 0, U 0, U 0, U 0, U 0, U 0, U 0, U 0, U 0, U 0, U 0, U 0, U 0, U 0, U 0, U 0, U 0, U 0, U 0, U 0, U 0], 73)]⟩
theorem os_2_3_0 : SOK dos_2_3_0 := ⟨scut (fun _ => noK_ok) (fun _ => noK_ok) (k2 := 4000) (t := dos_2_3_0) (ol_2_3 (.ofNat 0)) (oh_2_3 (.ofNat 0)) (by kernel_rfl) rfl, rfl⟩
def dos_2_3_1 : SFact := ⟨29, [I 2, I 3, .sl 0 0 1 1], [([I 1], 3)], .tup [.ptr 1 0, I 0], [([I 1], 3), ([I 2, I 3, I 6, U 32, U 0, U 8, U 4, U 0, U 1, U 0, U 0, U 0, U 0, U 0, U 0, U 0, U 0, U 0, U 0, U 0, U 0, U 0, U 0, U 0, U 0, U 0, U 0, U 0, U 0, U 0, U 0, U 0, U 0, U 0, U 0, U 0, U 0, U 0, U 0], 73)]⟩
theorem os_2_3_1 : SOK dos_2_3_1 := ⟨scut (fun _ => noK_ok) (fun _ => noK_ok) (k2 := 4000) (t := dos_2_3_1) (ol_2_3 (.ofNat 1)) (oh_2_3 (.ofNat 1)) (by kernel_rfl) rfl, rfl⟩
def dos_2_3_2 : SFact := ⟨29, [I 2, I 3, .sl 0 0 1 1], [([I 2], 3)], .tup [.ptr 1 0, I 0], [([I 2], 3), ([I 2, I 3, I 6, U 32, U 0, U 8, U 4, U 0, U 1, U 0, U 0, U 0, U 0, U 0, U 0, U 0, U 0, U 0, U 0, U 0, U 0, U 0, U 0, U 0, U 0, U 0, U 0, U 0, U 0, U 0, U 0, U 0, U 0, U 0, U 0, U 0, U 0, U 0, U 0], 73)]⟩
theorem os_2_3_2 : SOK dos_2_3_2 := ⟨scut (fun _ => noK_ok) (fun _ => noK_ok) (k2 := 4000) (t := dos_2_3_2) (ol_2_3 (.ofNat 2)) (oh_2_3 (.ofNat 2)) (by kernel_rfl) rfl, rfl⟩
def dos_2_3_3 : SFact := ⟨29, [I 2, I 3, .sl 0 0 1 1], [([I 3], 3)], .tup [.ptr 1 0, I 0], [([I 3], 3), ([I 2, I 3, I 6, U 32, U 0, U 8, U 4, U 0, U 1, U 0, U 0, U 0, U 0, U 0, U 0, U 0, U 0, U 0, U 0, U 0, U 0, U 0, U 0, U 0, U 0, U 0, U 0, U 0, U 0, U 0, U 0, U 0, U 0, U 0, U 0, U 0, U 0, U 0, U 0], 73)]⟩
theorem os_2_3_3 : SOK dos_2_3_3 := ⟨scut (fun _ => noK_ok) (fun _ => noK_ok) (k2 := 4000) (t := dos_2_3_3) (ol_2_3 (.ofNat 3)) (oh_2_3 (.ofNat 3)) (by kernel_rfl) rfl, rfl⟩
def dos_2_3_4 : SFact := ⟨29, [I 2, I 3, .sl 0 0 1 1], [([I 4], 3)], .tup [.ptr 1 0, I 0], [([I 4], 3), ([I 2, I 3, I 6, U 32, U 0, U 8, U 4, U 0, U 1, U 0, U 0, U 0, U 0, U 0, U 0, U 0, U 0, U 0, U 0, U 0, U 0, U 0, U 0, U 0, U 0, U 0, U 0, U 0, U 0, U 0, U 0, U 0, U 0, U 0, U 0, U 0, U 0, U 0, U 0], 73)]⟩
theorem os_2_3_4 : SOK dos_2_3_4 := ⟨scut (fun _ => noK_ok) (fun _ => noK_ok) (k2 := 4000) (t := dos_2_3_4) (ol_2_3 (.ofNat 4)) (oh_2_3 (.ofNat 4)) (by kernel_rfl) rfl, rfl⟩
def dos_2_3_5 : SFact := ⟨29, [I 2, I 3, .sl 0 0 1 1], [([I 5], 3)], .tup [.ptr 1 0, I 0], [([I 5], 3), ([I 2, I 3, I 6, U 32, U 0, U 8, U 4, U 0, U 1, U 0, U 0, U 0, U 0, U 0, U 0, U 0, U 0, U 0, U 0, U 0, U 0, U 0, U 0, U 0, U 0, U 0, U 0, U 0, U 0, U 0, U 0, U 0, U 0, U 0, U 0, U 0, U 0, U 0, U 0], 73)]⟩
theorem os_2_3_5 : SOK dos_2_3_5 := ⟨scut (fun _ => noK_ok) (fun _ => noK_ok) (k2 := 4000) (t := dos_2_3_5) (ol_2_3 (.ofNat 5)) (oh_2_3 (.ofNat 5)) (by kernel_rfl) rfl, rfl⟩
def dmv_2_3_0 : Fact := ⟨11, [I 2, I 3, I 0], .tup [.gs 0 0 1 1, I 0], [([I 5], 3)]⟩
theorem mv_2_3_0 : FOK dmv_2_3_0 := fr (l := []) (s := [dos_2_3_0]) fn (fa os_2_3_0 fn) dmv_2_3_0 rfl rfl (by kernel_rfl)
def dmv_2_3_1 : Fact := ⟨11, [I 2, I 3, I 1], .tup [.raw (.slice none 0 0), I 0], []⟩
theorem mv_2_3_1 : FOK dmv_2_3_1 := fr (l := []) (s := [dos_2_3_1]) fn (fa os_2_3_1 fn) dmv_2_3_1 rfl rfl (by kernel_rfl)
def dmv_2_3_2 : Fact := ⟨11, [I 2, I 3, I 2], .tup [.gs 0 0 1 1, I 0], [([I 3], 3)]⟩
theorem mv_2_3_2 : FOK dmv_2_3_2 := fr (l := []) (s := [dos_2_3_2]) fn (fa os_2_3_2 fn) dmv_2_3_2 rfl rfl (by kernel_rfl)
def dmv_2_3_3 : Fact := ⟨11, [I 2, I 3, I 3], .tup [.gs 0 0 1 1, I 0], [([I 2], 3)]⟩
theorem mv_2_3_3 : FOK dmv_2_3_3 := fr (l := []) (s := [dos_2_3_3]) fn (fa os_2_3_3 fn) dmv_2_3_3 rfl rfl (by kernel_rfl)
def dmv_2_3_4 : Fact := ⟨11, [I 2, I 3, I 4], .tup [.raw (.slice none 0 0), I 0], []⟩
theorem mv_2_3_4 : FOK dmv_2_3_4 := fr (l := []) (s := [dos_2_3_4]) fn (fa os_2_3_4 fn) dmv_2_3_4 rfl rfl (by kernel_rfl)
def dmv_2_3_5 : Fact := ⟨11, [I 2, I 3, I 5], .tup [.gs 0 0 1 1, I 0], [([I 0], 3)]⟩
theorem mv_2_3_5 : FOK dmv_2_3_5 := fr (l := []) (s := [dos_2_3_5]) fn (fa os_2_3_5 fn) dmv_2_3_5 rfl rfl (by kernel_rfl)
def dqt_2_3 : Fact := ⟨13, [I 2, I 3], .tup [I 58, I 4, I 0], []⟩
theorem qt_2_3 : FOK dqt_2_3 := fr (l := [dop_2_3]) (s := []) (fa op_2_3 fn) fn dqt_2_3 rfl rfl (by kernel_rfl)
def dgd_2_3 : Fact := ⟨14, [I 2, I 3], .tup [I 23, I 4, I 0], []⟩
theorem gd_2_3 : FOK dgd_2_3 := fr (l := [dop_2_3]) (s := []) (fa op_2_3 fn) fn dgd_2_3 rfl rfl (by kernel_rfl)
def dck_2_3 : SFact := ⟨12, [I 6, .gs 0 0 2 2], [([I 0, I 5, I 2, I 3], 23)], I 0, [([I 0, I 5, I 2, I 3], 23)]⟩
theorem ck_2_3 : SOK dck_2_3 := sr (l := []) (s := []) fn fn dck_2_3 (by kernel_rfl) rfl rfl
def def_2_3_0 : SFact := ⟨16, [I 6, .gs 0 0 2 2, .raw (.bool false), I 1], [([I 0, I 5, I 2, I 3], 23)], .tup [I 32, I 0], [([I 0, I 5, I 2, I 3], 23)]⟩
theorem ef_2_3_0 : SOK def_2_3_0 := sr (l := []) (s := []) fn fn def_2_3_0 (by kernel_rfl) rfl rfl
def def_2_3_1 : SFact := ⟨16, [I 6, .gs 0 0 2 2, .raw (.bool false), I 2], [([I 0, I 5, I 2, I 3], 23)], .tup [I 0, I 0], [([I 0, I 5, I 2, I 3], 23)]⟩
theorem ef_2_3_1 : SOK def_2_3_1 := sr (l := []) (s := []) fn fn def_2_3_1 (by kernel_rfl) rfl rfl
def def_2_3_2 : SFact := ⟨16, [I 6, .gs 0 0 2 2, .raw (.bool false), I 4], [([I 0, I 5, I 2, I 3], 23)], .tup [I 8, I 0], [([I 0, I 5, I 2, I 3], 23)]⟩
theorem ef_2_3_2 : SOK def_2_3_2 := sr (l := []) (s := []) fn fn def_2_3_2 (by kernel_rfl) rfl rfl
def def_2_3_3 : SFact := ⟨16, [I 6, .gs 0 0 2 2, .raw (.bool false), I 8], [([I 0, I 5, I 2, I 3], 23)], .tup [I 4, I 0], [([I 0, I 5, I 2, I 3], 23)]⟩
theorem ef_2_3_3 : SOK def_2_3_3 := sr (l := []) (s := []) fn fn def_2_3_3 (by kernel_rfl) rfl rfl
def def_2_3_4 : SFact := ⟨16, [I 6, .gs 0 0 2 2, .raw (.bool false), I 16], [([I 0, I 5, I 2, I 3], 23)], .tup [I 0, I 0], [([I 0, I 5, I 2, I 3], 23)]⟩
theorem ef_2_3_4 : SOK def_2_3_4 := sr (l := []) (s := []) fn fn def_2_3_4 (by kernel_rfl) rfl rfl
def def_2_3_5 : SFact := ⟨16, [I 6, .gs 0 0 2 2, .raw (.bool false), I 32], [([I 0, I 5, I 2, I 3], 23)], .tup [I 1, I 0], [([I 0, I 5, I 2, I 3], 23)]⟩
theorem ef_2_3_5 : SOK def_2_3_5 := sr (l := []) (s := []) fn fn def_2_3_5 (by kernel_rfl) rfl rfl
def la_2_3 : Lit := ⟨256, [(0, I 2), (1, I 3), (2, .sym 2)], []⟩
def lb_2_3 : Lit := ⟨256, [(0, I 2), (1, I 3), (2, .sym 2), (7, .gs 0 0 2 2), (18, I 63)], [([I 0, I 5, I 2, I 3], 23)]⟩
theorem lw_2_3_a (h0 : smallI (Sig.σ 0) (.ofNat 3) = .ofNat 1) (h1 : smallI (Sig.σ 1) (.ofNat 3) = .ofNat 2) (h2 : RestOK Tryd.prog GT 1 tK la_2_3) : SFactOK Tryd.prog GT tK := law_cut h0 h1 (by kernel_rfl) h2
theorem lw_2_3_b (h2 : RestOK Tryd.prog GT 9 tK lb_2_3) : RestOK Tryd.prog GT 1 tK la_2_3 := law_mid (l := [dmv_2_3_0, dmv_2_3_1, dmv_2_3_2, dmv_2_3_3, dmv_2_3_4, dmv_2_3_5, dqt_2_3, dgd_2_3]) (s := [dck_2_3, def_2_3_0, def_2_3_1, def_2_3_2, def_2_3_3, def_2_3_4, def_2_3_5]) (fa mv_2_3_0 (fa mv_2_3_1 (fa mv_2_3_2 (fa mv_2_3_3 (fa mv_2_3_4 (fa mv_2_3_5 (fa qt_2_3 (fa gd_2_3 fn)))))))) (fa ck_2_3 (fa ef_2_3_0 (fa ef_2_3_1 (fa ef_2_3_2 (fa ef_2_3_3 (fa ef_2_3_4 (fa ef_2_3_5 fn))))))) (n2 := 7) (ts := [0, 1, 2, 7, 18]) (by kernel_rfl) rfl h2
theorem lw_2_3_0 (h : smallI (Sig.σ 2) (.ofNat 5) = .ofNat 0) : RestOK Tryd.prog GT 9 tK lb_2_3 := law_rest (l := [sm 2 5 0, dmv_2_3_0, t7]) (s := [def_2_3_0]) (fa (sm_ok (m := 5) h (by kernel_rfl)) (fa mv_2_3_0 (fa seven_fact fn))) (fa ef_2_3_0 fn) (by kernel_rfl)
theorem lw_2_3_1 (h : smallI (Sig.σ 2) (.ofNat 5) = .ofNat 1) : RestOK Tryd.prog GT 9 tK lb_2_3 := law_rest (l := [sm 2 5 1, dmv_2_3_1, t7]) (s := [def_2_3_1]) (fa (sm_ok (m := 5) h (by kernel_rfl)) (fa mv_2_3_1 (fa seven_fact fn))) (fa ef_2_3_1 fn) (by kernel_rfl)
theorem lw_2_3_2 (h : smallI (Sig.σ 2) (.ofNat 5) = .ofNat 2) : RestOK Tryd.prog GT 9 tK lb_2_3 := law_rest (l := [sm 2 5 2, dmv_2_3_2, t7]) (s := [def_2_3_2]) (fa (sm_ok (m := 5) h (by kernel_rfl)) (fa mv_2_3_2 (fa seven_fact fn))) (fa ef_2_3_2 fn) (by kernel_rfl)
theorem lw_2_3_3 (h : smallI (Sig.σ 2) (.ofNat 5) = .ofNat 3) : RestOK Tryd.prog GT 9 tK lb_2_3 := law_rest (l := [sm 2 5 3, dmv_2_3_3, t7]) (s := [def_2_3_3]) (fa (sm_ok (m := 5) h (by kernel_rfl)) (fa mv_2_3_3 (fa seven_fact fn))) (fa ef_2_3_3 fn) (by kernel_rfl)
theorem lw_2_3_4 (h : smallI (Sig.σ 2) (.ofNat 5) = .ofNat 4) : RestOK Tryd.prog GT 9 tK lb_2_3 := law_rest (l := [sm 2 5 4, dmv_2_3_4, t7]) (s := [def_2_3_4]) (fa (sm_ok (m := 5) h (by kernel_rfl)) (fa mv_2_3_4 (fa seven_fact fn))) (fa ef_2_3_4 fn) (by kernel_rfl)
theorem lw_2_3_5 (h : smallI (Sig.σ 2) (.ofNat 5) = .ofNat 5) : RestOK Tryd.prog GT 9 tK lb_2_3 := law_rest (l := [sm 2 5 5, dmv_2_3_5, t7]) (s := [def_2_3_5]) (fa (sm_ok (m := 5) h (by kernel_rfl)) (fa mv_2_3_5 (fa seven_fact fn))) (fa ef_2_3_5 fn) (by kernel_rfl)
end Go.Proofs.YtbadfjogakhhbaaDoor.Re
