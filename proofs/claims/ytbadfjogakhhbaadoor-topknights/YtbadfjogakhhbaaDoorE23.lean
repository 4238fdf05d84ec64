/- What the row says of the table of bits.TrailingZeros64: how it lies in memory. -/
import Derived.Test.YtbadfjogakhhbaaDoorE22
import Derived.Test.YtbadfjogakhhbaaDoorRows
import Derived.Lib.LaidTab
import Derived.MakeChecks
namespace Go.Proofs.YtbadfjogakhhbaaDoor.Re
open Go Go.RowKit
set_option linter.unusedVariables false
set_option linter.unusedSectionVars false
def tab64 : List Int := [0, 1, 56, 2, 57, 49, 28, 3, 61, 58, 42, 50, 38, 29, 17, 4, 62, 47, 59, 36, 45, 43, 51, 22, 53, 39, 33, 30, 24, 18, 12, 5, 63, 55, 48, 27, 60, 41, 37, 16, 46, 35, 44, 21, 52, 32, 23, 11, 54, 26, 40, 15, 34, 20, 31, 10, 25, 14, 19, 9, 13, 8, 7, 6]
theorem tab_laid : (Rows.laid_math_bits_deBruijn64tab : DataW Unit) = Lib.tabData .u8 tab64 := rfl
def laidL : List (String × DataW Unit) := [("math/bits.deBruijn32tab", Rows.laid_math_bits_deBruijn32tab), ("math/bits.deBruijn64tab", Rows.laid_math_bits_deBruijn64tab), ("bibelot/magic.six", Rows.laid_bibelot_magic_six)]
theorem laid_of {W : World} (h : laidMetH Tryd.prog laidL W) : ∃ ty : TypeId, ∀ σ : Nat → Int, @Laid ⟨σ, ty⟩ W := by
  rw [MakeChecks.laidMetH_plain _ _ _ (by kernel_rfl)] at h
  obtain ⟨ps, hv, hnd, hps⟩ := h
  obtain ⟨g1, t1, cs1, fuel1, p1, q1, hg1, ht1, hvar1, hd1, ⟨g, t, cs, fuel, p, q, hg, ht, hvar, hd, hr2, rfl⟩, rfl⟩ := hv
  rw [tab_laid] at hd
  obtain rfl : 1 = g := Option.some.inj ((by kernel_rfl : Tryd.prog.globalNamed "math/bits.deBruijn64tab" = some 1).symm.trans hg)
  obtain rfl : 126 = t := Option.some.inj ((by kernel_rfl : (Tryd.prog.globals[1]?).map (·.type) = some 126).symm.trans ht)
  have hcs := Lib.cells_of_tab (n := 64) (e := 5) (by kernel_rfl) (by kernel_rfl) (by kernel_rfl) (by kernel_rfl) hd
  have hlen : cs.size = 64 := by
    have := congrArg List.length hcs
    simpa [tab64] using this
  obtain ⟨⟨c, ty, hh⟩, _⟩ := hps 1 0 (by
    refine List.mem_append_right _ (List.mem_append_left _ (List.mem_append_left _ ?_))
    unfold MemPlace.row
    exact List.mem_map.2 ⟨0, by simp [hlen], rfl⟩)
  refine ⟨ty, fun σ gg o ho => ?_⟩
  have hc : c = cs := by
    unfold World.var? at hvar
    rw [(by kernel_rfl : Tryd.prog.globalNamed "math/bits.deBruijn64tab" = some 1)] at hvar
    simpa [hh] using hvar
  have hgg : gg = 1 := by
    match gg, ho with
    | 1, _ => rfl
    | 0, ho => cases ho
    | k + 2, ho => cases ho
  subst hgg
  have ho : Obj.cells (tab64.map fun z => Value.int .u8 z).toArray ty (0, 0) = o := by injection ho
  refine ⟨(Array.getElem?_eq_some_iff.1 hh).1, ?_⟩
  rw [hh, ← ho, hc, ← hcs]
end Go.Proofs.YtbadfjogakhhbaaDoor.Re
