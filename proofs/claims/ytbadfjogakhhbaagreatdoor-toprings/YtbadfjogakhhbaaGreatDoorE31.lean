/- Seat ZD: what the row says of the two variables that are read: how they lie in memory. TopRings: its contract. -/
import Derived.Test.YtbadfjogakhhbaaGreatDoorE30
import Derived.Test.YtbadfjogakhhbaaGreatDoorRows
import Derived.Lib.LaidU8
import Derived.MakeChecks
namespace Go.Proofs.YtbadfjogakhhbaaGreatDoor.Re
open Go Go.RowKit
set_option linter.unusedVariables false
set_option linter.unusedSectionVars false
def tab64 : List Int := [0, 1, 56, 2, 57, 49, 28, 3, 61, 58, 42, 50, 38, 29, 17, 4, 62, 47, 59, 36, 45, 43, 51, 22, 53, 39, 33, 30, 24, 18, 12, 5, 63, 55, 48, 27, 60, 41, 37, 16, 46, 35, 44, 21, 52, 32, 23, 11, 54, 26, 40, 15, 34, 20, 31, 10, 25, 14, 19, 9, 13, 8, 7, 6]
theorem tab_laid : (Rows.laid_math_bits_deBruijn64tab : DataW Unit) = Lib.tabData .u8 tab64 := rfl
def laidL : List (String × DataW Unit) := [("math/bits.deBruijn32tab", Rows.laid_math_bits_deBruijn32tab), ("math/bits.deBruijn64tab", Rows.laid_math_bits_deBruijn64tab), ("bibelot/magic.six", Rows.laid_bibelot_magic_six), ("bibelot/price.whole", Rows.laid_bibelot_price_whole)]
theorem cell_of {W : World} {g : Nat} {n : String} {cs : Array Value} (hn : Tryz.prog.globalNamed n = some g) (hvar : W.var? Tryz.prog n = some cs) (hf : ∃ c t, W.heap[g]? = some (.cells c t (0, 0))) : ∃ ty : TypeId, W.heap[g]? = some (.cells cs ty (0, 0)) := by
  obtain ⟨c, ty, hh⟩ := hf
  unfold World.var? at hvar
  rw [hn] at hvar
  have : c = cs := by simpa [hh] using hvar
  exact ⟨ty, by rw [hh, this]⟩
theorem laid_of {W : World} (h : laidMetH Tryz.prog laidL W) : ∃ gt gw : TypeId, ∀ (σ : Nat → Int) (tb ok), @Laid ⟨σ, gt, gw, tb, ok⟩ W := by
  rw [MakeChecks.laidMetH_plain _ _ _ (by kernel_rfl)] at h
  obtain ⟨ps, hv, hnd, hps⟩ := h
  obtain ⟨g1, t1, cs1, fuel1, p1, q1, hg1, ht1, hvar1, hd1, ⟨g, t, cs, fuel, p, q, hg, ht, hvar, hd, ⟨g3, t3, cs3, fuel3, p3, q3, hg3, ht3, hvar3, hd3, ⟨g4, t4, cs4, fuel4, p4, q4, hg4, ht4, hvar4, hd4, hr4, rfl⟩, rfl⟩, rfl⟩, rfl⟩ := hv
  rw [tab_laid] at hd
  have n2 : Tryz.prog.globalNamed "math/bits.deBruijn64tab" = some 2 := by kernel_rfl
  have n0 : Tryz.prog.globalNamed "bibelot/price.whole" = some 0 := by kernel_rfl
  obtain rfl : 2 = g := Option.some.inj (n2.symm.trans hg)
  obtain rfl : 0 = g4 := Option.some.inj (n0.symm.trans hg4)
  obtain rfl : 182 = t := Option.some.inj ((by kernel_rfl : (Tryz.prog.globals[2]?).map (·.type) = some 182).symm.trans ht)
  obtain rfl : 56 = t4 := Option.some.inj ((by kernel_rfl : (Tryz.prog.globals[0]?).map (·.type) = some 56).symm.trans ht4)
  have hcs := Lib.cells_of_tab (n := 64) (e := 5) (by kernel_rfl) (by kernel_rfl) (by kernel_rfl) (by kernel_rfl) hd
  have hlen : cs.size = 64 := by
    have := congrArg List.length hcs
    simpa [tab64] using this
  have hw : (Rows.laid_bibelot_price_whole : DataW Unit) = .agg ([(1 : Int), 1].map fun z => .lit (.int .i64 z)) := rfl
  rw [hw] at hd4
  have hst : ∃ fs, Tryz.prog.underlying 56 = some (.struct fs) ∧ fs.size = 2 ∧ ∀ (i : Nat) (f : Field), fs[i]? = some f → f.type = 3 ∧ f.offset = i := by
    have hb : (match Tryz.prog.underlying 56 with | some (.struct fs) => decide (fs.toList.map (fun f => (f.type, f.offset)) = [(3, 0), (3, 1)]) | _ => false) = true := by kernel_rfl
    split at hb
    · rename_i fs hu
      have hb := of_decide_eq_true hb
      refine ⟨fs, hu, by have := congrArg List.length hb; simpa using this, fun i f hf => ?_⟩
      have h1 := congrArg (·[i]?) hb
      rw [← Array.getElem?_toList] at hf
      simp only [List.getElem?_map, hf, Option.map_some] at h1
      match i, h1 with
      | 0, h1 => simp at h1; exact h1
      | 1, h1 => simp at h1; exact h1
      | k + 2, h1 => simp at h1
    · cases hb
  obtain ⟨fs, hu, hsz, hfs⟩ := hst
  have hcs4 := Lib.ints_of_struct hu (fun i f hf => ⟨by rw [(hfs i f hf).1]; kernel_rfl, (hfs i f hf).2, by rw [(hfs i f hf).1]; kernel_rfl⟩) (by rw [hsz]; kernel_rfl) hd4
  have hlen4 : cs4.size = 2 := by
    have := congrArg List.length hcs4
    simpa using this
  obtain ⟨ty, hh⟩ := cell_of n2 hvar (hps 2 0 (by
    refine List.mem_append_right _ (List.mem_append_left _ (List.mem_append_left _ ?_))
    unfold MemPlace.row
    exact List.mem_map.2 ⟨0, by simp [hlen], rfl⟩)).1
  obtain ⟨tw, hhw⟩ := cell_of n0 hvar4 (hps 0 0 (by
    refine List.mem_append_right _ (List.mem_append_right _ (List.mem_append_right _ (List.mem_append_left _ (List.mem_append_left _ ?_))))
    unfold MemPlace.row
    exact List.mem_map.2 ⟨0, by simp [hlen4], rfl⟩)).1
  refine ⟨ty, tw, fun σ tb ok gg o ho => ?_⟩
  have hgg : gg = 2 ∨ gg = 0 := by
    match gg, ho with
    | 2, _ => exact .inl rfl
    | 0, _ => exact .inr rfl
    | 1, ho => cases ho
    | k + 3, ho => cases ho
  rcases hgg with rfl | rfl
  · have ho : Obj.cells (tab64.map fun z => Value.int .u8 z).toArray ty (0, 0) = o := by injection ho
    refine ⟨(Array.getElem?_eq_some_iff.1 hh).1, ?_⟩
    rw [hh, ← ho, ← hcs]
  · have ho : Obj.cells ([(1 : Int), 1].map fun z => Value.int .i64 z).toArray tw (0, 0) = o := by injection ho
    refine ⟨(Array.getElem?_eq_some_iff.1 hhw).1, ?_⟩
    rw [hhw, ← ho, ← hcs4]
theorem smallI_cases (x : Int) (m : Nat) (hm : m < 1000) : ∃ v : Nat, v ≤ m ∧ smallI x (.ofNat m) = .ofNat v := by
  have e1 : wrap64 (Int.ofNat m + 1) = (m : Int) + 1 := by unfold wrap64; simp only [Int.ofNat_eq_natCast]; omega
  have e2 : IntKind.u64.wrap ((m : Int) + 1) = (m : Int) + 1 := by rw [IntKind.wrap_u64]; omega
  have e3 : 0 ≤ IntKind.u64.wrap x := by rw [IntKind.wrap_u64]; omega
  unfold smallI
  rw [e1, e2, Int.tmod_eq_emod_of_nonneg e3]
  have h1 := Int.emod_nonneg (IntKind.u64.wrap x) (show (m : Int) + 1 ≠ 0 by omega)
  have h2 := Int.emod_lt_of_pos (IntKind.u64.wrap x) (show (0 : Int) < (m : Int) + 1 by omega)
  generalize IntKind.u64.wrap x % ((m : Int) + 1) = y at *
  refine ⟨y.toNat, by omega, ?_⟩
  unfold wrap64
  simp only [Int.ofNat_eq_natCast]
  omega
theorem rings_calls (a b c d : Int) (w : World) (h : laidMetH Tryz.prog laidL w) : Calls Tryz.prog 4 #[.agg #[.int .i64 a, .int .i64 b, .int .i64 c, .int .i64 d]] w fun e w' => e = .returned (.bool true) ∧ Below w.heap.size w w' := by
  obtain ⟨gt, gw, hL⟩ := laid_of h
  let o : Nat → Int := fun i => match i with | 0 => a | 1 => b | 2 => c | _ => d
  obtain ⟨p, hp, e0⟩ := smallI_cases (o 0) 19 (by decide)
  obtain ⟨q, hq, e1⟩ := smallI_cases (o 1) 19 (by decide)
  obtain ⟨r, hr, e2⟩ := smallI_cases (o 2) 19 (by decide)
  obtain ⟨s, hs, e3⟩ := smallI_cases (o 3) 19 (by decide)
  have hc : ∀ v : Nat, Int.ofNat v = ((v + 1 : Nat) : Int) - 1 := fun v => by simp only [Int.ofNat_eq_natCast]; omega
  obtain ⟨σ, tb, ok, hσ, hk⟩ := rings_go o gt gw (p := p + 1) (q := q + 1) (r := r + 1) (s := s + 1) (by omega) (by omega) (by omega) (by omega) (by rw [e0, hc]) (by rw [e1, hc]) (by rw [e2, hc]) (by rw [e3, hc])
  letI : Sig := ⟨σ, gt, gw, tb, ok⟩
  have hw : WR GT (fun k => k < w.heap.size) ⟨0, fun _ => 0, fun _ => 0⟩ ⟨.leaf, 0⟩ w := ⟨rfl, fun b o hb => by simp [T.get] at hb, fun b b' o o' hb => by simp [T.get] at hb, fun b o hb => by simp [T.get] at hb, fun k hk => hk, hL σ tb ok⟩
  have hs : ∀ i x, i < 4 → o i = x → VR ⟨0, fun _ => 0, fun _ => 0⟩ (S i) (.int .i64 x) := fun i x hi hx => by
    show _ = Value.int .i64 (σ i)
    rw [hσ i hi, hx]
  have hk := hk.2 (fun k => k < w.heap.size) ⟨0, fun _ => 0, fun _ => 0⟩ w [.agg #[.int .i64 a, .int .i64 b, .int .i64 c, .int .i64 d]] ⟨.leaf, 0⟩ rfl hw ⟨_, _, rfl, ⟨_, rfl, _, _, rfl, hs 0 a (by decide) rfl, _, _, rfl, hs 1 b (by decide) rfl, _, _, rfl, hs 2 c (by decide) rfl, _, _, rfl, hs 3 d (by decide) rfl, rfl⟩, rfl⟩
  refine callsIn_wide.1 (CallsIn.mono hk ?_)
  rintro _ w' ⟨x, E', st1, h1, rfl, h2, h3, h4, h5⟩
  exact ⟨by rw [show x = .bool true from h4], h5.below⟩
end Go.Proofs.YtbadfjogakhhbaaGreatDoor.Re
