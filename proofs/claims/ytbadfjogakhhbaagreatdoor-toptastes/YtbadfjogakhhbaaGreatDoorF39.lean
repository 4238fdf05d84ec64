/- Seat ZD: what the row says of the two variables that are read: how they lie in memory. TopTastes: its contract. -/
import Derived.Test.YtbadfjogakhhbaaGreatDoorF38
import Derived.Test.YtbadfjogakhhbaaGreatDoorRows
import Derived.Lib.LaidU8
import Derived.MakeChecks
namespace Go.Proofs.YtbadfjogakhhbaaGreatDoor.Re
open Go Go.RowKit
set_option linter.unusedVariables false
set_option linter.unusedSectionVars false
def tab64 : List Int := [0, 1, 56, 2, 57, 49, 28, 3, 61, 58, 42, 50, 38, 29, 17, 4, 62, 47, 59, 36, 45, 43, 51, 22, 53, 39, 33, 30, 24, 18, 12, 5, 63, 55, 48, 27, 60, 41, 37, 16, 46, 35, 44, 21, 52, 32, 23, 11, 54, 26, 40, 15, 34, 20, 31, 10, 25, 14, 19, 9, 13, 8, 7, 6]
theorem tab_laid : (Rows.laid_math_bits_deBruijn64tab : DataW Unit) = Lib.tabData .u8 tab64 := rfl
def laidL : List (String × DataW Unit) := [("math/bits.deBruijn32tab", Rows.laid_math_bits_deBruijn32tab), ("math/bits.deBruijn64tab", Rows.laid_math_bits_deBruijn64tab), ("bibelot/magic.six", Rows.laid_bibelot_magic_six), ("bibelot/price.whole", Rows.laid_bibelot_price_whole)]
theorem cell_of {W : World} {g : Nat} {n : String} {cs : Array Value} (hn : Tryz.prog.globalNamed n = some g) (hvar : W.var? Tryz.prog n = some cs) (hf : ∃ c t, W.heap[g]? = some (.cells c t (0, 0))) : ∃ ty : TypeId, W.heap[g]? = some (.cells cs ty (0, 0)) := by
  obtain ⟨c, ty, hh⟩ := hf
  unfold World.var? at hvar
  rw [hn] at hvar
  have : c = cs := by simpa [hh] using hvar
  exact ⟨ty, by rw [hh, this]⟩
theorem laid_of {W : World} (h : laidMetH Tryz.prog laidL W) : ∃ gt gw : TypeId, ∀ (σ : Nat → Int) (val : Nat → Value) (l m ok mok), @Laid (SX σ gt gw val (fun g => W.heap[g]?) l m ok mok) W := by
  rw [MakeChecks.laidMetH_plain _ _ _ (by kernel_rfl)] at h
  obtain ⟨ps, hv, hnd, hps⟩ := h
  obtain ⟨g1, t1, cs1, fuel1, p1, q1, hg1, ht1, hvar1, hd1, ⟨g, t, cs, fuel, p, q, hg, ht, hvar, hd, ⟨g3, t3, cs3, fuel3, p3, q3, hg3, ht3, hvar3, hd3, ⟨g4, t4, cs4, fuel4, p4, q4, hg4, ht4, hvar4, hd4, hr4, rfl⟩, rfl⟩, rfl⟩, rfl⟩ := hv
  rw [tab_laid] at hd
  have n2 : Tryz.prog.globalNamed "math/bits.deBruijn64tab" = some 2 := by kernel_rfl
  have n0 : Tryz.prog.globalNamed "bibelot/price.whole" = some 0 := by kernel_rfl
  obtain rfl : 2 = g := Option.some.inj (n2.symm.trans hg)
  obtain rfl : 0 = g4 := Option.some.inj (n0.symm.trans hg4)
  obtain rfl : 182 = t := Option.some.inj ((by kernel_rfl : (Tryz.prog.globals[2]?).map (·.type) = some 182).symm.trans ht)
  obtain rfl : 56 = t4 := Option.some.inj ((by kernel_rfl : (Tryz.prog.globals[0]?).map (·.type) = some 56).symm.trans ht4)
  have hcs := Lib.cells_of_tab (n := 64) (e := 5) (by kernel_rfl) (by kernel_rfl) (by kernel_rfl) (by kernel_rfl) hd
  have hlen : cs.size = 64 := by
    have := congrArg List.length hcs
    simpa [tab64] using this
  have hw : (Rows.laid_bibelot_price_whole : DataW Unit) = .agg ([(1 : Int), 1].map fun z => .lit (.int .i64 z)) := rfl
  rw [hw] at hd4
  have hst : ∃ fs, Tryz.prog.underlying 56 = some (.struct fs) ∧ fs.size = 2 ∧ ∀ (i : Nat) (f : Field), fs[i]? = some f → f.type = 3 ∧ f.offset = i := by
    have hb : (match Tryz.prog.underlying 56 with | some (.struct fs) => decide (fs.toList.map (fun f => (f.type, f.offset)) = [(3, 0), (3, 1)]) | _ => false) = true := by kernel_rfl
    split at hb
    · rename_i fs hu
      have hb := of_decide_eq_true hb
      refine ⟨fs, hu, by have := congrArg List.length hb; simpa using this, fun i f hf => ?_⟩
      have h1 := congrArg (·[i]?) hb
      rw [← Array.getElem?_toList] at hf
      simp only [List.getElem?_map, hf, Option.map_some] at h1
      match i, h1 with
      | 0, h1 => simp at h1; exact h1
      | 1, h1 => simp at h1; exact h1
      | k + 2, h1 => simp at h1
    · cases hb
  obtain ⟨fs, hu, hsz, hfs⟩ := hst
  have hcs4 := Lib.ints_of_struct hu (fun i f hf => ⟨by rw [(hfs i f hf).1]; kernel_rfl, (hfs i f hf).2, by rw [(hfs i f hf).1]; kernel_rfl⟩) (by rw [hsz]; kernel_rfl) hd4
  have hlen4 : cs4.size = 2 := by
    have := congrArg List.length hcs4
    simpa using this
  obtain ⟨ty, hh⟩ := cell_of n2 hvar (hps 2 0 (by
    refine List.mem_append_right _ (List.mem_append_left _ (List.mem_append_left _ ?_))
    unfold MemPlace.row
    exact List.mem_map.2 ⟨0, by simp [hlen], rfl⟩)).1
  obtain ⟨tw, hhw⟩ := cell_of n0 hvar4 (hps 0 0 (by
    refine List.mem_append_right _ (List.mem_append_right _ (List.mem_append_right _ (List.mem_append_left _ (List.mem_append_left _ ?_))))
    unfold MemPlace.row
    exact List.mem_map.2 ⟨0, by simp [hlen4], rfl⟩)).1
  refine ⟨ty, tw, fun σ val l m ok mok gg o ho => ?_⟩
  rcases ho with ho | ho
  rotate_left
  · exact ⟨(Array.getElem?_eq_some_iff.1 (show W.heap[gg]? = some o from ho)).1, ho⟩
  have hgg : gg = 2 ∨ gg = 0 := by
    match gg, ho with
    | 2, _ => exact .inl rfl
    | 0, _ => exact .inr rfl
    | 1, ho => cases ho
    | k + 3, ho => cases ho
  rcases hgg with rfl | rfl
  · have ho : Obj.cells (tab64.map fun z => Value.int .u8 z).toArray ty (0, 0) = o := by injection ho
    refine ⟨(Array.getElem?_eq_some_iff.1 hh).1, ?_⟩
    rw [hh, ← ho, ← hcs]
  · have ho : Obj.cells ([(1 : Int), 1].map fun z => Value.int .i64 z).toArray tw (0, 0) = o := by injection ho
    refine ⟨(Array.getElem?_eq_some_iff.1 hhw).1, ?_⟩
    rw [hhw, ← ho, ← hcs4]
theorem rd_of {w : World} {A : Addr} {n c j : Nat} {z : Value} (hj : j < n) (hc : w.cell? (A.add j) = some z) : Rd (fun g => w.heap[g]?) (.slice (some A) n c) j z := by
  unfold World.cell? at hc
  split at hc
  · rename_i cc ty fz hh
    split at hc
    · cases hc
    · rename_i hs
      refine ⟨A, n, c, (A.add j).block, (A.add j).off, cc, ty, fz, rfl, hj, ?_, hh, hc⟩
      generalize A.add j = X at *
      cases X with
      | mk b o s =>
        cases s with
        | none => rfl
        | some _ => simp at hs
  · cases hc
theorem ints_rd {H : Type} {enc : TypeId × Value → H} {w : World} {base : Nat} {sp : Nat → Bool} {held : Bool} {fuel : Nat} {v : Value} {y : DataW H × List MemPlace} (h : DataW.trod enc Tryz.prog w base sp held fuel 24 [v] = some y) : ∃ p n c, v = .slice p n c ∧ ∀ j, j < n → ∃ z : Int, Rd (fun g => w.heap[g]?) v j (.int .i64 z) := by
  have c3 : Tryz.prog.cellsOf 3 = 1 := by kernel_rfl
  rcases DataW.trod_slice (e := 3) (by kernel_rfl) h with ⟨hc, _⟩ | ⟨a, len, cap, el, rs, m, _, hc, _, _, _, _, hl, he, _⟩
  · injection hc with hc
    exact ⟨none, 0, 0, hc, fun j hj => absurd hj (by omega)⟩
  · injection hc with hc
    refine ⟨some a, len, cap, hc, fun j hj => ?_⟩
    have h1 := he j hj
    rw [c3, Nat.mul_one] at h1
    obtain ⟨b, hb⟩ : ∃ b, el[j]? = some b := ⟨el[j]'(by omega), List.getElem?_eq_getElem (by omega)⟩
    rw [hb] at h1
    obtain ⟨cs, h2, h3⟩ := Option.bind_eq_some_iff.1 h1
    obtain ⟨_, h4, h5⟩ := World.cells?_some h2
    obtain ⟨z, h6, _⟩ := DataW.trod_int (k := .i64) (by kernel_rfl) h3
    subst h6
    have h7 := h5 0 (by omega)
    have e : ∀ X : Addr, X.add 0 = X := fun X => by simp [Addr.add]
    rw [e] at h7
    exact ⟨z, by rw [hc]; exact rd_of hj h7⟩
theorem lists_rd {H : Type} {enc : TypeId × Value → H} {w : World} {base : Nat} {sp : Nat → Bool} {held : Bool} {p : Option Addr} {n c : Nat} {y : DataW H × List MemPlace} (h : ∃ fuel, DataW.trod enc Tryz.prog w base sp held fuel 22 (Value.slice p n c).cells.toList = some y) : ∀ i, i < n → ∃ v pi ni ci, Rd (fun g => w.heap[g]?) (.slice p n c) i v ∧ v = .slice pi ni ci ∧ ∀ j, j < ni → ∃ z : Int, Rd (fun g => w.heap[g]?) v j (.int .i64 z) := by
  obtain ⟨fuel, h⟩ := h
  have c24 : Tryz.prog.cellsOf 24 = 1 := by kernel_rfl
  have h : DataW.trod enc Tryz.prog w base sp held fuel 22 [.slice p n c] = some y := h
  intro i hi
  rcases DataW.trod_slice (e := 24) (by kernel_rfl) h with ⟨hc, _⟩ | ⟨a, len, cap, el, rs, m, _, hc, _, _, _, _, hl, he, _⟩
  · injection hc with hc
    injection hc with _ hc
    omega
  · injection hc with hc
    injection hc with h1 h2 h3
    subst h1 h2 h3
    have h1 := he i hi
    rw [c24, Nat.mul_one] at h1
    obtain ⟨b, hb⟩ : ∃ b, el[i]? = some b := ⟨el[i]'(by omega), List.getElem?_eq_getElem (by omega)⟩
    rw [hb] at h1
    obtain ⟨cs, h2, h3⟩ := Option.bind_eq_some_iff.1 h1
    obtain ⟨_, h4, h5⟩ := World.cells?_some h2
    match cs, h4, h5, h3 with
    | [v], _, h5, h3 =>
      obtain ⟨pi, ni, ci, q1, q2⟩ := ints_rd h3
      have h7 := h5 0 (by omega)
      have e : ∀ X : Addr, X.add 0 = X := fun X => by simp [Addr.add]
      rw [e] at h7
      exact ⟨v, pi, ni, ci, rd_of hi h7, q1, q2⟩
theorem tastes_calls {H : Type} {enc : TypeId × Value → H} {sp : Nat → Bool} {held : Bool} {base : Nat} {y : DataW H × List MemPlace} (p : Option Addr) (n c : Nat) (w : World) (hL : laidMetH Tryz.prog laidL w) (h : ∃ fuel, DataW.trod enc Tryz.prog w base sp held fuel 22 (Value.slice p n c).cells.toList = some y) : Calls Tryz.prog 3 #[.slice p n c] w fun e w' => e = .returned (.bool true) ∧ Below w.heap.size w w' := by
  obtain ⟨gt, gw, hL⟩ := laid_of hL
  obtain ⟨σ, val, hv, hk⟩ := tastes_go gt gw (fun g => w.heap[g]?) (.slice p n c) rfl (lists_rd h)
  letI : Sig := SX σ gt gw val (fun g => w.heap[g]?) [] [] gn gn
  have hw : WR GT (fun k => k < w.heap.size) ⟨0, fun _ => 0, fun _ => 0⟩ ⟨.leaf, 0⟩ w := ⟨rfl, fun b o hb => by simp [T.get] at hb, fun b b' o o' hb => by simp [T.get] at hb, fun b o hb => by simp [T.get] at hb, fun k hk => hk, hL σ val [] [] gn gn⟩
  have hk := hk.2 (fun k => k < w.heap.size) ⟨0, fun _ => 0, fun _ => 0⟩ w [.slice p n c] ⟨.leaf, 0⟩ rfl hw ⟨_, _, rfl, ⟨hv.symm, .inl ⟨_, _, _, rfl⟩⟩, rfl⟩
  refine callsIn_wide.1 (CallsIn.mono hk ?_)
  rintro _ w' ⟨x, E', st1, h1, rfl, h2, h3, h4, h5⟩
  exact ⟨by rw [show x = .bool true from h4], h5.below⟩
end Go.Proofs.YtbadfjogakhhbaaGreatDoor.Re
