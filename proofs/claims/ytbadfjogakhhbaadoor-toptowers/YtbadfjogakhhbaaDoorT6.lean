/- TopTowers: its contract, for any list and at the variables as the program lays them. -/
import Derived.Test.YtbadfjogakhhbaaDoorT5
import Derived.Test.YtbadfjogakhhbaaDoorRows
import Derived.Lib.LaidTab
import Derived.MakeChecks
namespace Go.Proofs.YtbadfjogakhhbaaDoor.Re
open Go Go.RowKit
set_option linter.unusedVariables false
set_option linter.unusedSimpArgs false
set_option linter.unusedSectionVars false
def bldA (a : Nat → Nat) : Nat → List Int
  | 0 => []
  | x + 1 => (bldA a x).take (a x) ++ ((x + 1 : Nat) : Int) :: (bldA a x).drop (a x)
theorem bldA_mem {a : Nat → Nat} : ∀ n, (∀ x, x < n → a x < x + 1) → bldA a n ∈ G.gensP n
  | 0, _ => List.mem_singleton.2 rfl
  | n + 1, h => G.gensP_mem (bldA_mem n (fun x hx => h x (by omega))) (h n (by omega))
def sgW (of0 of1 len c w1 w2 d k r : Int) (z f : Nat → Int) (A : Nat → List Int) : Nat → Int := fun i =>
  if 100 ≤ i then (A (i / 100)).getD (i % 100) 0
  else if i = 0 then of0 else if i = 1 then of1
  else if i < 50 then z (i - 40) else if i < 70 then f (i - 60)
  else if i = 70 then c else if i = 80 then w1 else if i = 81 then w2 else if i = 82 then d else if i = 83 then k else if i = 84 then r else len
theorem towers_go (gt gw : TypeId) (gf : Nat → Option Obj) (of0 of1 : Int) (x : Value) {p : Option Addr} {len c : Nat} (hx : x = .slice p len c) (hr : ∀ j, j < len → ∃ z : Int, Rd gf x j (.int .i64 z)) :
    ∃ (σ : Nat → Int) (val : Nat → Value), val 0 = x ∧ σ 0 = of0 ∧ σ 1 = of1 ∧ @SFactOK (SX σ gt gw val gf [] [] gn gn) Tryd.prog (@GT (SX σ gt gw val gf [] [] gn gn)) tW := by
  obtain ⟨z, hz⟩ : ∃ z : Nat → Int, ∀ j, j < len → Rd gf x j (.int .i64 (z j)) := by
    refine ⟨fun j => if h : j < len then Classical.choose (hr j h) else 0, fun j hj => ?_⟩
    simp only [dif_pos hj]
    exact Classical.choose_spec (hr j hj)
  obtain ⟨m, hm, h0⟩ := smallI_cases of0 4 (by decide)
  obtain ⟨cc, hc, h1⟩ := smallI_cases of1 2 (by decide)
  have hc3 : ((cc : Nat) : Int) = 0 ∨ ((cc : Nat) : Int) = 1 ∨ ((cc : Nat) : Int) = 2 := by omega
  obtain ⟨a, ha⟩ : ∃ a : Nat → Nat, ∀ x, x < 5 → a x < x + 1 ∧ (x < len → smallI (z x) (.ofNat x) = .ofNat (a x)) ∧ (¬ x < len → a x = x) := by
    refine ⟨fun x => if h : x < 5 ∧ x < len then Classical.choose (smallI_cases (z x) x (by omega)) else x, fun x hx => ?_⟩
    by_cases h : x < len
    · simp only [dif_pos (And.intro hx h)]
      have := Classical.choose_spec (smallI_cases (z x) x (by omega))
      exact ⟨by have := this.1; omega, fun _ => this.2, fun k => absurd h k⟩
    · simp only [dif_neg (fun k : x < 5 ∧ x < len => h k.2)]
      exact ⟨by omega, fun k => absurd k h, fun _ => trivial⟩
  obtain ⟨f, hf⟩ : ∃ f : Nat → Int, ∀ i, (i < len → smallI (z i) (.ofNat 2) = f i) ∧ (¬ i < len → f i = 0) ∧ (f i = 0 ∨ f i = 1 ∨ f i = 2) := by
    refine ⟨fun i => if i < len then smallI (z i) (.ofNat 2) else 0, fun i => ?_⟩
    by_cases h : i < len
    · simp only [if_pos h]
      obtain ⟨v, hv, e⟩ := smallI_cases (z i) 2 (by decide)
      refine ⟨fun _ => trivial, fun k => absurd h k, ?_⟩
      rw [e]
      simp only [Int.ofNat_eq_natCast]
      omega
    · simp only [if_neg h]
      exact ⟨fun k => absurd k h, fun _ => trivial, .inl trivial⟩
  have hn1 : 1 ≤ m + 1 := by omega
  have hn5 : m + 1 ≤ 5 := by omega
  have hA : bldA a (m + 1) ∈ G.gensP (m + 1) := bldA_mem _ (fun x hx => (ha x (by omega)).1)
  obtain ⟨-, -, w1, w2, d, k, e1, e2, e3, e4, e5⟩ := G.towers_plain hn1 hn5 hA
  obtain ⟨r, e6, e7⟩ := Q.dist_all hn1 hn5 hc3 (l := (List.range (m + 1)).map f) (by simp) (fun y hy => by
    obtain ⟨i, _, rfl⟩ := List.mem_map.1 hy
    exact (hf i).2.2)
  obtain ⟨σ, hσ⟩ : ∃ σ, sgW of0 of1 len cc w1 w2 d k r z f (bldA a) = σ := ⟨_, rfl⟩
  have s0 : σ 0 = of0 := by rw [← hσ]; rfl
  have s1 : σ 1 = of1 := by rw [← hσ]; rfl
  have s90 : σ 90 = len := by rw [← hσ]; rfl
  have s70 : σ 70 = cc := by rw [← hσ]; rfl
  have sz : ∀ i, i < 5 → σ (40 + i) = z i := fun i hi => by
    rw [← hσ]
    unfold sgW
    rw [if_neg (by omega), if_neg (by omega), if_neg (by omega), if_pos (by omega), show 40 + i - 40 = i by omega]
  have sf : ∀ i, i < 5 → σ (60 + i) = f i := fun i hi => by
    rw [← hσ]
    unfold sgW
    rw [if_neg (by omega), if_neg (by omega), if_neg (by omega), if_neg (by omega), if_pos (by omega), show 60 + i - 60 = i by omega]
  have sA : ∀ x j, j < x → x ≤ 5 → σ (100 * x + j) = (bldA a x).getD j 0 := fun x j hj hx => by
    rw [← hσ]
    unfold sgW
    rw [if_pos (by omega), show (100 * x + j) / 100 = x by omega, show (100 * x + j) % 100 = j by omega]
  have s80 : σ 80 = w1 := by rw [← hσ]; rfl
  have s81 : σ 81 = w2 := by rw [← hσ]; rfl
  have s82 : σ 82 = d := by rw [← hσ]; rfl
  have s83 : σ 83 = k := by rw [← hσ]; rfl
  have s84 : σ 84 = r := by rw [← hσ]; rfl
  clear hσ
  have hfs : (List.range (m + 1)).map (fun i => σ (60 + i)) = (List.range (m + 1)).map f := List.map_congr_left fun i hi => sf i (by have := List.mem_range.1 hi; omega)
  let val : Nat → Value := fun j => if j = 0 then x else pAt x (j - 10)
  have v0 : val 0 = x := by simp [val]
  have v1 : ∀ i, val (10 + i) = pAt x i := fun i => by
    show (if 10 + i = 0 then x else pAt x (10 + i - 10)) = _
    rw [if_neg (by omega), show 10 + i - 10 = i by omega]
  clear_value val
  have hlen : MO σ val gf (30, Vl 0, Vl 0, S 90) := mo_len (p := p) (n := len) (c := c) (by rw [v0, hx]) s90
  have hmem : ∀ i, i < 5 → i < len → ∀ e ∈ mem1 i, MO σ val gf e := fun i h5 hi => by
    have rr : Rd gf (val 0) i (.int .i64 (z i)) := by rw [v0]; exact hz i hi
    have hv : val (10 + i) = pAt (val 0) i := by rw [v0]; exact v1 i
    exact ga hlen <| ga (mo_idx (a := 0) (b := 10 + i) rr hv) <| ga (mo_read (a := 0) (b := 10 + i) rr hv (by show some (Value.int .i64 (σ (40 + i))) = _; rw [sz i h5]) (fun k hk => by cases hk)) gn
  refine ⟨σ, val, v0, s0, s1, towers_sf (n := m + 1) (A := bldA a) (at_ := a) ?_⟩
  refine { h1 := hn1, hn := hn5, of0 := by rw [s0, h0]; rfl, of1 := by rw [s1, h1, s70]; rfl, A0 := rfl, atl := fun x hx => (ha x (by omega)).1, A1 := fun x hx => rfl, sA := fun x j hx hj => sA x j hj (by omega), mv := fun x hx => ?_, fw := fun i hi => ?_, mem := ga hlen gn, wo := by rw [s80, s81]; exact e1, fs := by rw [s82]; exact e2, fa := by rw [s83]; exact e3, le1 := by rw [s82, s83]; exact e4, le2 := by rw [s83, s80]; exact e5, di := by rw [hfs, s70, s84]; exact e6, df := by rw [hfs, s84]; exact e7 }
  · obtain ⟨q1, q2, q3⟩ := ha x (by omega)
    rw [s90, sz x (by omega)]
    by_cases h : x < len
    · exact .inl ⟨by omega, hmem x (by omega) h, q2 h⟩
    · exact .inr ⟨by omega, q3 h⟩
  · obtain ⟨q1, q2, q3⟩ := hf i
    rw [s90, sz i (by omega), sf i (by omega)]
    by_cases h : i < len
    · exact .inl ⟨by omega, hmem i (by omega) h, q1 h⟩
    · exact .inr ⟨by omega, q2 h⟩
def tab64 : List Int := [0, 1, 56, 2, 57, 49, 28, 3, 61, 58, 42, 50, 38, 29, 17, 4, 62, 47, 59, 36, 45, 43, 51, 22, 53, 39, 33, 30, 24, 18, 12, 5, 63, 55, 48, 27, 60, 41, 37, 16, 46, 35, 44, 21, 52, 32, 23, 11, 54, 26, 40, 15, 34, 20, 31, 10, 25, 14, 19, 9, 13, 8, 7, 6]
theorem tab_laid : (Rows.laid_math_bits_deBruijn64tab : DataW Unit) = Lib.tabData .u8 tab64 := rfl
def laidL : List (String × DataW Unit) := [("math/bits.deBruijn32tab", Rows.laid_math_bits_deBruijn32tab), ("math/bits.deBruijn64tab", Rows.laid_math_bits_deBruijn64tab), ("bibelot/magic.six", Rows.laid_bibelot_magic_six)]
theorem laid_of {W : World} (h : laidMetH Tryd.prog laidL W) : ∃ gt : TypeId, ∀ (gw : TypeId) (σ : Nat → Int) (val : Nat → Value) (l m ok mok), @Laid (SX σ gt gw val (fun g => W.heap[g]?) l m ok mok) W := by
  rw [MakeChecks.laidMetH_plain _ _ _ (by kernel_rfl)] at h
  obtain ⟨ps, hv, hnd, hps⟩ := h
  obtain ⟨g1, t1, cs1, fuel1, p1, q1, hg1, ht1, hvar1, hd1, ⟨g, t, cs, fuel, p, q, hg, ht, hvar, hd, hr2, rfl⟩, rfl⟩ := hv
  rw [tab_laid] at hd
  obtain rfl : 1 = g := Option.some.inj ((by kernel_rfl : Tryd.prog.globalNamed "math/bits.deBruijn64tab" = some 1).symm.trans hg)
  obtain rfl : 126 = t := Option.some.inj ((by kernel_rfl : (Tryd.prog.globals[1]?).map (·.type) = some 126).symm.trans ht)
  have hcs := Lib.cells_of_tab (n := 64) (e := 5) (by kernel_rfl) (by kernel_rfl) (by kernel_rfl) (by kernel_rfl) hd
  have hlen : cs.size = 64 := by
    have := congrArg List.length hcs
    simpa [tab64] using this
  obtain ⟨⟨c, ty, hh⟩, _⟩ := hps 1 0 (by
    refine List.mem_append_right _ (List.mem_append_left _ (List.mem_append_left _ ?_))
    unfold MemPlace.row
    exact List.mem_map.2 ⟨0, by simp [hlen], rfl⟩)
  refine ⟨ty, fun gw σ val l m ok mok gg o ho => ?_⟩
  have hc : c = cs := by
    unfold World.var? at hvar
    rw [(by kernel_rfl : Tryd.prog.globalNamed "math/bits.deBruijn64tab" = some 1)] at hvar
    simpa [hh] using hvar
  rcases ho with ho | ho
  rotate_left
  · exact ⟨(Array.getElem?_eq_some_iff.1 (show W.heap[gg]? = some o from ho)).1, ho⟩
  have hgg : gg = 1 := by
    match gg, ho with
    | 1, _ => rfl
    | 0, ho => cases ho
    | k + 2, ho => cases ho
  subst hgg
  have ho : Obj.cells (tab64.map fun z => Value.int .u8 z).toArray ty (0, 0) = o := by injection ho
  refine ⟨(Array.getElem?_eq_some_iff.1 hh).1, ?_⟩
  rw [hh, ← ho, hc, ← hcs]
theorem rd_of {w : World} {A : Addr} {n c j : Nat} {z : Value} (hj : j < n) (hc : w.cell? (A.add j) = some z) : Rd (fun g => w.heap[g]?) (.slice (some A) n c) j z := by
  unfold World.cell? at hc
  split at hc
  · rename_i cc ty fz hh
    split at hc
    · cases hc
    · rename_i hs
      refine ⟨A, n, c, (A.add j).block, (A.add j).off, cc, ty, fz, rfl, hj, ?_, hh, hc⟩
      generalize A.add j = X at *
      cases X with
      | mk b o s =>
        cases s with
        | none => rfl
        | some _ => simp at hs
  · cases hc
theorem ints_rd {H : Type} {enc : TypeId × Value → H} {w : World} {base : Nat} {sp : Nat → Bool} {held : Bool} {fuel : Nat} {p : Option Addr} {n c : Nat} {y : DataW H × List MemPlace} (h : DataW.trod enc Tryd.prog w base sp held fuel 22 [.slice p n c] = some y) : ∀ j, j < n → ∃ z : Int, Rd (fun g => w.heap[g]?) (.slice p n c) j (.int .i64 z) := by
  have c3 : Tryd.prog.cellsOf 3 = 1 := by kernel_rfl
  intro j hj
  rcases DataW.trod_slice (e := 3) (by kernel_rfl) h with ⟨hc, _⟩ | ⟨a, len, cap, el, rs, m, _, hc, _, _, _, _, hl, he, _⟩
  · injection hc with hc
    injection hc with _ hc
    omega
  · injection hc with hc
    injection hc with h1 h2 h3
    subst h1 h2 h3
    have h1 := he j hj
    rw [c3, Nat.mul_one] at h1
    obtain ⟨b, hb⟩ : ∃ b, el[j]? = some b := ⟨el[j]'(by omega), List.getElem?_eq_getElem (by omega)⟩
    rw [hb] at h1
    obtain ⟨cs, h2, h3⟩ := Option.bind_eq_some_iff.1 h1
    obtain ⟨_, h4, h5⟩ := World.cells?_some h2
    obtain ⟨z, h6, _⟩ := DataW.trod_int (k := .i64) (by kernel_rfl) h3
    subst h6
    have h7 := h5 0 (by omega)
    have e : ∀ X : Addr, X.add 0 = X := fun X => by simp [Addr.add]
    rw [e] at h7
    exact ⟨z, rd_of hj h7⟩
theorem towers_calls {H : Type} {enc : TypeId × Value → H} {sp : Nat → Bool} {held : Bool} {base : Nat} {y : DataW H × List MemPlace} (p : Option Addr) (n c : Nat) (of0 of1 : Int) (w : World) (hL : laidMetH Tryd.prog laidL w) (h : ∃ fuel, DataW.trod enc Tryd.prog w base sp held fuel 22 (Value.slice p n c).cells.toList = some y) : Calls Tryd.prog 3 #[.slice p n c, .agg #[.int .i64 of0, .int .i64 of1]] w fun e w' => e = .returned (.bool true) ∧ Below w.heap.size w w' := by
  obtain ⟨gt, hL⟩ := laid_of hL
  obtain ⟨fuel, h⟩ := h
  obtain ⟨σ, val, hv, z0, z1, hk⟩ := towers_go gt 0 (fun g => w.heap[g]?) of0 of1 (.slice p n c) rfl (ints_rd h)
  letI : Sig := SX σ gt 0 val (fun g => w.heap[g]?) [] [] gn gn
  have hw : WR GT (fun k => k < w.heap.size) ⟨0, fun _ => 0, fun _ => 0⟩ ⟨.leaf, 0⟩ w := ⟨rfl, fun b o hb => by simp [T.get] at hb, fun b b' o o' hb => by simp [T.get] at hb, fun b o hb => by simp [T.get] at hb, fun k hk => hk, hL 0 σ val [] [] gn gn⟩
  have hk := hk.2 (fun k => k < w.heap.size) ⟨0, fun _ => 0, fun _ => 0⟩ w [.slice p n c, .agg #[.int .i64 of0, .int .i64 of1]] ⟨.leaf, 0⟩ rfl hw ⟨_, _, rfl, ⟨hv.symm, .inl ⟨_, _, _, rfl⟩⟩, _, _, rfl, ⟨_, rfl, _, _, rfl, (by show Value.int .i64 of0 = .int .i64 (σ 0); rw [z0]), _, _, rfl, (by show Value.int .i64 of1 = .int .i64 (σ 1); rw [z1]), rfl⟩, rfl⟩
  refine callsIn_wide.1 (CallsIn.mono hk ?_)
  rintro _ w' ⟨x, E', st1, h1, rfl, h2, h3, h4, h5⟩
  exact ⟨by rw [show x = .bool true from h4], h5.below⟩
end Go.Proofs.YtbadfjogakhhbaaDoor.Re
