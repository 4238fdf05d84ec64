/- The small machine: memory: what is read, written, laid anew, appended. -/
import Derived.Test.YtbadfjogakhhbaaDoorF3
import Derived.Laws.Cells
import Derived.Laws.CopyRow
import Derived.Laws.Append
namespace Go.Proofs.YtbadfjogakhhbaaDoor.Re
open Go Go.RowKit
set_option linter.unusedVariables false
set_option linter.unusedSimpArgs false
set_option linter.unusedSectionVars false
variable [Sig]
section
variable {P : Program} {G : Nat → Option Obj} {B : Nat → Prop} {E : Env} {st : St} {w : World}
def V.one : V → Bool
  | .raw u => u.oneCell'
  | .agg _ => false
  | .tup _ => false
  | _ => true
theorem VR.one {v : V} {x : Value} (h : VR E v x) (h1 : v.one = true) : x.oneCell' = true := by
  cases v with
  | raw u => rw [show x = u from h]; exact h1
  | agg l => simp [V.one] at h1
  | tup l => simp [V.one] at h1
  | ptr b off => rw [h.2]; rfl
  | sl b off len cap => rw [h.2]; rfl
  | gs b off len s => obtain ⟨_, cap, e, _⟩ := h; rw [e]; rfl
  | clo f a c => obtain ⟨us, vs, e, _⟩ := h; rw [e]; rfl
  | yld b => rw [h.2]; rfl
  | sym i => rw [show x = .int .i64 (Sig.σ i) from h]; rfl
  | mp b => rw [h.2]; rfl
  | any => obtain ⟨a, c, e⟩ := h; rw [e]; rfl
  | val j => obtain ⟨_, ⟨a, n, c, e⟩ | ⟨A, e⟩⟩ := h <;> rw [e] <;> rfl
theorem VRs.one : ∀ {l : List V} {us : List Value}, VRs E l us → l.all V.one = true → ∀ u ∈ us, u.oneCell' = true
  | [], us, h, _, u, hu => by rw [show us = [] from h] at hu; cases hu
  | v :: l, us, h, h1, u, hu => by
    obtain ⟨y, r, e, h2, h3⟩ := h
    subst e
    simp only [List.all_cons, Bool.and_eq_true] at h1
    cases hu with
    | head => exact h2.one h1.1
    | tail _ hu => exact VRs.one h3 h1.2 u hu
/-- Cells that are read. -/
def loadL (st : St) (b off n : Nat) : Option (List V) := match st.h.get b with
  | some (.cells l _) => seg l off n
  | _ => none
theorem loadL_ok (hw : WR G B E st w) {b off n : Nat} {vs : List V} (h : loadL st b off n = some vs) :
    ∃ us, VRs E vs us ∧ us.length = n ∧ (loadCells ⟨E.ρ b, off, none⟩ n).run P w = .ok us.toArray w ∧ (∀ j u, us[j]? = some u → w.cell? ⟨E.ρ b, off + j, none⟩ = some u) := by
  unfold loadL at h
  split at h
  · rename_i l t hb
    obtain ⟨_, c, h1, h2, us0, rest, h3, h4⟩ := hw.live b _ hb
    obtain ⟨h5, h6⟩ := seg_ok h h4
    have hlen : ((us0.drop off).take n).length = n := by simp; omega
    have hc : ∀ j u, ((us0.drop off).take n)[j]? = some u → w.cell? ⟨E.ρ b, off + j, none⟩ = some u := by
      intro j u hj
      have hjn : j < n := by
        have := (List.getElem?_eq_some_iff.1 hj).1
        omega
      rw [List.getElem?_take, if_pos hjn, List.getElem?_drop] at hj
      have : c[off + j]? = some u := by
        rw [← Array.getElem?_toList, h3, List.getElem?_append_left (by omega)]
        exact hj
      simp [World.cell?, h1, this]
    refine ⟨_, h5, hlen, ?_, hc⟩
    have := run_loadCells_list (P := P) w ⟨E.ρ b, off, none⟩ ((us0.drop off).take n) (fun j v hj => by rw [add_plain]; exact hc j v hj)
    rwa [hlen] at this
  · cases h
def rep {α : Type} (l : List α) (off : Nat) (vs : List α) : List α := l.take off ++ vs ++ l.drop (off + vs.length)
theorem VRs.rep {l vs : List V} {us xs : List Value} {off : Nat} (h : VRs E l us) (h' : VRs E vs xs) : VRs E (rep l off vs) (rep us off xs) := by
  unfold Re.rep
  rw [h'.len]
  exact ((h.take off).append h').append (h.drop _)
/-- Cells that are written. -/
def storeL (st : St) (b off : Nat) (vs : List V) : Option St := match st.h.get b with
  | some (.cells l t) => match Nat.ble (off + vs.length) l.length && vs.all V.one with
    | true => putB st b (.cells (rep l off vs) t)
    | false => none
  | _ => none
theorem below_setRow {r : Nat} (hr : ¬ B r) (cs : Array Value) : Keep B w (w.setRow r cs) :=
  ⟨rfl, rfl, rfl, by simp, fun k hk => setRow_other w r k cs (fun e => hr (e ▸ hk))⟩
theorem rep_append {us rest xs : List Value} {off : Nat} (h : off + xs.length ≤ us.length) :
    (us ++ rest).take off ++ xs ++ (us ++ rest).drop (off + xs.length) = rep us off xs ++ rest := by
  unfold rep
  rw [List.take_append_of_le_length (by omega), List.drop_append_of_le_length (by omega)]
  simp [List.append_assoc]
theorem storeL_ok (hw : WR G B E st w) {b off : Nat} {vs : List V} {us : List Value} {st' : St} (h : storeL st b off vs = some st') (hv : VRs E vs us) :
    ∃ w', (storeCells ⟨E.ρ b, off, none⟩ us).run P w = .ok () w' ∧ WR G B E st' w' ∧ Keep B w w' := by
  unfold storeL at h
  split at h
  · rename_i l t hb
    split at h
    · rename_i hc
      simp only [Bool.and_eq_true] at hc
      have hle := Nat.le_of_ble_eq_true hc.1
      obtain ⟨_, c, h1, h2, us0, rest, h3, h4⟩ := hw.live b _ hb
      have hul := hv.len
      have hl := h4.len
      have hsz : c.size = us0.length + rest.length := by rw [← Array.length_toList, h3, List.length_append]
      have hrun := run_storeCells_at (P := P) (E.ρ b) off t us 0 c w h1 (by omega) (hv.one hc.2)
      rw [Nat.add_zero, h3, rep_append (by omega)] at hrun
      have hbase := hw.base b _ hb
      refine ⟨_, hrun, hw.write hb h (below_setRow hbase _) (fun k hk _ => setRow_other w _ k _ hk) ?_, below_setRow hbase _⟩
      refine ⟨_, setRow_heap w _ _ _ _ _ h1, ?_, rep us0 off us, rest, by simp, h4.rep hv⟩
      rw [← h2, hsz]
      simp [rep]
      omega
    · cases h
  · cases h
/-- A block of cells laid anew: more cells may lie behind those that are told. -/
theorem newCells (hw : WR G B E st w) {l : List V} {t : TypeId} {b : Nat} {st' : St} (h : newB st (.cells l t) = some (b, st')) {us : List Value} (rest : List Value) (hl : VRs E l us) (c : Array Value) (hc : c.toList = us ++ rest) :
    b = E.n ∧ E.le (E.new w.heap.size c.size) ∧ WR G B (E.new w.heap.size c.size) st' (w.alloc (.cells c t)) ∧ Keep B w (w.alloc (.cells c t)) ∧ b < (E.new w.heap.size c.size).n ∧ (E.new w.heap.size c.size).ρ b = w.heap.size ∧ (E.new w.heap.size c.size).sz b = c.size := by
  have hbn : b = E.n := by
    rw [newB_eq] at h
    split at h
    · injection h with h; injection h with h1 h2; rw [← h1, hw.n]
    · cases h
  have hle := Env.le_new E w.heap.size c.size
  have := hw.alloc h (.cells c t) c.size ⟨c, by
      have : (E.new w.heap.size c.size).ρ b = w.heap.size := by simp [Env.new, hbn]
      rw [this]
      show (w.heap.push _)[w.heap.size]? = _
      simp, by simp [Env.new, hbn], us, rest, hc, VRs.mono hle _ _ hl⟩
  exact ⟨this.1, this.2.1, this.2.2.1, this.2.2.2, by rw [hbn]; exact Nat.lt_succ_self _, by simp [Env.new, hbn], by simp [Env.new, hbn]⟩
def killB (st : St) (b : Nat) : Option St := match st.h.set fuelT b none with
  | some h => some ⟨h, st.n⟩
  | none => none
theorem killB_ok (hw : WR G B E st w) {b : Nat} {st' : St} (h : killB st b = some st') : WR G B E st' w ∧ st'.h.get b = none ∧ st'.n = st.n := by
  unfold killB at h
  split at h
  · rename_i h' hs
    injection h with h
    subst h
    have hg := T.get_set _ _ _ _ _ hs
    have sub : ∀ b' o', (St.h ⟨h', st.n⟩).get b' = some o' → st.h.get b' = some o' := fun b' o' hb => by
      rw [show (St.h ⟨h', st.n⟩) = h' from rfl, hg] at hb
      by_cases e : b' = b
      · rw [if_pos e] at hb; cases hb
      · rw [if_neg e] at hb; exact hb
    exact ⟨⟨hw.n, fun b' o' hb => hw.live b' o' (sub _ _ hb), fun b1 b2 o1 o2 h1 h2 he => hw.inj b1 b2 o1 o2 (sub _ _ h1) (sub _ _ h2) he, fun b' o' hb => hw.base b' o' (sub _ _ hb), hw.size, hw.glob⟩,
      by show h'.get b = none; rw [hg, if_pos rfl], rfl⟩
  · cases h
/-- A block that goes on under another number. -/
theorem rebind (hw : WR G B E st w) {b r nb : Nat} {o : LO} {st' : St} (h : newB st o = some (nb, st')) (hr : ¬ B r) (s : Nat) (hfree : ∀ b' o', st.h.get b' = some o' → E.ρ b' ≠ r) (ho : OR (E.new r s) nb w o) :
    nb = E.n ∧ WR G B (E.new r s) st' w := by
  rw [newB_eq] at h
  split at h
  · rename_i h' hs
    injection h with h
    injection h with h1 h2
    subst h1 h2
    have hg := T.get_set _ _ _ _ _ hs
    have hle := Env.le_new E r s
    have hold : ∀ b', b' ≠ st.n → (E.new r s).ρ b' = E.ρ b' := fun b' hb => by simp [Env.new, hw.n, hb]
    have hnew : (E.new r s).ρ st.n = r := by simp [Env.new, hw.n]
    refine ⟨hw.n.symm, by show E.n + 1 = st.n + 1; rw [hw.n], ?_, ?_, ?_, hw.size, hw.glob⟩
    · intro b' o' hb
      show b' < st.n + 1 ∧ _
      rw [show (St.h ⟨h', st.n + 1⟩) = h' from rfl, hg] at hb
      by_cases e : b' = st.n
      · subst e
        rw [if_pos rfl] at hb
        injection hb with hb
        subst hb
        exact ⟨Nat.lt_succ_self _, ho⟩
      · rw [if_neg e] at hb
        have hl := hw.live b' o' hb
        exact ⟨Nat.lt_succ_of_lt hl.1, hl.2.keep hle (by rw [hw.n]; exact hl.1) rfl⟩
    · intro b1 b2 o1 o2 h1 h2 he
      rw [show (St.h ⟨h', st.n + 1⟩) = h' from rfl, hg] at h1 h2
      by_cases e : b1 = st.n
      · by_cases e' : b2 = st.n
        · omega
        · rw [if_neg e'] at h2
          rw [e, hnew, hold b2 e'] at he
          exact absurd he.symm (hfree b2 o2 h2)
      · rw [if_neg e] at h1
        by_cases e' : b2 = st.n
        · rw [e', hnew, hold b1 e] at he
          exact absurd he (hfree b1 o1 h1)
        · rw [if_neg e'] at h2
          rw [hold b1 e, hold b2 e'] at he
          exact hw.inj b1 b2 o1 o2 h1 h2 he
    · intro b' o' hb
      rw [show (St.h ⟨h', st.n + 1⟩) = h' from rfl, hg] at hb
      by_cases e : b' = st.n
      · rw [e, hnew]; exact hr
      · rw [if_neg e] at hb
        rw [hold b' e]
        exact hw.base b' o' hb
  · cases h
def zerosL (z : List Value) : Nat → List V
  | 0 => []
  | n + 1 => z.map V.raw ++ zerosL z n
def zerosU (z : List Value) : Nat → List Value
  | 0 => []
  | n + 1 => z ++ zerosU z n
theorem zerosL_ok (z : List Value) : ∀ n, VRs E (zerosL z n) (zerosU z n)
  | 0 => rfl
  | n + 1 => (VRs.raws z).append (zerosL_ok z n)
theorem zerosU_len (z : List Value) : ∀ n, (zerosU z n).length = n * z.length
  | 0 => by simp [zerosU]
  | n + 1 => by simp [zerosU, zerosU_len z n, Nat.add_mul]; omega
theorem zerosU_get (z : List Value) : ∀ n k, k < n * z.length → (zerosU z n)[k]? = z[k % z.length]?
  | 0, k, h => by simp at h
  | n + 1, k, h => by
    unfold zerosU
    by_cases hk : k < z.length
    · rw [List.getElem?_append_left hk, Nat.mod_eq_of_lt hk]
    · rw [List.getElem?_append_right (by omega), zerosU_get z n (k - z.length) (by rw [Nat.add_mul] at h; omega)]
      congr 1
      rw [Nat.mod_eq_sub_mod (by omega : z.length ≤ k)]
theorem zeros_real (z : Array Value) (n : Nat) (hz : 0 < z.size) : ((Array.range (n * z.size)).map (fun i => z[i % z.size]!)).toList = zerosU z.toList n := by
  apply List.ext_getElem?
  intro k
  by_cases hk : k < n * z.size
  · rw [zerosU_get z.toList n k (by simpa using hk)]
    have hm : k % z.size < z.size := Nat.mod_lt _ hz
    simp [hk, hm, getElem!_pos z (k % z.size) hm]
  · rw [List.getElem?_eq_none (by simp; omega), List.getElem?_eq_none (by rw [zerosU_len]; simp; omega)]
end
end Go.Proofs.YtbadfjogakhhbaaDoor.Re
