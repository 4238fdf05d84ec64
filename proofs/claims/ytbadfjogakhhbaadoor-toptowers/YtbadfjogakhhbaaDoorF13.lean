/- The small machine: regions whose order is drawn: the walk. -/
import Derived.Test.YtbadfjogakhhbaaDoorF12
namespace Go.Proofs.YtbadfjogakhhbaaDoor.Re
open Go Go.RowKit
set_option linter.unusedVariables false
set_option linter.unusedSimpArgs false
set_option linter.unusedSectionVars false
variable [Sig]
def cnt (f : Nat → Bool) : Nat → Nat
  | 0 => 0
  | n + 1 => (match f n with | true => 1 | false => 0) + cnt f n
theorem cnt_zero {f : Nat → Bool} : ∀ {n : Nat}, cnt f n = 0 → ∀ i, i < n → f i = false
  | 0, _, i, hi => by omega
  | n + 1, h, i, hi => by
    unfold cnt at h
    cases hf : f n with
    | true => rw [hf] at h; simp at h
    | false =>
      rw [hf] at h
      simp at h
      by_cases e : i = n
      · rw [e]; exact hf
      · exact cnt_zero h i (by omega)
theorem cnt_drop {f g : Nat → Bool} {i0 : Nat} : ∀ {n : Nat}, i0 < n → f i0 = true → g i0 = false → (∀ j, j ≠ i0 → g j = f j) → cnt g n + 1 = cnt f n
  | 0, h, _, _, _ => by omega
  | n + 1, h, h1, h2, h3 => by
    have same : ∀ k, k ≤ i0 → cnt g k = cnt f k := fun k => by
      induction k with
      | zero => intro _; rfl
      | succ k ih => intro hk; unfold cnt; rw [ih (by omega), h3 k (by omega)]
    unfold cnt
    by_cases e : n = i0
    · subst e
      rw [h1, h2, same n (Nat.le_refl _)]
      simp
      omega
    · rw [h3 n e]
      have := cnt_drop (n := n) (by omega) h1 h2 h3
      omega
theorem cnt_all {f : Nat → Bool} : ∀ {n : Nat}, (∀ i, i < n → f i = true) → cnt f n = n
  | 0, _ => rfl
  | n + 1, h => by
    unfold cnt
    rw [h n (Nat.lt_succ_self n), cnt_all (fun i hi => h i (by omega))]
    simp
    omega
def In (D : Array Bool) (i : Nat) : Prop := D.getD i false = true
theorem in_of_true {D : Array Bool} {i : Nat} (h : i < D.size) : D.getD i true = D.getD i false := by
  simp [h]
section
variable {P : Program} {G : Nat → Option Obj} {B : Nat → Prop} {K : Orc} {rec : Rec} {ops : Array Oper}
/-- What is kept, and what came up early. -/
def Bx (B : Nat → Prop) (fl : Option Nat) (a : Nat) : Prop := B a ∨ fl = some a
def Flo (P : Program) (B : Nat → Prop) (ops : Array Oper) (f : Nat) (A : Nat) (a : Act) (w : World) : Prop := ∃ o ty i z t, ops[f]? = some o ∧ o.op = .alloc ty ∧ o.dst = some t ∧ P.info? ty = some i ∧ i.zero = some z ∧ a.tmps[t]? = some (.pointer (some ⟨A, 0, none⟩)) ∧ w.heap[A]? = some (.cells z.cells ty (0, 0)) ∧ ¬ B A
/-- Where a walk of a region stands: D: what has come up; m: so many writes; fl: where f lies, if it came up early. -/
structure Inv (P : Program) (G : Nat → Option Obj) (B : Nat → Prop) (ops : Array Oper) (f : Nat) (fr0 : Fr) (log : List Ent) (sF : St) (E0 : Env) (w0 : World) (D : Array Bool) (m : Nat) (fl : Option Nat) (E : Env) (a : Act) (w : World) : Prop where
  size : D.size = ops.size
  le : E0.le E
  wr : ∃ s, (heaps log sF)[m]? = some s ∧ WR G (Bx B fl) E s w
  sz : a.tmps.size = fr0.sz
  d : a.defers = marks E fr0.d
  dn : ∀ b ∈ fr0.d, b < E.n
  base : ∀ t v, (∀ j o, ops[j]? = some o → In D j → o.dst ≠ some t) → fr0.t.get t = some v → ∃ x, a.tmps[t]? = some x ∧ VR E v x
  done : ∀ j o e t, ops[j]? = some o → log[j]? = some e → In D j → (j = f → fl = none) → o.dst = some t → ∃ x, a.tmps[t]? = some x ∧ VR E e.v x
  pos : ∀ p i, (effsF log 0)[p]? = some i → (In D i ↔ p < m ∨ (i = f ∧ fl.isSome = true))
  early : ∀ A, fl = some A → In D f ∧ m ≤ kOf log f ∧ (effsF log 0)[kOf log f]? = some f ∧ Flo P B ops f A a w
  mle : m ≤ (effsF log 0).length
  clo : ∀ j, In D j → ∀ i, Pre ops i j → In D i
  bel : Keep B w0 w
  gl : ∀ g o, (G g = some o ∨ Sig.gf g = some o) → B g
theorem WR.adopt {E : Env} {st : St} {w : World} {A : Nat} (h : WR G (Bx B (some A)) E st w) {l : List V} {ty : TypeId} {b : Nat} {st' : St} (hn : newB st (.cells l ty) = some (b, st')) (c : Array Value) (hA : w.heap[A]? = some (.cells c ty (0, 0))) (hl : ∀ E, VRs E l c.toList) (hB : ¬ B A) (hG : ∀ g o, (G g = some o ∨ Sig.gf g = some o) → B g) :
    b = E.n ∧ E.le (E.new A c.size) ∧ WR G B (E.new A c.size) st' w := by
  rw [newB_eq] at hn
  split at hn
  · rename_i h' hs
    injection hn with hn
    injection hn with h1 h2
    subst h1 h2
    have hg := T.get_set _ _ _ _ _ hs
    have hle := Env.le_new E A c.size
    have hold : ∀ b, b ≠ st.n → (E.new A c.size).ρ b = E.ρ b := fun b hb => by simp [Env.new, h.n, hb]
    have hnew : (E.new A c.size).ρ st.n = A := by simp [Env.new, h.n]
    have hsz : (E.new A c.size).sz st.n = c.size := by simp [Env.new, h.n]
    have hne : ∀ b o, st.h.get b = some o → E.ρ b ≠ A := fun b o hb he => h.base b o hb (.inr (by rw [he]))
    refine ⟨h.n.symm, hle, ⟨by show E.n + 1 = st.n + 1; rw [h.n], ?_, ?_, ?_, fun k hk => h.size k (.inl hk), fun g o hgo => ⟨hG g o hgo, (h.glob g o hgo).2⟩⟩⟩
    · intro b o' hb
      show b < st.n + 1 ∧ _
      rw [show (St.h ⟨h', st.n + 1⟩) = h' from rfl, hg] at hb
      by_cases e : b = st.n
      · subst e
        rw [if_pos rfl] at hb
        injection hb with hb
        subst hb
        exact ⟨Nat.lt_succ_self _, c, by rw [hnew]; exact hA, hsz.symm, c.toList, [], by simp, hl _⟩
      · rw [if_neg e] at hb
        have hlv := h.live b o' hb
        exact ⟨Nat.lt_succ_of_lt hlv.1, hlv.2.keep hle (by rw [h.n]; exact hlv.1) rfl⟩
    · intro b b' o1 o2 hb hb' he
      rw [show (St.h ⟨h', st.n + 1⟩) = h' from rfl, hg] at hb hb'
      by_cases e : b = st.n
      · by_cases e' : b' = st.n
        · omega
        · rw [if_neg e'] at hb'
          rw [e, hnew, hold b' e'] at he
          exact absurd he.symm (hne b' o2 hb')
      · rw [if_neg e] at hb
        by_cases e' : b' = st.n
        · rw [e', hnew, hold b e] at he
          exact absurd he (hne b o1 hb)
        · rw [if_neg e'] at hb'
          rw [hold b e, hold b' e'] at he
          exact h.inj b b' o1 o2 hb hb' he
    · intro b o' hb
      rw [show (St.h ⟨h', st.n + 1⟩) = h' from rfl, hg] at hb
      by_cases e : b = st.n
      · rw [e, hnew]; exact hB
      · rw [if_neg e] at hb
        rw [hold b e]
        exact fun hh => h.base b o' hb (.inl hh)
  · cases hn
/-- What the frames of the entries hold. -/
theorem frame_at {fr0 frF : Fr} {log : List Ent} {sF : St} {st0 : St} (hlog : logR P G K rec ops ops.toList fr0 st0 = some (log, frF, sF)) (hd : okDst ops.toList = true) :
    ∀ i, i ≤ ops.size → ∀ f, (frs log frF)[i]? = some f → f.sz = fr0.sz ∧ f.d = fr0.d ∧
      (∀ t, (∀ j o, j < i → ops[j]? = some o → o.dst ≠ some t) → f.t.get t = fr0.t.get t) ∧
      (∀ j o e t, j < i → ops[j]? = some o → log[j]? = some e → o.dst = some t → f.t.get t = some e.v) ∧
      (∀ j o t, j < i → ops[j]? = some o → o.dst = some t → t < fr0.sz) := by
  obtain ⟨h1, h2, h3, h4⟩ := logR_spec _ _ _ _ _ _ hlog
  intro i
  induction i with
  | zero =>
    intro _ f hf
    rw [h2] at hf
    injection hf with hf
    subst hf
    exact ⟨rfl, rfl, fun t _ => rfl, fun j o e t hj => by omega, fun j o t hj => by omega⟩
  | succ i ih =>
    intro hi f hf
    have hlt : i < ops.toList.length := by rw [Array.length_toList]; omega
    have hlt2 : i < log.length := by rw [h1]; exact hlt
    have ho : ops.toList[i]? = some ops.toList[i] := List.getElem?_eq_getElem hlt
    have he : log[i]? = some log[i] := List.getElem?_eq_getElem hlt2
    generalize hoo : ops.toList[i] = o at ho
    generalize hee : log[i] = e at he
    obtain ⟨f', s', q1, q2, q3, q4⟩ := h4 i o e ho he
    rw [hf] at q1
    injection q1 with q1
    subst q1
    have hfe : (frs log frF)[i]? = some e.fr := by
      unfold frs
      rw [List.getElem?_append_left (by simpa using hlt2), List.getElem?_map, he]
      rfl
    obtain ⟨g1, g2, g3, g4, g5⟩ := ih (by omega) e.fr hfe
    have ho' : ops[i]? = some o := by rw [← Array.getElem?_toList]; exact ho
    have split : ∀ j, j < i + 1 → j ≠ i → j < i := fun j h h' => by omega
    rw [putT_eq] at q3
    split at q3
    · rename_i hdn
      injection q3 with q3
      subst q3
      refine ⟨g1, g2, fun t ht => g3 t (fun j o' hj => ht j o' (by omega)), fun j o' e' t hj ho2 he2 ht => ?_, fun j o' t hj ho2 ht => ?_⟩
      · by_cases e1 : j = i
        · subst e1
          rw [ho'] at ho2
          injection ho2 with ho2
          subst ho2
          rw [hdn] at ht
          cases ht
        · exact g4 j o' e' t (split j hj e1) ho2 he2 ht
      · by_cases e1 : j = i
        · subst e1
          rw [ho'] at ho2
          injection ho2 with ho2
          subst ho2
          rw [hdn] at ht
          cases ht
        · exact g5 j o' t (split j hj e1) ho2 ht
    · rename_i u hdu
      split at q3
      · rename_i hlt3
        have hlt3 : u < e.fr.sz := Nat.le_of_ble_eq_true hlt3
        split at q3
        · rename_i t' ht'
          injection q3 with q3
          subst q3
          have hg := T.get_set _ _ _ _ _ ht'
          refine ⟨g1, g2, fun t ht => ?_, fun j o' e' t hj ho2 he2 ht => ?_, fun j o' t hj ho2 ht => ?_⟩
          · show t'.get t = _
            rw [hg, if_neg (fun e1 => ht i o (by omega) ho' (by rw [hdu, e1]))]
            exact g3 t (fun j o' hj => ht j o' (by omega))
          · show t'.get t = _
            rw [hg]
            by_cases e1 : j = i
            · subst e1
              rw [ho'] at ho2
              injection ho2 with ho2
              subst ho2
              rw [hdu] at ht
              injection ht with ht
              rw [he] at he2
              injection he2 with he2
              rw [if_pos ht.symm, he2]
            · rw [if_neg (fun e2 => e1 (okDst_ok hd (by rw [Array.getElem?_toList]; exact ho2) ho ht (by rw [hdu, e2])))]
              exact g4 j o' e' t (split j hj e1) ho2 he2 ht
          · by_cases e1 : j = i
            · subst e1
              rw [ho'] at ho2
              injection ho2 with ho2
              subst ho2
              rw [hdu] at ht
              injection ht with ht
              rw [← ht, ← g1]
              exact hlt3
            · exact g5 j o' t (split j hj e1) ho2 ht
        · cases q3
      · cases q3
theorem pre_lt (hE : okEdges ops.toList 0 = true) {i j : Nat} (h : Pre ops i j) : i < j := by
  induction h with
  | edge ho he hb hi =>
    have := okEdges_ok hE (by rw [Array.getElem?_toList]; exact ho) _ he hb
    omega
  | step ho he hb hk h ih =>
    have := okEdges_ok hE (by rw [Array.getElem?_toList]; exact ho) _ he hb
    omega
theorem chain_of {fr0 frF : Fr} {log : List Ent} {sF st0 : St} (hlog : logR P G K rec ops ops.toList fr0 st0 = some (log, frF, sF)) : ∀ i e s', log[i]? = some e → isEff e = false → (sts log sF)[i + 1]? = some s' → s' = e.st := by
  obtain ⟨l1, l2, l3, l4⟩ := logR_spec _ _ _ _ _ _ hlog
  intro j e2 s2 h1 h2 h3
  have hjl : j < ops.toList.length := by rw [← l1]; exact (List.getElem?_eq_some_iff.1 h1).1
  obtain ⟨f3', s3, g1, g2, g3, g4⟩ := l4 j _ e2 (List.getElem?_eq_getElem hjl) h1
  rw [h3] at g2
  injection g2 with g2
  subst g2
  rcases g4 with ⟨_, _, _, h⟩ | ⟨_, ⟨_, _, h⟩ | ⟨_, _, h⟩ | ⟨hc, _⟩⟩
  · exact h
  · exact h
  · exact h
  · (unfold isEff at h2; rw [hc] at h2; cases h2)
theorem Inv.settle {f : Nat} {fr0 frF : Fr} {log : List Ent} {sF st0 : St} {E0 : Env} {w0 : World} (hlog : logR P G K rec ops ops.toList fr0 st0 = some (log, frF, sF)) {D : Array Bool} {m : Nat} {fl : Option Nat} {E : Env} {a : Act} {w : World} (hI : Inv P G B ops f fr0 log sF E0 w0 D m fl E a w) :
    ∃ m' fl' E', Inv P G B ops f fr0 log sF E0 w0 D m' fl' E' a w ∧ ∀ A, fl' = some A → m' < kOf log f := by
  obtain ⟨l1, l2, l3, l4⟩ := logR_spec _ _ _ _ _ _ hlog
  cases fl with
  | none => exact ⟨m, none, E, hI, fun A h => by cases h⟩
  | some A =>
    obtain ⟨g1, g2, g3, o, ty, i, z, t, k1, k2, k3, k4, k5, k6, k7, k8⟩ := hI.early A rfl
    by_cases hlt : m < kOf log f
    · exact ⟨m, some A, E, hI, fun _ _ => hlt⟩
    · have hm : m = kOf log f := by omega
      obtain ⟨k, e, q1, q2, q3, q4⟩ := effsF_get log 0 _ f g3
      have : k = f := by omega
      subst this
      have hchain := chain_of hlog
      have hkl : k < log.length := (List.getElem?_eq_some_iff.1 q2).1
      have hheap : (heaps log sF)[kOf log k]? = some e.st := by
        rw [heaps_at log sF hchain k (Nat.le_of_lt hkl)]
        unfold sts
        rw [List.getElem?_append_left (by simpa using hkl), List.getElem?_map, q2]
        rfl
      have hoL : ops.toList[k]? = some o := by rw [Array.getElem?_toList]; exact k1
      obtain ⟨f', s', r1, r2, r3, r4⟩ := l4 k o e hoL q2
      have hafter : (heaps log sF)[kOf log k + 1]? = some s' := by
        have h1 := heaps_at log sF hchain (k + 1) (by omega)
        rw [kOf_succ q2, q3] at h1
        simp only at h1
        rw [h1]
        exact r2
      obtain ⟨s, hs, hw⟩ := hI.wr
      rw [hm, hheap] at hs
      injection hs with hs
      subst hs
      have hev : evE P G K rec e.st e.fr o = some (e.v, s') := by
        rcases r4 with ⟨hc, _⟩ | ⟨_, ⟨hc, _⟩ | ⟨hc, _⟩ | ⟨_, h⟩⟩
        · (unfold isEff at q3; rw [hc] at q3; cases q3)
        · (unfold isEff at q3; rw [hc] at q3; cases q3)
        · (unfold isEff at q3; rw [hc] at q3; cases q3)
        · exact h
      have hbox : boxL e.st ty (z.cells.toList.map V.raw) = some (e.v, s') := by
        unfold evE at hev
        rw [show opE P e.st e.fr o = boxL e.st ty (z.cells.toList.map V.raw) by unfold opE; rw [k2]; simp [k4, k5]] at hev
        split at hev
        · rename_i r hr
          rw [hr]
          exact hev
        · unfold callOp at hev
          rw [k2] at hev
          cases hev
      unfold boxL at hbox
      split at hbox
      · rename_i b st1 hb
        injection hbox with hbox; injection hbox with h1 h2
        subst h2
        obtain ⟨p1, p2, p3⟩ := hw.adopt hb z.cells k7 (fun E => VRs.raws _) k8 hI.gl
        have hρ : (E.new A z.cells.size).ρ b = A := by simp [Env.new, p1]
        refine ⟨m + 1, none, _, ⟨hI.size, hI.le.trans p2, ⟨_, by rw [hm]; exact hafter, ?_⟩, hI.sz, by rw [hI.d, marks_mono p2 hI.dn], fun b hb => Nat.lt_of_lt_of_le (hI.dn b hb) p2.1, ?_, ?_, ?_, fun A h => (by cases h), ?_, hI.clo, hI.bel, hI.gl⟩, fun A h => by cases h⟩
        · refine ⟨p3.n, p3.live, p3.inj, fun b o hb hh => ?_, fun k hk => ?_, fun g o hg => ⟨.inl (p3.glob g o hg).1, (p3.glob g o hg).2⟩⟩
          · rcases hh with hh | hh
            · exact p3.base b o hb hh
            · cases hh
          · rcases hk with hk | hk
            · exact p3.size k hk
            · cases hk
        · intro t v ht hg
          obtain ⟨y, h1, h2⟩ := hI.base t v ht hg
          exact ⟨y, h1, VR.mono p2 _ _ h2⟩
        · intro j o' e' t' hj hej hD _ ht
          by_cases e1 : j = k
          · subst e1
            rw [k1] at hj
            injection hj with hj
            subst hj
            rw [q2] at hej
            injection hej with hej
            subst hej
            rw [k3] at ht
            injection ht with ht
            subst ht
            refine ⟨_, k6, ?_⟩
            rw [← h1]
            exact ⟨by rw [p1]; exact Nat.lt_succ_self _, by rw [hρ]⟩
          · obtain ⟨y, h1, h2⟩ := hI.done j o' e' t' hj hej hD (fun h => absurd h e1) ht
            exact ⟨y, h1, VR.mono p2 _ _ h2⟩
        · intro p i' hp
          have h0 := hI.pos p i' hp
          constructor
          · intro hd
            rcases h0.1 hd with h | ⟨h, _⟩
            · exact .inl (by omega)
            · subst h
              obtain ⟨k3, e3, u1, u2, u3, u4⟩ := effsF_get log 0 p i' hp
              have : k3 = i' := by omega
              subst this
              exact .inl (by omega)
          · rintro (h | ⟨_, h⟩)
            · by_cases e1 : p = m
              · subst e1
                rw [hm, g3] at hp
                injection hp with hp
                exact h0.2 (.inr ⟨hp.symm, rfl⟩)
              · exact h0.2 (.inl (by omega))
            · cases h
        · have := (List.getElem?_eq_some_iff.1 g3).1
          omega
      · cases hbox
theorem drawn_step (hr : ∀ B, Sound P G B rec) (hK : ∀ B, OrcOK P G B K) {fr0 frF : Fr} {log : List Ent} {sF st0 : St} {E0 : Env} {w0 : World} {ro : Option Nat} {Q : Exit → Act → World → Prop}
    (hlog : logR P G K rec ops ops.toList fr0 st0 = some (log, frF, sF)) (hok : drawOk ops = true)
    {f : Nat} (hef : okEffF (befs [] ops.toList) f (effsF log 0) = true) (hfl : okFl ops (befs [] ops.toList) f (effsF log 0) = true) (hld : okLoads P G f (befs [] ops.toList) (effsF log 0) (heaps log sF) log ops.toList 0 0 = true)
    {D : Array Bool} {m : Nat} {fl : Option Nat} {E : Env} {a : Act} {w : World} (hI : Inv P G B ops f fr0 log sF E0 w0 D m fl E a w) (hstr : ∀ A, fl = some A → m < kOf log f) {i : Nat} (hi : i ∈ Region.ready .any ops D) {C : Act → World → Prop}
    (hC : ∀ m' fl' E' a' w', Inv P G B ops f fr0 log sF E0 w0 (D.setIfInBounds i true) m' fl' E' a' w' → C a' w') : wpOpIn (Fn ro) 0 P ops Q i C a w := by
  unfold drawOk at hok
  simp only [Bool.and_eq_true] at hok
  obtain ⟨⟨okE, okD⟩, okRd⟩ := hok
  obtain ⟨l1, l2, l3, l4⟩ := logR_spec _ _ _ _ _ _ hlog
  have hmask : ∀ k x, ((befs [] ops.toList).getD k 0).testBit x = true → Pre ops x k := fun k x h => befs_ok ops.toList [] (by simp) (fun k i h => by simp at h) k x h
  rw [mem_ready] at hi
  obtain ⟨hiD, o, ho, hedges⟩ := hi
  have hlt : i < ops.size := (Array.getElem?_eq_some_iff.1 ho).1
  have hnin : ¬ In D i := fun h => by
    unfold In at h
    rw [in_of_true (by rw [hI.size]; exact hlt), h] at hiD
    cases hiD
  have hoL : ops.toList[i]? = some o := by rw [Array.getElem?_toList]; exact ho
  have hltL : i < log.length := by rw [l1]; simpa using hlt
  have heL : log[i]? = some log[i] := List.getElem?_eq_getElem hltL
  generalize hee : log[i] = e at heL
  obtain ⟨f', s', q1, q2, q3, q4⟩ := l4 i o e hoL heL
  have hfe : (frs log frF)[i]? = some e.fr := by
    unfold frs
    rw [List.getElem?_append_left (by simpa using hltL), List.getElem?_map, heL]
    rfl
  obtain ⟨f1, f2, f3, f4, f5⟩ := frame_at hlog okD i (by omega) e.fr hfe
  -- what lies ahead is there
  have hpre : ∀ x, Pre ops x i → In D x := by
    intro x hx
    cases hx with
    | edge ho2 he hb hi2 =>
      rw [ho] at ho2
      injection ho2 with ho2
      subst ho2 hi2
      exact hedges _ (by simpa using he) hb
    | step ho2 he hb hk h =>
      rw [ho] at ho2
      injection ho2 with ho2
      subst ho2 hk
      exact hI.clo _ (hedges _ (by simpa using he) hb) x h
  have hbehind : ∀ x, Pre ops i x → ¬ In D x := fun x hx h => hnin (hI.clo x h i hx)
  -- what reads f's temporary comes behind the write ahead of f
  have hrdf : ∀ A, fl = some A → ∀ t o', ops[f]? = some o' → o'.dst = some t → t ∈ tmpsOf (looksL ops o) → False := by
    intro A hA t o' ho' ht hmem
    obtain ⟨_, _, hpf, _⟩ := hI.early A hA
    have hs := hstr A hA
    unfold okFl at hfl
    simp only [Bool.or_eq_true] at hfl
    rcases hfl with h | h
    · have := Nat.eq_of_beq_eq_true h
      have := (Array.getElem?_eq_some_iff.1 ho').1
      omega
    · rw [ho'] at h
      cases hpv : prevOf f (effsF log 0) with
      | none => rw [hpv] at h; cases h
      | some x =>
        rw [hpv] at h
        simp only [Bool.and_eq_true] at h
        rw [ht] at h
        have hb := okRdF_ok h.2 hoL hmem
        rw [Nat.zero_add] at hb
        obtain ⟨p, h1, h2⟩ := prevOf_ok hpv
        obtain ⟨k, e', g1, g2, g3, g4⟩ := effsF_get log 0 (p + 1) f h2
        have hk : k = f := by omega
        subst hk
        have hxD := hpre x (hmask _ _ hb)
        rcases (hI.pos p x h1).1 hxD with hh | ⟨hh, _⟩
        · omega
        · subst hh
          obtain ⟨k, e', q1, q2, q3, q4⟩ := effsF_get log 0 p x h1
          have : k = x := by omega
          subst this
          omega
  -- the operands
  have hsees : Sees E e.fr a (looksL ops o) := by
    intro y hy v hv
    cases y with
    | tmp t =>
      have hval : ∃ x, a.tmps[t]? = some x ∧ VR E v x := by
        have hv : e.fr.t.get t = some v := hv
        by_cases hw : ∃ (j : Nat) (o' : Oper), ops[j]? = some o' ∧ o'.dst = some t
        · obtain ⟨j, o', hj, ht⟩ := hw
          have hjL : ops.toList[j]? = some o' := by rw [Array.getElem?_toList]; exact hj
          have hjlt : j < ops.size := (Array.getElem?_eq_some_iff.1 hj).1
          have hejL : log[j]? = some (log[j]'(by rw [l1]; simpa using hjlt)) := List.getElem?_eq_getElem _
          have honly : ∀ k o2, ops[k]? = some o2 → o2.dst = some t → k = j := fun k o2 hk h2 => okDst_ok okD (by rw [Array.getElem?_toList]; exact hk) hjL h2 ht
          have hcase := okRead_ok (okReads_ok okRd hoL) hjL t (mem_tmpsOf hy) ht
          simp only [Nat.zero_add] at hcase
          have notyet : ¬ In D j → (¬ j < i) → ∃ x, a.tmps[t]? = some x ∧ VR E v x := fun hn hge => by
            rw [f3 t (fun k o2 hk h1 h2 => hge (honly k o2 h1 h2 ▸ hk))] at hv
            exact hI.base t v (fun k o2 h1 h3 h2 => hn (honly k o2 h1 h2 ▸ h3)) hv
          rcases hcase with rfl | hc | hc
          · exact notyet hnin (by omega)
          · have hp := hmask _ _ hc
            have hjlt2 := pre_lt okE hp
            rw [f4 j o' _ t hjlt2 hj hejL ht] at hv
            injection hv with hv
            subst hv
            exact hI.done j o' _ t hj hejL (hpre j hp) (fun hjf => by
              cases hfl0 : fl with
              | none => rfl
              | some A =>
                subst hjf
                exact (hrdf A hfl0 t o' hj ht (mem_tmpsOf hy)).elim) ht
          · have hp := hmask _ _ hc
            have hjlt2 := pre_lt okE hp
            exact notyet (hbehind j hp) (by omega)
        · have hno : ∀ (k : Nat) (o2 : Oper), ops[k]? = some o2 → o2.dst ≠ some t := fun k o2 hk h2 => hw ⟨k, o2, hk, h2⟩
          rw [f3 t (fun k o2 _ h1 => hno k o2 h1)] at hv
          exact hI.base t v (fun k o2 h1 _ => hno k o2 h1) hv
      obtain ⟨x, h1, h2⟩ := hval
      simpa [Act.eval, Array.getD_eq_getD_getElem?, h1] using h2
    | const c => simp only [opd] at hv; injection hv with hv; subst hv; rfl
    | global g => simp only [opd] at hv; injection hv with hv; subst hv; rfl
    | func f => simp only [opd] at hv; injection hv with hv; subst hv; rfl
  have hs1 : Sees E e.fr a o.op.operands.toList := fun y hy => hsees y (List.mem_append_left _ hy)
  have hs2 : Sees E e.fr a (gOp ops o).toList := fun y hy => hsees y (List.mem_append_right _ hy)
  -- behind it
  have hDin : ∀ j, In (D.setIfInBounds i true) j ↔ In D j ∨ j = i := fun j => by
    by_cases e1 : i = j
    · subst e1
      have : i < D.size := by rw [hI.size]; exact hlt
      simp [In, this]
    · unfold In
      rw [getD_set_ne false e1]
      exact ⟨.inl, fun h => h.resolve_right (fun e2 => e1 e2.symm)⟩
  have hdlt : ∀ t, o.dst = some t → t < fr0.sz := fun t ht => by
    rw [putT_eq] at q3
    rw [ht] at q3
    simp only at q3
    split at q3
    · rename_i hb
      have : t < e.fr.sz := Nat.le_of_ble_eq_true hb
      rw [← f1]
      exact this
    · cases q3
  have hnext : ∀ (m' : Nat) (E' : Env) (x : Value) (w' : World), E.le E' → (∃ s, (heaps log sF)[m']? = some s ∧ WR G (Bx B fl) E' s w') → VR E' e.v x → Keep (Bx B fl) w w' → (isEff e = true → m' = m + 1 ∧ kOf log i = m) → (isEff e = false → m' = m) →
      Inv P G B ops f fr0 log sF E0 w0 (D.setIfInBounds i true) m' fl E' (a.put o.dst x) w' := by
    intro m' E' x w' hle hwr hv hbelx hm1 hm2
    have hbel : Keep B w w' := hbelx.mono (fun k hk => .inl hk)
    have hput : ∀ t, o.dst ≠ some t → (a.put o.dst x).tmps[t]? = a.tmps[t]? := fun t ht => by
      cases hd : o.dst with
      | none => rfl
      | some u =>
        have : u ≠ t := fun e1 => ht (by rw [hd, e1])
        simp [Act.put, Array.getElem?_setIfInBounds_ne this]
    have hputs : ∀ t, o.dst = some t → (a.put o.dst x).tmps[t]? = some x := fun t ht => by
      have := hdlt t ht
      simp [Act.put, ht, hI.sz, this]
    have hif : ∀ A, fl = some A → i ≠ f := fun A hA e1 => hnin (e1 ▸ (hI.early A hA).1)
    refine ⟨by simpa using hI.size, hI.le.trans hle, hwr, ?_, ?_, fun b hb => Nat.lt_of_lt_of_le (hI.dn b hb) hle.1, ?_, ?_, ?_, ?_, ?_, ?_, hI.bel.trans hbel, hI.gl⟩
    · rw [← hI.sz]; cases o.dst <;> simp [Act.put]
    · have : (a.put o.dst x).defers = a.defers := by cases o.dst <;> rfl
      rw [this, hI.d, marks_mono hle hI.dn]
    · intro t v ht hg
      have hti : o.dst ≠ some t := ht i o ho ((hDin i).2 (.inr rfl))
      obtain ⟨y, h1, h2⟩ := hI.base t v (fun j o' h1 h2 => ht j o' h1 ((hDin j).2 (.inl h2))) hg
      exact ⟨y, by rw [hput t hti]; exact h1, VR.mono hle _ _ h2⟩
    · intro j o' e' t hj hej hD hjf ht
      by_cases e1 : j = i
      · subst e1
        rw [ho] at hj
        injection hj with hj
        subst hj
        rw [heL] at hej
        injection hej with hej
        subst hej
        exact ⟨x, hputs t ht, hv⟩
      · have hDj : In D j := ((hDin j).1 hD).resolve_right e1
        obtain ⟨y, h1, h2⟩ := hI.done j o' e' t hj hej hDj hjf ht
        have hti : o.dst ≠ some t := fun h2 => e1 (okDst_ok okD (by rw [Array.getElem?_toList]; exact hj) hoL ht h2)
        exact ⟨y, by rw [hput t hti]; exact h1, VR.mono hle _ _ h2⟩
    · intro p k hp
      rw [hDin]
      have h0 := hI.pos p k hp
      cases hc : isEff e with
      | true =>
        obtain ⟨h1, h2⟩ := hm1 hc
        have hpi := effsF_of log 0 i e heL hc
        rw [h2, Nat.zero_add] at hpi
        constructor
        · rintro (h3 | h3)
          · rcases h0.1 h3 with h4 | h4
            · exact .inl (by omega)
            · exact .inr h4
          · subst h3
            obtain ⟨k2, e2, g1, g2, g3, g4⟩ := effsF_get log 0 p k hp
            simp at g1
            subst g1
            exact .inl (by omega)
        · rintro (h3 | h3)
          · by_cases e1 : p = m
            · subst e1
              rw [hpi] at hp
              injection hp with hp
              exact .inr hp.symm
            · exact .inl (h0.2 (.inl (by omega)))
          · exact .inl (h0.2 (.inr h3))
      | false =>
        rw [hm2 hc]
        constructor
        · rintro (h3 | h3)
          · exact h0.1 h3
          · subst h3
            obtain ⟨k2, e2, g1, g2, g3, g4⟩ := effsF_get log 0 p k hp
            simp at g1
            subst g1
            rw [heL] at g2
            injection g2 with g2
            subst g2
            rw [hc] at g3
            cases g3
        · intro h3
          exact .inl (h0.2 h3)
    · intro A hA
      obtain ⟨g1, g2, g3, o1, ty, i1, z, t, k1, k2, k3, k4, k5, k6, k7, k8⟩ := hI.early A hA
      have hs := hstr A hA
      refine ⟨(hDin f).2 (.inl g1), ?_, g3, o1, ty, i1, z, t, k1, k2, k3, k4, k5, ?_, ?_, k8⟩
      · cases hc : isEff e with
        | true => have := (hm1 hc).1; omega
        | false => have := hm2 hc; omega
      · have hti : o.dst ≠ some t := fun h2 => hif A hA (okDst_ok okD hoL (by rw [Array.getElem?_toList]; exact k1) h2 k3)
        rw [hput t hti]
        exact k6
      · rw [hbelx.block A (.inr hA)]
        exact k7
    · cases hc : isEff e with
      | true =>
        obtain ⟨h1, h2⟩ := hm1 hc
        have hpi := effsF_of log 0 i e heL hc
        have := (List.getElem?_eq_some_iff.1 hpi).1
        omega
      | false => rw [hm2 hc]; exact hI.mle
    · intro j hj x hx
      rw [hDin]
      rcases (hDin j).1 hj with h | h
      · exact .inl (hI.clo j h x hx)
      · subst h; exact .inl (hpre x hx)
  obtain ⟨sm, hsm, hwm⟩ := hI.wr
  -- where a write stands
  have hmk : isEff e = true → kOf log i = m ∨ (i = f ∧ m < kOf log i) := by
    intro hc
    have hpi := effsF_of log 0 i e heL hc
    rw [Nat.zero_add] at hpi
    have hge : ¬ kOf log i < m := fun h => hnin ((hI.pos _ _ hpi).2 (.inl h))
    rcases Nat.lt_or_ge m (kOf log i) with h | h
    · -- the write at m comes ahead of i, so it is in D
      have hml : m < (effsF log 0).length := by
        have := (List.getElem?_eq_some_iff.1 hpi).1
        omega
      have hx := List.getElem?_eq_getElem hml
      rcases okEffF_ok hef h hx hpi with hb | hb
      · have hp := hmask _ _ hb
        rcases (hI.pos m _ hx).1 (hpre _ hp) with h2 | ⟨h2, h3⟩
        · omega
        · obtain ⟨A, hA⟩ := Option.isSome_iff_exists.1 h3
          have := hstr A hA
          obtain ⟨k, e', q1, q2, q3, q4⟩ := effsF_get log 0 m _ hx
          have : k = f := by omega
          subst this
          omega
      · exact .inr ⟨hb, h⟩
    · exact .inl (by omega)
  have hchain : ∀ i e s', log[i]? = some e → isEff e = false → (sts log sF)[i + 1]? = some s' → s' = e.st := by
    intro j e2 s2 h1 h2 h3
    have hjl : j < ops.toList.length := by rw [← l1]; exact (List.getElem?_eq_some_iff.1 h1).1
    obtain ⟨f3', s3, g1, g2, g3, g4⟩ := l4 j _ e2 (List.getElem?_eq_getElem hjl) h1
    rw [h3] at g2
    injection g2 with g2
    subst g2
    rcases g4 with ⟨_, _, _, h⟩ | ⟨_, ⟨_, _, h⟩ | ⟨_, _, h⟩ | ⟨hc, _⟩⟩
    · exact h
    · exact h
    · exact h
    · (unfold isEff at h2; rw [hc] at h2; cases h2)
  have hheap : (heaps log sF)[kOf log i]? = some e.st := by
    rw [heaps_at log sF hchain i (Nat.le_of_lt hltL)]
    unfold sts
    rw [List.getElem?_append_left (by simpa using hltL), List.getElem?_map, heL]
    rfl
  unfold wpOpIn
  simp only [ho]
  rcases q4 with ⟨hc, hwant, hv, hs⟩ | ⟨hwant, hq⟩
  · rw [wantB_ok hwant hs2, if_neg (by simp)]
    have hne : isEff e = false := by unfold isEff; rw [hc]; rfl
    refine ⟨fun _ _ => trivial, hC m fl E _ w (hnext m E undef w (Env.le.refl E) ⟨sm, hsm, hwm⟩ (by rw [hv]; rfl) (Keep.refl _ w) (fun h => by rw [hne] at h; cases h) (fun _ => rfl))⟩
  · rw [wantB_ok hwant hs2, if_pos rfl]
    rcases hq with ⟨hc, hop, hs⟩ | ⟨hc, hop, hs⟩ | ⟨hc, hop⟩
    · have hne : isEff e = false := by unfold isEff; rw [hc]; rfl
      refine opP_OK hwm hop hs1 ro _ Q ?_
      intro E' x w' hle hw' hv hbel
      exact hC m fl E' _ w' (hnext m E' x w' hle ⟨sm, hsm, hw'⟩ hv hbel (fun h => by rw [hne] at h; cases h) (fun _ => rfl))
    · have hne : isEff e = false := by unfold isEff; rw [hc]; rfl
      have hat := okAt_ok (okLoads_ok hld heL hoL hc) hsm
      simp only [Nat.zero_add] at hat
      have hop2 : opL P G sm e.fr o = some e.v := by
        rcases hat with h | ⟨x, hx, hb, hxf⟩ | ⟨x, hx, hb⟩ | h
        · rw [h, hheap] at hsm
          injection hsm with hsm
          rw [← hsm]
          exact hop
        · have hp := hmask _ _ hb
          obtain ⟨p, hp1⟩ := List.getElem?_of_mem hx
          rw [List.getElem?_drop] at hp1
          rcases (hI.pos _ _ hp1).1 (hpre x hp) with h2 | ⟨h2, h3⟩
          · omega
          · exact (hxf h2).elim
        · have hp := hmask _ _ hb
          obtain ⟨p, hp1⟩ := List.getElem?_of_mem hx
          have hpl : p < m := by
            have := (List.getElem?_eq_some_iff.1 hp1).1
            simp at this
            omega
          rw [List.getElem?_take, if_pos hpl] at hp1
          exact absurd ((hI.pos _ _ hp1).2 (.inl hpl)) (hbehind x hp)
        · exact h
      refine opL_OK hwm hop2 hs1 ro _ Q ?_
      intro E' x w' hle hw' hv hbel
      exact hC m fl E' _ w' (hnext m E' x w' hle ⟨sm, hsm, hw'⟩ hv hbel (fun h => by rw [hne] at h; cases h) (fun _ => rfl))
    · have hne : isEff e = true := by unfold isEff; rw [hc]; rfl
      rcases hmk hne with hkm | ⟨hif, hlt2⟩
      case inr =>
        -- f comes up early
        subst hif
        have hnone : fl = none := by
          cases h0 : fl with
          | none => rfl
          | some A => exact absurd (hI.early A h0).1 hnin
        subst hnone
        have hpi := effsF_of log 0 i e heL hne
        rw [Nat.zero_add] at hpi
        have hal : isAlloc o = true := by
          unfold okFl at hfl
          simp only [Bool.or_eq_true] at hfl
          rcases hfl with h | h
          · have := Nat.eq_of_beq_eq_true h
            omega
          · rw [ho] at h
            cases hpv : prevOf i (effsF log 0) with
            | none => rw [hpv] at h; cases h
            | some x => rw [hpv] at h; simp only [Bool.and_eq_true] at h; exact h.1
        obtain ⟨ty, t, hty, htd⟩ : ∃ ty t, o.op = .alloc ty ∧ o.dst = some t := by
          unfold isAlloc at hal
          split at hal
          · rename_i ty t h1 h2 h3; exact ⟨ty, t, h1, h2⟩
          · cases hal
        obtain ⟨i1, z, hi1, hz⟩ : ∃ i1 z, P.info? ty = some i1 ∧ i1.zero = some z := by
          unfold evE at hop
          rw [show opE P e.st e.fr o = (match P.info? ty with | some i => (match i.zero with | some z => boxL e.st ty (z.cells.toList.map V.raw) | none => none) | none => none) by unfold opE; rw [hty]; rfl] at hop
          cases h1 : P.info? ty with
          | none =>
            rw [h1] at hop
            simp only at hop
            unfold callOp at hop
            rw [hty] at hop
            cases hop
          | some i1 =>
            rw [h1] at hop
            simp only at hop
            cases h2 : i1.zero with
            | none =>
              rw [h2] at hop
              simp only at hop
              unfold callOp at hop
              rw [hty] at hop
              cases hop
            | some z => exact ⟨i1, z, rfl, h2⟩
        have hrun : (execOp a.eval o).run P w = .ok (.value (.pointer (some ⟨w.heap.size, 0, none⟩))) (w.alloc (.cells z.cells ty (0, 0))) := by
          have e1 : execOp a.eval o = (Instr.alloc ty true (.tuple #[]) >>= fun x => pure (Next.value x)) := by unfold execOp; rw [hty]
          rw [e1, Sem.run_bind]
          simp [Instr.alloc, zeroValue, run_typeInfo hi1, hz, newVar, newRow]
        refine wpIn_of_run (by rw [hty]; rfl) (.inl hrun) ?_
        have hput : ∀ t', o.dst ≠ some t' → (a.put o.dst (.pointer (some ⟨w.heap.size, 0, none⟩))).tmps[t']? = a.tmps[t']? := fun t' ht => by
          cases hd : o.dst with
          | none => rfl
          | some u =>
            have : u ≠ t' := fun e1 => ht (by rw [hd, e1])
            simp [Act.put, Array.getElem?_setIfInBounds_ne this]
        have hbw : Keep B w (w.alloc (.cells z.cells ty (0, 0))) := (Keep.refl B w).alloc (fun k hk => hwm.size k (.inl hk)) _
        have hnB : ¬ B w.heap.size := fun h => Nat.lt_irrefl _ (hwm.size _ (.inl h))
        refine hC m (some w.heap.size) E _ _ ⟨by simpa using hI.size, hI.le, ⟨sm, hsm, ?_⟩, by rw [← hI.sz]; try (cases o.dst <;> simp [Act.put]), ?_, hI.dn, ?_, ?_, ?_, ?_, hI.mle, ?_, hI.bel.trans hbw, hI.gl⟩
        · refine ⟨hwm.n, fun b o2 hb => ⟨(hwm.live b o2 hb).1, (hwm.live b o2 hb).2.keep (Env.le.refl E) (by rw [hwm.n]; exact (hwm.live b o2 hb).1) (Below.heap_alloc _ _ _ (hwm.live b o2 hb).2.lt)⟩, hwm.inj, fun b o2 hb hh => ?_, fun k hk => ?_, fun g o2 hg => ⟨.inl (hI.gl g o2 hg), ?_⟩⟩
          · rcases hh with hh | hh
            · exact hwm.base b o2 hb (.inl hh)
            · injection hh with hh
              have := (hwm.live b o2 hb).2.lt
              omega
          · show k < (w.heap.push _).size
            rw [Array.size_push]
            rcases hk with hk | hk
            · have := hwm.size k (.inl hk); omega
            · injection hk with hk; omega
          · rw [Below.heap_alloc _ _ _ (hwm.size g (hwm.glob g o2 hg).1)]
            exact (hwm.glob g o2 hg).2
        · have : (a.put o.dst (.pointer (some ⟨w.heap.size, 0, none⟩))).defers = a.defers := by cases o.dst <;> rfl
          rw [this, hI.d]
        · intro t' v ht hg
          have hti : o.dst ≠ some t' := ht i o ho ((hDin i).2 (.inr rfl))
          obtain ⟨y, h1, h2⟩ := hI.base t' v (fun j o' h1 h2 => ht j o' h1 ((hDin j).2 (.inl h2))) hg
          exact ⟨y, by rw [hput t' hti]; exact h1, h2⟩
        · intro j o' e' t' hj hej hD hjf ht
          by_cases e1 : j = i
          · cases hjf e1
          · have hDj : In D j := ((hDin j).1 hD).resolve_right e1
            obtain ⟨y, h1, h2⟩ := hI.done j o' e' t' hj hej hDj (fun h => absurd h e1) ht
            have hti : o.dst ≠ some t' := fun h2 => e1 (okDst_ok okD (by rw [Array.getElem?_toList]; exact hj) hoL ht h2)
            exact ⟨y, by rw [hput t' hti]; exact h1, h2⟩
        · intro p k hp
          rw [hDin]
          have h0 := hI.pos p k hp
          constructor
          · rintro (h3 | h3)
            · rcases h0.1 h3 with h4 | ⟨_, h4⟩
              · exact .inl h4
              · cases h4
            · exact .inr ⟨h3, rfl⟩
          · rintro (h3 | ⟨h3, _⟩)
            · exact .inl (h0.2 (.inl h3))
            · exact .inr h3
        · intro A hA
          injection hA with hA
          subst hA
          refine ⟨(hDin i).2 (.inr rfl), Nat.le_of_lt hlt2, hpi, o, ty, i1, z, t, ho, hty, htd, hi1, hz, ?_, World.alloc_heap_new w _, hnB⟩
          have := hdlt t htd
          rw [htd]
          simp [Act.put, hI.sz, this]
        · intro j hj x hx
          rw [hDin]
          rcases (hDin j).1 hj with h | h
          · exact .inl (hI.clo j h x hx)
          · subst h; exact .inl (hpre x hx)
      rw [hkm, hsm] at hheap
      injection hheap with hheap
      subst hheap
      have hafter : (heaps log sF)[m + 1]? = some s' := by
        have h1 := heaps_at log sF hchain (i + 1) (by omega)
        rw [kOf_succ heL, hne, hkm] at h1
        simp only at h1
        rw [h1]
        exact q2
      have hOK : OpOK P G (Bx B fl) E a w o e.v s' := by
        unfold evE at hop
        split at hop
        · rename_i r hu
          injection hop with hop
          subst hop
          intro ro next Q hn
          obtain ⟨E', x, w', h1, h2, h3, h4, h5⟩ := opE_ok hwm hu hs1
          exact wpIn_of_run (opE_notDefer hu) h1 (hn E' x w' h2 h3 h4 h5)
        · exact callOp_OK (hr _) (hK _) hwm hop hs1
      refine hOK ro _ Q ?_
      intro E' x w' hle hw' hv hbel
      exact hC (m + 1) fl E' _ w' (hnext (m + 1) E' x w' hle ⟨s', hafter, hw'⟩ hv hbel (fun _ => ⟨rfl, hkm⟩) (fun h => by rw [hne] at h; cases h))
theorem drawn_all (hr : ∀ B, Sound P G B rec) (hK : ∀ B, OrcOK P G B K) {fr0 frF : Fr} {log : List Ent} {sF st0 : St} {E0 : Env} {w0 : World} {ro : Option Nat} {Q : Exit → Act → World → Prop}
    (hlog : logR P G K rec ops ops.toList fr0 st0 = some (log, frF, sF)) (hok : drawOk ops = true)
    {f : Nat} (hef : okEffF (befs [] ops.toList) f (effsF log 0) = true) (hfl : okFl ops (befs [] ops.toList) f (effsF log 0) = true) (hld : okLoads P G f (befs [] ops.toList) (effsF log 0) (heaps log sF) log ops.toList 0 0 = true)
    (hQ : ∀ E' a' w', E0.le E' → WR G B E' sF w' → FR E' frF a' → Keep B w0 w' → Q .normal a' w') :
    ∀ (fuel : Nat) (D : Array Bool) (m : Nat) (fl : Option Nat) (E : Env) (a : Act) (w : World), cnt (fun i => !(D.getD i false)) ops.size = fuel → Inv P G B ops f fr0 log sF E0 w0 D m fl E a w → wpAnyIn (Fn ro) 0 P .any ops Q fuel D a w := by
  have okE : okEdges ops.toList 0 = true := by unfold drawOk at hok; simp only [Bool.and_eq_true] at hok; exact hok.1.1
  have okD : okDst ops.toList = true := by unfold drawOk at hok; simp only [Bool.and_eq_true] at hok; exact hok.1.2
  obtain ⟨l1, l2, l3, l4⟩ := logR_spec _ _ _ _ _ _ hlog
  -- when all have come up
  have fin : ∀ (D : Array Bool) (m : Nat) (fl : Option Nat) (E : Env) (a : Act) (w : World), (∀ i, i < ops.size → In D i) → Inv P G B ops f fr0 log sF E0 w0 D m fl E a w → Q .normal a w := by
    intro D m0 fl0 E0' a w hall hI0
    obtain ⟨m, fl, E, hI, hstr⟩ := hI0.settle hlog
    have hm : m = (effsF log 0).length := by
      have h1 := hI.mle
      rcases Nat.lt_or_ge m (effsF log 0).length with h | h
      · have hx := List.getElem?_eq_getElem h
        obtain ⟨k, e, g1, g2, g3, g4⟩ := effsF_get log 0 m _ hx
        have hk : k < ops.size := by
          have := (List.getElem?_eq_some_iff.1 g2).1
          rw [l1] at this
          simpa using this
        have hin : In D (effsF log 0)[m] := by rw [g1, Nat.zero_add]; exact hall k hk
        rcases (hI.pos m _ hx).1 hin with h2 | ⟨h2, h3⟩
        · omega
        · obtain ⟨A, hA⟩ := Option.isSome_iff_exists.1 h3
          have := hstr A hA
          have : k = f := by omega
          subst this
          omega
      · omega
    have hfn : fl = none := by
      cases h0 : fl with
      | none => rfl
      | some A =>
        have h1 := hstr A h0
        obtain ⟨_, _, h2, _⟩ := hI.early A h0
        have := (List.getElem?_eq_some_iff.1 h2).1
        omega
    subst hfn
    have hchain : ∀ i e s', log[i]? = some e → isEff e = false → (sts log sF)[i + 1]? = some s' → s' = e.st := by
      intro j e2 s2 h1 h2 h3
      have hjl : j < ops.toList.length := by rw [← l1]; exact (List.getElem?_eq_some_iff.1 h1).1
      obtain ⟨f3', s3, g1, g2, g3, g4⟩ := l4 j _ e2 (List.getElem?_eq_getElem hjl) h1
      rw [h3] at g2
      injection g2 with g2
      subst g2
      rcases g4 with ⟨_, _, _, h⟩ | ⟨_, ⟨_, _, h⟩ | ⟨_, _, h⟩ | ⟨hc, _⟩⟩
      · exact h
      · exact h
      · exact h
      · (unfold isEff at h2; rw [hc] at h2; cases h2)
    obtain ⟨sm, hsm, hwm⟩ := hI.wr
    have hlast : sm = sF := by
      have h1 := heaps_at log sF hchain log.length (Nat.le_refl _)
      rw [← effsF_len log 0, ← hm, hsm] at h1
      unfold sts at h1
      rw [List.getElem?_append_right (by simp)] at h1
      simp at h1
      exact h1
    subst hlast
    have hff : (frs log frF)[ops.size]? = some frF := by
      unfold frs
      have : log.length = ops.size := by rw [l1]; simp
      rw [List.getElem?_append_right (by simp [this])]
      simp [this]
    obtain ⟨f1, f2, f3, f4, f5⟩ := frame_at hlog okD ops.size (Nat.le_refl _) frF hff
    have hwm : WR G B E sm w := ⟨hwm.n, hwm.live, hwm.inj, fun b o hb hh => hwm.base b o hb (.inl hh), fun k hk => hwm.size k (.inl hk), fun g o hg => ⟨hI.gl g o hg, (hwm.glob g o hg).2⟩⟩
    refine hQ E a w hI.le hwm ⟨by rw [hI.sz, f1], ?_, by rw [hI.d, f2], by rw [f2]; exact hI.dn⟩ hI.bel
    intro t v hv
    by_cases hw : ∃ (j : Nat) (o' : Oper), ops[j]? = some o' ∧ o'.dst = some t
    · obtain ⟨j, o', hj, ht⟩ := hw
      have hjlt : j < ops.size := (Array.getElem?_eq_some_iff.1 hj).1
      have hejL : log[j]? = some (log[j]'(by rw [l1]; simpa using hjlt)) := List.getElem?_eq_getElem _
      rw [f4 j o' _ t hjlt hj hejL ht] at hv
      injection hv with hv
      subst hv
      exact hI.done j o' _ t hj hejL (hall j hjlt) (fun _ => rfl) ht
    · have hno : ∀ (k : Nat) (o2 : Oper), ops[k]? = some o2 → o2.dst ≠ some t := fun k o2 hk h2 => hw ⟨k, o2, hk, h2⟩
      rw [f3 t (fun k o2 _ h1 => hno k o2 h1)] at hv
      exact hI.base t v (fun k o2 h1 _ => hno k o2 h1) hv
  intro fuel
  induction fuel with
  | zero =>
    intro D m fl E a w hc hI
    have hall : ∀ i, i < ops.size → In D i := fun i hi => by
      have := cnt_zero hc i hi
      simpa [In] using this
    refine ⟨?_, fin D m fl E a w hall hI⟩
    rw [List.eq_nil_iff_forall_not_mem]
    intro i hi
    rw [mem_ready] at hi
    obtain ⟨h0, o, ho, _⟩ := hi
    have hlt : i < ops.size := (Array.getElem?_eq_some_iff.1 ho).1
    have := hall i hlt
    unfold In at this
    rw [in_of_true (by rw [hI.size]; exact hlt), this] at h0
    cases h0
  | succ fuel ih =>
    intro D m0 fl0 E0' a w hc hI0
    obtain ⟨m, fl, E, hI, hstr⟩ := hI0.settle hlog
    refine ⟨fun hnil => ?_, fun i hi => ?_⟩
    · -- something is ready
      refine fin D m fl E a w ?_ hI
      intro i
      induction i using Nat.strongRecOn with
      | _ i ihi =>
        intro hlt
        cases hin : D.getD i false with
        | true => exact hin
        | false =>
          exfalso
          have ho : ops[i]? = some ops[i] := Array.getElem?_eq_getElem hlt
          have : i ∈ Region.ready .any ops D := by
            rw [mem_ready]
            refine ⟨by rw [in_of_true (by rw [hI.size]; exact hlt)]; exact hin, _, ho, fun e he hb => ?_⟩
            have := okEdges_ok okE (by rw [Array.getElem?_toList]; exact ho) e (by simpa using he) hb
            exact ihi e.on (by omega) (by omega)
          rw [hnil] at this
          cases this
    · have hi' := hi
      rw [mem_ready] at hi'
      obtain ⟨h0, o, ho, _⟩ := hi'
      have hlt : i < ops.size := (Array.getElem?_eq_some_iff.1 ho).1
      rw [in_of_true (by rw [hI.size]; exact hlt)] at h0
      refine drawn_step hr hK hlog hok hef hfl hld hI hstr hi (fun m' fl' E' a' w' hI' => ih _ m' fl' E' a' w' ?_ hI')
      have := cnt_drop (f := fun i => !(D.getD i false)) (g := fun j => !((D.setIfInBounds i true).getD j false)) (i0 := i) (n := ops.size) hlt (by simp only [h0]; rfl) (by
        have : i < D.size := by rw [hI.size]; exact hlt
        simp [this]) (fun j hj => by show (!(D.setIfInBounds i true).getD j false) = _; rw [getD_set_ne false (Ne.symm hj)])
      omega
theorem drawR_ok (hr : ∀ B, Sound P G B rec) (hK : ∀ B, OrcOK P G B K) {fr fr' : Fr} {st st' : St} {E : Env} {a : Act} {w : World} {ro : Option Nat} {Q : Exit → Act → World → Prop} (h : drawR P G K rec ops fr st = some (fr', st')) (hw : WR G B E st w) (hf : FR E fr a)
    (hQ : ∀ E' a' w', E.le E' → WR G B E' st' w' → FR E' fr' a' → Keep B w w' → Q .normal a' w') : wpAnyIn (Fn ro) 0 P .any ops Q ops.size (Array.replicate ops.size false) a w := by
  unfold drawR at h
  split at h
  · rename_i hok
    split at h
    · rename_i log f s hlog
      split at h
      · rename_i hc
        injection h with h; injection h with h1 h2
        subst h1 h2
        simp only [Bool.and_eq_true] at hc
        obtain ⟨l1, l2, l3, l4⟩ := logR_spec _ _ _ _ _ _ hlog
        have hnone : ∀ i, ¬ In (Array.replicate ops.size false) i := fun i h => by
          unfold In at h
          by_cases hi : i < ops.size
          · simp [hi] at h
          · simp [hi] at h
        refine drawn_all hr hK hlog hok hc.1.1 hc.1.2 hc.2 hQ ops.size _ 0 none E a w ?_ ?_
        · refine cnt_all (fun i hi => ?_)
          simp [hi]
        · refine ⟨by simp, Env.le.refl E, ⟨st, ?_, ⟨hw.n, hw.live, hw.inj, fun b o hb hh => hw.base b o hb (hh.elim id (fun h => by cases h)), fun k hk => hw.size k (hk.elim id (fun h => by cases h)), fun g o hg => ⟨.inl (hw.glob g o hg).1, (hw.glob g o hg).2⟩⟩⟩, hf.sz, hf.d, hf.dn, fun t v _ hg => hf.t t v hg, fun j o e t _ _ hj => absurd hj (hnone j), fun p i hp => ⟨fun h => absurd h (hnone i), fun h => by rcases h with h | ⟨_, h⟩; exact absurd h (by omega); cases h⟩, fun A h => (by cases h), Nat.zero_le _, fun j hj => absurd hj (hnone j), Keep.refl B w, fun g o hg => (hw.glob g o hg).1⟩
          have hchain : ∀ i e s', log[i]? = some e → isEff e = false → (sts log s)[i + 1]? = some s' → s' = e.st := by
            intro j e2 s2 h1 h2 h3
            have hjl : j < ops.toList.length := by rw [← l1]; exact (List.getElem?_eq_some_iff.1 h1).1
            obtain ⟨f3', s3, g1, g2, g3, g4⟩ := l4 j _ e2 (List.getElem?_eq_getElem hjl) h1
            rw [h3] at g2
            injection g2 with g2
            subst g2
            rcases g4 with ⟨_, _, _, h⟩ | ⟨_, ⟨_, _, h⟩ | ⟨_, _, h⟩ | ⟨hc, _⟩⟩
            · exact h
            · exact h
            · exact h
            · (unfold isEff at h2; rw [hc] at h2; cases h2)
          have := heaps_at log s hchain 0 (Nat.zero_le _)
          rw [show kOf log 0 = 0 by simp [kOf]] at this
          rw [this, l3]
      · cases h
    · cases h
  · cases h
end
end Go.Proofs.YtbadfjogakhhbaaDoor.Re
