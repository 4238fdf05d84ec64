/- The small machine: more operations that touch no memory, and all of them. -/
import Derived.Test.YtbadfjogakhhbaaDoorF2
namespace Go.Proofs.YtbadfjogakhhbaaDoor.Re
open Go Go.RowKit
set_option linter.unusedVariables false
set_option linter.unusedSimpArgs false
set_option linter.unusedSectionVars false
variable [Sig]
section
variable {P : Program} {E : Env}
def natV : V → Option Nat
  | .raw (.int _ (.ofNat k)) => some k
  | _ => none
theorem natV_ok {v : V} {k : Nat} {x : Value} (h : natV v = some k) (hx : VR E v x) : ∃ q, x = .int q (k : Int) := by
  unfold natV at h
  split at h
  · rename_i q j
    injection h with h
    subst h
    exact ⟨q, hx⟩
  · cases h
def natO (fr : Fr) (x : Operand) : Option Nat := match opd fr x with
  | some v => natV v
  | none => none
theorem natO_ok {fr : Fr} {a : Act} {l : List Operand} (hs : Sees E fr a l) {x : Operand} (hx : x ∈ l) {k : Nat} (h : natO fr x = some k) : ∃ q, a.eval x = .int q (k : Int) := by
  unfold natO at h
  split at h
  · rename_i v hv; exact natV_ok h (hs x hx v hv)
  · cases h
/-- A bound that may be left out: none: it does not serve. -/
def optN (fr : Fr) : Option Operand → Option (Option Nat)
  | none => some none
  | some x => match natO fr x with
    | some k => some (some k)
    | none => none
def OptR (n : Option Nat) (x : Option Value) : Prop := match n, x with
  | none, none => True
  | some k, some y => ∃ q, y = .int q (k : Int)
  | _, _ => False
theorem optN_ok {fr : Fr} {a : Act} {l : List Operand} (hs : Sees E fr a l) {x : Option Operand} (hx : ∀ y, x = some y → y ∈ l) {n : Option Nat} (h : optN fr x = some n) : OptR n (x.map a.eval) := by
  cases x with
  | none => simp only [optN] at h; injection h with h; subst h; trivial
  | some y =>
    simp only [optN] at h
    split at h
    · rename_i k hk
      injection h with h
      subst h
      exact natO_ok hs (hx y rfl) hk
    · cases h
def upTo (k n : Nat) : Option Nat := match Nat.ble k n with
  | true => some k
  | false => none
theorem upTo_ok {k n j : Nat} (h : upTo k n = some j) : j = k ∧ k ≤ n := by
  unfold upTo at h
  split at h
  · rename_i hb; injection h with h; exact ⟨h.symm, Nat.le_of_ble_eq_true hb⟩
  · cases h
def bnds (len cap : Nat) (lo hi mx : Option Nat) : Option (Nat × Nat × Nat) :=
  match (match mx with | some v => upTo v cap | none => some cap) with
  | some m => match (match hi, mx with | some v, _ => upTo v m | none, none => some len | none, some _ => none) with
    | some h => match (match lo with | some v => upTo v h | none => some 0) with
      | some l => some (l, h, m)
      | none => none
    | none => none
  | none => none
theorem bound_ok {x : Value} {q : IntKind} {k n : Nat} (hx : x = .int q (k : Int)) (hk : k ≤ n) (c : BoundsCode) (w : World) : (Instr.sliceBound x n c).run P w = .ok k w := by
  subst hx
  simp [Instr.sliceBound, asIntOf, hk]
theorem bnds_ok {s : Bool} {len cap l h m : Nat} {lo hi mx : Option Nat} {x y z : Option Value} (hb : bnds len cap lo hi mx = some (l, h, m)) (hx : OptR lo x) (hy : OptR hi y) (hz : OptR mx z) (w : World) :
    (Instr.sliceBounds s len cap x y z).run P w = .ok (l, h, m) w := by
  unfold bnds at hb
  split at hb
  · rename_i m' hm
    split at hb
    · rename_i h' hh
      split at hb
      · rename_i l' hl
        injection hb with hb
        injection hb with e1 e2
        injection e2 with e2 e3
        subst e1 e2 e3
        cases mx with
        | none =>
          cases z with
          | some _ => exact hz.elim
          | none =>
            injection hm with hm
            subst hm
            cases hi with
            | none =>
              cases y with
              | some _ => exact hy.elim
              | none =>
                injection hh with hh
                subst hh
                cases lo with
                | none =>
                  cases x with
                  | some _ => exact hx.elim
                  | none => injection hl with hl; subst hl; simp [Instr.sliceBounds]
                | some v =>
                  cases x with
                  | none => exact hx.elim
                  | some x =>
                    obtain ⟨q, hx⟩ := hx
                    obtain ⟨rfl, hl⟩ := upTo_ok hl
                    simp [Instr.sliceBounds, bound_ok hx hl]
            | some u =>
              cases y with
              | none => exact hy.elim
              | some y =>
                obtain ⟨p, hy⟩ := hy
                obtain ⟨rfl, hh⟩ := upTo_ok hh
                cases lo with
                | none =>
                  cases x with
                  | some _ => exact hx.elim
                  | none => injection hl with hl; subst hl; simp [Instr.sliceBounds, bound_ok hy hh]
                | some v =>
                  cases x with
                  | none => exact hx.elim
                  | some x =>
                    obtain ⟨q, hx⟩ := hx
                    obtain ⟨rfl, hl⟩ := upTo_ok hl
                    simp [Instr.sliceBounds, bound_ok hy hh, bound_ok hx hl]
        | some t =>
          cases z with
          | none => exact hz.elim
          | some z =>
            obtain ⟨r, hz⟩ := hz
            obtain ⟨rfl, hm⟩ := upTo_ok hm
            cases hi with
            | none => simp at hh
            | some u =>
              cases y with
              | none => exact hy.elim
              | some y =>
                obtain ⟨p, hy⟩ := hy
                obtain ⟨rfl, hh⟩ := upTo_ok hh
                cases lo with
                | none =>
                  cases x with
                  | some _ => exact hx.elim
                  | none => injection hl with hl; subst hl; simp [Instr.sliceBounds, bound_ok hy hh, bound_ok hz hm]
                | some v =>
                  cases x with
                  | none => exact hx.elim
                  | some x =>
                    obtain ⟨q, hx⟩ := hx
                    obtain ⟨rfl, hl⟩ := upTo_ok hl
                    simp [Instr.sliceBounds, bound_ok hy hh, bound_ok hx hl, bound_ok hz hm]
      · cases hb
    · cases hb
  · cases hb
def cutOff (off l m size : Nat) : Nat := match Nat.beq m l with
  | true => off
  | false => off + l * size
theorem cutOff_addr (r off l m size : Nat) : (if m = l then (⟨r, off, none⟩ : Addr) else (⟨r, off, none⟩ : Addr).add (l * size)) = ⟨r, cutOff off l m size, none⟩ := by
  unfold cutOff
  by_cases h : m = l
  · rw [if_pos h]; simp [h, Nat.beq_eq]
  · rw [if_neg h, add_plain]
    have : Nat.beq m l = false := by
      cases e : Nat.beq m l with
      | false => rfl
      | true => exact absurd (Nat.eq_of_beq_eq_true e) h
    rw [this]
def sliceV (P : Program) (t : TypeId) (lo hi mx : Option Nat) : V → Option V
  | .ptr b off => match P.underlying t with
    | some (.array n e) => match P.info? e, bnds n n lo hi mx with
      | some j, some (l, h, m) => some (.sl b (cutOff off l m j.size) (h - l) (m - l))
      | _, _ => none
    | _ => none
  | .sl b off len cap => match P.underlying t with
    | some (.slice e) => match P.info? e, bnds len cap lo hi mx with
      | some j, some (l, h, m) => some (.sl b (cutOff off l m j.size) (h - l) (m - l))
      | _, _ => none
    | _ => none
  | .gs b off len s => match P.underlying t, mx with
    | some (.slice e), none => match P.info? e, bnds len len lo hi none with
      | some j, some (l, h, _) => match l with
        | 0 => some (.gs b off h s)
        | l + 1 => match Nat.beq j.size s, Nat.blt (l + 1) len with
          | true, true => some (.gs b (off + (l + 1) * s) (h - (l + 1)) s)
          | true, false => some .any
          | _, _ => none
      | _, _ => none
    | _, _ => none
  | _ => none
theorem bnds_cap {len cap l h m : Nat} {lo hi : Option Nat} (hb : bnds len len lo hi none = some (l, h, m)) (hc : len ≤ cap) : bnds len cap lo hi none = some (l, h, cap) ∧ h ≤ len ∧ l ≤ h := by
  unfold bnds at hb ⊢
  simp only at hb ⊢
  cases hi with
  | none =>
    simp only at hb ⊢
    cases lo with
    | none => simp at hb; obtain ⟨rfl, rfl, _⟩ := hb; simp
    | some v =>
      simp only at hb ⊢
      split at hb
      · rename_i l' hl; simp at hb; obtain ⟨rfl, rfl, _⟩ := hb; obtain ⟨rfl, h1⟩ := upTo_ok hl; exact ⟨rfl, Nat.le_refl _, h1⟩
      · cases hb
  | some u =>
    simp only at hb ⊢
    split at hb
    · rename_i h' hh
      have h1 : upTo u cap = some h' := by
        obtain ⟨rfl, h2⟩ := upTo_ok hh
        unfold upTo
        rw [Nat.ble_eq_true_of_le (by omega)]
      have h2 := upTo_ok hh
      rw [h1]
      cases lo with
      | none => simp at hb; obtain ⟨rfl, rfl, _⟩ := hb; exact ⟨rfl, by omega, by omega⟩
      | some v =>
        simp only at hb ⊢
        split at hb
        · rename_i l' hl; simp at hb; obtain ⟨rfl, rfl, _⟩ := hb; obtain ⟨rfl, h3⟩ := upTo_ok hl; exact ⟨rfl, by omega, h3⟩
        · cases hb
    · cases hb
theorem sliceV_ok {t : TypeId} {lo hi mx : Option Nat} {v v' : V} {x : Value} {xl xh xm : Option Value} (h : sliceV P t lo hi mx v = some v') (hx : VR E v x) (h1 : OptR lo xl) (h2 : OptR hi xh) (h3 : OptR mx xm) :
    ∃ x', VR E v' x' ∧ ∀ w, (Instr.sliceAt t x xl xh xm).run P w = .ok x' w := by
  unfold sliceV at h
  split at h
  · rename_i b off
    split at h
    · rename_i n e hu
      split at h
      · rename_i j l hh m hj hb
        injection h with h
        subst h
        obtain ⟨g1, rfl⟩ := hx
        refine ⟨_, ⟨g1, rfl⟩, fun w => ?_⟩
        simp [Instr.sliceAt, run_underlying hu, Instr.sureAddr, bnds_ok hb h1 h2 h3, run_sizeOf hj, cutOff_addr]
      · cases h
    · cases h
  · rename_i b off len cap
    split at h
    · rename_i e hu
      split at h
      · rename_i j l hh m hj hb
        injection h with h
        subst h
        obtain ⟨g1, rfl⟩ := hx
        refine ⟨_, ⟨g1, rfl⟩, fun w => ?_⟩
        have := cutOff_addr (E.ρ b) off l m j.size
        by_cases hml : m = l
        · subst hml
          rw [if_pos rfl] at this
          injection this with _ this
          simp [Instr.sliceAt, Instr.slice, run_underlying hu, bnds_ok hb h1 h2 h3, run_sizeOf hj, ← this]
        · rw [if_neg hml] at this
          simp [Instr.sliceAt, Instr.slice, run_underlying hu, bnds_ok hb h1 h2 h3, run_sizeOf hj, hml, ← this]
      · cases h
    · cases h
  · rename_i b off len s
    split at h
    · rename_i e hu
      split at h
      · rename_i j l hh m hj hb
        obtain ⟨g1, cap, rfl, g2, g3⟩ := hx
        obtain ⟨hb', q1, q2⟩ := bnds_cap hb g3
        split at h
        · injection h with h
          subst h
          refine ⟨.slice (some ⟨E.ρ b, off, none⟩) hh cap, ⟨g1, cap, rfl, g2, by omega⟩, fun w => ?_⟩
          simp [Instr.sliceAt, Instr.slice, run_underlying hu, bnds_ok hb' h1 h2 h3, run_sizeOf hj, add_plain]
        · rename_i l
          split at h
          · rename_i e1 e2
            injection h with h
            subst h
            have e1 := Nat.eq_of_beq_eq_true e1
            have e2 : l + 1 + 1 ≤ len := Nat.le_of_ble_eq_true e2
            refine ⟨.slice (some ⟨E.ρ b, off + (l + 1) * s, none⟩) (hh - (l + 1)) (cap - (l + 1)), ⟨g1, _, rfl, ?_, by omega⟩, fun w => ?_⟩
            · rw [← g2, Nat.add_assoc, ← Nat.add_mul]
              congr 2
              omega
            · have : ¬ cap = l + 1 := by omega
              simp [Instr.sliceAt, Instr.slice, run_underlying hu, bnds_ok hb' h1 h2 h3, run_sizeOf hj, add_plain, this, e1]
          · rename_i e1 e2
            injection h with h
            subst h
            have e1 := Nat.eq_of_beq_eq_true e1
            have e2 : ¬ l + 1 + 1 ≤ len := fun hh2 => by rw [show Nat.blt (l + 1) len = Nat.ble (l + 1 + 1) len from rfl, Nat.ble_eq_true_of_le hh2] at e2; cases e2
            have e3 : hh - (l + 1) = 0 := by omega
            refine ⟨.slice (some (if cap = l + 1 then ⟨E.ρ b, off, none⟩ else Addr.add ⟨E.ρ b, off, none⟩ ((l + 1) * j.size))) 0 (cap - (l + 1)), ⟨_, _, rfl⟩, fun w => ?_⟩
            simp [Instr.sliceAt, Instr.slice, run_underlying hu, bnds_ok hb' h1 h2 h3, run_sizeOf hj, e3]
            split <;> rfl
          · cases h
      · cases h
    · cases h
  · cases h
end
end Go.Proofs.YtbadfjogakhhbaaDoor.Re
