/- Contracts of Worst, Flips, Distance as facts. -/
import Derived.Test.YtbadfjogakhhbaaDoorT1
import Derived.Test.YtbadfjogakhhbaaDoorPe
import Derived.Test.YtbadfjogakhhbaaDoorPg
namespace Go.Proofs.YtbadfjogakhhbaaDoor.Re
open Go Go.RowKit
open Go.Proofs.YtbadfjogakhhbaaDoorW.PrintWords (Kd)
set_option linter.unusedVariables false
set_option linter.unusedSimpArgs false
set_option linter.unusedSectionVars false
theorem row_C {W : World} {b : Nat} {c : Array Value} {xs : List Int} {rest : List Value} (h : W.heap[b]? = some (.cells c 3 (0, 0))) (hc : c.toList = xs.map (fun z => Value.int .i64 z) ++ rest) (hl : xs.length ≤ 1000) : Kd.C (Kd.int .i64) W (some ⟨b, 0, none⟩) xs.length xs := by
  refine Go.Proofs.YtbadfjogakhhbaaDoorW.PrintWords.Kd.C_of_reads (enc := Value.int .i64) (d := (0 : Int)) (h1 := fun _ => rfl) ?_
  refine ⟨rfl, by omega, fun _ => ⟨⟨b, 0, none⟩, rfl, fun j hj => ?_⟩⟩
  have h' : K.Blk W b c 3 := h
  rw [Addr.add_mid, Nat.zero_add]
  refine h'.cell j ?_
  rw [← Array.getElem?_toList, hc, List.getElem?_append_left (by simpa using hj), List.getElem?_map, List.getElem?_eq_getElem hj]
  simp [List.getD_eq_getElem?_getD, List.getElem?_eq_getElem hj]
theorem row_V {W : World} {b cap : Nat} {c : Array Value} {xs : List Int} {rest : List Value} (h : W.heap[b]? = some (.cells c 3 (0, 0))) (hc : c.toList = xs.map (fun z => Value.int .i64 z) ++ rest) (hcap : xs.length ≤ cap) (hl : xs.length ≤ 1000) : Kd.V (Kd.int .i64) 3 W W.heap.size (fun k => k = b) (.slice (some ⟨b, 0, none⟩) xs.length cap) xs := by
  refine Go.Proofs.YtbadfjogakhhbaaDoorW.PrintWords.Kd.V_mk hcap (fun W' hW => ?_)
  have hb : b < W.heap.size := (Array.getElem?_eq_some_iff.1 h).1
  exact row_C ((hW b rfl hb).trans h) hc hl
variable [Sig]
/-- These are whole numbers. -/
def IsN (l : List V) (xs : List Int) : Prop := l.length = xs.length ∧ ∀ E us, VRs E l us → us = xs.map fun z => Value.int .i64 z
theorem isN_nil : IsN [] [] := ⟨rfl, fun E us h => h⟩
theorem isN_cons {v : V} {l : List V} {z : Int} {xs : List Int} (hv : cI Sig.σ v = some z) (h : IsN l xs) : IsN (v :: l) (z :: xs) := ⟨by simp [h.1], fun E us hu => by
  obtain ⟨u, r, rfl, h1, h2⟩ := hu
  rw [cI_ok hv h1, h.2 E r h2]
  rfl⟩
theorem isN_app {l l' : List V} {xs xs' : List Int} (h : IsN l xs) (h' : IsN l' xs') : IsN (l ++ l') (xs ++ xs') := by
  induction l generalizing xs with
  | nil =>
    match xs, h.1 with
    | [], _ => exact h'
  | cons v l ih =>
    match xs, h.1 with
    | z :: xs, hl =>
      have hz : ∀ E x, VR E v x → ∀ us, VRs E l us → x = .int .i64 z ∧ us = xs.map fun z => Value.int .i64 z := fun E x hx us hus => by
        have := h.2 E (x :: us) ⟨x, us, rfl, hx, hus⟩
        injection this with h1 h2
        exact ⟨h1, h2⟩
      refine ⟨by have := h.1; have := h'.1; simp at *; omega, fun E us hu => ?_⟩
      obtain ⟨u, r, rfl, h1, h2⟩ := hu
      obtain ⟨r1, r2, rfl, h3, h4⟩ : ∃ r1 r2, r = r1 ++ r2 ∧ VRs E l r1 ∧ VRs E l' r2 := by
        clear ih hz h hl
        induction l generalizing r with
        | nil => exact ⟨[], r, rfl, rfl, h2⟩
        | cons a l ih =>
          obtain ⟨u', r', rfl, k1, k2⟩ := h2
          obtain ⟨r1, r2, rfl, k3, k4⟩ := ih r' k2
          exact ⟨u' :: r1, r2, rfl, ⟨u', r1, rfl, k1, k3⟩, k4⟩
      obtain ⟨e1, e2⟩ := hz E u h1 r1 h3
      rw [e1, e2, h'.2 E r2 h4]
      simp
theorem WR.kept {G : Nat → Option Obj} {B : Nat → Prop} {E : Env} {st : St} {w w' : World} (hw : WR G B E st w) (hb : Below w.heap.size w w') : WR G B E st w' := by
  have hk : ∀ k o, w.heap[k]? = some o → w'.heap[k]? = some o := fun k o h => by
    rw [hb.block k (Array.getElem?_eq_some_iff.1 h).1]; exact h
  refine ⟨hw.n, fun b o hbo => ⟨(hw.live b o hbo).1, ?_⟩, hw.inj, hw.base, fun k h => Nat.lt_of_lt_of_le (hw.size k h) hb.size, fun g o hg => ⟨(hw.glob g o hg).1, hk _ _ (hw.glob g o hg).2⟩⟩
  have ho := (hw.live b o hbo).2
  cases o with
  | cells l t =>
    obtain ⟨c, h1, h2⟩ := ho
    exact ⟨c, hk _ _ h1, h2⟩
  | obj o => exact ⟨hk _ _ ho.1, ho.2⟩
  | loop r =>
    obtain ⟨fn, tm, h1, h2⟩ := ho
    exact ⟨fn, tm, hk _ _ h1, h2⟩
/-- A call that writes nothing of what its arguments name. -/
theorem sfact_calls {t : SFact} (hc : (callInfo Tryd.prog t.f).isSome = true) (hp : t.post = t.pre) (hs : (stBl t.pre).isSome = true) (h : ∀ (B : Nat → Prop) (E : Env) (w : World) (us : List Value) (st0 : St), stBl t.pre = some st0 → WR GT B E st0 w → VRs E t.args us → ∃ x, VR E t.v x ∧ Calls Tryd.prog t.f us.toArray w fun e w' => e = .returned x ∧ Below w.heap.size w w') : SOK t := by
  refine ⟨⟨ci_of hc, fun B E w us st0 hst hw hus => ?_⟩, hs⟩
  obtain ⟨x, hx, hcall⟩ := h B E w us st0 hst hw hus
  refine CallsIn.mono (callsIn_wide.2 hcall) ?_
  rintro _ w' ⟨rfl, hb⟩
  exact ⟨x, E, st0, by rw [hp]; exact hst, rfl, Env.le.refl E, hw.kept hb, hx, ⟨hb.os, hb.tape, hb.output, hb.size, fun k hk => hb.block k (hw.size k hk)⟩⟩
theorem VR_tup2 {E : Env} {d : V} {r : Int} (hd : cI Sig.σ d = some r) : VR E (.tup [d, I 0]) (.tuple #[.int .i64 r, .int .i64 0]) :=
  ⟨_, rfl, _, _, rfl, cI_VR hd, _, _, rfl, (rfl : _ = _), rfl⟩
/-- Two lists of numbers, in two blocks. -/
theorem two_args {B : Nat → Prop} {E : Env} {w : World} {us : List Value} {st0 : St} {l0 l1 : List V} {x0 x1 : List Int} {a1 : V} (h0 : IsN l0 x0) (h1 : IsN l1 x1) (ha : a1 = .gs 1 0 x1.length 1 ∨ a1 = .sl 1 0 x1.length x1.length) (hst : stBl [(l0, 3), (l1, 3)] = some st0) (hw : WR GT B E st0 w) (hus : VRs E [.gs 0 0 x0.length 1, a1] us) :
    ∃ (b0 c0 b1 c1 : Nat) (a0 a1 : Array Value) (r0 r1 : List Value), us = [.slice (some ⟨b0, 0, none⟩) x0.length c0, .slice (some ⟨b1, 0, none⟩) x1.length c1] ∧ x0.length ≤ c0 ∧ x1.length ≤ c1 ∧ w.heap[b0]? = some (.cells a0 3 (0, 0)) ∧ a0.toList = x0.map (fun z => Value.int .i64 z) ++ r0 ∧ w.heap[b1]? = some (.cells a1 3 (0, 0)) ∧ a1.toList = x1.map (fun z => Value.int .i64 z) ++ r1 := by
  obtain ⟨q1, q2, q3⟩ := stBl_get hst
  obtain ⟨u0, r, rfl, v0, u1, r', rfl, v1, v2⟩ := hus
  have v2 : r' = [] := v2
  subst v2
  obtain ⟨-, c0, rfl, -, k0⟩ := v0
  have hu1 : ∃ c1, u1 = .slice (some ⟨E.ρ 1, 0, none⟩) x1.length c1 ∧ x1.length ≤ c1 := by
    rcases ha with rfl | rfl
    · obtain ⟨-, c1, rfl, -, k1⟩ := v1
      exact ⟨c1, rfl, k1⟩
    · obtain ⟨-, rfl⟩ := v1
      exact ⟨_, rfl, Nat.le_refl _⟩
  obtain ⟨c1, rfl, k1⟩ := hu1
  obtain ⟨-, a0, p1, -, us0, r0, p2, p3⟩ := hw.live 0 _ (q2 0 l0 3 rfl)
  obtain ⟨-, a1, p4, -, us1, r1, p5, p6⟩ := hw.live 1 _ (q2 1 l1 3 rfl)
  rw [h0.2 _ _ p3] at p2
  rw [h1.2 _ _ p6] at p5
  exact ⟨E.ρ 0, c0, E.ρ 1, c1, a0, a1, r0, r1, rfl, k0, k1, p1, p2, p4, p5⟩
theorem flips_fact {l0 l1 : List V} {x0 x1 : List Int} {a1 d : V} {r : Int} {n : Nat} (h0 : IsN l0 x0) (h1 : IsN l1 x1) (n0 : x0.length = n) (n1 : x1.length = n) (hn : n ≤ 1000) (ha : a1 = .gs 1 0 n 1 ∨ a1 = .sl 1 0 n n) (hd : cI Sig.σ d = some r) (hs : (stBl [(l0, 3), (l1, 3)]).isSome = true) (hf : G.pancake_Flips.f x0 x1 = some (r, 0)) : SOK ⟨7, [.gs 0 0 n 1, a1], [(l0, 3), (l1, 3)], .tup [d, I 0], [(l0, 3), (l1, 3)]⟩ := by
  refine sfact_calls (by kernel_rfl) rfl hs (fun B E w us st0 hst hw hus => ?_)
  rw [← n1] at ha
  obtain ⟨b0, c0, b1, c1, a0, a1, r0, r1, rfl, k0, k1, p1, p2, p4, p5⟩ := two_args h0 h1 ha hst hw (by rw [n0]; exact hus)
  exact ⟨_, VR_tup2 hd, G.pancake_Flips.calls _ c0 x0 _ c1 x1 r 0 w (row_C p1 p2 (by omega)) k0 (row_C p4 p5 (by omega)) k1 hf⟩
theorem distance_fact {l0 l1 : List V} {x0 x1 : List Int} {d : V} {r : Int} {n k : Nat} (h0 : IsN l0 x0) (h1 : IsN l1 x1) (n0 : x0.length = n) (n1 : x1.length = n) (hn : n ≤ 1000) (hd : cI Sig.σ d = some r) (hs : (stBl [(l0, 3), (l1, 3)]).isSome = true) (hf : Q.hanoi_Distance.f k x0 x1 = some (r, 0)) : SOK ⟨9, [.gs 0 0 n 1, .gs 1 0 n 1], [(l0, 3), (l1, 3)], .tup [d, I 0], [(l0, 3), (l1, 3)]⟩ := by
  refine sfact_calls (by kernel_rfl) rfl hs (fun B E w us st0 hst hw hus => ?_)
  obtain ⟨b0, c0, b1, c1, a0, a1, r0, r1, rfl, k0, k1, p1, p2, p4, p5⟩ := two_args h0 h1 (.inl rfl) hst hw (by rw [n0, n1]; exact hus)
  exact ⟨_, VR_tup2 hd, Q.hanoi_Distance.calls k _ _ c0 x0 _ _ c1 x1 r 0 w (row_V p1 p2 k0 (by omega)) (row_V p4 p5 k1 (by omega)) hf⟩
theorem worst_fact {n : Nat} {a b : V} {r1 r2 : Int} (ha : cI Sig.σ a = some r1) (hb : cI Sig.σ b = some r2) (hf : G.pancake_Worst.f n = some (r1, r2, 0)) : FOK ⟨6, [I n], .tup [a, b, I 0], []⟩ := by
  refine ⟨ci_of (by kernel_rfl), fun w E us hG hv => ?_⟩
  obtain ⟨u, r, rfl, h1, h2⟩ := hv
  have h1 : u = .int .i64 n := h1
  have h2 : r = [] := h2
  subst h1 h2
  refine CallsIn.mono (callsIn_wide.2 (G.pancake_Worst.calls n r1 r2 0 w hf)) ?_
  rintro _ w' ⟨rfl, hb'⟩
  exact ⟨_, ⟨0, fun _ => 0, fun _ => 0⟩, ⟨.leaf, 0⟩, rfl, rfl, hb'.size, ⟨rfl, fun b o hb => by simp [T.get] at hb, fun b b' o o' hb => by simp [T.get] at hb, fun b o hb => by simp [T.get] at hb, fun k hk => Nat.lt_of_lt_of_le hk hb'.size, fun g o hg => ⟨(hG g o hg).1, by rw [hb'.block g (hG g o hg).1]; exact (hG g o hg).2⟩⟩, ⟨_, rfl, _, _, rfl, cI_VR ha, _, _, rfl, cI_VR hb, _, _, rfl, (rfl : _ = _), rfl⟩, ⟨hb'.os, hb'.tape, hb'.output, hb'.size, hb'.block⟩⟩
end Go.Proofs.YtbadfjogakhhbaaDoor.Re
