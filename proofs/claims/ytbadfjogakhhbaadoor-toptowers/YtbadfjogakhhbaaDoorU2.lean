/- Distance: larger discs that stay at their place change nothing. Looked through by the kernel. -/
import Derived.Test.YtbadfjogakhhbaaDoorPg
namespace Go.Proofs.YtbadfjogakhhbaaDoor.Q
set_option maxRecDepth 100000
def gensI : Nat → List (List Int)
  | 0 => [[]]
  | n + 1 => (gensI n).flatMap fun l => [0 :: l, 1 :: l, 2 :: l]
theorem gensI_mem : ∀ {n : Nat} {l : List Int}, l.length = n → (∀ x ∈ l, x = 0 ∨ x = 1 ∨ x = 2) → l ∈ gensI n
  | 0, [], _, _ => List.mem_singleton.2 rfl
  | n + 1, x :: l, hl, h => by
    refine List.mem_flatMap.2 ⟨l, gensI_mem (by simpa using hl) (fun y hy => h y (List.mem_cons_of_mem _ hy)), ?_⟩
    rcases h x List.mem_cons_self with rfl | rfl | rfl <;> simp
def chkD (n : Nat) (c : Int) (l : List Int) : Bool := match hanoi_Distance.f 60 (l ++ List.replicate (7 - n) c) (List.replicate n 0 ++ List.replicate (7 - n) c), hanoi_Distance.f 60 l (List.replicate n 0) with
  | some (a, b), some (a', b') => decide (a = a') && (decide (b = 0) && decide (b' = 0))
  | _, _ => false
theorem dist1 : (gensI 1).all (fun l => chkD 1 0 l && (chkD 1 1 l && chkD 1 2 l)) = true := by kernel_rfl
theorem dist2 : (gensI 2).all (fun l => chkD 2 0 l && (chkD 2 1 l && chkD 2 2 l)) = true := by kernel_rfl
theorem dist3 : (gensI 3).all (fun l => chkD 3 0 l && (chkD 3 1 l && chkD 3 2 l)) = true := by kernel_rfl
theorem dist4 : (gensI 4).all (fun l => chkD 4 0 l && (chkD 4 1 l && chkD 4 2 l)) = true := by kernel_rfl
theorem dist5 : (gensI 5).all (fun l => chkD 5 0 l && (chkD 5 1 l && chkD 5 2 l)) = true := by kernel_rfl
theorem dist_all {n : Nat} (h1 : 1 ≤ n) (hn : n ≤ 5) {c : Int} (hc : c = 0 ∨ c = 1 ∨ c = 2) {l : List Int} (hl : l.length = n) (h : ∀ x ∈ l, x = 0 ∨ x = 1 ∨ x = 2) : ∃ r, hanoi_Distance.f 60 (l ++ List.replicate (7 - n) c) (List.replicate n 0 ++ List.replicate (7 - n) c) = some (r, 0) ∧ hanoi_Distance.f 60 l (List.replicate n 0) = some (r, 0) := by
  have hm := gensI_mem hl h
  have hall : chkD n 0 l = true ∧ chkD n 1 l = true ∧ chkD n 2 l = true := by
    have key : ∀ {m : Nat}, m = n → (gensI m).all (fun l => chkD m 0 l && (chkD m 1 l && chkD m 2 l)) = true → chkD n 0 l = true ∧ chkD n 1 l = true ∧ chkD n 2 l = true := by
      rintro m rfl h
      have := List.all_eq_true.1 h l hm
      simpa [Bool.and_eq_true] using this
    rcases (show n = 1 ∨ n = 2 ∨ n = 3 ∨ n = 4 ∨ n = 5 by omega) with e | e | e | e | e
    · exact key e.symm dist1
    · exact key e.symm dist2
    · exact key e.symm dist3
    · exact key e.symm dist4
    · exact key e.symm dist5
  have hch : chkD n c l = true := by
    rcases hc with rfl | rfl | rfl
    · exact hall.1
    · exact hall.2.1
    · exact hall.2.2
  unfold chkD at hch
  split at hch
  · rename_i a b a' b' e1 e2
    simp only [Bool.and_eq_true, decide_eq_true_eq] at hch
    obtain ⟨rfl, rfl, rfl⟩ := hch
    exact ⟨_, e1, e2⟩
  · cases hch
end Go.Proofs.YtbadfjogakhhbaaDoor.Q
