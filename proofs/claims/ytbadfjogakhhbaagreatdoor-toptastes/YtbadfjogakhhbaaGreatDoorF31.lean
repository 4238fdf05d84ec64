/- TopTastes: names: of n observations. -/
import Derived.Test.YtbadfjogakhhbaaGreatDoorF30
namespace Go.Proofs.YtbadfjogakhhbaaGreatDoor.Re
open Go Go.RowKit
set_option linter.unusedVariables false
set_option linter.unusedSimpArgs false
set_option linter.unusedSectionVars false
/-- Prices, bundle, the prices in order, of observation i; costs; shares; preferences. -/
def pS (i j : Nat) : V := S (100 * (i + 1) + 3 + j)
def bS (i j : Nat) : V := S (100 * (i + 1) + 6 + j)
def qS (i j : Nat) : V := S (100 * (i + 1) + 10 + j)
def cS (i k : Nat) : V := S (1000 + 10 * i + k)
def aS (i k : Nat) : V := S (3000 + 10 * i + k)
def eS (i k : Nat) : V := S (4000 + 10 * i + k)
def fS (i k : Nat) : V := S (2000 + 10 * i + k)
def pL (i : Nat) : List V := [pS i 0, pS i 1, pS i 2]
def bL (i : Nat) : List V := [bS i 0, bS i 1, bS i 2]
def qL (i : Nat) : List V := [qS i 0, qS i 1, qS i 2]
def up (n : Nat) {α : Type} (f : Nat → α) : List α := (List.range n).map f
def up2 (n : Nat) {α : Type} (f : Nat → Nat → α) : List α := (List.range n).flatMap fun i => (List.range n).map fun k => f i k
def ifL (b : Bool) (v u : V) : V := match b with
  | true => v
  | false => u
def mk (n : Nat) : List V := I n :: up2 5 fun i k => ifL (Nat.blt i n && Nat.blt k n) (cS i k) (I 0)
def dPf (n i k : Nat) : SFact := ⟨38, [.ptr 0 0, I i, I k, .agg [I 1, I 1]], [(mk n, 60)], fS i k, [(mk n, 60)]⟩
def dLo (i k : Nat) : Fact := ⟨18, [.agg [cS i k, cS i i]], .agg [aS i k, eS i k], []⟩
def dLe (i k : Nat) : Fact := ⟨19, [.agg [aS i k, eS i k], .agg [I 1, I 1]], O false, []⟩
def dCk (i k : Nat) : SFact := dCost (pL i) (bL k) (cS i k)
def fT (n : Nat) : List Fact := t9 :: up2 n dLo ++ up2 n dLe
def sT (n : Nat) : List SFact := up n (fun i => dAre 1 (pL i)) ++ up n (fun i => dAre 0 (bL i)) ++ up n (fun i => dMax (bL i)) ++ up2 n dCk ++ up2 n (dPf n)
def tabT (n : Nat) : List Row := up2 n (fun i k => (9, fS i k, I 2, O true)) ++ up2 n (fun i k => (4, cS i k, cS i i, O false)) ++ up n (fun i => (9, cS i i, qS i 0, O false)) ++
  up n (fun i => (7, qS i 0, I 0, O true)) ++ up n (fun i => (5, qS i 2, I 60, O true)) ++ up n (fun i => (9, qS i 0, qS i 0, O false)) ++ up n (fun i => (9, qS i 1, qS i 1, O false)) ++ up n (fun i => (9, qS i 2, qS i 2, O false)) ++ up n (fun i => (4, qS i 2, qS i 1, O false)) ++ up n (fun i => (4, qS i 1, qS i 0, O false))
def litN (n : Nat) : Lit := ⟨203, [(3, .gs 0 0 n 2), (4, .gs 1 0 n 1)], (((List.range n).flatMap fun i => [V.gs (2 + 2 * i) 0 3 1, V.gs (3 + 2 * i) 0 3 1]), 27) :: ((up n fun i => V.gs (2 + 2 * n + i) 0 3 1), 24) :: (((List.range n).flatMap fun i => [(pL i, 3), (bL i, 3)]) ++ up n fun i => (qL i, 3))⟩
def tT : SFact := ⟨3, [.val 0], [], O true, []⟩
end Go.Proofs.YtbadfjogakhhbaaGreatDoor.Re
