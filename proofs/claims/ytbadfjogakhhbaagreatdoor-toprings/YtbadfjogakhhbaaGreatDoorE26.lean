/- TopRings: the table of its unknown numbers, and its facts. -/
import Derived.Test.YtbadfjogakhhbaaGreatDoorE25
namespace Go.Proofs.YtbadfjogakhhbaaGreatDoor.Re
open Go Go.RowKit
set_option linter.unusedVariables false
set_option linter.unusedSimpArgs false
set_option linter.unusedSectionVars false
def S (n : Nat) : V := .sym n
def O (b : Bool) : V := .raw (.bool b)
/-- 20..23: the four prices p, q, r, s; 30, 31: q / p in lowest terms; 32, 33: r / s. qp: q < p; eqp: q = p; rs: r < s; ers: r = s; c: r p < q s; ec: r p = q s. -/
def tabR (qp eqp rs ers c ec : Bool) : List Row :=
  [(1, I 1, S 10, S 20), (1, I 1, S 11, S 21), (1, I 1, S 12, S 22), (1, I 1, S 13, S 23),
   (4, S 20, I 1, O false), (4, S 21, I 1, O false), (4, S 22, I 1, O false), (4, S 23, I 1, O false),
   (6, S 20, I 20, O false), (6, S 21, I 20, O false), (6, S 22, I 20, O false), (6, S 23, I 20, O false),
   (3, S 20, I 1, S 20), (3, S 21, I 1, S 21), (3, S 22, I 1, S 22), (3, S 23, I 1, S 23),
   (3, S 20, I 0, I 0), (3, S 21, I 0, I 0), (3, S 22, I 0, I 0), (3, S 23, I 0, I 0),
   (1, I 0, S 20, S 20), (1, I 0, S 21, S 21), (1, I 0, S 22, S 22), (1, I 0, S 23, S 23),
   (1, S 20, I 0, S 20), (1, S 21, I 0, S 21), (1, S 22, I 0, S 22), (1, S 23, I 0, S 23),
   (3, I 1, S 20, S 20), (3, I 1, S 21, S 21), (3, I 1, S 22, S 22), (3, I 1, S 23, S 23),
   (4, S 21, S 20, O qp), (8, S 21, S 20, O eqp), (5, S 21, S 20, O (qp || eqp)), (9, S 20, S 21, O (!eqp)),
   (4, S 22, S 23, O rs), (8, S 22, S 23, O ers), (5, S 22, S 23, O (rs || ers)), (9, S 23, S 22, O (!ers)),
   (3, S 30, S 23, S 40), (3, S 31, S 22, S 41), (3, S 32, S 20, S 42), (3, S 33, S 21, S 43), (3, S 21, S 23, S 44), (3, S 22, S 20, S 45),
   (3, S 30, S 20, S 46), (3, S 31, S 21, S 47), (3, S 32, S 23, S 48), (3, S 33, S 22, S 49),
   (4, S 41, S 40, O c), (8, S 41, S 40, O ec), (4, S 43, S 42, O (!(c || ec))), (8, S 43, S 42, O ec), (4, S 44, S 45, O (!(c || ec))),
   (4, S 30, I 1, O false), (4, S 32, I 1, O false), (6, S 31, I 20, O false), (6, S 33, I 20, O false),
   (9, S 46, S 47, O false), (9, S 48, S 49, O false),
   (20, S 20, S 21, S 50), (21, S 20, S 21, S 51), (20, S 22, S 23, S 52), (21, S 22, S 23, S 53),
   (1, S 60, S 61, S 63), (5, S 63, I 4, O true)]
def dR : SFact := ⟨4, [.agg [S 0, S 1, S 2, S 3]], [], O true, []⟩
def dS (i : Nat) : Fact := ⟨11, [S i, I 19], S (10 + i), []⟩
def dL (a b : Nat) (x y : V) : Fact := ⟨18, [.agg [S a, S b]], .agg [x, y], []⟩
def dT (x y u v : V) (b : Bool) : Fact := ⟨19, [.agg [x, y], .agg [u, v]], O b, []⟩
def fR (qp rs c : Bool) : List Fact := [dS 0, dS 1, dS 2, dS 3, dL 21 20 (S 30) (S 31), dL 22 23 (S 32) (S 33), dL 20 20 (I 1) (I 1), dL 23 23 (I 1) (I 1), dT (S 30) (S 31) (I 1) (I 1) qp, dT (S 32) (S 33) (I 1) (I 1) rs, dT (S 32) (S 33) (S 30) (S 31) c, t9]
def dC : SFact := ⟨12, [.sl 0 0 2 2, .sl 1 0 2 2], [([S 50, S 51], 3), ([S 52, S 53], 3)], .tup [S 60, S 61, S 62, I 0], [([S 50, S 51], 3), ([S 52, S 53], 3)]⟩
end Go.Proofs.YtbadfjogakhhbaaGreatDoor.Re
