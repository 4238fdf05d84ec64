/- TopTowers: names of its unknown numbers; states between pieces. -/
import Derived.Test.YtbadfjogakhhbaaDoorF30
namespace Go.Proofs.YtbadfjogakhhbaaDoor.Re
open Go Go.RowKit
set_option linter.unusedVariables false
set_option linter.unusedSimpArgs false
set_option linter.unusedSectionVars false
def up (n : Nat) {α : Type} (f : Nat → α) : List α := (List.range n).map f
/-- above, behind x steps. -/
def aL (x : Nat) : List V := up x fun j => S (100 * x + j)
/-- A number put in. -/
def insL (l : List V) (at_ : Nat) (v : V) : List V := l.take at_ ++ v :: l.drop at_
def fL (n : Nat) : List V := up n fun j => S (60 + j)
def ofB : List V × TypeId := ([S 0, S 1], 23)
def tW : SFact := ⟨3, [Vl 0, .agg [S 0, S 1]], [], O true, []⟩
def smF (i m : Nat) (v : V) : Fact := ⟨5, [S i, I m], v, []⟩
def lA (n : Nat) : Lit := ⟨191, [(0, Vl 0), (3, .ptr 0 0), (5, I n), (6, nilS), (7, nilS), (8, nilS), (9, nilS)], [ofB]⟩
def abV : Nat → V
  | 0 => nilS
  | x + 1 => .gs 1 0 (x + 1) 1
def abB (l : List V) : List (List V × TypeId) := match l with
  | [] => [ofB]
  | _ :: _ => [ofB, (l, 3)]
/-- Ahead of step x + 1; l: what above holds. -/
def l1 (n x : Nat) (l : List V) : Lit := ⟨191, [(0, Vl 0), (3, .ptr 0 0), (5, I n), (6, nilS), (7, abV x), (8, nilS), (9, nilS), (10, I (x + 1))], abB l⟩
def e1 (n : Nat) : Lit := ⟨191, [(0, Vl 0), (3, .ptr 0 0), (5, I n), (6, nilS), (7, abV n), (8, nilS), (9, nilS)], abB (aL n)⟩
def e2 (n : Nat) : Lit := ⟨191, [(0, Vl 0), (3, .ptr 0 0), (5, I n), (6, .gs 1 0 n 1), (7, .gs 2 0 n 1), (8, nilS), (9, nilS)], [ofB, (aL n, 3), (aL n, 3)]⟩
def fwV : Nat → V
  | 0 => nilS
  | x + 1 => .gs 3 0 (x + 1) 1
def fwB (n : Nat) (l : List V) : List (List V × TypeId) := match l with
  | [] => [ofB, (aL n, 3), (aL n, 3)]
  | _ :: _ => [ofB, (aL n, 3), (aL n, 3), (l, 3)]
def l2 (n i : Nat) (l : List V) : Lit := ⟨191, [(0, Vl 0), (3, .ptr 0 0), (5, I n), (6, .gs 1 0 n 1), (7, .gs 2 0 n 1), (8, nilS), (9, fwV i), (13, I i)], fwB n l⟩
def e3 (n : Nat) : Lit := ⟨191, [(0, Vl 0), (3, .ptr 0 0), (5, I n), (6, .gs 1 0 n 1), (7, .gs 2 0 n 1), (8, nilS), (9, fwV n)], fwB n (fL n)⟩
def sL (n : Nat) : List V := aL n ++ up (7 - n) fun j => I (n + 1 + j)
def cL (n : Nat) : List V := up (7 - n) fun _ => S 70
def zL (n : Nat) : List V := up n fun _ => I 0
def e4 (n : Nat) : Lit := ⟨191, [(5, I n), (6, .gs 0 0 7 1), (7, .gs 1 0 n 1), (8, .gs 2 0 7 1), (9, .gs 3 0 n 1), (15, .gs 4 0 n 1), (16, .gs 5 0 7 1)], [(sL n, 3), (aL n, 3), (fL n ++ cL n, 3), (fL n, 3), (zL n, 3), (zL n ++ cL n, 3)]⟩
def dWo (n : Nat) : Fact := ⟨6, [I n], .tup [S 80, S 81, I 0], []⟩
def idL (n : Nat) : List V := up n fun j => I (j + 1)
def dFs (n : Nat) : SFact := ⟨7, [.gs 0 0 7 1, .sl 1 0 7 7], [(sL n, 3), (idL 7, 3)], .tup [S 82, I 0], [(sL n, 3), (idL 7, 3)]⟩
def dFa (n : Nat) : SFact := ⟨7, [.gs 0 0 n 1, .gs 1 0 n 1], [(aL n, 3), (idL n, 3)], .tup [S 83, I 0], [(aL n, 3), (idL n, 3)]⟩
def dDi (n : Nat) : SFact := ⟨9, [.gs 0 0 7 1, .gs 1 0 7 1], [(fL n ++ cL n, 3), (zL n ++ cL n, 3)], .tup [S 84, I 0], [(fL n ++ cL n, 3), (zL n ++ cL n, 3)]⟩
def dDf (n : Nat) : SFact := ⟨9, [.gs 0 0 n 1, .gs 1 0 n 1], [(fL n, 3), (zL n, 3)], .tup [S 84, I 0], [(fL n, 3), (zL n, 3)]⟩
def tabW : List Row := [(5, S 82, S 83, O true), (5, S 83, S 80, O true), (8, S 84, S 84, O true)]
def mem1 (j : Nat) : List Row := [(30, Vl 0, Vl 0, S 90), (31, Vl 0, I j, Vl (10 + j)), (32, Vl (10 + j), Vl (10 + j), S (40 + j))]
def mem0 : List Row := [(30, Vl 0, Vl 0, S 90)]
noncomputable def x1 : Code := match callInfo Tryd.prog 3 with
  | some (_, c) => match cutB 2 c with
    | .seq (.seq _ (.block _ (.loop x))) _ => x
    | _ => .ret
  | none => .ret
noncomputable def r1 : Code := match callInfo Tryd.prog 3 with
  | some (_, c) => match cutB 2 c with
    | .seq (.seq r _) _ => r
    | _ => .ret
  | none => .ret
noncomputable def x2 : Code := match callInfo Tryd.prog 3 with
  | some (_, c) => match cutB 4 c with
    | .seq (.seq _ (.block _ (.loop x))) _ => x
    | _ => .ret
  | none => .ret
noncomputable def r2 : Code := match callInfo Tryd.prog 3 with
  | some (_, c) => match cutB 4 c with
    | .seq (.seq r _) _ => r
    | _ => .ret
  | none => .ret
noncomputable def rnC [Sig] (K : Orc) (ts : List Nat) (c : Code) (l : Lit) : Option (LX × Fr × St) := match litS l with
  | some (fr, st) => runP Tryd.prog GT K 4000 0 ts c fr st
  | none => none
end Go.Proofs.YtbadfjogakhhbaaDoor.Re
