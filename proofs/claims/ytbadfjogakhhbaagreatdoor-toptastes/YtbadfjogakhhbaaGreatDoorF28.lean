/- die: the runs, of a list that is known by name alone and of three unknown numbers. -/
import Derived.Test.YtbadfjogakhhbaaGreatDoorF27
namespace Go.Proofs.YtbadfjogakhhbaaGreatDoor.Re
open Go Go.RowKit
set_option linter.unusedVariables false
set_option maxRecDepth 100000
def Vl (j : Nat) : V := .val j
def endF (t : Fact) : Option (V × St) := match stBl t.bl with
  | some s => some (t.v, s)
  | none => none
def dM (j m : Nat) : Fact := ⟨11, [S j, I m], S (10 + j), []⟩
/-- 20: the length; 0, 1, 2: the numbers; 10, 11, 12: they after small. -/
def tabA (n0 n1 n2 n3 o1 o2 o3 : Bool) : List Row := [(4, I 0, S 20, O n0), (4, I 1, S 20, O n1), (4, I 2, S 20, O n2), (4, I 3, S 20, O n3), (5, S 10, S 11, O o1), (5, S 10, S 12, O o2), (5, S 11, S 12, O o3)]
def memA : Nat → List Row
  | 0 => [(30, Vl 0, Vl 0, S 20)]
  | 1 => [(30, Vl 0, Vl 0, S 20), (31, Vl 0, I 0, Vl 1), (32, Vl 1, Vl 1, S 0)]
  | 2 => [(30, Vl 0, Vl 0, S 20), (31, Vl 0, I 0, Vl 1), (32, Vl 1, Vl 1, S 0), (31, Vl 0, I 1, Vl 2), (32, Vl 2, Vl 2, S 1)]
  | _ => [(30, Vl 0, Vl 0, S 20), (31, Vl 0, I 0, Vl 1), (32, Vl 1, Vl 1, S 0), (31, Vl 0, I 1, Vl 2), (32, Vl 2, Vl 2, S 1), (31, Vl 0, I 2, Vl 3), (32, Vl 3, Vl 3, S 2)]
def dA (v : V) (l : List V) : Fact := ⟨5, [Vl 0, I 3, I 19], v, [(l, 3)]⟩
def kA : Orc := KK [dM 0 19, dM 1 19, dM 2 19] []
/-- die(p, 3, 60): 0, 1, 2: the numbers; 10, 11, 12: they after small (the same). -/
def tabD (o1 o2 o3 : Bool) : List Row := [(5, S 10, S 11, O o1), (5, S 10, S 12, O o2), (5, S 11, S 12, O o3)]
def dD (l : List V) : SFact := ⟨5, [.gs 0 0 3 1, I 3, I 60], [([S 0, S 1, S 2], 3)], .gs 1 0 3 1, [([S 0, S 1, S 2], 3), (l, 3)]⟩
def kD : Orc := KK [dM 0 60, dM 1 60, dM 2 60] []
theorem dieA_0 (n1 n2 n3 o1 o2 o3 : Bool) (σ gt gw val gf ok mok) : @runV (SX σ gt gw val gf (tabA false n1 n2 n3 o1 o2 o3) (memA 0) ok mok) Tryz.prog (@GT (SX σ gt gw val gf (tabA false n1 n2 n3 o1 o2 o3) (memA 0) ok mok)) kA 4000 5 (dA (.sl 0 0 1 1) [I 0]).args = endF (dA (.sl 0 0 1 1) [I 0]) := by kernel_rfl
theorem dieA_1 (n2 n3 o1 o2 o3 : Bool) (σ gt gw val gf ok mok) : @runV (SX σ gt gw val gf (tabA true false n2 n3 o1 o2 o3) (memA 1) ok mok) Tryz.prog (@GT (SX σ gt gw val gf (tabA true false n2 n3 o1 o2 o3) (memA 1) ok mok)) kA 4000 5 (dA (.gs 0 0 1 1) [S 10]).args = endF (dA (.gs 0 0 1 1) [S 10]) := by kernel_rfl
theorem dieA_2_1 (n3 o2 o3 : Bool) (σ gt gw val gf ok mok) : @runV (SX σ gt gw val gf (tabA true true false n3 true o2 o3) (memA 2) ok mok) Tryz.prog (@GT (SX σ gt gw val gf (tabA true true false n3 true o2 o3) (memA 2) ok mok)) kA 4000 5 (dA (.gs 0 0 2 1) [S 10, S 11]).args = endF (dA (.gs 0 0 2 1) [S 10, S 11]) := by kernel_rfl
theorem dieA_2_0 (n3 o2 o3 : Bool) (σ gt gw val gf ok mok) : @runV (SX σ gt gw val gf (tabA true true false n3 false o2 o3) (memA 2) ok mok) Tryz.prog (@GT (SX σ gt gw val gf (tabA true true false n3 false o2 o3) (memA 2) ok mok)) kA 4000 5 (dA (.gs 0 0 2 1) [S 11, S 10]).args = endF (dA (.gs 0 0 2 1) [S 11, S 10]) := by kernel_rfl
theorem dieA_3_1_111 (σ gt gw val gf ok mok) : @runV (SX σ gt gw val gf (tabA true true true true true true true) (memA 3) ok mok) Tryz.prog (@GT (SX σ gt gw val gf (tabA true true true true true true true) (memA 3) ok mok)) kA 4000 5 (dA (.gs 0 0 3 1) [S 10, S 11, S 12]).args = endF (dA (.gs 0 0 3 1) [S 10, S 11, S 12]) := by kernel_rfl
theorem dieA_3_1_110 (σ gt gw val gf ok mok) : @runV (SX σ gt gw val gf (tabA true true true true true true false) (memA 3) ok mok) Tryz.prog (@GT (SX σ gt gw val gf (tabA true true true true true true false) (memA 3) ok mok)) kA 4000 5 (dA (.gs 0 0 3 1) [S 10, S 12, S 11]).args = endF (dA (.gs 0 0 3 1) [S 10, S 12, S 11]) := by kernel_rfl
theorem dieA_3_1_100 (σ gt gw val gf ok mok) : @runV (SX σ gt gw val gf (tabA true true true true true false false) (memA 3) ok mok) Tryz.prog (@GT (SX σ gt gw val gf (tabA true true true true true false false) (memA 3) ok mok)) kA 4000 5 (dA (.gs 0 0 3 1) [S 12, S 10, S 11]).args = endF (dA (.gs 0 0 3 1) [S 12, S 10, S 11]) := by kernel_rfl
theorem dieA_3_1_011 (σ gt gw val gf ok mok) : @runV (SX σ gt gw val gf (tabA true true true true false true true) (memA 3) ok mok) Tryz.prog (@GT (SX σ gt gw val gf (tabA true true true true false true true) (memA 3) ok mok)) kA 4000 5 (dA (.gs 0 0 3 1) [S 11, S 10, S 12]).args = endF (dA (.gs 0 0 3 1) [S 11, S 10, S 12]) := by kernel_rfl
theorem dieA_3_1_001 (σ gt gw val gf ok mok) : @runV (SX σ gt gw val gf (tabA true true true true false false true) (memA 3) ok mok) Tryz.prog (@GT (SX σ gt gw val gf (tabA true true true true false false true) (memA 3) ok mok)) kA 4000 5 (dA (.gs 0 0 3 1) [S 11, S 12, S 10]).args = endF (dA (.gs 0 0 3 1) [S 11, S 12, S 10]) := by kernel_rfl
theorem dieA_3_1_000 (σ gt gw val gf ok mok) : @runV (SX σ gt gw val gf (tabA true true true true false false false) (memA 3) ok mok) Tryz.prog (@GT (SX σ gt gw val gf (tabA true true true true false false false) (memA 3) ok mok)) kA 4000 5 (dA (.gs 0 0 3 1) [S 12, S 11, S 10]).args = endF (dA (.gs 0 0 3 1) [S 12, S 11, S 10]) := by kernel_rfl
theorem dieA_3_0_111 (σ gt gw val gf ok mok) : @runV (SX σ gt gw val gf (tabA true true true false true true true) (memA 3) ok mok) Tryz.prog (@GT (SX σ gt gw val gf (tabA true true true false true true true) (memA 3) ok mok)) kA 4000 5 (dA (.gs 0 0 3 1) [S 10, S 11, S 12]).args = endF (dA (.gs 0 0 3 1) [S 10, S 11, S 12]) := by kernel_rfl
theorem dieA_3_0_110 (σ gt gw val gf ok mok) : @runV (SX σ gt gw val gf (tabA true true true false true true false) (memA 3) ok mok) Tryz.prog (@GT (SX σ gt gw val gf (tabA true true true false true true false) (memA 3) ok mok)) kA 4000 5 (dA (.gs 0 0 3 1) [S 10, S 12, S 11]).args = endF (dA (.gs 0 0 3 1) [S 10, S 12, S 11]) := by kernel_rfl
theorem dieA_3_0_100 (σ gt gw val gf ok mok) : @runV (SX σ gt gw val gf (tabA true true true false true false false) (memA 3) ok mok) Tryz.prog (@GT (SX σ gt gw val gf (tabA true true true false true false false) (memA 3) ok mok)) kA 4000 5 (dA (.gs 0 0 3 1) [S 12, S 10, S 11]).args = endF (dA (.gs 0 0 3 1) [S 12, S 10, S 11]) := by kernel_rfl
theorem dieA_3_0_011 (σ gt gw val gf ok mok) : @runV (SX σ gt gw val gf (tabA true true true false false true true) (memA 3) ok mok) Tryz.prog (@GT (SX σ gt gw val gf (tabA true true true false false true true) (memA 3) ok mok)) kA 4000 5 (dA (.gs 0 0 3 1) [S 11, S 10, S 12]).args = endF (dA (.gs 0 0 3 1) [S 11, S 10, S 12]) := by kernel_rfl
theorem dieA_3_0_001 (σ gt gw val gf ok mok) : @runV (SX σ gt gw val gf (tabA true true true false false false true) (memA 3) ok mok) Tryz.prog (@GT (SX σ gt gw val gf (tabA true true true false false false true) (memA 3) ok mok)) kA 4000 5 (dA (.gs 0 0 3 1) [S 11, S 12, S 10]).args = endF (dA (.gs 0 0 3 1) [S 11, S 12, S 10]) := by kernel_rfl
theorem dieA_3_0_000 (σ gt gw val gf ok mok) : @runV (SX σ gt gw val gf (tabA true true true false false false false) (memA 3) ok mok) Tryz.prog (@GT (SX σ gt gw val gf (tabA true true true false false false false) (memA 3) ok mok)) kA 4000 5 (dA (.gs 0 0 3 1) [S 12, S 11, S 10]).args = endF (dA (.gs 0 0 3 1) [S 12, S 11, S 10]) := by kernel_rfl
theorem dieD_111 (σ gt gw val gf m ok mok) : @runS (SX σ gt gw val gf (tabD true true true) m ok mok) Tryz.prog (@GT (SX σ gt gw val gf (tabD true true true) m ok mok)) kD 4000 5 (dD [S 10, S 11, S 12]).args (dD [S 10, S 11, S 12]).pre = endR (dD [S 10, S 11, S 12]) := by kernel_rfl
theorem dieD_110 (σ gt gw val gf m ok mok) : @runS (SX σ gt gw val gf (tabD true true false) m ok mok) Tryz.prog (@GT (SX σ gt gw val gf (tabD true true false) m ok mok)) kD 4000 5 (dD [S 10, S 12, S 11]).args (dD [S 10, S 12, S 11]).pre = endR (dD [S 10, S 12, S 11]) := by kernel_rfl
theorem dieD_100 (σ gt gw val gf m ok mok) : @runS (SX σ gt gw val gf (tabD true false false) m ok mok) Tryz.prog (@GT (SX σ gt gw val gf (tabD true false false) m ok mok)) kD 4000 5 (dD [S 12, S 10, S 11]).args (dD [S 12, S 10, S 11]).pre = endR (dD [S 12, S 10, S 11]) := by kernel_rfl
theorem dieD_011 (σ gt gw val gf m ok mok) : @runS (SX σ gt gw val gf (tabD false true true) m ok mok) Tryz.prog (@GT (SX σ gt gw val gf (tabD false true true) m ok mok)) kD 4000 5 (dD [S 11, S 10, S 12]).args (dD [S 11, S 10, S 12]).pre = endR (dD [S 11, S 10, S 12]) := by kernel_rfl
theorem dieD_001 (σ gt gw val gf m ok mok) : @runS (SX σ gt gw val gf (tabD false false true) m ok mok) Tryz.prog (@GT (SX σ gt gw val gf (tabD false false true) m ok mok)) kD 4000 5 (dD [S 11, S 12, S 10]).args (dD [S 11, S 12, S 10]).pre = endR (dD [S 11, S 12, S 10]) := by kernel_rfl
theorem dieD_000 (σ gt gw val gf m ok mok) : @runS (SX σ gt gw val gf (tabD false false false) m ok mok) Tryz.prog (@GT (SX σ gt gw val gf (tabD false false false) m ok mok)) kD 4000 5 (dD [S 12, S 11, S 10]).args (dD [S 12, S 11, S 10]).pre = endR (dD [S 12, S 11, S 10]) := by kernel_rfl
end Go.Proofs.YtbadfjogakhhbaaGreatDoor.Re
