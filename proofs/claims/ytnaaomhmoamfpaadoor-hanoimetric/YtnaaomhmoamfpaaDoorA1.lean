/- A part that the chapter's proofs share: contracts of the functions, and plain lemmas (part 1). -/
import Derived.Test.YtnaaomhmoamfpaaDoorProg
import Derived.Below
import Derived.Deep.Draws
import Derived.Deep.AppendLies
import Derived.Maps.AppendAt
import Derived.OwnWalk
import Derived.Laws.BytesArg
import Derived.Laws.MakeOwn
import Derived.Laws.OwnMore
import Derived.Deep.OwnRows
import Derived.Tactics
import Derived.Lib.ConvBytes
import Derived.Laws.Slices
import Derived.WalkKit
import Derived.KernelRfl
import Derived.RowKit3
import Derived.Deep.LoopGhost
import Derived.Deep.QuietTactic
import Derived.BigQuiet
import Derived.WideLaws
import Derived.Deep.DeepCutAuto
import Derived.Deep.CutBlock
import Derived.Deep.RegionHeld3
import Derived.Laws.Rows
import Derived.Lib.AppendStr
import Derived.ArgAppend
import Derived.Laws.IdiomCopy
import Derived.OrdersHeld
import Derived.Laws.BitsLemmas
import Derived.RowKit
import Derived.Test.YtnaaomhmoamfpaaDoorV
import Derived.Shelf.Strings.Builder1
import Derived.Shelf.Strings.Trim
import Derived.Shelf.Small.Utf8
import Derived.Shelf.Small.Strs
import Derived.Shelf.Strings.BuilderF
import Derived.Shelf.Strings.BuilderK
import Derived.Shelf.Strings.Search1
import Derived.Shelf.Strings.Runes
import Derived.Shelf.Strings.AsciiSet
import Derived.Shelf.Unicode.DecodeSlow
import Derived.Ground.Names2Prog
import Derived.Shelf.Slices.Clone
import Derived.Shelf.Strings.SlTrimAscii
import Derived.Outline
import Derived.Lib.OthersKept
import Derived.Laws.Bits64
import Derived.Laws.BitsAll
namespace Go.Proofs.YtnaaomhmoamfpaaDoor.G
end Go.Proofs.YtnaaomhmoamfpaaDoor.G
namespace Go.Proofs.YtnaaomhmoamfpaaDoor.Q
set_option linter.unusedVariables false
set_option linter.unusedSimpArgs false
set_option linter.unusedSectionVars false
open Go.RowKit Go.Proofs.YtnaaomhmoamfpaaDoorW.PrintWords Go.Proofs.YtnaaomhmoamfpaaDoorW.PrintLast Go.Proofs.YtnaaomhmoamfpaaDoorW.PrintMore
attribute [local go_sem] max2_int min2_int max_two min_two max_three min_three max_four min_four   -- for this text's walks alone



def errW : Option Int → Value
  | none => .nilIface
  | some c => .iface 0 (.int .i64 c)
theorem errW_none : errW none = .nilIface := rfl
theorem errW_some (c : Int) : errW (some c) = .iface 0 (.int .i64 c) := rfl

theorem info2 : (Tryd.prog.info? 2).map (fun i => (i.zero, i.size, i.bytes)) = some (some (.int .i64 0), 1, 8) := by kernel_rfl
theorem info3 : (Tryd.prog.info? 3).map (fun i => (i.zero, i.size, i.bytes)) = some (some (.int .i64 0), 1, 8) := by kernel_rfl
theorem info5 : (Tryd.prog.info? 5).map (fun i => (i.zero, i.size, i.bytes)) = some (some (.int .u8 0), 1, 1) := by kernel_rfl
theorem info9 : (Tryd.prog.info? 9).map (fun i => (i.zero, i.size, i.bytes)) = some (some (.string ⟨#[]⟩), 1, 16) := by kernel_rfl
theorem info46 : (Tryd.prog.info? 46).map (fun i => (i.zero, i.size, i.bytes)) = some (some (.slice none 0 0), 1, 24) := by kernel_rfl
theorem info52 : (Tryd.prog.info? 52).map (fun i => (i.zero, i.size, i.bytes)) = some (some (.agg #[(.int .i64 0), (.int .i64 0)]), 2, 16) := by kernel_rfl
-- the values' own types
def rd_L1 (xs : List (List Int)) (i : Int) : (List Int) := xs.getD i.toNat ([] : List Int)
theorem at_L1 {w : World} {A : Option Addr} {n : Nat} {xs : List (List Int)} (h : Kd.C (Kd.slice 3 (Kd.int .i64)) w A n xs) (i : Int) (h0 : 0 ≤ i) (h1 : i < n) : ∃ ad A0 c0, A = some ad ∧ w.cell? (ad.add i.toNat) = some (.slice A0 (rd_L1 xs i).length c0) ∧ (rd_L1 xs i).length ≤ c0 ∧ (Kd.int .i64).C w A0 (rd_L1 xs i).length (rd_L1 xs i) := by
  obtain ⟨ad, c, e, _, hK, hc0⟩ := Kd.C_get h ([] : List Int) i h0 h1
  have hc : ∀ j u, c[j]? = some u → w.cell? (ad.add (i.toNat * 1 + j)) = some u := hc0
  obtain ⟨A0, c0, rfl, l0, g0⟩ := hK
  exact ⟨ad, A0, c0, e, by have hq := hc 0 _ rfl; rwa [Nat.mul_one, Nat.add_zero] at hq, l0, g0⟩

/-! #### struct type 52 -/
structure S52 where
  f0 : Int
  f1 : Int
def z52 : S52 := ⟨(0 : Int), (0 : Int)⟩
def k52 : Kd S52 := Kd.iso (Kd.pair (Kd.int .i64) (Kd.int .i64)) (fun x : S52 => (x.f0, x.f1))
theorem k52_open {w : World} {x : S52} {cs : List Value} (h : k52.K w x cs) : cs = [.int .i64 x.f0, .int .i64 x.f1] := by
  obtain ⟨_, _, rfl, rfl, rfl⟩ := h
  exact rfl
theorem k52_openM {w : World} {base : Nat} {ok : Nat → Prop} {x : S52} {cs : List Value} (h : k52.M w base ok x cs) : cs = [.int .i64 x.f0, .int .i64 x.f1] := by
  obtain ⟨_, _, rfl, rfl, rfl⟩ := h
  exact rfl
theorem k52_mk (w : World) (x : S52)  : k52.K w x [.int .i64 x.f0, .int .i64 x.f1] := ⟨[.int .i64 x.f0], [.int .i64 x.f1], rfl, rfl, rfl⟩
theorem k52_mkM (w : World) (base : Nat) (ok : Nat → Prop) (x : S52)  : k52.M w base ok x [.int .i64 x.f0, .int .i64 x.f1] := ⟨[.int .i64 x.f0], [.int .i64 x.f1], rfl, rfl, rfl⟩
theorem k52_mkF (W : World) (ok : Nat → Prop) (x : S52) : Kd.FK k52 W ok x [.int .i64 x.f0, .int .i64 x.f1] := fun W2 _ => k52_mk W2 x
def rd_T52 (xs : List S52) (i : Int) : S52 := xs.getD i.toNat z52
theorem at_T52 {w : World} {A : Option Addr} {n : Nat} {xs : List S52} (h : Kd.C k52 w A n xs) (i : Int) (h0 : 0 ≤ i) (h1 : i < n) : ∃ ad , A = some ad ∧ w.cell? (ad.add (i.toNat * 2)) = some (.int .i64 (rd_T52 xs i).f0) ∧ w.cell? ⟨(ad.add (i.toNat * 2)).block, (ad.add (i.toNat * 2)).off + 1, none⟩ = some (.int .i64 (rd_T52 xs i).f1) := by
  obtain ⟨ad, c, e, _, hK, hc0⟩ := Kd.C_get h z52 i h0 h1
  have hc : ∀ j u, c[j]? = some u → w.cell? (ad.add (i.toNat * 2 + j)) = some u := hc0
  obtain rfl := k52_open hK
  exact ⟨ad, e, hc 0 _ rfl, by rw [← add_field _ _ 1 (by omega)]; exact hc 1 _ rfl⟩

end Go.Proofs.YtnaaomhmoamfpaaDoor.Q
/-
  DERIVED: THE SHELF's CONTRACTS AT THIS DUMP, IN PLAIN WORDS (tools/lay-plain.mjs out of 'TrydShelf.lean', which tools/lay-shelf.mjs wrote): THE SAME DECLARATIONS UNDER THE SAME NAMES: 'import', 'namespace', 'open', 'def', 'theorem' AND NOTHING ELSE: no command of the shelf's: FOR A HAND-IN. Each laying: the table of numbers ('.._ren') and one theorem, a field a fact of the dump's own or the kernel's comparison; each contract: ONE APPLICATION.
-/
namespace Go.Proofs
set_option linter.unusedVariables false
set_option linter.unusedSimpArgs false
set_option linter.unusedSectionVars false
open Go.Shelf
def Tryd.lays169_ren : Go.Shelf.Ren := ⟨fun | 169 => 69 | n => n, fun | 70 => 104 | 9 => 9 | 0 => 0 | 72 => 107 | 37 => 105 | 127 => 128 | 3 => 3 | 5 => 5 | n => n, fun | n => n⟩
theorem Tryd.lays169 : Go.Proofs.Lays.n169 Tryd.prog Tryd.lays169_ren := {
  mixed := by kernel_rfl
  f169 := Tryd.func69.trans (congrArg some (by kernel_rfl))
  t0 := Tryd.underlying0
  a0 := Tryd.isAgg0
  z0 := Tryd.sizeOf0
  v0 := Tryd.zeroValue0
  t3 := Tryd.underlying3
  a3 := Tryd.isAgg3
  z3 := Tryd.sizeOf3
  v3 := Tryd.zeroValue3
  t9 := Tryd.underlying9
  a9 := Tryd.isAgg9
  z9 := Tryd.sizeOf9
  v9 := Tryd.zeroValue9
  t37 := Tryd.underlying105
  a37 := Tryd.isAgg105
  z37 := Tryd.sizeOf105
  v37 := Tryd.zeroValue105
  t70 := Tryd.underlying104
  a70 := Tryd.isAgg104
  z70 := Tryd.sizeOf104
  v70 := Tryd.zeroValue104
  t72 := Tryd.underlying107
  a72 := Tryd.isAgg107
  z72 := Tryd.sizeOf107
  v72 := Tryd.zeroValue107
  t127 := Tryd.underlying128
  a127 := Tryd.isAgg128
  z127 := Tryd.sizeOf128
  v127 := Tryd.zeroValue128 }
theorem Tryd.Builder_Extra_169 : Builder.Extra Tryd.prog Tryd.lays169_ren := {
  sizeBuilder := by kernel_rfl
  liesBuilder := by kernel_rfl
  t5 := Tryd.underlying5
  a5 := Tryd.isAgg5
  z5 := Tryd.sizeOf5
  v5 := Tryd.zeroValue5
  infoByte := by kernel_rfl
  cellsByte := by kernel_rfl
  sizeByte := by kernel_rfl
  neB5 := by decide }
open Go.RowKit in
/-- (*strings.Builder).String: "String returns the accumulated string.": OF A BUILDER THAT HOLDS AT LEAST ONE BYTE. ✋ THE MODEL FREEZES THOSE BYTES IN THE BUFFER (unsafe.String): a later write INTO them ends the model's run without an answer; a later append BEHIND them goes on. The statement's order of evaluation is drawn: one draw. (LAID: no walk: one application.) -/
theorem Tryd.Builder_String (B b : Nat) (l : List UInt8) (w : World) (h : Lib.IsBuilder 107 5 B b (Lib.byteCells l) w) (h0 : l ≠ []) :
    Calls Tryd.prog 69 #[.pointer (some ⟨b, 0, none⟩)] w fun e w' => e = .returned (.string ⟨l.toArray⟩) ∧ Below B w w' := Any.Builder_String Tryd.lays169 Tryd.Builder_Extra_169 B b l w h h0
open Go.RowKit in
/-- (*strings.Builder).String OF A BUILDER THAT HOLDS NO BYTE: the empty string. (Its buffer is nil, or a row of which it has taken nothing yet; where that row has NO capacity the model lays one new block for unsafe.SliceData's 'some address'.) One draw. (LAID: no walk: one application.) -/
theorem Tryd.Builder_String_empty (B b : Nat) (w : World) (h : Lib.IsBuilder 107 5 B b [] w) (hBw : B ≤ w.heap.size) :
    Calls Tryd.prog 69 #[.pointer (some ⟨b, 0, none⟩)] w fun e w' => e = .returned (.string ⟨#[]⟩) ∧ Below B w w' := Any.Builder_String_empty Tryd.lays169 Tryd.Builder_Extra_169 B b w h hBw
open Go.RowKit in
/-- (*strings.Builder).String: "String returns the accumulated string.": WHATEVER THE BUILDER HOLDS. (LAID: no walk: one application.) -/
theorem Tryd.Builder_String_any (B b : Nat) (l : List UInt8) (w : World) (h : Lib.IsBuilder 107 5 B b (Lib.byteCells l) w) (hBw : B ≤ w.heap.size) :
    Calls Tryd.prog 69 #[.pointer (some ⟨b, 0, none⟩)] w fun e w' => e = .returned (.string ⟨l.toArray⟩) ∧ Below B w w' := Any.Builder_String_any Tryd.lays169 Tryd.Builder_Extra_169 B b l w h hBw
def Tryd.lays231_ren : Go.Shelf.Ren := ⟨fun | 231 => 94 | n => n, fun | 9 => 9 | 5 => 5 | 3 => 3 | 4 => 4 | n => n, fun | n => n⟩
theorem Tryd.lays231 : Go.Proofs.Lays.n231 Tryd.prog Tryd.lays231_ren := {
  mixed := by kernel_rfl
  f231 := Tryd.func94.trans (congrArg some (by kernel_rfl))
  t3 := Tryd.underlying3
  a3 := Tryd.isAgg3
  z3 := Tryd.sizeOf3
  v3 := Tryd.zeroValue3
  t4 := Tryd.underlying4
  a4 := Tryd.isAgg4
  z4 := Tryd.sizeOf4
  v4 := Tryd.zeroValue4
  t5 := Tryd.underlying5
  a5 := Tryd.isAgg5
  z5 := Tryd.sizeOf5
  v5 := Tryd.zeroValue5
  t9 := Tryd.underlying9
  a9 := Tryd.isAgg9
  z9 := Tryd.sizeOf9
  v9 := Tryd.zeroValue9 }
open Go.RowKit in
/-- strings.trimLeftByte (no doc; what TrimLeft and Trim call at a cutset of one ASCII byte): the leading bytes that are c are cut off. The world is as it was. (LAID: no walk: one application.) -/
theorem Tryd.strings_trimLeftByte (s : ByteArray) (c : UInt8) (w : World) :
    Calls Tryd.prog 94 #[.string s, .int .u8 c.toNat] w fun e w' => e = .returned (.string ⟨(Lib.trimLeftB s.data.toList c).toArray⟩) ∧ w' = w := Any.strings_trimLeftByte Tryd.lays231 s c w
def Tryd.lays232_ren : Go.Shelf.Ren := ⟨fun | 232 => 95 | n => n, fun | 9 => 9 | 5 => 5 | 3 => 3 | 4 => 4 | n => n, fun | n => n⟩
theorem Tryd.lays232 : Go.Proofs.Lays.n232 Tryd.prog Tryd.lays232_ren := {
  mixed := by kernel_rfl
  f232 := Tryd.func95.trans (congrArg some (by kernel_rfl))
  t3 := Tryd.underlying3
  a3 := Tryd.isAgg3
  z3 := Tryd.sizeOf3
  v3 := Tryd.zeroValue3
  t4 := Tryd.underlying4
  a4 := Tryd.isAgg4
  z4 := Tryd.sizeOf4
  v4 := Tryd.zeroValue4
  t5 := Tryd.underlying5
  a5 := Tryd.isAgg5
  z5 := Tryd.sizeOf5
  v5 := Tryd.zeroValue5
  t9 := Tryd.underlying9
  a9 := Tryd.isAgg9
  z9 := Tryd.sizeOf9
  v9 := Tryd.zeroValue9 }
open Go.RowKit in
/-- strings.trimRightByte (no doc; what TrimRight and Trim call at a cutset of one ASCII byte): the trailing bytes that are c are cut off. The world is as it was. ('hs': a string's length is a number that an int holds.) (LAID: no walk: one application.) -/
theorem Tryd.strings_trimRightByte (s : ByteArray) (c : UInt8) (w : World) (hs : s.size ≤ 9223372036854775807) :
    Calls Tryd.prog 95 #[.string s, .int .u8 c.toNat] w fun e w' => e = .returned (.string ⟨(Lib.trimRightB s.data.toList c).toArray⟩) ∧ w' = w := Any.strings_trimRightByte Tryd.lays232 s c w hs
def Tryd.lays160_ren : Go.Shelf.Ren := ⟨fun | 160 => 82 | 232 => 95 | 231 => 94 | 227 => 96 | 234 => 98 | 233 => 97 | 236 => 100 | 235 => 99 | 228 => 107 | 271 => 110 | 151 => 109 | 197 => 108 | 120 => 113 | 152 => 112 | 260 => 111 | 137 => 81 | 119 => 114 | 224 => 115 | 225 => 116 | 217 => 93 | 266 => 106 | n => n, fun | 9 => 9 | 4 => 4 | 3 => 3 | 5 => 5 | 117 => 133 | 116 => 132 | 0 => 0 | 124 => 136 | 21 => 21 | 105 => 142 | 46 => 31 | 119 => 146 | 139 => 149 | 138 => 148 | n => n, fun | 3 => 1 | 4 => 2 | n => n⟩
theorem Tryd.lays160 : Go.Proofs.Lays.n160 Tryd.prog Tryd.lays160_ren := {
  mixed := by kernel_rfl
  f119 := Tryd.func114.trans (congrArg some (by kernel_rfl))
  f120 := Tryd.func113.trans (congrArg some (by kernel_rfl))
  f137 := Tryd.func81.trans (congrArg some (by kernel_rfl))
  f151 := Tryd.func109.trans (congrArg some (by kernel_rfl))
  f152 := Tryd.func112.trans (congrArg some (by kernel_rfl))
  f160 := Tryd.func82.trans (congrArg some (by kernel_rfl))
  f197 := Tryd.func108.trans (congrArg some (by kernel_rfl))
  f217 := Tryd.func93.trans (congrArg some (by kernel_rfl))
  f224 := Tryd.func115.trans (congrArg some (by kernel_rfl))
  f225 := Tryd.func116.trans (congrArg some (by kernel_rfl))
  f227 := Tryd.func96.trans (congrArg some (by kernel_rfl))
  f228 := Tryd.func107.trans (congrArg some (by kernel_rfl))
  f231 := Tryd.func94.trans (congrArg some (by kernel_rfl))
  f232 := Tryd.func95.trans (congrArg some (by kernel_rfl))
  f233 := Tryd.func97.trans (congrArg some (by kernel_rfl))
  f234 := Tryd.func98.trans (congrArg some (by kernel_rfl))
  f235 := Tryd.func99.trans (congrArg some (by kernel_rfl))
  f236 := Tryd.func100.trans (congrArg some (by kernel_rfl))
  f260 := Tryd.func111.trans (congrArg some (by kernel_rfl))
  f266 := Tryd.func106.trans (congrArg some (by kernel_rfl))
  f271 := Tryd.func110.trans (congrArg some (by kernel_rfl))
  t0 := Tryd.underlying0
  a0 := Tryd.isAgg0
  z0 := Tryd.sizeOf0
  v0 := Tryd.zeroValue0
  t3 := Tryd.underlying3
  a3 := Tryd.isAgg3
  z3 := Tryd.sizeOf3
  v3 := Tryd.zeroValue3
  t4 := Tryd.underlying4
  a4 := Tryd.isAgg4
  z4 := Tryd.sizeOf4
  v4 := Tryd.zeroValue4
  t5 := Tryd.underlying5
  a5 := Tryd.isAgg5
  z5 := Tryd.sizeOf5
  v5 := Tryd.zeroValue5
  t9 := Tryd.underlying9
  a9 := Tryd.isAgg9
  z9 := Tryd.sizeOf9
  v9 := Tryd.zeroValue9
  t21 := Tryd.underlying21
  a21 := Tryd.isAgg21
  z21 := Tryd.sizeOf21
  v21 := Tryd.zeroValue21
  t46 := Tryd.underlying31
  a46 := Tryd.isAgg31
  z46 := Tryd.sizeOf31
  v46 := Tryd.zeroValue31
  t105 := Tryd.underlying142
  a105 := Tryd.isAgg142
  z105 := Tryd.sizeOf142
  v105 := Tryd.zeroValue142
  t116 := Tryd.underlying132
  a116 := Tryd.isAgg132
  z116 := Tryd.sizeOf132
  t117 := Tryd.underlying133
  a117 := Tryd.isAgg133
  z117 := Tryd.sizeOf133
  v117 := Tryd.zeroValue133
  t119 := Tryd.underlying146
  a119 := Tryd.isAgg146
  z119 := Tryd.sizeOf146
  t124 := Tryd.underlying136
  a124 := Tryd.isAgg136
  z124 := Tryd.sizeOf136
  v124 := Tryd.zeroValue136
  t138 := Tryd.underlying148
  a138 := Tryd.isAgg148
  z138 := Tryd.sizeOf148
  v138 := Tryd.zeroValue148
  t139 := Tryd.underlying149
  a139 := Tryd.isAgg149
  z139 := Tryd.sizeOf149
  v139 := Tryd.zeroValue149
  g3 := by kernel_rfl
  g4 := by kernel_rfl }
open Go.RowKit in
/-- strings.Trim: "Trim returns a slice of the string s with all leading and trailing Unicode code points contained in cutset removed.": AT A cutset OF ONE ASCII BYTE. THE WORLD BEHIND IT: as it was, or (where s is not empty) with ONE DRAW MORE off the tape: the statement 'return trimLeftByte(trimRightByte(s, c), c)' draws its order of evaluation. (LAID: no walk: one application.) -/
theorem Tryd.strings_Trim_one (s : ByteArray) (c : UInt8) (hc : c.toNat < 128) (w : World) (hs : s.size ≤ 9223372036854775807) :
    Calls Tryd.prog 82 #[.string s, .string ⟨#[c]⟩] w fun e w' => e = .returned (.string ⟨(Lib.trimB s.data.toList c).toArray⟩) ∧ (w' = w ∨ w' = w.drew) := Any.strings_Trim_one Tryd.lays160 s c hc w hs
def Tryd.lays119_ren : Go.Shelf.Ren := ⟨fun | 119 => 114 | n => n, fun | 21 => 21 | 4 => 4 | n => n, fun | n => n⟩
theorem Tryd.lays119 : Go.Proofs.Lays.n119 Tryd.prog Tryd.lays119_ren := {
  mixed := by kernel_rfl
  f119 := Tryd.func114.trans (congrArg some (by kernel_rfl))
  t4 := Tryd.underlying4
  a4 := Tryd.isAgg4
  z4 := Tryd.sizeOf4
  v4 := Tryd.zeroValue4
  t21 := Tryd.underlying21
  a21 := Tryd.isAgg21
  z21 := Tryd.sizeOf21
  v21 := Tryd.zeroValue21 }
/-- utf8.ValidRune: "ValidRune reports whether r can be legally encoded as UTF-8. Code points that are out of range or a surrogate half are illegal.": IT RETURNS 'Lib.validRune r'; the world is as it was. (LAID: no walk: one application.) -/
theorem Tryd.utf8_ValidRune (r : Int) (w : World) :
    Calls Tryd.prog 114 #[.int .i32 r] w fun e w' => e = .returned (.bool (Lib.validRune r)) ∧ w' = w := Any.utf8_ValidRune Tryd.lays119 r w
def Tryd.lays120_ren : Go.Shelf.Ren := ⟨fun | 120 => 113 | n => n, fun | 5 => 5 | 4 => 4 | n => n, fun | n => n⟩
theorem Tryd.lays120 : Go.Proofs.Lays.n120 Tryd.prog Tryd.lays120_ren := {
  mixed := by kernel_rfl
  f120 := Tryd.func113.trans (congrArg some (by kernel_rfl))
  t4 := Tryd.underlying4
  a4 := Tryd.isAgg4
  z4 := Tryd.sizeOf4
  v4 := Tryd.zeroValue4
  t5 := Tryd.underlying5
  a5 := Tryd.isAgg5
  z5 := Tryd.sizeOf5
  v5 := Tryd.zeroValue5 }
/-- utf8.RuneStart: "RuneStart reports whether the byte could be the first byte of an encoded, possibly invalid rune. Second and subsequent bytes always have the top two bits set to 10.": IT RETURNS 'Lib.runeStart b'; the world is as it was. ('h0', 'h1': b is a byte: a caller has it of every byte that it was handed.) (LAID: no walk: one application.) -/
theorem Tryd.utf8_RuneStart (b : Int) (w : World) (h0 : 0 ≤ b) (h1 : b < 256) :
    Calls Tryd.prog 113 #[.int .u8 b] w fun e w' => e = .returned (.bool (Lib.runeStart b)) ∧ w' = w := Any.utf8_RuneStart Tryd.lays120 b w h0 h1
def Tryd.lays137_ren : Go.Shelf.Ren := ⟨fun | 137 => 81 | 217 => 93 | 266 => 106 | n => n, fun | 9 => 9 | 5 => 5 | 3 => 3 | n => n, fun | n => n⟩
theorem Tryd.lays137 : Go.Proofs.Lays.n137 Tryd.prog Tryd.lays137_ren := {
  mixed := by kernel_rfl
  f137 := Tryd.func81.trans (congrArg some (by kernel_rfl))
  f217 := Tryd.func93.trans (congrArg some (by kernel_rfl))
  f266 := Tryd.func106.trans (congrArg some (by kernel_rfl))
  t3 := Tryd.underlying3
  a3 := Tryd.isAgg3
  z3 := Tryd.sizeOf3
  v3 := Tryd.zeroValue3
  t5 := Tryd.underlying5
  a5 := Tryd.isAgg5
  z5 := Tryd.sizeOf5
  v5 := Tryd.zeroValue5
  t9 := Tryd.underlying9
  a9 := Tryd.isAgg9
  z9 := Tryd.sizeOf9
  v9 := Tryd.zeroValue9 }
open Go.RowKit in
/-- strings.IndexByte: "IndexByte returns the index of the first instance of c in s, or -1 if c is not present in s.": IT RETURNS 'Lib.indexByte s c'; the world is as it was. (LAID: no walk: one application.) -/
theorem Tryd.strings_IndexByte (s : ByteArray) (c : Int) (w : World) :
    Calls Tryd.prog 81 #[.string s, .int .u8 c] w fun e w' => e = .returned (.int .i64 (Lib.indexByte s.data.toList c.toNat.toUInt8)) ∧ w' = w := Any.strings_IndexByte Tryd.lays137 s c w
open Go.RowKit in
/-- (*strings.Builder).String: "String returns the accumulated string.": OF A BUILDER THAT HOLDS AT LEAST ONE BYTE. ✋ THE MODEL FREEZES THOSE BYTES IN THE BUFFER (unsafe.String): a later write INTO them ends the model's run without an answer; a later append BEHIND them goes on. The statement's order of evaluation is drawn: one draw. THE FORM '_f': IT SAYS BESIDES THAT THE BUILDER IS A BUILDER STILL ('Lib.IsBuilderF', the same bytes): SO IT CAN BE WRITTEN ON: 'b.WriteString(b.String()[:k])'. (LAID: no walk: one application.) -/
theorem Tryd.Builder_String_f (B b : Nat) (l : List UInt8) (w : World) (h : Lib.IsBuilderF 107 5 B b (Lib.byteCells l) w) (h0 : l ≠ []) :
    Calls Tryd.prog 69 #[.pointer (some ⟨b, 0, none⟩)] w fun e w' => e = .returned (.string ⟨l.toArray⟩) ∧ (Lib.IsBuilderF 107 5 B b (Lib.byteCells l) w' ∧ Below B w w') := Any.Builder_String_f Tryd.lays169 Tryd.Builder_Extra_169 B b l w h h0
open Go.RowKit in
/-- (*strings.Builder).String OF A BUILDER THAT HOLDS NO BYTE: the empty string; THE FORM '_f': a builder still. (LAID: no walk: one application.) -/
theorem Tryd.Builder_String_empty_f (B b : Nat) (w : World) (h : Lib.IsBuilderF 107 5 B b [] w) (hBw : B ≤ w.heap.size) :
    Calls Tryd.prog 69 #[.pointer (some ⟨b, 0, none⟩)] w fun e w' => e = .returned (.string ⟨#[]⟩) ∧ (Lib.IsBuilderF 107 5 B b [] w' ∧ Below B w w') := Any.Builder_String_empty_f Tryd.lays169 Tryd.Builder_Extra_169 B b w h hBw
open Go.RowKit in
/-- (*strings.Builder).String: "String returns the accumulated string.": WHATEVER THE BUILDER HOLDS; THE FORM '_f': OF A BUILDER THAT MAY HAVE BEEN READ BEFORE; AND IT IS A BUILDER STILL, holding the same bytes: it can be written on. (LAID: no walk: one application.) -/
theorem Tryd.Builder_String_any_f (B b : Nat) (l : List UInt8) (w : World) (h : Lib.IsBuilderF 107 5 B b (Lib.byteCells l) w) (hBw : B ≤ w.heap.size) :
    Calls Tryd.prog 69 #[.pointer (some ⟨b, 0, none⟩)] w fun e w' => e = .returned (.string ⟨l.toArray⟩) ∧ (Lib.IsBuilderF 107 5 B b (Lib.byteCells l) w' ∧ Below B w w') := Any.Builder_String_any_f Tryd.lays169 Tryd.Builder_Extra_169 B b l w h hBw
open Go.RowKit in
/-- (*strings.Builder).String: "String returns the accumulated string.": OF A BUILDER THAT HOLDS AT LEAST ONE BYTE. ✋ THE MODEL FREEZES THOSE BYTES IN THE BUFFER (unsafe.String): a later write INTO them ends the model's run without an answer; a later append BEHIND them goes on. The statement's order of evaluation is drawn: one draw. THE FORM '_k': OVER 'Lib.IsBuilderF' (a builder that 'String()' may have read), AND WITH THE FRAME THAT REACHES ABOVE THE BUILDER: 'Lib.OthersKept': every block that is not b and is no row of uint8's stands as it stood: the iterator of a range among them. (LAID: no walk: one application.) -/
theorem Tryd.Builder_String_k (B b : Nat) (l : List UInt8) (w : World) (h : Lib.IsBuilderF 107 5 B b (Lib.byteCells l) w) (h0 : l ≠ []) :
    Calls Tryd.prog 69 #[.pointer (some ⟨b, 0, none⟩)] w fun e w' => e = .returned (.string ⟨l.toArray⟩) ∧ (Lib.IsBuilderF 107 5 B b (Lib.byteCells l) w' ∧ Below B w w' ∧ Lib.OthersKept 5 (some b) w w') := Any.Builder_String_k Tryd.lays169 Tryd.Builder_Extra_169 B b l w h h0
open Go.RowKit in
/-- (*strings.Builder).String OF A BUILDER THAT HOLDS NO BYTE: the empty string; THE FORM '_k': OVER 'Lib.IsBuilderF' (a builder that 'String()' may have read), AND WITH THE FRAME THAT REACHES ABOVE THE BUILDER: 'Lib.OthersKept': every block that is not b and is no row of uint8's stands as it stood: the iterator of a range among them. (LAID: no walk: one application.) -/
theorem Tryd.Builder_String_empty_k (B b : Nat) (w : World) (h : Lib.IsBuilderF 107 5 B b [] w) (hBw : B ≤ w.heap.size) :
    Calls Tryd.prog 69 #[.pointer (some ⟨b, 0, none⟩)] w fun e w' => e = .returned (.string ⟨#[]⟩) ∧ (Lib.IsBuilderF 107 5 B b [] w' ∧ Below B w w' ∧ Lib.OthersKept 5 (some b) w w') := Any.Builder_String_empty_k Tryd.lays169 Tryd.Builder_Extra_169 B b w h hBw
open Go.RowKit in
/-- (*strings.Builder).String: "String returns the accumulated string.": WHATEVER THE BUILDER HOLDS; THE FORM '_k': OVER 'Lib.IsBuilderF' (a builder that 'String()' may have read), AND WITH THE FRAME THAT REACHES ABOVE THE BUILDER: 'Lib.OthersKept': every block that is not b and is no row of uint8's stands as it stood: the iterator of a range among them. (LAID: no walk: one application.) -/
theorem Tryd.Builder_String_any_k (B b : Nat) (l : List UInt8) (w : World) (h : Lib.IsBuilderF 107 5 B b (Lib.byteCells l) w) (hBw : B ≤ w.heap.size) :
    Calls Tryd.prog 69 #[.pointer (some ⟨b, 0, none⟩)] w fun e w' => e = .returned (.string ⟨l.toArray⟩) ∧ (Lib.IsBuilderF 107 5 B b (Lib.byteCells l) w' ∧ Below B w w' ∧ Lib.OthersKept 5 (some b) w w') := Any.Builder_String_any_k Tryd.lays169 Tryd.Builder_Extra_169 B b l w h hBw
def Tryd.lays217_ren : Go.Shelf.Ren := ⟨fun | 217 => 93 | 266 => 106 | n => n, fun | 9 => 9 | 5 => 5 | 3 => 3 | n => n, fun | n => n⟩
theorem Tryd.lays217 : Go.Proofs.Lays.n217 Tryd.prog Tryd.lays217_ren := {
  mixed := by kernel_rfl
  f217 := Tryd.func93.trans (congrArg some (by kernel_rfl))
  f266 := Tryd.func106.trans (congrArg some (by kernel_rfl))
  t3 := Tryd.underlying3
  a3 := Tryd.isAgg3
  z3 := Tryd.sizeOf3
  v3 := Tryd.zeroValue3
  t5 := Tryd.underlying5
  a5 := Tryd.isAgg5
  z5 := Tryd.sizeOf5
  v5 := Tryd.zeroValue5
  t9 := Tryd.underlying9
  a9 := Tryd.isAgg9
  z9 := Tryd.sizeOf9
  v9 := Tryd.zeroValue9 }
open Go.RowKit Go.Lib in
/-- internal/stringslite.IndexByte (what strings.IndexByte calls): IT RETURNS 'Lib.indexByte s c'; the world is as it was. (LAID: no walk: one application.) -/
theorem Tryd.stringslite_IndexByte (s : ByteArray) (c : Int) (w : World) :
    Calls Tryd.prog 93 #[.string s, .int .u8 c] w fun e w' => e = .returned (.int .i64 (Lib.indexByte s.data.toList c.toNat.toUInt8)) ∧ w' = w := Any.stringslite_IndexByte Tryd.lays217 s c w
def Tryd.lays224_ren : Go.Shelf.Ren := ⟨fun | 224 => 115 | n => n, fun | 3 => 3 | n => n, fun | n => n⟩
theorem Tryd.lays224 : Go.Proofs.Lays.n224 Tryd.prog Tryd.lays224_ren := {
  mixed := by kernel_rfl
  f224 := Tryd.func115.trans (congrArg some (by kernel_rfl))
  t3 := Tryd.underlying3
  a3 := Tryd.isAgg3
  z3 := Tryd.sizeOf3
  v3 := Tryd.zeroValue3 }
open Go.RowKit Go.Lib in
/-- internal/bytealg.Cutover: "Cutover reports the number of failures of IndexByte we should tolerate before switching over to Index. n is the number of bytes processed so far.": on amd64: (n + 16) / 8. (LAID: no walk: one application.) -/
theorem Tryd.bytealg_Cutover (n : Int) (h0 : 0 ≤ n) (h1 : n < 4611686018427387904) (w : World) :
    Calls Tryd.prog 115 #[.int .i64 n] w fun e w' => e = .returned (.int .i64 ((n + 16) / 8)) ∧ w' = w := Any.bytealg_Cutover Tryd.lays224 n h0 h1 w
def Tryd.lays152_ren : Go.Shelf.Ren := ⟨fun | 152 => 112 | 137 => 81 | 119 => 114 | 224 => 115 | 225 => 116 | 217 => 93 | 266 => 106 | n => n, fun | 9 => 9 | 21 => 21 | 3 => 3 | 4 => 4 | 5 => 5 | 0 => 0 | 46 => 31 | n => n, fun | n => n⟩
theorem Tryd.lays152 : Go.Proofs.Lays.n152 Tryd.prog Tryd.lays152_ren := {
  mixed := by kernel_rfl
  f119 := Tryd.func114.trans (congrArg some (by kernel_rfl))
  f137 := Tryd.func81.trans (congrArg some (by kernel_rfl))
  f152 := Tryd.func112.trans (congrArg some (by kernel_rfl))
  f217 := Tryd.func93.trans (congrArg some (by kernel_rfl))
  f224 := Tryd.func115.trans (congrArg some (by kernel_rfl))
  f225 := Tryd.func116.trans (congrArg some (by kernel_rfl))
  f266 := Tryd.func106.trans (congrArg some (by kernel_rfl))
  t0 := Tryd.underlying0
  a0 := Tryd.isAgg0
  z0 := Tryd.sizeOf0
  v0 := Tryd.zeroValue0
  t3 := Tryd.underlying3
  a3 := Tryd.isAgg3
  z3 := Tryd.sizeOf3
  v3 := Tryd.zeroValue3
  t4 := Tryd.underlying4
  a4 := Tryd.isAgg4
  z4 := Tryd.sizeOf4
  v4 := Tryd.zeroValue4
  t5 := Tryd.underlying5
  a5 := Tryd.isAgg5
  z5 := Tryd.sizeOf5
  v5 := Tryd.zeroValue5
  t9 := Tryd.underlying9
  a9 := Tryd.isAgg9
  z9 := Tryd.sizeOf9
  v9 := Tryd.zeroValue9
  t21 := Tryd.underlying21
  a21 := Tryd.isAgg21
  z21 := Tryd.sizeOf21
  v21 := Tryd.zeroValue21
  t46 := Tryd.underlying31
  a46 := Tryd.isAgg31
  z46 := Tryd.sizeOf31
  v46 := Tryd.zeroValue31 }
open Go.RowKit Go.Lib in
theorem Tryd.strings_IndexRune_ascii (s : ByteArray) (r : Int) (w : World) (h0 : 0 ≤ r) (h1 : r < 128) :
    Calls Tryd.prog 112 #[.string s, .int .i32 r] w fun e w' => e = .returned (.int .i64 (Lib.indexByte s.data.toList r.toNat.toUInt8)) ∧ w' = w := Any.strings_IndexRune_ascii Tryd.lays152 s r w h0 h1
def Tryd.lays151_ren : Go.Shelf.Ren := ⟨fun | 151 => 109 | 152 => 112 | 137 => 81 | 119 => 114 | 224 => 115 | 225 => 116 | 217 => 93 | 266 => 106 | n => n, fun | 9 => 9 | 21 => 21 | 4 => 4 | 3 => 3 | 5 => 5 | 0 => 0 | 46 => 31 | n => n, fun | n => n⟩
theorem Tryd.lays151 : Go.Proofs.Lays.n151 Tryd.prog Tryd.lays151_ren := {
  mixed := by kernel_rfl
  f119 := Tryd.func114.trans (congrArg some (by kernel_rfl))
  f137 := Tryd.func81.trans (congrArg some (by kernel_rfl))
  f151 := Tryd.func109.trans (congrArg some (by kernel_rfl))
  f152 := Tryd.func112.trans (congrArg some (by kernel_rfl))
  f217 := Tryd.func93.trans (congrArg some (by kernel_rfl))
  f224 := Tryd.func115.trans (congrArg some (by kernel_rfl))
  f225 := Tryd.func116.trans (congrArg some (by kernel_rfl))
  f266 := Tryd.func106.trans (congrArg some (by kernel_rfl))
  t0 := Tryd.underlying0
  a0 := Tryd.isAgg0
  z0 := Tryd.sizeOf0
  v0 := Tryd.zeroValue0
  t3 := Tryd.underlying3
  a3 := Tryd.isAgg3
  z3 := Tryd.sizeOf3
  v3 := Tryd.zeroValue3
  t4 := Tryd.underlying4
  a4 := Tryd.isAgg4
  z4 := Tryd.sizeOf4
  v4 := Tryd.zeroValue4
  t5 := Tryd.underlying5
  a5 := Tryd.isAgg5
  z5 := Tryd.sizeOf5
  v5 := Tryd.zeroValue5
  t9 := Tryd.underlying9
  a9 := Tryd.isAgg9
  z9 := Tryd.sizeOf9
  v9 := Tryd.zeroValue9
  t21 := Tryd.underlying21
  a21 := Tryd.isAgg21
  z21 := Tryd.sizeOf21
  v21 := Tryd.zeroValue21
  t46 := Tryd.underlying31
  a46 := Tryd.isAgg31
  z46 := Tryd.sizeOf31
  v46 := Tryd.zeroValue31 }
open Go.RowKit Go.Lib in
theorem Tryd.strings_ContainsRune_ascii (s : ByteArray) (r : Int) (w : World) (h0 : 0 ≤ r) (h1 : r < 128) :
    Calls Tryd.prog 109 #[.string s, .int .i32 r] w fun e w' => e = .returned (.bool (decide (0 ≤ Lib.indexByte s.data.toList r.toNat.toUInt8))) ∧ w' = w := Any.strings_ContainsRune_ascii Tryd.lays151 s r w h0 h1
def Tryd.lays227_ren : Go.Shelf.Ren := ⟨fun | 227 => 96 | n => n, fun | 9 => 9 | 116 => 132 | 4 => 4 | 0 => 0 | 3 => 3 | 5 => 5 | n => n, fun | n => n⟩
theorem Tryd.lays227 : Go.Proofs.Lays.n227 Tryd.prog Tryd.lays227_ren := {
  mixed := by kernel_rfl
  f227 := Tryd.func96.trans (congrArg some (by kernel_rfl))
  t0 := Tryd.underlying0
  a0 := Tryd.isAgg0
  z0 := Tryd.sizeOf0
  v0 := Tryd.zeroValue0
  t3 := Tryd.underlying3
  a3 := Tryd.isAgg3
  z3 := Tryd.sizeOf3
  v3 := Tryd.zeroValue3
  t4 := Tryd.underlying4
  a4 := Tryd.isAgg4
  z4 := Tryd.sizeOf4
  v4 := Tryd.zeroValue4
  t5 := Tryd.underlying5
  a5 := Tryd.isAgg5
  z5 := Tryd.sizeOf5
  v5 := Tryd.zeroValue5
  t9 := Tryd.underlying9
  a9 := Tryd.isAgg9
  z9 := Tryd.sizeOf9
  v9 := Tryd.zeroValue9
  t116 := Tryd.underlying132
  a116 := Tryd.isAgg132
  z116 := Tryd.sizeOf132 }
open Go.RowKit Go.Lib in
theorem Tryd.strings_makeASCIISet (hv116 : ∀ w, (zeroValue 132).run Tryd.prog w = .ok (.agg (Array.replicate 256 (.bool false))) w) (chars : ByteArray) (w : World) (hs : chars.size < 4294967281) (hascii : ∀ (j : Nat) b, chars.data.toList[j]? = some b → b.toNat < 128) :
    Calls Tryd.prog 96 #[.string chars] w fun e w' => e = .returned (.tuple #[.agg (Lib.setCells chars.data.toList), .bool true]) ∧ w' = w.alloc (.cells (Lib.setCells chars.data.toList) 132) := Any.strings_makeASCIISet Tryd.lays227 hv116 (by kernel_rfl) chars w hs hascii
def Tryd.lays228_ren : Go.Shelf.Ren := ⟨fun | 228 => 107 | n => n, fun | 124 => 136 | 5 => 5 | 4 => 4 | 0 => 0 | 116 => 132 | n => n, fun | n => n⟩
theorem Tryd.lays228 : Go.Proofs.Lays.n228 Tryd.prog Tryd.lays228_ren := {
  mixed := by kernel_rfl
  f228 := Tryd.func107.trans (congrArg some (by kernel_rfl))
  t0 := Tryd.underlying0
  a0 := Tryd.isAgg0
  z0 := Tryd.sizeOf0
  v0 := Tryd.zeroValue0
  t4 := Tryd.underlying4
  a4 := Tryd.isAgg4
  z4 := Tryd.sizeOf4
  v4 := Tryd.zeroValue4
  t5 := Tryd.underlying5
  a5 := Tryd.isAgg5
  z5 := Tryd.sizeOf5
  v5 := Tryd.zeroValue5
  t116 := Tryd.underlying132
  a116 := Tryd.isAgg132
  z116 := Tryd.sizeOf132
  t124 := Tryd.underlying136
  a124 := Tryd.isAgg136
  z124 := Tryd.sizeOf136
  v124 := Tryd.zeroValue136 }
open Go.RowKit Go.Lib in
/-- '(as *asciiSet) contains(c)': 'as[c]': the set lies at block b, whole. (LAID: no walk: one application.) -/
theorem Tryd.asciiSet_contains (b : Nat) (x : UInt8) (v : Bool) (w : World) (hc : w.cell? ⟨b, x.toNat, none⟩ = some (.bool v)) :
    Calls Tryd.prog 107 #[.pointer (some ⟨b, 0, none⟩), .int .u8 x.toNat] w fun e w' => e = .returned (.bool v) ∧ w' = w := Any.asciiSet_contains Tryd.lays228 b x v w hc
def Tryd.lays260_ren : Go.Shelf.Ren := ⟨fun | 260 => 111 | n => n, fun | 9 => 9 | 21 => 21 | 3 => 3 | 4 => 4 | 5 => 5 | 119 => 146 | 0 => 0 | 46 => 31 | 139 => 149 | 138 => 148 | n => n, fun | 3 => 1 | 4 => 2 | n => n⟩
theorem Tryd.lays260 : Go.Proofs.Lays.n260 Tryd.prog Tryd.lays260_ren := {
  mixed := by kernel_rfl
  f260 := Tryd.func111.trans (congrArg some (by kernel_rfl))
  t0 := Tryd.underlying0
  a0 := Tryd.isAgg0
  z0 := Tryd.sizeOf0
  v0 := Tryd.zeroValue0
  t3 := Tryd.underlying3
  a3 := Tryd.isAgg3
  z3 := Tryd.sizeOf3
  v3 := Tryd.zeroValue3
  t4 := Tryd.underlying4
  a4 := Tryd.isAgg4
  z4 := Tryd.sizeOf4
  v4 := Tryd.zeroValue4
  t5 := Tryd.underlying5
  a5 := Tryd.isAgg5
  z5 := Tryd.sizeOf5
  v5 := Tryd.zeroValue5
  t9 := Tryd.underlying9
  a9 := Tryd.isAgg9
  z9 := Tryd.sizeOf9
  v9 := Tryd.zeroValue9
  t21 := Tryd.underlying21
  a21 := Tryd.isAgg21
  z21 := Tryd.sizeOf21
  v21 := Tryd.zeroValue21
  t46 := Tryd.underlying31
  a46 := Tryd.isAgg31
  z46 := Tryd.sizeOf31
  v46 := Tryd.zeroValue31
  t119 := Tryd.underlying146
  a119 := Tryd.isAgg146
  z119 := Tryd.sizeOf146
  t138 := Tryd.underlying148
  a138 := Tryd.isAgg148
  z138 := Tryd.sizeOf148
  v138 := Tryd.zeroValue148
  t139 := Tryd.underlying149
  a139 := Tryd.isAgg149
  z139 := Tryd.sizeOf149
  v139 := Tryd.zeroValue149
  g3 := by kernel_rfl
  g4 := by kernel_rfl }
open Go.RowKit Go.Lib in
theorem Tryd.utf8_decodeRuneInStringSlow (s : ByteArray) (w : World) (hT : Lib.Utf8Tabs 1 2 w) :
    Calls Tryd.prog 111 #[.string s] w fun e w' => e = .returned (.tuple #[.int .i32 (Lib.decodeGo s).1, .int .i64 (Lib.decodeGo s).2]) ∧ Below w.heap.size w w' := Any.utf8_decodeRuneInStringSlow Tryd.lays260 s w hT
def Tryd.laysNm215_ren : Go.Shelf.Ren := ⟨fun | 15 => 83 | n => n, fun | 22 => 46 | 3 => 3 | 4 => 4 | n => n, fun | n => n⟩
theorem Tryd.laysNm215 : Go.Proofs.Lays2.n15 Tryd.prog Tryd.laysNm215_ren := {
  mixed := by kernel_rfl
  f15 := Tryd.func83.trans (congrArg some (by kernel_rfl))
  t3 := Tryd.underlying3
  a3 := Tryd.isAgg3
  z3 := Tryd.sizeOf3
  v3 := Tryd.zeroValue3
  t4 := Tryd.underlying4
  a4 := Tryd.isAgg4
  z4 := Tryd.sizeOf4
  v4 := Tryd.zeroValue4
  t22 := Tryd.underlying46
  a22 := Tryd.isAgg46
  z22 := Tryd.sizeOf46
  v22 := Tryd.zeroValue46
  i3 := by kernel_rfl }
open Go.RowKit Go.Lib in
/-- slices.Clone at []int: "Clone returns a copy of the slice. The elements are copied using assignment, so this is a shallow clone. The result may have additional unused capacity. The result preserves the nilness of s.": OF A SLICE THAT IS NOT nil IT RETURNS A SLICE THAT IS NOT nil, OF THE SAME ELEMENTS, IN MEMORY OF THE CALL's OWN: in the how-to's words (6f): 'w'.ownsRow B e 1 v' n cells': v' begins at the head of a row among the blocks from B on (B: the heap's size at the call), not frozen, whose first cells are the elements · 'Below B w w'': below B all is as it was. The capacity is whatever the run-time gives. 'zs': what the cells behind the slice's address hold; 'zs.take n': its elements. (LAID: no walk: one application.) -/
theorem Tryd.slices_Clone_int (b off n c : Nat) (zs : List Int) (w : World) (hz : n ≤ zs.length) (hbig : n * 8 ≤ 140737488355328) (hc : ∀ j, j < zs.length → w.cell? ⟨b, off + j, none⟩ = some (.int .i64 (zs.getD j 0))) :
    Calls Tryd.prog 83 #[.slice (some ⟨b, off, none⟩) n c] w fun e w' => ∃ v', e = .returned v' ∧ w'.ownsRow w.heap.size 3 1 v' n ((zs.take n).map (Value.int .i64)) ∧ v' ≠ .slice none 0 0 ∧ Below w.heap.size w w' := Any.slices_Clone_int Tryd.laysNm215 b off n c zs w hz hbig hc
open Go.RowKit Go.Lib in
/-- The same at nil: nil comes back; the world is as it was. (LAID: no walk: one application.) -/
theorem Tryd.slices_Clone_int_nil (n c : Nat) (w : World) :
    Calls Tryd.prog 83 #[.slice none n c] w fun e w' => e = .returned (.slice none 0 0) ∧ w' = w := Any.slices_Clone_int_nil Tryd.laysNm215 n c w
open Go.RowKit Go.Lib in
/-- The same at a slice of length 0 that is not nil, WHATEVER ITS ADDRESS (no cell is asked for): a slice that is not nil and owns nothing comes back. (LAID: no walk: one application.) -/
theorem Tryd.slices_Clone_int_zero (a : Addr) (c : Nat) (w : World) :
    Calls Tryd.prog 83 #[.slice (some a) 0 c] w fun e w' => ∃ v', e = .returned v' ∧ w'.ownsRow w.heap.size 3 1 v' 0 [] ∧ v' ≠ .slice none 0 0 ∧ Below w.heap.size w w' := Any.slices_Clone_int_zero Tryd.laysNm215 a c w
end Go.Proofs
/- Contracts of library calls (strings.Trim, strings.IndexByte, slices.Clone), in the form that the printed texts ask. -/
namespace Go.Proofs.YtnaaomhmoamfpaaDoor.G
set_option linter.unusedVariables false
set_option linter.unusedSimpArgs false
set_option linter.unusedSectionVars false
open Go.Proofs.YtnaaomhmoamfpaaDoor.Q Go.Shelf
open Go.RowKit Go.Proofs.YtnaaomhmoamfpaaDoorW.PrintWords Go.Proofs.YtnaaomhmoamfpaaDoorW.PrintLast Go.Proofs.YtnaaomhmoamfpaaDoorW.PrintMore

def strings_Trim.f (s cut : ByteArray) : Option ByteArray := if s.size ≤ 9223372036854775807 ∧ cut.size < 4294967281 ∧ ∀ b, b ∈ cut.data.toList → b.toNat < 128 then some ⟨(Lib.trimS s.data.toList cut.data.toList).toArray⟩ else none
theorem strings_Trim.calls (a0 a1 : ByteArray) (r : ByteArray) (w : World) (h : strings_Trim.f a0 a1 = some r) :
    Calls Tryd.prog 82 #[.string a0, .string a1] w fun e w' => e = .returned (.string r) ∧ Below w.heap.size w w' := by
  unfold strings_Trim.f at h
  split at h
  · rename_i hb
    injection h with h
    subst h
    exact Any.strings_Trim_laid Tryd.lays160 (by kernel_rfl) a0 a1 w hb.1 hb.2.1 (fun j b hj => hb.2.2 b (List.mem_of_getElem? hj))
  · cases h

def strings_IndexByte.f (s : ByteArray) (c : Int) : Option Int := some (Lib.indexByte s.data.toList c.toNat.toUInt8)
theorem strings_IndexByte.calls (a0 : ByteArray) (a1 : Int) (r : Int) (w : World) (h : strings_IndexByte.f a0 a1 = some r) :
    Calls Tryd.prog 81 #[.string a0, .int .u8 a1] w fun e w' => e = .returned (.int .i64 r) ∧ Drawn0 w w' := by
  injection h with h
  subst h
  exact (Tryd.strings_IndexByte a0 a1 w).mono fun _ w' ⟨h1, h2⟩ => ⟨h1, by rw [h2]; exact Drawn0.refl _⟩

def slices_Clone_int_int.f (l : List Int) : Option (List Int) := if 0 < l.length ∧ l.length * 8 ≤ 140737488355328 then some l else none
theorem slices_Clone_int_int.calls (A0 : Option Addr) (c0 : Nat) (l0 : List Int) (r : List Int) (w : World) (hr0 : Kd.C (Kd.int .i64) w A0 l0.length l0) (hc0 : l0.length ≤ c0) (h : slices_Clone_int_int.f l0 = some r) :
    Calls Tryd.prog 83 #[.slice A0 l0.length c0] w fun e w' => ∃ v0_ : Value, e = .returned (v0_) ∧ Kd.R (Kd.int .i64) 3 w' w.heap.size (fun _ => True) v0_ r ∧ Below w.heap.size w w' := by
  unfold slices_Clone_int_int.f at h
  split at h
  · rename_i hb
    injection h with h
    subst h
    have hR := Kd.reads_of_C (enc := Value.int .i64) (d := (0 : Int)) (h1 := fun _ => rfl) hr0
    obtain ⟨_, hm, hx⟩ := hR
    obtain ⟨ad, rfl, hc⟩ := hx hb.1
    obtain ⟨b, off, sub⟩ := ad
    have h0 := hc 0 hb.1
    cases sub with
    | some q => simp [World.cell?, Addr.add] at h0; split at h0 <;> cases h0
    | none =>
      refine (Tryd.slices_Clone_int b off l0.length c0 l0 w (Nat.le_refl _) hb.2 (fun j hj => ?_)).mono ?_
      · have := hc j hj
        rwa [show (⟨b, off, none⟩ : Addr).add j = ⟨b, off + j, none⟩ by unfold Addr.add; split <;> simp_all] at this
      · rintro e w' ⟨v, rfl, hown, _, hbel⟩
        refine ⟨v, rfl, Kd.R_of_own (h1 := fun _ => rfl) ?_ (fun _ _ => trivial), hbel⟩
        rw [List.take_of_length_le (Nat.le_refl _)] at hown
        exact hown
  · cases h
end Go.Proofs.YtnaaomhmoamfpaaDoor.G
namespace Go.Proofs.YtnaaomhmoamfpaaDoor.G
end Go.Proofs.YtnaaomhmoamfpaaDoor.G
namespace Go.Proofs.YtnaaomhmoamfpaaDoor.Q
set_option linter.unusedVariables false
set_option linter.unusedSimpArgs false
set_option linter.unusedSectionVars false
open Go.Proofs.YtnaaomhmoamfpaaDoor.G
open Go.RowKit Go.Proofs.YtnaaomhmoamfpaaDoorW.PrintWords Go.Proofs.YtnaaomhmoamfpaaDoorW.PrintLast Go.Proofs.YtnaaomhmoamfpaaDoorW.PrintMore
attribute [local go_sem] max2_int min2_int max_two min_two max_three min_three max_four min_four   -- for this text's walks alone

/-! ### hanoi_CheckRings: function 53 -/
def hanoi_CheckRings.f (a0 : ByteArray) : Option (Int) := if a0.toList = ([] : List UInt8) then (some 31) else (if (a0.size : Int) > 60 then (some 31) else ((strings_Trim.f a0 (⟨#[48, 49]⟩ : ByteArray)).bind fun t146 => (if t146.toList = ([] : List UInt8) then (some 0) else (some 31))))
set_option maxHeartbeats 8000000 in
set_option maxRecDepth 100000 in
theorem hanoi_CheckRings.calls (a0 : ByteArray) (r : Int) (w : World) (h : hanoi_CheckRings.f a0 = some r) :
    Calls Tryd.prog 53 #[.string a0] w fun e w' => e = .returned (.int .i64 r) ∧ Below w.heap.size w w' := by
  have HB := Aside0.mk (Below.refl w.heap.size w)
  have H : (if a0.toList = ([] : List UInt8) then (some 31) else (if (a0.size : Int) > 60 then (some 31) else ((strings_Trim.f a0 (⟨#[48, 49]⟩ : ByteArray)).bind fun t146 => (if t146.toList = ([] : List UInt8) then (some 0) else (some 31))))) = some r := h
  clear h
  by_cases c2 : a0.toList = ([] : List UInt8)
  · rw [if_pos c2] at H
    have c2b0 : (a0.toList == ([] : List UInt8)) = true := beq_iff_eq.mpr c2
    have c2b1 : (a0.toList != ([] : List UInt8)) = false := bne_eq_false_iff_eq.mpr c2
    clear c2
    obtain rfl := Option.some.inj H
    go_enter Tryd.func53, Tryd.ntmps53
    go_wp2
    go_ret
    exact ⟨by first | rfl | (simp [errW_none, errW_some] <;> rfl) | (simp [*, errW_none, errW_some] <;> rfl), by repeat (first | (with_reducible first | exact HB.out | apply below_alloc | apply pw_below_drewN | apply below_drew1) | exact HB.out)⟩
  · rw [if_neg c2] at H
    have c2b0 : (a0.toList == ([] : List UInt8)) = false := beq_eq_false_iff_ne.mpr c2
    have c2b1 : (a0.toList != ([] : List UInt8)) = true := bne_iff_ne.mpr c2
    by_cases c3 : (a0.size : Int) > 60
    · rw [if_pos c3] at H
      have c3b0 : decide (60 < (a0.size : Int)) = true := decide_eq_true c3
      have c3b1 : decide (60 < a0.size) = true := decide_eq_true (by omega)
      clear c3
      obtain rfl := Option.some.inj H
      go_enter Tryd.func53, Tryd.ntmps53
      go_wp2
      go_ret
      exact ⟨by first | rfl | (simp [errW_none, errW_some] <;> rfl) | (simp [*, errW_none, errW_some] <;> rfl), by repeat (first | (with_reducible first | exact HB.out | apply below_alloc | apply pw_below_drewN | apply below_drew1) | exact HB.out)⟩
    · rw [if_neg c3] at H
      have c3b0 : decide (60 < (a0.size : Int)) = false := decide_eq_false c3
      have c3b1 : decide (60 < a0.size) = false := decide_eq_false (by omega)
      clear c3
      replace H := Option.bind_eq_some_iff.mp H
      obtain ⟨t146, A40, H⟩ := H
      replace H : (if t146.toList = ([] : List UInt8) then (some 0) else (some 31)) = some r := H
      have A4 := Aside0.mk A40
      clear A40
      by_cases c5 : t146.toList = ([] : List UInt8)
      · rw [if_pos c5] at H
        have c5b0 : (t146.toList == ([] : List UInt8)) = true := beq_iff_eq.mpr c5
        have c5b1 : (t146.toList != ([] : List UInt8)) = false := bne_eq_false_iff_eq.mpr c5
        clear c5
        obtain rfl := Option.some.inj H
        go_enter Tryd.func53, Tryd.ntmps53
        go_wp2_with (first | (go_at_call 82; (with_reducible refine (strings_Trim.calls a0 (⟨#[48, 49]⟩ : ByteArray) t146 _ A4.out).mono ?_); rintro e w6 ⟨rfl, hb⟩; have n0_ := Aside0.mk (below_step (by repeat (first | (with_reducible first | exact HB.out | apply below_alloc | apply pw_below_drewN | apply below_drew1) | exact HB.out)) hb); clear HB; have HB := n0_; clear n0_; (try clear hb); (try clear hb2); (try clear hk); (try clear hi)))
        go_ret
        exact ⟨by first | rfl | (simp [errW_none, errW_some] <;> rfl) | (simp [*, errW_none, errW_some] <;> rfl), by repeat (first | (with_reducible first | exact HB.out | apply below_alloc | apply pw_below_drewN | apply below_drew1) | exact HB.out)⟩
      · rw [if_neg c5] at H
        have c5b0 : (t146.toList == ([] : List UInt8)) = false := beq_eq_false_iff_ne.mpr c5
        have c5b1 : (t146.toList != ([] : List UInt8)) = true := bne_iff_ne.mpr c5
        obtain rfl := Option.some.inj H
        go_enter Tryd.func53, Tryd.ntmps53
        go_wp2_with (first | (go_at_call 82; (with_reducible refine (strings_Trim.calls a0 (⟨#[48, 49]⟩ : ByteArray) t146 _ A4.out).mono ?_); rintro e w7 ⟨rfl, hb⟩; have n0_ := Aside0.mk (below_step (by repeat (first | (with_reducible first | exact HB.out | apply below_alloc | apply pw_below_drewN | apply below_drew1) | exact HB.out)) hb); clear HB; have HB := n0_; clear n0_; (try clear hb); (try clear hb2); (try clear hk); (try clear hi)))
        go_ret
        exact ⟨by first | rfl | (simp [errW_none, errW_some] <;> rfl) | (simp [*, errW_none, errW_some] <;> rfl), by repeat (first | (with_reducible first | exact HB.out | apply below_alloc | apply pw_below_drewN | apply below_drew1) | exact HB.out)⟩

end Go.Proofs.YtnaaomhmoamfpaaDoor.Q
/- The distances of the tower of Hanoi: plain functions and lemmas, no program in sight. -/
namespace Go.Proofs.YtnaaomhmoamfpaaDoor.Hn
set_option linter.unusedVariables false
set_option linter.unusedSimpArgs false
set_option linter.unusedSectionVars false

/-- distance of the first n discs to all on a peg -/
def tp (s : Nat → Int) : Nat → Int → Int
  | 0, _ => 0
  | n+1, p => if s n = p then tp s n p else 2^n + tp s n (3 - s n - p)

def one (s t : Nat → Int) (k : Nat) : Int := tp s k (3 - s k - t k) + 1 + tp t k (3 - s k - t k)
def two (s t : Nat → Int) (k : Nat) : Int := tp s k (t k) + 1 + (2^k - 1) + 1 + tp t k (s k)

def dst (s t : Nat → Int) : Nat → Int
  | 0 => 0
  | k+1 => if s k = t k then dst s t k else min (one s t k) (two s t k)

def Peg (p : Int) : Prop := 0 ≤ p ∧ p < 3
def Discs (s : Nat → Int) (n : Nat) : Prop := ∀ i, i < n → Peg (s i)

theorem pow_pos' (n : Nat) : (1:Int) ≤ 2^n := by
  induction n with
  | zero => simp
  | succ n ih => rw [Int.pow_succ]; omega

theorem tp_nonneg (s : Nat → Int) (n : Nat) : ∀ p, 0 ≤ tp s n p := by
  induction n with
  | zero => intro p; simp [tp]
  | succ n ih =>
    intro p; unfold tp; split
    · exact ih _
    · have := ih (3 - s n - p); have := pow_pos' n; omega

theorem tp_le (s : Nat → Int) (n : Nat) : ∀ p, tp s n p ≤ 2^n - 1 := by
  induction n with
  | zero => intro p; simp [tp]
  | succ n ih =>
    intro p; unfold tp; have := pow_pos' n; rw [Int.pow_succ]; split
    · have := ih p; omega
    · have := ih (3 - s n - p); omega

/-- sum over the three pegs -/
theorem tp_sum (s : Nat → Int) (n : Nat) (h : Discs s n) : tp s n 0 + tp s n 1 + tp s n 2 = 2 * (2^n - 1) := by
  induction n with
  | zero => simp [tp]
  | succ n ih =>
    have ih := ih (fun i hi => h i (by omega))
    have hp := h n (by omega); unfold Peg at hp
    unfold tp; rw [Int.pow_succ]
    have : s n = 0 ∨ s n = 1 ∨ s n = 2 := by omega
    rcases this with e | e | e <;> simp [e] <;> omega


/-- all of the first n discs on peg r -/
def On (s : Nat → Int) (n : Nat) (r : Int) : Prop := ∀ i, i < n → s i = r

theorem tp_on {s : Nat → Int} {n : Nat} {r : Int} (h : On s n r) : tp s n r = 0 := by
  induction n with
  | zero => rfl
  | succ n ih => unfold tp; rw [if_pos (h n (by omega))]; exact ih (fun i hi => h i (by omega))


theorem tp_on_ne {s : Nat → Int} {n : Nat} {r p : Int} (h : On s n r) (hr : p ≠ r) (h1 : Peg r) (h2 : Peg p) : tp s n p = 2^n - 1 := by
  induction n generalizing p with
  | zero => simp [tp]
  | succ n ih =>
    unfold tp; rw [if_neg (by rw [h n (by omega)]; omega), h n (by omega)]
    have h' : On s n r := fun i hi => h i (by omega)
    unfold Peg at h1 h2
    rw [Int.pow_succ]
    rw [ih h' (by omega) (by unfold Peg; omega)]; omega

def upd (s : Nat → Int) (d : Nat) (q : Int) : Nat → Int := fun i => if i = d then q else s i
theorem upd_same (s : Nat → Int) (d : Nat) (q : Int) : upd s d q d = q := by simp [upd]
theorem upd_other (s : Nat → Int) {d i : Nat} (q : Int) (h : i ≠ d) : upd s d q i = s i := by simp [upd, h]

/-- tp looks only below n -/
theorem tp_congr {s t : Nat → Int} {n : Nat} (h : ∀ i, i < n → s i = t i) : ∀ p, tp s n p = tp t n p := by
  induction n with
  | zero => intro p; rfl
  | succ n ih =>
    intro p
    have ih := ih (fun i hi => h i (by omega))
    unfold tp; rw [h n (by omega), ih p, ih (3 - t n - p)]

theorem dst_congr {s s' t t' : Nat → Int} {n : Nat} (h : ∀ i, i < n → s i = s' i) (h' : ∀ i, i < n → t i = t' i) : dst s t n = dst s' t' n := by
  induction n with
  | zero => rfl
  | succ n ih =>
    have ih := ih (fun i hi => h i (by omega)) (fun i hi => h' i (by omega))
    have e1 := tp_congr (n := n) (fun i hi => h i (by omega))
    have e2 := tp_congr (n := n) (fun i hi => h' i (by omega))
    unfold dst one two; rw [h n (by omega), h' n (by omega), ih]; simp only [e1, e2]

/-- a disc can go to a peg -/
structure Can (s : Nat → Int) (n d : Nat) (q : Int) : Prop where
  lt : d < n
  peg : Peg q
  ne : s d ≠ q
  free : ∀ i, i < d → s i ≠ s d ∧ s i ≠ q

theorem Can.on {s : Nat → Int} {n d : Nat} {q : Int} (h : Can s n d q) (hs : Discs s n) : On s d (3 - s d - q) := fun i hi => by
  have a := hs i (by have := h.lt; omega); have b := hs d h.lt; have c := h.peg; have e := h.ne; have f := h.free i hi
  unfold Peg at a b c; omega

theorem upd_below (s : Nat → Int) (d : Nat) (q : Int) : ∀ i, i < d → upd s d q i = s i := fun i hi => upd_other s q (by omega)

theorem tp_move {s : Nat → Int} {d : Nat} {q : Int} (hq : Peg q) (n : Nat) (hd : d < n) (hs : Discs s n) (hne : s d ≠ q) (hon : On s d (3 - s d - q)) : ∀ p, Peg p →
    tp (upd s d q) n p ≤ tp s n p + 1 ∧ tp s n p ≤ tp (upd s d q) n p + 1 := by
  induction n with
  | zero => omega
  | succ n ih =>
    intro p hp
    by_cases e : d = n
    · subst e
      have hsd := hs d (by omega)
      have hc := tp_congr (upd_below s d q)
      have w := pow_pos' d
      unfold tp; rw [upd_same]; simp only [hc]
      have hr : Peg (3 - s d - q) := by unfold Peg at *; omega
      by_cases e1 : s d = p
      · subst e1
        rw [if_pos rfl, if_neg (by omega), tp_on_ne hon (by unfold Peg at *; omega) hr hp, show 3 - q - s d = 3 - s d - q by omega, tp_on hon]; omega
      · by_cases e2 : q = p
        · subst e2
          rw [if_neg e1, if_pos rfl, tp_on_ne hon (by unfold Peg at *; omega) hr hp, tp_on hon]; omega
        · have : p = 3 - s d - q := by unfold Peg at *; omega
          subst this
          rw [if_neg e1, if_neg e2, tp_on_ne hon (by unfold Peg at *; omega) hr (by unfold Peg at *; omega), tp_on_ne hon (by unfold Peg at *; omega) hr (by unfold Peg at *; omega)]; omega
    · have ih := ih (by omega) (fun i hi => hs i (by omega))
      have hsn := hs n (by omega)
      unfold tp; rw [upd_other _ _ (by omega)]
      split
      · exact ih p hp
      · have := ih (3 - s n - p) (by unfold Peg at *; omega); omega

theorem dst_symm (s t : Nat → Int) (n : Nat) : dst s t n = dst t s n := by
  induction n with
  | zero => rfl
  | succ n ih =>
    unfold dst
    by_cases e : s n = t n
    · rw [if_pos e, if_pos e.symm, ih]
    · rw [if_neg e, if_neg (fun h => e h.symm)]
      unfold one two
      rw [show 3 - t n - s n = 3 - s n - t n by omega]; omega

/-- to all on one peg -/
theorem dst_on {s t : Nat → Int} {n : Nat} {p : Int} (hs : Discs s n) (hp : Peg p) (ht : On t n p) : dst s t n = tp s n p := by
  induction n with
  | zero => rfl
  | succ n ih =>
    have ht' : On t n p := fun i hi => ht i (by omega)
    have hsn := hs n (by omega)
    unfold dst tp
    rw [ht n (by omega), ih (fun i hi => hs i (by omega)) ht']
    by_cases e : s n = p
    · rw [if_pos e, if_pos e]
    · rw [if_neg e, if_neg e]
      unfold one two
      have h1 : Peg (3 - s n - p) := by unfold Peg at *; omega
      rw [ht n (by omega), tp_on_ne ht' (by unfold Peg at *; omega) hp h1, tp_on_ne ht' (by unfold Peg at *; omega) hp hsn]
      have := tp_nonneg s n p
      have := tp_le s n (3 - s n - p)
      omega

/-- discs above k are alike, and disc k is not -/
theorem dst_top {s t : Nat → Int} {n k : Nat} (hk : k < n) (he : ∀ i, k < i → i < n → s i = t i) (hne : s k ≠ t k) : dst s t n = min (one s t k) (two s t k) := by
  induction n with
  | zero => omega
  | succ n ih =>
    unfold dst
    by_cases e : k = n
    · subst e; rw [if_neg hne]
    · rw [if_pos (he n (by omega) (by omega))]; exact ih (by omega) (fun i h1 h2 => he i h1 (by omega))

theorem dst_same {s t : Nat → Int} {n : Nat} (he : ∀ i, i < n → s i = t i) : dst s t n = 0 := by
  induction n with
  | zero => rfl
  | succ n ih => unfold dst; rw [if_pos (he n (by omega))]; exact ih (fun i hi => he i (by omega))

theorem dst_nonneg (s t : Nat → Int) (n : Nat) : 0 ≤ dst s t n := by
  induction n with
  | zero => simp [dst]
  | succ n ih =>
    unfold dst; split
    · exact ih
    · unfold one two
      have := tp_nonneg s n; have := tp_nonneg t n; have := pow_pos' n
      have h1 := tp_nonneg s n (3 - s n - t n); have h2 := tp_nonneg t n (3 - s n - t n); have h3 := tp_nonneg s n (t n); have h4 := tp_nonneg t n (s n)
      omega

theorem dst_zero {s t : Nat → Int} {n : Nat} (h : dst s t n = 0) : ∀ i, i < n → s i = t i := by
  induction n with
  | zero => intro i hi; omega
  | succ n ih =>
    unfold dst at h
    split at h
    · intro i hi
      by_cases e : i = n
      · subst e; assumption
      · exact ih h i (by omega)
    · exfalso
      unfold one two at h
      have := pow_pos' n
      have h1 := tp_nonneg s n (3 - s n - t n); have h2 := tp_nonneg t n (3 - s n - t n); have h3 := tp_nonneg s n (t n); have h4 := tp_nonneg t n (s n)
      omega

/-- alike above m: only what lies at or below m counts -/
theorem dst_up {s t : Nat → Int} {n m : Nat} (hm : m ≤ n) (he : ∀ i, m ≤ i → i < n → s i = t i) : dst s t n = dst s t m := by
  induction n with
  | zero => have : m = 0 := by omega
            subst this; rfl
  | succ n ih =>
    by_cases e : m = n + 1
    · subst e; rfl
    · rw [dst, if_pos (he n (by omega) (by omega))]; exact ih (by omega) (fun i h1 h2 => he i h1 (by omega))

theorem top_or_same (s t : Nat → Int) (n : Nat) : (∀ i, i < n → s i = t i) ∨ ∃ k, k < n ∧ (∀ i, k < i → i < n → s i = t i) ∧ s k ≠ t k := by
  induction n with
  | zero => left; intro i hi; omega
  | succ n ih =>
    by_cases e : s n = t n
    · rcases ih with h | ⟨k, h1, h2, h3⟩
      · left; intro i hi
        by_cases e' : i = n
        · subst e'; exact e
        · exact h i (by omega)
      · right; refine ⟨k, by omega, fun i a b => ?_, h3⟩
        by_cases e' : i = n
        · subst e'; exact e
        · exact h2 i a (by omega)
    · right; exact ⟨n, by omega, fun i a b => by omega, e⟩

/-- a disc moved away from where t has it: one step farther -/
theorem dst_away {s t : Nat → Int} {d : Nat} {q : Int} (hq : Peg q) (hsd : Peg (s d)) (ht : Discs t d) (hne : s d ≠ q) (hon : On s d (3 - s d - q)) (he : s d = t d) :
    dst (upd s d q) t (d + 1) = dst s t (d + 1) + 1 := by
  have hr : Peg (3 - s d - q) := by unfold Peg at *; omega
  have hc := tp_congr (upd_below s d q)
  have h0 : dst s t (d+1) = tp t d (3 - s d - q) := by
    unfold dst; rw [if_pos he, dst_symm]; exact dst_on ht hr hon
  rw [h0]; unfold dst; rw [upd_same, if_neg (by omega)]
  unfold one two; rw [upd_same, hc, hc, ← he, show 3 - q - s d = 3 - s d - q by omega, tp_on hon]
  rw [tp_on_ne hon (by unfold Peg at *; omega) hr hsd]
  have := tp_le t d (3 - s d - q); have := tp_nonneg t d q
  have := pow_pos' d
  omega

theorem dst_move {s t : Nat → Int} {d : Nat} {q : Int} (n : Nat) (hs : Discs s n) (ht : Discs t n) (hm : Can s n d q) :
    dst (upd s d q) t n ≤ dst s t n + 1 ∧ dst s t n ≤ dst (upd s d q) t n + 1 := by
  have hon := hm.on hs
  have hd := hm.lt
  have hq := hm.peg
  have hne := hm.ne
  have hsd := hs d hd
  have hab : ∀ i, d + 1 ≤ i → upd s d q i = s i := fun i hi => upd_other s q (by omega)
  -- the discs above d
  rcases top_or_same s t n with h | ⟨k, hk, h2, h3⟩
  · have e1 : dst s t n = dst s t (d+1) := dst_up (by omega) (fun i _ b => h i b)
    have e2 : dst (upd s d q) t n = dst (upd s d q) t (d+1) := dst_up (by omega) (fun i a b => by rw [hab i a]; exact h i b)
    rw [e1, e2, dst_away hq hsd (fun i hi => ht i (by omega)) hne hon (h d hd)]; omega
  · by_cases c1 : d < k
    · have hk' : upd s d q k = s k := hab k (by omega)
      rw [dst_top hk h2 h3, dst_top (s := upd s d q) hk (fun i a b => by rw [hab i (by omega)]; exact h2 i a b) (by rw [hk']; exact h3)]
      unfold one two; rw [hk']
      have sk := hs k hk; have tk := ht k hk
      have := tp_move hq k c1 (fun i hi => hs i (by omega)) hne hon (3 - s k - t k) (by unfold Peg at *; omega)
      have := tp_move hq k c1 (fun i hi => hs i (by omega)) hne hon (t k) tk
      omega
    · by_cases c2 : k < d
      · have e1 : dst s t n = dst s t (d+1) := dst_up (by omega) (fun i a b => h2 i (by omega) b)
        have e2 : dst (upd s d q) t n = dst (upd s d q) t (d+1) := dst_up (by omega) (fun i a b => by rw [hab i a]; exact h2 i (by omega) b)
        rw [e1, e2, dst_away hq hsd (fun i hi => ht i (by omega)) hne hon (h2 d c2 hd)]; omega
      · have : k = d := by omega
        subst this
        have hc := tp_congr (upd_below s k q)
        by_cases c3 : q = t k
        · -- back to where t has it
          have hon' : On (upd s k q) k (3 - upd s k q k - s k) := fun i hi => by rw [upd_same, upd_below s k q i hi, hon i hi]; omega
          have e1 : dst s t n = dst s t (k+1) := dst_up (by omega) (fun i a b => h2 i (by omega) b)
          have e2 : dst (upd s k q) t n = dst (upd s k q) t (k+1) := dst_up (by omega) (fun i a b => by rw [hab i a]; exact h2 i (by omega) b)
          have := dst_away (s := upd s k q) (t := t) (d := k) (q := s k) hsd (by rw [upd_same]; exact hq) (fun i hi => ht i (by omega)) (by rw [upd_same]; omega) hon' (by rw [upd_same]; exact c3)
          have e3 : dst (upd (upd s k q) k (s k)) t (k+1) = dst s t (k+1) := dst_congr (fun i hi => by
            by_cases e : i = k
            · subst e; rw [upd_same]
            · rw [upd_other _ _ e, upd_other _ _ e]) (fun i _ => rfl)
          rw [e1, e2, ← e3, this]; omega
        · have tk := ht k hd
          have ek : t k = 3 - s k - q := by unfold Peg at *; omega
          rw [dst_top hk h2 h3, dst_top (s := upd s k q) hk (fun i a b => by rw [hab i (by omega)]; exact h2 i a b) (by rw [upd_same]; exact c3)]
          have hr : Peg (3 - s k - q) := by unfold Peg at *; omega
          unfold one two; rw [upd_same]; simp only [hc]
          rw [ek, show 3 - s k - (3 - s k - q) = q by omega, show 3 - q - (3 - s k - q) = s k by omega, tp_on hon, tp_on_ne hon (by unfold Peg at *; omega) hr hq, tp_on_ne hon (by unfold Peg at *; omega) hr hsd]
          omega

/-! ### ways -/
inductive Way (n : Nat) : (Nat → Int) → (Nat → Int) → Nat → Prop
  | nil (s) : Way n s s 0
  | cons {s u : Nat → Int} {d : Nat} {q : Int} {m : Nat} (h : Can s n d q) (w : Way n (upd s d q) u m) : Way n s u (m+1)

theorem Way.trans {n : Nat} {s t u : Nat → Int} {a b : Nat} (h : Way n s t a) (k : Way n t u b) : Way n s u (a + b) := by
  induction h with
  | nil => simpa using k
  | cons h w ih => rw [Nat.add_right_comm]; exact .cons h (ih k)

theorem upd_upd (s : Nat → Int) (d : Nat) (q p : Int) : upd (upd s d q) d p = upd s d p := by
  funext i; unfold upd; split <;> rfl
theorem upd_self (s : Nat → Int) (d : Nat) : upd s d (s d) = s := by
  funext i; unfold upd; split
  · subst_vars; rfl
  · rfl

theorem Can.disc {s : Nat → Int} {n d : Nat} {q : Int} (h : Can s n d q) (hs : Discs s n) : Discs (upd s d q) n := fun i hi => by
  by_cases e : i = d
  · subst e; rw [upd_same]; exact h.peg
  · rw [upd_other _ _ e]; exact hs i hi

theorem Can.back {s : Nat → Int} {n d : Nat} {q : Int} (h : Can s n d q) (hs : Discs s n) : Can (upd s d q) n d (s d) :=
  ⟨h.lt, hs d h.lt, by rw [upd_same]; exact fun e => h.ne e.symm, fun i hi => by rw [upd_same, upd_below s d q i hi]; exact (h.free i hi).symm⟩

theorem Way.back {n : Nat} {s t : Nat → Int} {a : Nat} (h : Way n s t a) (hs : Discs s n) : Way n t s a := by
  induction h with
  | nil => exact .nil _
  | @cons s u d q m h w ih =>
    have := (ih (h.disc hs)).trans (.cons (h.back hs) (by rw [upd_upd, upd_self]; exact .nil _))
    simpa using this

theorem Way.discs {n : Nat} {s t : Nat → Int} {a : Nat} (h : Way n s t a) (hs : Discs s n) : Discs t n := by
  induction h with
  | nil => exact hs
  | cons h w ih => exact ih (h.disc hs)

theorem Can.mono {s : Nat → Int} {n m d : Nat} {q : Int} (h : Can s n d q) (hm : n ≤ m) : Can s m d q := ⟨by have := h.lt; omega, h.peg, h.ne, h.free⟩
theorem Way.mono {n m : Nat} {s t : Nat → Int} {a : Nat} (h : Way n s t a) (hm : n ≤ m) : Way m s t a := by
  induction h with
  | nil => exact .nil _
  | cons h w ih => exact .cons (h.mono hm) ih
theorem Way.above {n : Nat} {s t : Nat → Int} {a : Nat} (h : Way n s t a) : ∀ i, n ≤ i → t i = s i := by
  induction h with
  | nil => intro i _; rfl
  | cons h w ih => intro i hi; rw [ih i hi, upd_other _ _ (by have := h.lt; omega)]

/-- the first n discs on peg p, the others as they lie -/
def gath (s : Nat → Int) (n : Nat) (p : Int) : Nat → Int := fun i => if i < n then p else s i

theorem gath_on (s : Nat → Int) (n : Nat) (p : Int) : On (gath s n p) n p := fun i hi => by simp [gath, hi]
theorem gath_above (s : Nat → Int) (n : Nat) (p : Int) {i : Nat} (h : n ≤ i) : gath s n p i = s i := by simp [gath]; intro h'; omega

theorem way_on (n : Nat) : ∀ (s : Nat → Int) (p : Int), Discs s n → Peg p → Way n s (gath s n p) (tp s n p).toNat := by
  induction n with
  | zero => intro s p _ _; have e : gath s 0 p = s := by funext i; simp [gath]
            rw [e]; exact .nil _
  | succ n ih =>
    intro s p hs hp
    have hs' : Discs s n := fun i hi => hs i (by omega)
    have hsn := hs n (by omega)
    unfold tp
    split
    · rename_i e
      have e' : gath s (n+1) p = gath s n p := by
        funext i; unfold gath
        by_cases h1 : i < n
        · rw [if_pos (by omega), if_pos h1]
        · by_cases h2 : i = n
          · subst h2; rw [if_pos (by omega), if_neg h1, e]
          · rw [if_neg (by omega), if_neg h1]
      rw [e']; exact (ih s p hs' hp).mono (by omega)
    · rename_i e
      have hr : Peg (3 - s n - p) := by unfold Peg at *; omega
      have w1 := (ih s _ hs' hr).mono (m := n+1) (by omega)
      have hon := gath_on s n (3 - s n - p)
      have hn : gath s n (3 - s n - p) n = s n := gath_above _ _ _ (Nat.le_refl _)
      have hc : Can (gath s n (3 - s n - p)) (n+1) n p := ⟨by omega, hp, by rw [hn]; exact e, fun i hi => by rw [hn, hon i hi]; unfold Peg at *; omega⟩
      have hon2 : On (upd (gath s n (3 - s n - p)) n p) n (3 - s n - p) := fun i hi => by rw [upd_below _ _ _ i hi]; exact hon i hi
      have w2 := (ih (upd (gath s n (3 - s n - p)) n p) p (fun i hi => by rw [hon2 i hi]; exact hr) hp).mono (m := n+1) (by omega)
      rw [tp_on_ne hon2 (by unfold Peg at *; omega) hr hp] at w2
      have ee : gath (upd (gath s n (3 - s n - p)) n p) n p = gath s (n+1) p := by
        funext i; unfold gath
        by_cases h1 : i < n
        · rw [if_pos h1, if_pos (by omega)]
        · by_cases h2 : i = n
          · subst h2; rw [if_neg h1, if_pos (by omega), upd_same]
          · rw [if_neg h1, if_neg (by omega), upd_other _ _ h2, if_neg h1]
      rw [ee] at w2
      have := w1.trans (.cons hc w2)
      have a := tp_nonneg s n (3 - s n - p); have b := pow_pos' n
      have en : (2 ^ n + tp s n (3 - s n - p)).toNat = (tp s n (3 - s n - p)).toNat + ((2 ^ n - 1 : Int).toNat + 1) := by omega
      rw [en]; exact this

theorem gath_same {s t : Nat → Int} {n : Nat} (h : ∀ i, n ≤ i → s i = t i) (p : Int) : gath s n p = gath t n p := by
  funext i; unfold gath; split
  · rfl
  · exact h i (by omega)

/-- there is a way of that length, if the discs from n on are alike -/
theorem way_dst (n : Nat) : ∀ (s t : Nat → Int), Discs s n → Discs t n → (∀ i, n ≤ i → s i = t i) → Way n s t (dst s t n).toNat := by
  induction n with
  | zero => intro s t _ _ h; have : s = t := by funext i; exact h i (by omega)
            subst this; exact .nil _
  | succ n ih =>
    intro s t hs ht h
    have hs' : Discs s n := fun i hi => hs i (by omega)
    have ht' : Discs t n := fun i hi => ht i (by omega)
    have hsn := hs n (by omega); have htn := ht n (by omega)
    unfold dst
    split
    · rename_i e
      exact (ih s t hs' ht' (fun i hi => by
        by_cases e' : i = n
        · subst e'; exact e
        · exact h i (by omega))).mono (by omega)
    · rename_i e
      have hr : Peg (3 - s n - t n) := by unfold Peg at *; omega
      have a1 := tp_nonneg s n (3 - s n - t n); have a2 := tp_nonneg t n (3 - s n - t n); have a3 := tp_nonneg s n (t n); have a4 := tp_nonneg t n (s n); have b := pow_pos' n
      -- one great move, from u (disc n on peg a) with all smaller ones on r to peg c
      have great : ∀ (u : Nat → Int) (r c : Int), On u n r → u n ≠ r → c ≠ r → u n ≠ c → Peg c → Way (n+1) u (upd u n c) 1 := fun u r c hon h1 h2 h3 h4 =>
        .cons ⟨by omega, h4, h3, fun i hi => by rw [hon i hi]; exact ⟨fun e => h1 e.symm, fun e => h2 e.symm⟩⟩ (.nil _)
      have w1 : Way (n+1) s t (one s t n).toNat := by
        have x1 := (way_on n s _ hs' hr).mono (m := n+1) (by omega)
        have x2 := great (gath s n (3 - s n - t n)) _ (t n) (gath_on _ _ _) (by rw [gath_above _ _ _ (Nat.le_refl _)]; unfold Peg at *; omega) (by unfold Peg at *; omega) (by rw [gath_above _ _ _ (Nat.le_refl _)]; exact e) htn
        have x3 := ((way_on n t _ ht' hr).mono (m := n+1) (by omega)).back ht
        have ee : upd (gath s n (3 - s n - t n)) n (t n) = gath t n (3 - s n - t n) := by
          funext i
          by_cases e1 : i = n
          · subst e1; rw [upd_same, gath_above _ _ _ (Nat.le_refl _)]
          · rw [upd_other _ _ e1]; unfold gath; split
            · rfl
            · exact h i (by omega)
        rw [ee] at x2
        have := (x1.trans x2).trans x3
        rw [show (one s t n).toNat = (tp s n (3 - s n - t n)).toNat + 1 + (tp t n (3 - s n - t n)).toNat by unfold one; omega]
        exact this
      have w2 : Way (n+1) s t (two s t n).toNat := by
        have x1 := (way_on n s _ hs' htn).mono (m := n+1) (by omega)
        have x2 := great (gath s n (t n)) _ (3 - s n - t n) (gath_on _ _ _) (by rw [gath_above _ _ _ (Nat.le_refl _)]; exact e) (by unfold Peg at *; omega) (by rw [gath_above _ _ _ (Nat.le_refl _)]; unfold Peg at *; omega) hr
        have hon2 : On (upd (gath s n (t n)) n (3 - s n - t n)) n (t n) := fun i hi => by rw [upd_below _ _ _ i hi]; exact gath_on _ _ _ i hi
        have x3 := (way_on n (upd (gath s n (t n)) n (3 - s n - t n)) (s n) (fun i hi => by rw [hon2 i hi]; exact htn) hsn).mono (m := n+1) (by omega)
        rw [tp_on_ne hon2 e htn hsn] at x3
        have n3 : gath (upd (gath s n (t n)) n (3 - s n - t n)) n (s n) n = 3 - s n - t n := by rw [gath_above _ _ _ (Nat.le_refl _), upd_same]
        have x4 := great (gath (upd (gath s n (t n)) n (3 - s n - t n)) n (s n)) _ (t n) (gath_on _ _ _) (by rw [n3]; unfold Peg at *; omega) (fun h => e h.symm) (by rw [n3]; unfold Peg at *; omega) htn
        have x5 := ((way_on n t _ ht' hsn).mono (m := n+1) (by omega)).back ht
        have ee : upd (gath (upd (gath s n (t n)) n (3 - s n - t n)) n (s n)) n (t n) = gath t n (s n) := by
          funext i
          by_cases e1 : i = n
          · subst e1; rw [upd_same, gath_above _ _ _ (Nat.le_refl _)]
          · rw [upd_other _ _ e1]
            unfold gath
            split
            · rfl
            · rw [upd_other _ _ e1, if_neg (by omega)]; exact h i (by omega)
        rw [ee] at x4
        have := (((x1.trans x2).trans x3).trans x4).trans x5
        rw [show (two s t n).toNat = (tp s n (t n)).toNat + 1 + (2 ^ n - 1 : Int).toNat + 1 + (tp t n (s n)).toNat by unfold two; omega]
        exact this
      by_cases c : one s t n ≤ two s t n
      · rw [Int.min_eq_left c]; exact w1
      · rw [Int.min_eq_right (by omega)]; exact w2

theorem dst_way {n : Nat} {s u : Nat → Int} {m : Nat} (w : Way n s u m) (t : Nat → Int) (hs : Discs s n) (ht : Discs t n) : dst s t n ≤ dst u t n + m := by
  induction w with
  | nil => simp
  | cons h w ih => have := (dst_move n hs ht h).2; have := ih (h.disc hs); omega

theorem dst_tri (n : Nat) (x y z : Nat → Int) (hx : Discs x n) (hy : Discs y n) (hz : Discs z n) : dst x y n ≤ dst x z n + dst z y n := by
  -- z, but as x above n
  let z' : Nat → Int := fun i => if i < n then z i else x i
  have hz' : ∀ i, i < n → z i = z' i := fun i hi => by simp [z', hi]
  have e1 : dst x z n = dst x z' n := dst_congr (fun _ _ => rfl) hz'
  have e2 : dst z y n = dst z' y n := dst_congr hz' (fun _ _ => rfl)
  have w := way_dst n x z' hx (fun i hi => by rw [← hz' i hi]; exact hz i hi) (fun i hi => by simp [z']; intro; omega)
  have := dst_way w y hx hy
  have := dst_nonneg x z' n
  rw [e1, e2]; omega

/-- the greatest distance -/
def far (s : Nat → Int) (n : Nat) : Int := max (tp s n 0) (max (tp s n 1) (tp s n 2))

theorem far_ge (s : Nat → Int) (n : Nat) {p : Int} (hp : Peg p) : tp s n p ≤ far s n := by
  unfold Peg at hp; unfold far
  have : p = 0 ∨ p = 1 ∨ p = 2 := by omega
  rcases this with e | e | e <;> subst e <;> omega

theorem dst_far (s t : Nat → Int) (n : Nat) (hs : Discs s n) (ht : Discs t n) : dst s t n ≤ far s n := by
  induction n with
  | zero => simp [dst, far, tp]
  | succ n ih =>
    have ih := ih (fun i hi => hs i (by omega)) (fun i hi => ht i (by omega))
    have hsn := hs n (by omega); have htn := ht n (by omega)
    have key : ∀ p, Peg p → p ≠ s n → 2^n + tp s n (3 - s n - p) ≤ far s (n+1) := fun p hp hne => by
      have := far_ge s (n+1) hp
      rw [tp, if_neg (fun e => hne e.symm)] at this; exact this
    unfold dst; split
    · have : far s n ≤ 2^n := by
        have := tp_le s n 0; have := tp_le s n 1; have := tp_le s n 2; unfold far; omega
      obtain ⟨p, hp, hne⟩ : ∃ p, Peg p ∧ p ≠ s n := by
        by_cases e : s n = 0
        · exact ⟨1, by unfold Peg; omega, by omega⟩
        · exact ⟨0, by unfold Peg; omega, by omega⟩
      have h1 := key p hp hne
      have h2 := tp_nonneg s n (3 - s n - p)
      omega
    · rename_i e
      have h1 := key (t n) htn (fun h => e h.symm)
      have h2 := tp_le t n (3 - s n - t n)
      unfold one
      omega

theorem far_met (s : Nat → Int) (n : Nat) (hs : Discs s n) : ∃ p, Peg p ∧ dst s (fun _ => p) n = far s n := by
  have h := fun p (hp : Peg p) => dst_on (t := fun _ => p) hs hp (fun _ _ => rfl)
  by_cases a : tp s n 1 ≤ tp s n 0 ∧ tp s n 2 ≤ tp s n 0
  · exact ⟨0, by unfold Peg; omega, by rw [h 0 (by unfold Peg; omega)]; unfold far; omega⟩
  · by_cases b : tp s n 0 ≤ tp s n 1 ∧ tp s n 2 ≤ tp s n 1
    · exact ⟨1, by unfold Peg; omega, by rw [h 1 (by unfold Peg; omega)]; unfold far; omega⟩
    · exact ⟨2, by unfold Peg; omega, by rw [h 2 (by unfold Peg; omega)]; unfold far; omega⟩

/-- renaming the pegs -/
theorem tp_name {f : Int → Int} {s : Nat → Int} {n : Nat} (hs : Discs s n) (inj : ∀ a b, Peg a → Peg b → f a = f b → a = b) (hf : ∀ a, Peg a → Peg (f a)) : ∀ p, Peg p → tp (fun i => f (s i)) n (f p) = tp s n p := by
  induction n with
  | zero => intro p _; rfl
  | succ n ih =>
    intro p hp
    have ih := ih (fun i hi => hs i (by omega))
    have hsn := hs n (by omega)
    unfold tp
    by_cases e : s n = p
    · rw [if_pos e, if_pos (by rw [e]), ih p hp]
    · have hr : Peg (3 - s n - p) := by unfold Peg at *; omega
      have h1 : f (s n) ≠ f p := fun h => e (inj _ _ hsn hp h)
      rw [if_neg e, if_neg h1]
      have e3 : 3 - f (s n) - f p = f (3 - s n - p) := by
        have q1 := hf _ hsn; have q2 := hf _ hp; have q3 := hf _ hr
        have n1 : f (3 - s n - p) ≠ f (s n) := fun h => by have := inj _ _ hr hsn h; unfold Peg at *; omega
        have n2 : f (3 - s n - p) ≠ f p := fun h => by have := inj _ _ hr hp h; unfold Peg at *; omega
        unfold Peg at q1 q2 q3; omega
      rw [e3, ih _ hr]

theorem dst_name {f : Int → Int} {s t : Nat → Int} {n : Nat} (hs : Discs s n) (ht : Discs t n) (inj : ∀ a b, Peg a → Peg b → f a = f b → a = b) (hf : ∀ a, Peg a → Peg (f a)) : dst (fun i => f (s i)) (fun i => f (t i)) n = dst s t n := by
  induction n with
  | zero => rfl
  | succ n ih =>
    have hs' : Discs s n := fun i hi => hs i (by omega)
    have ht' : Discs t n := fun i hi => ht i (by omega)
    have hsn := hs n (by omega); have htn := ht n (by omega)
    unfold dst; rw [ih hs' ht']
    by_cases e : s n = t n
    · rw [if_pos e, if_pos (by rw [e])]
    · have hr : Peg (3 - s n - t n) := by unfold Peg at *; omega
      rw [if_neg e, if_neg (fun h => e (inj _ _ hsn htn h))]
      have e3 : 3 - f (s n) - f (t n) = f (3 - s n - t n) := by
        have q1 := hf _ hsn; have q2 := hf _ htn; have q3 := hf _ hr
        have n1 : f (3 - s n - t n) ≠ f (s n) := fun h => by have := inj _ _ hr hsn h; unfold Peg at *; omega
        have n2 : f (3 - s n - t n) ≠ f (t n) := fun h => by have := inj _ _ hr htn h; unfold Peg at *; omega
        have n3 : f (s n) ≠ f (t n) := fun h => e (inj _ _ hsn htn h)
        unfold Peg at q1 q2 q3; omega
      unfold one two
      rw [e3, tp_name hs' inj hf _ hr, tp_name ht' inj hf _ hr, tp_name hs' inj hf _ htn, tp_name ht' inj hf _ hsn]
end Go.Proofs.YtnaaomhmoamfpaaDoor.Hn
namespace Go.Proofs.YtnaaomhmoamfpaaDoor.G
end Go.Proofs.YtnaaomhmoamfpaaDoor.G
namespace Go.Proofs.YtnaaomhmoamfpaaDoor.Q
set_option linter.unusedVariables false
set_option linter.unusedSimpArgs false
set_option linter.unusedSectionVars false
open Go.Proofs.YtnaaomhmoamfpaaDoor.G
open Go.RowKit Go.Proofs.YtnaaomhmoamfpaaDoorW.PrintWords Go.Proofs.YtnaaomhmoamfpaaDoorW.PrintLast Go.Proofs.YtnaaomhmoamfpaaDoorW.PrintMore
attribute [local go_sem] max2_int min2_int max_two min_two max_three min_three max_four min_four   -- for this text's walks alone

/-! ### bibelotref03_To: function 77 -/
def bibelotref03_To.l0 : Nat → List Int → Int → Int → Int → Option (Int)
  | 0, _, _, _, _ => none
  | k + 1, x0, x1, x5, x6 => if x6 ≥ 0 then (if 0 ≤ x6 then (if x6 < (x0.length : Int) then (if (rd x0 x6) = x1 then (bibelotref03_To.l0 k x0 x1 x5 (wrap64 (x6 - 1))) else (bibelotref03_To.l0 k x0 (wrap64 ((wrap64 (3 - x1)) - (rd x0 x6))) (wrap64 (x5 + (shl .i64 1 x6))) (wrap64 (x6 - 1)))) else (none)) else (none)) else (some x5)
def bibelotref03_To.f (k : Nat) (l0 : List Int) (a1 : Int) : Option (Int) := bibelotref03_To.l0 k l0 a1 0 (wrap64 ((l0.length : Int) - 1))
theorem bibelotref03_To.mono_l : ∀ k, (∀ y0 y1 y2 y3, LeO (bibelotref03_To.l0 k y0 y1 y2 y3) (bibelotref03_To.l0 (k + 1) y0 y1 y2 y3))
  | 0 => fun _ _ _ _ r h => by simp [bibelotref03_To.l0] at h
  | k + 1 => by
    have ih0 := bibelotref03_To.mono_l k
    · intro y0 y1 y2 y3
      unfold bibelotref03_To.l0
      repeat' first
      | (with_reducible exact ih0 _ _ _ _)
      | (with_reducible exact LeO.refl _)
      | (with_reducible exact LeO.none _)
      | (with_reducible refine LeO.ite ?_ ?_)
      | (with_reducible refine LeO.bind ?_ (fun _ => ?_))
      | exact ih0 _ _ _ _
      | exact LeO.none _
      | refine LeO.ite ?_ ?_
      | refine LeO.bind ?_ (fun _ => ?_)
theorem bibelotref03_To.mono : ∀ a0 a1 k, LeO (bibelotref03_To.f k a0 a1) (bibelotref03_To.f (k + 1) a0 a1) := by
  intro a0 a1 k
  have ih0 := bibelotref03_To.mono_l k
  unfold bibelotref03_To.f
  repeat' first
      | (with_reducible exact ih0 _ _ _ _)
      | (with_reducible exact LeO.refl _)
      | (with_reducible exact LeO.none _)
      | (with_reducible refine LeO.ite ?_ ?_)
      | (with_reducible refine LeO.bind ?_ (fun _ => ?_))
      | exact ih0 _ _ _ _
      | exact LeO.none _
      | refine LeO.ite ?_ ?_
      | refine LeO.bind ?_ (fun _ => ?_)
set_option maxHeartbeats 8000000 in
set_option maxRecDepth 100000 in
theorem bibelotref03_To.calls (k : Nat) (A0 : Option Addr) (c0 : Nat) (l0 : List Int) (a1 : Int) (r : Int) (w : World) (hr0 : Kd.C (Kd.int .i64) w A0 l0.length l0) (hc0 : l0.length ≤ c0) (h : bibelotref03_To.f k l0 a1 = some r) :
    Calls Tryd.prog 77 #[.slice A0 l0.length c0, .int .i64 a1] w fun e w' => e = .returned (.int .i64 r) ∧ Drawn0 w w' := by
  have HR0 := Aside0.mk hr0
  have HC0 := Aside0.mk hc0
  clear hr0 hc0
  have H : (bibelotref03_To.l0 k l0 a1 0 (wrap64 ((l0.length : Int) - 1))) = some r := h
  clear h
  have H' := Aside0.mk H
  clear H
  go_enter Tryd.func77, Tryd.ntmps77
  go_wp2
  go_loopg [1, 5, 6] k (fun kq v1 v5 v6 w' => ∃ (x1_1 : Int) (x5_1 : Int) (x6_1 : Int), v1 = .int .i64 x1_1 ∧ v5 = .int .i64 x5_1 ∧ v6 = .int .i64 x6_1 ∧ Aside0 (bibelotref03_To.l0 kq l0 x1_1 x5_1 x6_1 = some r) ∧ Aside0 (kq ≤ k) ∧ Drawn0 w w')
  case atStart => exact ⟨(a1), (0), (wrap64 ((l0.length : Int) - 1)), (by first | rfl | (simp; done) | (simp [*]; done)), (by first | rfl | (simp; done) | (simp [*]; done)), (by first | rfl | (simp; done) | (simp [*]; done)), H', ⟨Nat.le_refl _⟩, by repeat (first | exact Drawn0.refl _ | apply Drawn0.step)⟩
  case round =>
    clear H'
    try clear p2
    obtain ⟨x1_1, x5_1, x6_1, rfl, rfl, rfl, HA, HK1, ⟨m1, rfl⟩⟩ := hrel
    cases gk with
    | zero => exact absurd HA.out (by simp [bibelotref03_To.l0])
    | succ k1 =>
      have H := HA.out
      clear HA
      simp only [bibelotref03_To.l0] at H
      by_cases c3 : x6_1 ≥ 0
      · rw [if_pos c3] at H
        have c3b0 : decide (0 ≤ x6_1) = true := decide_eq_true c3
        clear c3
        by_cases c4 : 0 ≤ x6_1
        · rw [if_pos c4] at H
          have c4b0 : decide (0 ≤ x6_1) = true := decide_eq_true c4
          clear c4
          by_cases c5 : x6_1 < (l0.length : Int)
          · rw [if_pos c5] at H
            have c5b0 : decide (x6_1 < (l0.length : Int)) = true := decide_eq_true c5
            clear c5
            by_cases c6 : (rd l0 x6_1) = x1_1
            · rw [if_pos c6] at H
              have c6b0 : ((rd l0 x6_1) == x1_1) = true := beq_iff_eq.mpr c6
              have c6b1 : ((rd l0 x6_1) != x1_1) = false := bne_eq_false_iff_eq.mpr c6
              clear c6
              have H' := Aside0.mk H
              clear H
              have p106 : 0 ≤ (x6_1 : Int) := of_decide_eq_true (by first | (with_reducible assumption) | assumption)
              have q106 : x6_1 < (l0.length : Int) := of_decide_eq_true (by first | (with_reducible assumption) | assumption)
              obtain ⟨ad106, e106, hx106_0⟩ := Kd.at_int HR0.out x6_1 p106 q106
              cases e106
              replace p106 := eq_true p106
              replace q106 := eq_true q106
              go_wp2
              go_roundg k1
              case measure => have := HK1.out; omega
              case rel => exact ⟨(x1_1), (x5_1), (wrap64 (x6_1 - 1)), (by first | rfl | (simp; done) | (simp [*]; done)), (by first | rfl | (simp; done) | (simp [*]; done)), (by first | rfl | (simp; done) | (simp [*]; done)), H', ⟨by have := HK1.out; omega⟩, by repeat (first | exact Drawn0.refl _ | apply Drawn0.step)⟩
            · rw [if_neg c6] at H
              have c6b0 : ((rd l0 x6_1) == x1_1) = false := beq_eq_false_iff_ne.mpr c6
              have c6b1 : ((rd l0 x6_1) != x1_1) = true := bne_iff_ne.mpr c6
              have c7b0 := eq_true (of_decide_eq_true (by first | (with_reducible assumption) | assumption) : 0 ≤ x6_1)
              obtain ⟨ji8, hji8⟩ : ∃ j_ : Int, (shl .i64 1 x6_1) = j_ := ⟨_, rfl⟩
              replace H : (bibelotref03_To.l0 k1 l0 (wrap64 ((wrap64 (3 - x1_1)) - (rd l0 x6_1))) (wrap64 (x5_1 + (ji8))) (wrap64 (x6_1 - 1))) = some r := by first | (rw [hji8] at H; exact H) | (simp only [hji8] at H ⊢; exact H)
              have hji8_ : (IntKind.i64.wrap (1 * 2 ^ min x6_1.toNat 64)) = ji8 := hji8
              have hji8z : x6_1 ≤ 64 → (IntKind.i64.wrap (1 * 2 ^ x6_1.toNat)) = ji8 := shl_small hji8
              have hji8u : (IntKind.i64.wrap (2 ^ min x6_1.toNat 64)) = ji8 := by have h_ := hji8_; rw [Int.one_mul] at h_; exact h_
              have hji8v : x6_1 ≤ 64 → (IntKind.i64.wrap (2 ^ x6_1.toNat)) = ji8 := fun hle_ => by have h_ := hji8z hle_; rw [Int.one_mul] at h_; exact h_
              have hji8y : (wrap64 (1 * 2 ^ min x6_1.toNat 64)) = ji8 := (i64_w _).symm.trans hji8_
              have hji8x : x6_1 ≤ 64 → (wrap64 (1 * 2 ^ x6_1.toNat)) = ji8 := fun h_ => (i64_w _).symm.trans (hji8z h_)
              have H' := Aside0.mk H
              clear H
              have p106 : 0 ≤ (x6_1 : Int) := of_decide_eq_true (by first | (with_reducible assumption) | assumption)
              have q106 : x6_1 < (l0.length : Int) := of_decide_eq_true (by first | (with_reducible assumption) | assumption)
              obtain ⟨ad106, e106, hx106_0⟩ := Kd.at_int HR0.out x6_1 p106 q106
              cases e106
              replace p106 := eq_true p106
              replace q106 := eq_true q106
              have p107 : 0 ≤ (x6_1 : Int) := of_decide_eq_true (by first | (with_reducible assumption) | assumption)
              have q107 : x6_1 < (l0.length : Int) := of_decide_eq_true (by first | (with_reducible assumption) | assumption)
              obtain ⟨ad107, e107, hx107_0⟩ := Kd.at_int HR0.out x6_1 p107 q107
              obtain rfl : ad106 = ad107 := (by injection e107)
              replace p107 := eq_true p107
              replace q107 := eq_true q107
              go_wp2
              go_roundg k1
              case measure => have := HK1.out; omega
              case rel => exact ⟨(wrap64 ((wrap64 (3 - x1_1)) - (rd l0 x6_1))), (wrap64 (x5_1 + (ji8))), (wrap64 (x6_1 - 1)), (by first | rfl | (simp; done) | (simp [*]; done)), (by first | rfl | (simp; done) | (simp only [← hji8] <;> (first | rfl | simp)) | (simp [*]; done)), (by first | rfl | (simp; done) | (simp [*]; done)), H', ⟨by have := HK1.out; omega⟩, by repeat (first | exact Drawn0.refl _ | apply Drawn0.step)⟩
          · rw [if_neg c5] at H
            exact absurd H (by simp)
        · rw [if_neg c4] at H
          exact absurd H (by simp)
      · rw [if_neg c3] at H
        have c3b0 : decide (0 ≤ x6_1) = false := decide_eq_false c3
        clear c3
        obtain rfl := Option.some.inj H
        go_wp2
        go_ret
        exact ⟨by first | rfl | (simp; done) | (simp [*]; done), by repeat (first | exact Drawn0.refl _ | apply Drawn0.step)⟩

end Go.Proofs.YtnaaomhmoamfpaaDoor.Q
namespace Go.Proofs.YtnaaomhmoamfpaaDoor.G
end Go.Proofs.YtnaaomhmoamfpaaDoor.G
namespace Go.Proofs.YtnaaomhmoamfpaaDoor.Q
set_option linter.unusedVariables false
set_option linter.unusedSimpArgs false
set_option linter.unusedSectionVars false
open Go.Proofs.YtnaaomhmoamfpaaDoor.G
open Go.RowKit Go.Proofs.YtnaaomhmoamfpaaDoorW.PrintWords Go.Proofs.YtnaaomhmoamfpaaDoorW.PrintLast Go.Proofs.YtnaaomhmoamfpaaDoorW.PrintMore
attribute [local go_sem] max2_int min2_int max_two min_two max_three min_three max_four min_four   -- for this text's walks alone

/-! ### hanoi_toPeg: function 73 -/
def hanoi_toPeg.l0 : Nat → List Int → Int → Int → Int → Option (Int)
  | 0, _, _, _, _ => none
  | k + 1, x0, x1, x5, x6 => if x6 ≥ 0 then (if 0 ≤ x6 then (if x6 < (x0.length : Int) then (if (rd x0 x6) = x1 then (hanoi_toPeg.l0 k x0 x1 x5 (wrap64 (x6 - 1))) else (if 0 ≤ (IntKind.u64.wrap (x6)) then (hanoi_toPeg.l0 k x0 (wrap64 ((wrap64 (3 - (rd x0 x6))) - x1)) (wrap64 (x5 + (shl .i64 1 (IntKind.u64.wrap (x6))))) (wrap64 (x6 - 1))) else (none))) else (none)) else (none)) else (some x5)
def hanoi_toPeg.f (k : Nat) (l0 : List Int) (a1 : Int) : Option (Int) := hanoi_toPeg.l0 k l0 a1 0 (wrap64 ((l0.length : Int) - 1))
theorem hanoi_toPeg.mono_l : ∀ k, (∀ y0 y1 y2 y3, LeO (hanoi_toPeg.l0 k y0 y1 y2 y3) (hanoi_toPeg.l0 (k + 1) y0 y1 y2 y3))
  | 0 => fun _ _ _ _ r h => by simp [hanoi_toPeg.l0] at h
  | k + 1 => by
    have ih0 := hanoi_toPeg.mono_l k
    · intro y0 y1 y2 y3
      unfold hanoi_toPeg.l0
      repeat' first
      | (with_reducible exact ih0 _ _ _ _)
      | (with_reducible exact LeO.refl _)
      | (with_reducible exact LeO.none _)
      | (with_reducible refine LeO.ite ?_ ?_)
      | (with_reducible refine LeO.bind ?_ (fun _ => ?_))
      | exact ih0 _ _ _ _
      | exact LeO.none _
      | refine LeO.ite ?_ ?_
      | refine LeO.bind ?_ (fun _ => ?_)
theorem hanoi_toPeg.mono : ∀ a0 a1 k, LeO (hanoi_toPeg.f k a0 a1) (hanoi_toPeg.f (k + 1) a0 a1) := by
  intro a0 a1 k
  have ih0 := hanoi_toPeg.mono_l k
  unfold hanoi_toPeg.f
  repeat' first
      | (with_reducible exact ih0 _ _ _ _)
      | (with_reducible exact LeO.refl _)
      | (with_reducible exact LeO.none _)
      | (with_reducible refine LeO.ite ?_ ?_)
      | (with_reducible refine LeO.bind ?_ (fun _ => ?_))
      | exact ih0 _ _ _ _
      | exact LeO.none _
      | refine LeO.ite ?_ ?_
      | refine LeO.bind ?_ (fun _ => ?_)
set_option maxHeartbeats 8000000 in
set_option maxRecDepth 100000 in
theorem hanoi_toPeg.calls (k : Nat) (A0 : Option Addr) (c0 : Nat) (l0 : List Int) (a1 : Int) (r : Int) (w : World) (hr0 : Kd.C (Kd.int .i64) w A0 l0.length l0) (hc0 : l0.length ≤ c0) (h : hanoi_toPeg.f k l0 a1 = some r) :
    Calls Tryd.prog 73 #[.slice A0 l0.length c0, .int .i64 a1] w fun e w' => e = .returned (.int .i64 r) ∧ Drawn0 w w' := by
  have HR0 := Aside0.mk hr0
  have HC0 := Aside0.mk hc0
  clear hr0 hc0
  have H : (hanoi_toPeg.l0 k l0 a1 0 (wrap64 ((l0.length : Int) - 1))) = some r := h
  clear h
  have H' := Aside0.mk H
  clear H
  go_enter Tryd.func73, Tryd.ntmps73
  go_wp2
  go_loopg [1, 5, 6] k (fun kq v1 v5 v6 w' => ∃ (x1_1 : Int) (x5_1 : Int) (x6_1 : Int), v1 = .int .i64 x1_1 ∧ v5 = .int .i64 x5_1 ∧ v6 = .int .i64 x6_1 ∧ Aside0 (hanoi_toPeg.l0 kq l0 x1_1 x5_1 x6_1 = some r) ∧ Aside0 (kq ≤ k) ∧ Drawn0 w w')
  case atStart => exact ⟨(a1), (0), (wrap64 ((l0.length : Int) - 1)), (by first | rfl | (simp; done) | (simp [*]; done)), (by first | rfl | (simp; done) | (simp [*]; done)), (by first | rfl | (simp; done) | (simp [*]; done)), H', ⟨Nat.le_refl _⟩, by repeat (first | exact Drawn0.refl _ | apply Drawn0.step)⟩
  case round =>
    clear H'
    try clear p2
    obtain ⟨x1_1, x5_1, x6_1, rfl, rfl, rfl, HA, HK1, ⟨m1, rfl⟩⟩ := hrel
    cases gk with
    | zero => exact absurd HA.out (by simp [hanoi_toPeg.l0])
    | succ k1 =>
      have H := HA.out
      clear HA
      simp only [hanoi_toPeg.l0] at H
      by_cases c3 : x6_1 ≥ 0
      · rw [if_pos c3] at H
        have c3b0 : decide (0 ≤ x6_1) = true := decide_eq_true c3
        clear c3
        by_cases c4 : 0 ≤ x6_1
        · rw [if_pos c4] at H
          have c4b0 : decide (0 ≤ x6_1) = true := decide_eq_true c4
          clear c4
          by_cases c5 : x6_1 < (l0.length : Int)
          · rw [if_pos c5] at H
            have c5b0 : decide (x6_1 < (l0.length : Int)) = true := decide_eq_true c5
            clear c5
            by_cases c6 : (rd l0 x6_1) = x1_1
            · rw [if_pos c6] at H
              have c6b0 : ((rd l0 x6_1) == x1_1) = true := beq_iff_eq.mpr c6
              have c6b1 : ((rd l0 x6_1) != x1_1) = false := bne_eq_false_iff_eq.mpr c6
              clear c6
              have H' := Aside0.mk H
              clear H
              have p234 : 0 ≤ (x6_1 : Int) := of_decide_eq_true (by first | (with_reducible assumption) | assumption)
              have q234 : x6_1 < (l0.length : Int) := of_decide_eq_true (by first | (with_reducible assumption) | assumption)
              obtain ⟨ad234, e234, hx234_0⟩ := Kd.at_int HR0.out x6_1 p234 q234
              cases e234
              replace p234 := eq_true p234
              replace q234 := eq_true q234
              go_wp2
              go_roundg k1
              case measure => have := HK1.out; omega
              case rel => exact ⟨(x1_1), (x5_1), (wrap64 (x6_1 - 1)), (by first | rfl | (simp; done) | (simp [*]; done)), (by first | rfl | (simp; done) | (simp [*]; done)), (by first | rfl | (simp; done) | (simp [*]; done)), H', ⟨by have := HK1.out; omega⟩, by repeat (first | exact Drawn0.refl _ | apply Drawn0.step)⟩
            · rw [if_neg c6] at H
              have c6b0 : ((rd l0 x6_1) == x1_1) = false := beq_eq_false_iff_ne.mpr c6
              have c6b1 : ((rd l0 x6_1) != x1_1) = true := bne_iff_ne.mpr c6
              obtain ⟨ji7, hji7⟩ : ∃ j_ : Int, (IntKind.u64.wrap (x6_1)) = j_ := ⟨_, rfl⟩
              replace H : (if 0 ≤ (ji7) then (hanoi_toPeg.l0 k1 l0 (wrap64 ((wrap64 (3 - (rd l0 x6_1))) - x1_1)) (wrap64 (x5_1 + (shl .i64 1 (ji7)))) (wrap64 (x6_1 - 1))) else (none)) = some r := by first | (rw [hji7] at H; exact H) | (simp only [hji7] at H ⊢; exact H)
              by_cases c8 : 0 ≤ (ji7)
              · rw [if_pos c8] at H
                have c8b0 := eq_true c8
                have c8b1 : decide (0 ≤ (ji7)) = true := decide_eq_true c8
                clear c8
                obtain ⟨ji9, hji9⟩ : ∃ j_ : Int, (shl .i64 1 (ji7)) = j_ := ⟨_, rfl⟩
                replace H : (hanoi_toPeg.l0 k1 l0 (wrap64 ((wrap64 (3 - (rd l0 x6_1))) - x1_1)) (wrap64 (x5_1 + (ji9))) (wrap64 (x6_1 - 1))) = some r := by first | (rw [hji9] at H; exact H) | (simp only [hji9] at H ⊢; exact H)
                have hji9_ : (IntKind.i64.wrap (1 * 2 ^ min (ji7).toNat 64)) = ji9 := hji9
                have hji9z : (ji7) ≤ 64 → (IntKind.i64.wrap (1 * 2 ^ (ji7).toNat)) = ji9 := shl_small hji9
                have hji9u : (IntKind.i64.wrap (2 ^ min (ji7).toNat 64)) = ji9 := by have h_ := hji9_; rw [Int.one_mul] at h_; exact h_
                have hji9v : (ji7) ≤ 64 → (IntKind.i64.wrap (2 ^ (ji7).toNat)) = ji9 := fun hle_ => by have h_ := hji9z hle_; rw [Int.one_mul] at h_; exact h_
                have hji9y : (wrap64 (1 * 2 ^ min (ji7).toNat 64)) = ji9 := (i64_w _).symm.trans hji9_
                have hji9x : (ji7) ≤ 64 → (wrap64 (1 * 2 ^ (ji7).toNat)) = ji9 := fun h_ => (i64_w _).symm.trans (hji9z h_)
                have H' := Aside0.mk H
                clear H
                have p234 : 0 ≤ (x6_1 : Int) := of_decide_eq_true (by first | (with_reducible assumption) | assumption)
                have q234 : x6_1 < (l0.length : Int) := of_decide_eq_true (by first | (with_reducible assumption) | assumption)
                obtain ⟨ad234, e234, hx234_0⟩ := Kd.at_int HR0.out x6_1 p234 q234
                cases e234
                replace p234 := eq_true p234
                replace q234 := eq_true q234
                have p235 : 0 ≤ (x6_1 : Int) := of_decide_eq_true (by first | (with_reducible assumption) | assumption)
                have q235 : x6_1 < (l0.length : Int) := of_decide_eq_true (by first | (with_reducible assumption) | assumption)
                obtain ⟨ad235, e235, hx235_0⟩ := Kd.at_int HR0.out x6_1 p235 q235
                obtain rfl : ad234 = ad235 := (by injection e235)
                replace p235 := eq_true p235
                replace q235 := eq_true q235
                go_wp2
                go_roundg k1
                case measure => have := HK1.out; omega
                case rel => exact ⟨(wrap64 ((wrap64 (3 - (rd l0 x6_1))) - x1_1)), (wrap64 (x5_1 + (ji9))), (wrap64 (x6_1 - 1)), (by first | rfl | (simp; done) | (simp [*]; done)), (by first | rfl | (simp; done) | (simp only [← hji9] <;> (first | rfl | simp)) | (simp [*]; done)), (by first | rfl | (simp; done) | (simp [*]; done)), H', ⟨by have := HK1.out; omega⟩, by repeat (first | exact Drawn0.refl _ | apply Drawn0.step)⟩
              · rw [if_neg c8] at H
                exact absurd H (by simp)
          · rw [if_neg c5] at H
            exact absurd H (by simp)
        · rw [if_neg c4] at H
          exact absurd H (by simp)
      · rw [if_neg c3] at H
        have c3b0 : decide (0 ≤ x6_1) = false := decide_eq_false c3
        clear c3
        obtain rfl := Option.some.inj H
        go_wp2
        go_ret
        exact ⟨by first | rfl | (simp; done) | (simp [*]; done), by repeat (first | exact Drawn0.refl _ | apply Drawn0.step)⟩

end Go.Proofs.YtnaaomhmoamfpaaDoor.Q
namespace Go.Proofs.YtnaaomhmoamfpaaDoor.G
end Go.Proofs.YtnaaomhmoamfpaaDoor.G
namespace Go.Proofs.YtnaaomhmoamfpaaDoor.Q
set_option linter.unusedVariables false
set_option linter.unusedSimpArgs false
set_option linter.unusedSectionVars false
open Go.Proofs.YtnaaomhmoamfpaaDoor.G
open Go.RowKit Go.Proofs.YtnaaomhmoamfpaaDoorW.PrintWords Go.Proofs.YtnaaomhmoamfpaaDoorW.PrintLast Go.Proofs.YtnaaomhmoamfpaaDoorW.PrintMore
attribute [local go_sem] max2_int min2_int max_two min_two max_three min_three max_four min_four   -- for this text's walks alone

/-! ### bibelotref03_differ: function 78 -/
def bibelotref03_differ.l0 : Nat → List Int → List Int → Int → Option (Int)
  | 0, _, _, _ => none
  | k + 1, x0, x1, x5 => if x5 > 0 then (if 0 ≤ (wrap64 (x5 - 1)) then (if (wrap64 (x5 - 1)) < (x0.length : Int) then (if (wrap64 (x5 - 1)) < (x1.length : Int) then (if (rd x0 (wrap64 (x5 - 1))) = (rd x1 (wrap64 (x5 - 1))) then (bibelotref03_differ.l0 k x0 x1 (wrap64 (x5 - 1))) else (some x5)) else (none)) else (none)) else (none)) else (some x5)
def bibelotref03_differ.f (k : Nat) (l0 : List Int) (l1 : List Int) : Option (Int) := bibelotref03_differ.l0 k l0 l1 (l0.length : Int)
theorem bibelotref03_differ.mono_l : ∀ k, (∀ y0 y1 y2, LeO (bibelotref03_differ.l0 k y0 y1 y2) (bibelotref03_differ.l0 (k + 1) y0 y1 y2))
  | 0 => fun _ _ _ r h => by simp [bibelotref03_differ.l0] at h
  | k + 1 => by
    have ih0 := bibelotref03_differ.mono_l k
    · intro y0 y1 y2
      unfold bibelotref03_differ.l0
      repeat' first
      | (with_reducible exact ih0 _ _ _)
      | (with_reducible exact LeO.refl _)
      | (with_reducible exact LeO.none _)
      | (with_reducible refine LeO.ite ?_ ?_)
      | (with_reducible refine LeO.bind ?_ (fun _ => ?_))
      | exact ih0 _ _ _
      | exact LeO.none _
      | refine LeO.ite ?_ ?_
      | refine LeO.bind ?_ (fun _ => ?_)
theorem bibelotref03_differ.mono : ∀ a0 a1 k, LeO (bibelotref03_differ.f k a0 a1) (bibelotref03_differ.f (k + 1) a0 a1) := by
  intro a0 a1 k
  have ih0 := bibelotref03_differ.mono_l k
  unfold bibelotref03_differ.f
  repeat' first
      | (with_reducible exact ih0 _ _ _)
      | (with_reducible exact LeO.refl _)
      | (with_reducible exact LeO.none _)
      | (with_reducible refine LeO.ite ?_ ?_)
      | (with_reducible refine LeO.bind ?_ (fun _ => ?_))
      | exact ih0 _ _ _
      | exact LeO.none _
      | refine LeO.ite ?_ ?_
      | refine LeO.bind ?_ (fun _ => ?_)
set_option maxHeartbeats 8000000 in
set_option maxRecDepth 100000 in
theorem bibelotref03_differ.calls (k : Nat) (A0 : Option Addr) (c0 : Nat) (l0 : List Int) (A1 : Option Addr) (c1 : Nat) (l1 : List Int) (r : Int) (w : World) (hr0 : Kd.C (Kd.int .i64) w A0 l0.length l0) (hc0 : l0.length ≤ c0) (hr1 : Kd.C (Kd.int .i64) w A1 l1.length l1) (hc1 : l1.length ≤ c1) (h : bibelotref03_differ.f k l0 l1 = some r) :
    Calls Tryd.prog 78 #[.slice A0 l0.length c0, .slice A1 l1.length c1] w fun e w' => e = .returned (.int .i64 r) ∧ Drawn0 w w' := by
  have HR0 := Aside0.mk hr0
  have HC0 := Aside0.mk hc0
  clear hr0 hc0
  have HR1 := Aside0.mk hr1
  have HC1 := Aside0.mk hc1
  clear hr1 hc1
  have H : (bibelotref03_differ.l0 k l0 l1 (l0.length : Int)) = some r := h
  clear h
  have H' := Aside0.mk H
  clear H
  go_enter Tryd.func78, Tryd.ntmps78
  go_wp2
  repeat (go_quiet (fail); try go_wp2)
  go_loopg [5] k (fun kq v5 w' => ∃ (x5_1 : Int), v5 = .int .i64 x5_1 ∧ Aside0 (bibelotref03_differ.l0 kq l0 l1 x5_1 = some r) ∧ Aside0 (kq ≤ k) ∧ Drawn0 w w')
  case atStart => exact ⟨((l0.length : Int)), (by first | rfl | (simp; done) | (simp [*]; done)), H', ⟨Nat.le_refl _⟩, by repeat (first | exact Drawn0.refl _ | apply Drawn0.step)⟩
  case round =>
    clear H'
    try clear c1
    try clear p2
    obtain ⟨x5_1, rfl, HA, HK1, ⟨m1, rfl⟩⟩ := hrel
    cases gk with
    | zero => exact absurd HA.out (by simp [bibelotref03_differ.l0])
    | succ k1 =>
      have H := HA.out
      clear HA
      simp only [bibelotref03_differ.l0] at H
      by_cases c3 : x5_1 > 0
      · rw [if_pos c3] at H
        have c3b0 : decide (0 < x5_1) = true := decide_eq_true c3
        clear c3
        obtain ⟨ji4, hji4⟩ : ∃ j_ : Int, (wrap64 (x5_1 - 1)) = j_ := ⟨_, rfl⟩
        replace H : (if 0 ≤ (ji4) then (if (ji4) < (l0.length : Int) then (if (ji4) < (l1.length : Int) then (if (rd l0 (ji4)) = (rd l1 (ji4)) then (bibelotref03_differ.l0 k1 l0 l1 ji4) else (some x5_1)) else (none)) else (none)) else (none)) = some r := by first | (rw [hji4] at H; exact H) | (simp only [hji4] at H ⊢; exact H)
        have hji4w : (IntKind.i64.wrap (x5_1 - 1)) = ji4 := (i64_w _).trans hji4
        by_cases c5 : 0 ≤ (ji4)
        · rw [if_pos c5] at H
          have c5b0 : decide (0 ≤ (ji4)) = true := decide_eq_true c5
          clear c5
          by_cases c6 : (ji4) < (l0.length : Int)
          · rw [if_pos c6] at H
            have c6b0 : decide ((ji4) < (l0.length : Int)) = true := decide_eq_true c6
            clear c6
            by_cases c7 : (ji4) < (l1.length : Int)
            · rw [if_pos c7] at H
              have c7b0 : decide ((ji4) < (l1.length : Int)) = true := decide_eq_true c7
              clear c7
              by_cases c8 : (rd l0 (ji4)) = (rd l1 (ji4))
              · rw [if_pos c8] at H
                have c8b0 : ((rd l0 (ji4)) == (rd l1 (ji4))) = true := beq_iff_eq.mpr c8
                have c8b1 : ((rd l0 (ji4)) != (rd l1 (ji4))) = false := bne_eq_false_iff_eq.mpr c8
                clear c8
                have H' := Aside0.mk H
                clear H
                have p104 : 0 ≤ ((ji4) : Int) := of_decide_eq_true (by first | (with_reducible assumption) | assumption)
                have q104 : (ji4) < (l0.length : Int) := of_decide_eq_true (by first | (with_reducible assumption) | assumption)
                obtain ⟨ad104, e104, hx104_0⟩ := Kd.at_int HR0.out (ji4) p104 q104
                cases e104
                replace p104 := eq_true p104
                replace q104 := eq_true q104
                have p105 : 0 ≤ ((ji4) : Int) := of_decide_eq_true (by first | (with_reducible assumption) | assumption)
                have q105 : (ji4) < (l1.length : Int) := of_decide_eq_true (by first | (with_reducible assumption) | assumption)
                obtain ⟨ad105, e105, hx105_0⟩ := Kd.at_int HR1.out (ji4) p105 q105
                cases e105
                replace p105 := eq_true p105
                replace q105 := eq_true q105
                go_wp2
                repeat (go_quiet (fail); try go_wp2)
                go_roundg k1
                case measure => have := HK1.out; omega
                case rel => exact ⟨(ji4), (by first | rfl | (simp; done) | (simp only [← hji4] <;> (first | rfl | simp)) | (simp [*]; done)), H', ⟨by have := HK1.out; omega⟩, by repeat (first | exact Drawn0.refl _ | apply Drawn0.step)⟩
              · rw [if_neg c8] at H
                have c8b0 : ((rd l0 (ji4)) == (rd l1 (ji4))) = false := beq_eq_false_iff_ne.mpr c8
                have c8b1 : ((rd l0 (ji4)) != (rd l1 (ji4))) = true := bne_iff_ne.mpr c8
                obtain rfl := Option.some.inj H
                have p104 : 0 ≤ ((ji4) : Int) := of_decide_eq_true (by first | (with_reducible assumption) | assumption)
                have q104 : (ji4) < (l0.length : Int) := of_decide_eq_true (by first | (with_reducible assumption) | assumption)
                obtain ⟨ad104, e104, hx104_0⟩ := Kd.at_int HR0.out (ji4) p104 q104
                cases e104
                replace p104 := eq_true p104
                replace q104 := eq_true q104
                have p105 : 0 ≤ ((ji4) : Int) := of_decide_eq_true (by first | (with_reducible assumption) | assumption)
                have q105 : (ji4) < (l1.length : Int) := of_decide_eq_true (by first | (with_reducible assumption) | assumption)
                obtain ⟨ad105, e105, hx105_0⟩ := Kd.at_int HR1.out (ji4) p105 q105
                cases e105
                replace p105 := eq_true p105
                replace q105 := eq_true q105
                go_wp2
                repeat (go_quiet (fail); try go_wp2)
                go_ret
                exact ⟨by first | rfl | (simp; done) | (simp only [← hji4] <;> (first | rfl | simp)) | (simp [*]; done), by repeat (first | exact Drawn0.refl _ | apply Drawn0.step)⟩
            · rw [if_neg c7] at H
              exact absurd H (by simp)
          · rw [if_neg c6] at H
            exact absurd H (by simp)
        · rw [if_neg c5] at H
          exact absurd H (by simp)
      · rw [if_neg c3] at H
        have c3b0 : decide (0 < x5_1) = false := decide_eq_false c3
        clear c3
        obtain rfl := Option.some.inj H
        go_wp2
        repeat (go_quiet (fail); try go_wp2)
        go_ret
        exact ⟨by first | rfl | (simp; done) | (simp [*]; done), by repeat (first | exact Drawn0.refl _ | apply Drawn0.step)⟩

end Go.Proofs.YtnaaomhmoamfpaaDoor.Q
namespace Go.Proofs.YtnaaomhmoamfpaaDoor.G
end Go.Proofs.YtnaaomhmoamfpaaDoor.G
namespace Go.Proofs.YtnaaomhmoamfpaaDoor.Q
set_option linter.unusedVariables false
set_option linter.unusedSimpArgs false
set_option linter.unusedSectionVars false
open Go.Proofs.YtnaaomhmoamfpaaDoor.G
open Go.RowKit Go.Proofs.YtnaaomhmoamfpaaDoorW.PrintWords Go.Proofs.YtnaaomhmoamfpaaDoorW.PrintLast Go.Proofs.YtnaaomhmoamfpaaDoorW.PrintMore
attribute [local go_sem] max2_int min2_int max_two min_two max_three min_three max_four min_four   -- for this text's walks alone

/-! ### hanoi_all: function 90 -/
def hanoi_all.f (a0 : Int) : Option (Int) := if 0 ≤ (IntKind.u64.wrap (a0)) then (some (wrap64 ((shl .i64 1 (IntKind.u64.wrap (a0))) - 1))) else (none)
set_option maxHeartbeats 8000000 in
set_option maxRecDepth 100000 in
theorem hanoi_all.calls (a0 : Int) (r : Int) (w : World) (h : hanoi_all.f a0 = some r) :
    Calls Tryd.prog 90 #[.int .i64 a0] w fun e w' => e = .returned (.int .i64 r) ∧ Drawn0 w w' := by
  have H : (if 0 ≤ (IntKind.u64.wrap (a0)) then (some (wrap64 ((shl .i64 1 (IntKind.u64.wrap (a0))) - 1))) else (none)) = some r := h
  clear h
  obtain ⟨ji2, hji2⟩ : ∃ j_ : Int, (IntKind.u64.wrap (a0)) = j_ := ⟨_, rfl⟩
  replace H : (if 0 ≤ (ji2) then (some (wrap64 ((shl .i64 1 (ji2)) - 1))) else (none)) = some r := by first | (rw [hji2] at H; exact H) | (simp only [hji2] at H ⊢; exact H)
  by_cases c3 : 0 ≤ (ji2)
  · rw [if_pos c3] at H
    have c3b0 := eq_true c3
    have c3b1 : decide (0 ≤ (ji2)) = true := decide_eq_true c3
    clear c3
    obtain ⟨ji4, hji4⟩ : ∃ j_ : Int, (shl .i64 1 (ji2)) = j_ := ⟨_, rfl⟩
    replace H : (some (wrap64 ((ji4) - 1))) = some r := by first | (rw [hji4] at H; exact H) | (simp only [hji4] at H ⊢; exact H)
    have hji4_ : (IntKind.i64.wrap (1 * 2 ^ min (ji2).toNat 64)) = ji4 := hji4
    have hji4z : (ji2) ≤ 64 → (IntKind.i64.wrap (1 * 2 ^ (ji2).toNat)) = ji4 := shl_small hji4
    have hji4u : (IntKind.i64.wrap (2 ^ min (ji2).toNat 64)) = ji4 := by have h_ := hji4_; rw [Int.one_mul] at h_; exact h_
    have hji4v : (ji2) ≤ 64 → (IntKind.i64.wrap (2 ^ (ji2).toNat)) = ji4 := fun hle_ => by have h_ := hji4z hle_; rw [Int.one_mul] at h_; exact h_
    have hji4y : (wrap64 (1 * 2 ^ min (ji2).toNat 64)) = ji4 := (i64_w _).symm.trans hji4_
    have hji4x : (ji2) ≤ 64 → (wrap64 (1 * 2 ^ (ji2).toNat)) = ji4 := fun h_ => (i64_w _).symm.trans (hji4z h_)
    obtain rfl := Option.some.inj H
    go_enter Tryd.func90, Tryd.ntmps90
    go_wp2
    go_ret
    exact ⟨by first | rfl | (simp; done) | (simp only [← hji2, ← hji4] <;> (first | rfl | simp)) | (simp [*]; done), by repeat (first | exact Drawn0.refl _ | apply Drawn0.step)⟩
  · rw [if_neg c3] at H
    exact absurd H (by simp)

end Go.Proofs.YtnaaomhmoamfpaaDoor.Q
/- What the small loops over discs come to: the printed functions' answers, as plain numbers. -/
namespace Go.Proofs.YtnaaomhmoamfpaaDoor.Hn
set_option linter.unusedVariables false
set_option linter.unusedSimpArgs false
set_option linter.unusedSectionVars false
open Go.Proofs.YtnaaomhmoamfpaaDoor.Q
open Go.RowKit Go.Proofs.YtnaaomhmoamfpaaDoorW.PrintWords Go.Proofs.YtnaaomhmoamfpaaDoorW.PrintLast Go.Proofs.YtnaaomhmoamfpaaDoorW.PrintMore

def nth (l : List Int) : Nat → Int := fun j => l.getD j 0
theorem rd_nth (l : List Int) (i : Nat) : rd l (i : Int) = nth l i := by simp [rd, nth]
theorem w64 {x : Int} (h : -9223372036854775808 ≤ x) (h' : x ≤ 9223372036854775807) : wrap64 x = x := by unfold wrap64; omega
theorem pow_le {a b : Nat} (h : a ≤ b) : (2:Int)^a ≤ 2^b := by
  obtain ⟨c, rfl⟩ := Nat.exists_eq_add_of_le h
  rw [Int.pow_add]
  have := pow_pos' a; have := pow_pos' c
  calc (2:Int)^a = 2^a * 1 := by omega
    _ ≤ 2^a * 2^c := Int.mul_le_mul_of_nonneg_left (by omega) (by omega)
theorem p40 : (2:Int)^40 = 1099511627776 := by decide
theorem p62 : (2:Int)^62 = 4611686018427387904 := by decide
theorem shl1 (n : Nat) (h : n ≤ 62) : shl .i64 1 (n : Int) = 2^n := by
  unfold shl
  have : min ((n : Int).toNat) (IntKind.i64.bits) = n := by simp [IntKind.bits]; omega
  rw [this, Int.one_mul]
  have h1 := pow_pos' n; have h2 := pow_le h; rw [p62] at h2
  rw [i64_w]
  exact w64 (by omega) (by omega)
theorem u64w {x : Int} (h : 0 ≤ x) (h' : x ≤ 9223372036854775807) : IntKind.u64.wrap x = x := by simp [IntKind.wrap, IntKind.bits, IntKind.signed]; omega

def DiscsL (l : List Int) : Prop := Discs (nth l) l.length

theorem to_loop (l : List Int) (hl : l.length ≤ 40) (hd : DiscsL l) (n : Nat) : ∀ (p o : Int), n ≤ l.length → Peg p → 0 ≤ o → o + 2^n ≤ 2^40 →
    Ev (fun k => bibelotref03_To.l0 k l p o ((n : Int) - 1)) (o + tp (nth l) n p) := by
  induction n with
  | zero => intro p o _ _ _ _; exact Ev.step (f := fun _ => some (o + tp (nth l) 0 p)) (fun k => by simp only [bibelotref03_To.l0]; rw [if_neg (by omega)]; simp [tp]) (Ev.now _)
  | succ n ih =>
    intro p o hn hp ho hb
    have e1 : (((n + 1 : Nat) : Int) - 1) = (n : Int) := by omega
    have hx := hd n (by omega)
    have hpw := pow_pos' n
    rw [Int.pow_succ] at hb
    have hq := hp
    unfold Peg at hx hq
    have h40 := p40
    rw [e1]
    refine Ev.step (f := fun k => if nth l n = p then bibelotref03_To.l0 k l p o ((n : Int) - 1) else bibelotref03_To.l0 k l (3 - nth l n - p) (o + 2^n) ((n : Int) - 1)) (fun k => ?_) ?_
    · simp only [bibelotref03_To.l0]
      rw [if_pos (by omega), if_pos (by omega), if_pos (by omega), rd_nth, shl1 n (by omega), w64 (x := (n : Int) - 1) (by omega) (by omega), w64 (x := 3 - p) (by omega) (by omega), w64 (x := 3 - p - nth l n) (by omega) (by omega), w64 (x := o + 2^n) (by omega) (by omega), show 3 - p - nth l n = 3 - nth l n - p by omega]
    · unfold tp
      by_cases e : nth l n = p
      · simp only [if_pos e]; exact ih p o (by omega) hp ho (by omega)
      · simp only [if_neg e]; have := ih (3 - nth l n - p) (o + 2^n) (by omega) (by unfold Peg; omega) (by omega) (by omega)
        rwa [Int.add_assoc] at this

theorem to_ev (l : List Int) (hl : l.length ≤ 40) (hd : DiscsL l) (p : Int) (hp : Peg p) : Ev (fun k => bibelotref03_To.f k l p) (tp (nth l) l.length p) := by
  have := to_loop l hl hd l.length p 0 (Nat.le_refl _) hp (by omega) (by have := pow_le hl; omega)
  rw [Int.zero_add] at this
  unfold bibelotref03_To.f
  rwa [w64 (by omega) (by omega)]

theorem toPeg_loop (l : List Int) (hl : l.length ≤ 40) (hd : DiscsL l) (n : Nat) : ∀ (p o : Int), n ≤ l.length → Peg p → 0 ≤ o → o + 2^n ≤ 2^40 →
    Ev (fun k => hanoi_toPeg.l0 k l p o ((n : Int) - 1)) (o + tp (nth l) n p) := by
  induction n with
  | zero => intro p o _ _ _ _; exact Ev.step (f := fun _ => some (o + tp (nth l) 0 p)) (fun k => by simp only [hanoi_toPeg.l0]; rw [if_neg (by omega)]; simp [tp]) (Ev.now _)
  | succ n ih =>
    intro p o hn hp ho hb
    have e1 : (((n + 1 : Nat) : Int) - 1) = (n : Int) := by omega
    have hx := hd n (by omega)
    have hpw := pow_pos' n
    rw [Int.pow_succ] at hb
    have hq := hp
    unfold Peg at hx hq
    have h40 := p40
    rw [e1]
    refine Ev.step (f := fun k => if nth l n = p then hanoi_toPeg.l0 k l p o ((n : Int) - 1) else hanoi_toPeg.l0 k l (3 - nth l n - p) (o + 2^n) ((n : Int) - 1)) (fun k => ?_) ?_
    · simp only [hanoi_toPeg.l0]
      rw [if_pos (by omega), if_pos (by omega), if_pos (by omega), rd_nth, u64w (by omega) (by omega), if_pos (show (0:Int) ≤ (n:Int) by omega), shl1 n (by omega), w64 (x := (n : Int) - 1) (by omega) (by omega), w64 (x := 3 - nth l n) (by omega) (by omega), w64 (x := 3 - nth l n - p) (by omega) (by omega), w64 (x := o + 2^n) (by omega) (by omega)]
    · unfold tp
      by_cases e : nth l n = p
      · simp only [if_pos e]; exact ih p o (by omega) hp ho (by omega)
      · simp only [if_neg e]; have := ih (3 - nth l n - p) (o + 2^n) (by omega) (by unfold Peg; omega) (by omega) (by omega)
        rwa [Int.add_assoc] at this

theorem toPeg_ev (l : List Int) (hl : l.length ≤ 40) (hd : DiscsL l) (p : Int) (hp : Peg p) : Ev (fun k => hanoi_toPeg.f k l p) (tp (nth l) l.length p) := by
  have := toPeg_loop l hl hd l.length p 0 (Nat.le_refl _) hp (by omega) (by have := pow_le hl; omega)
  rw [Int.zero_add] at this
  unfold hanoi_toPeg.f
  rwa [w64 (by omega) (by omega)]

theorem nth_take (l : List Int) (n i : Nat) (h : i < n) : nth (l.take n) i = nth l i := by simp [nth, h]
theorem tp_take (l : List Int) (n : Nat) (p : Int) : tp (nth (l.take n)) n p = tp (nth l) n p := tp_congr (fun i hi => nth_take l n i hi) p
theorem discs_take {l : List Int} (h : DiscsL l) (n : Nat) : DiscsL (l.take n) := fun i hi => by
  rw [List.length_take] at hi
  rw [nth_take l n i (by omega)]; exact h i (by omega)
end Go.Proofs.YtnaaomhmoamfpaaDoor.Hn
/- Small facts on blocks of cells, for walks that write into memory of their own. -/
namespace Go.Proofs.YtnaaomhmoamfpaaDoor.K
set_option linter.unusedVariables false
set_option linter.unusedSimpArgs false
set_option linter.unusedSectionVars false
open Go.RowKit Go.Proofs.YtnaaomhmoamfpaaDoorW.PrintWords

/-- Block b holds these cells, none of them frozen. -/
def Blk (w : World) (b : Nat) (cs : Array Value) (t : TypeId) : Prop := w.heap[b]? = some (.cells cs t (0, 0))
theorem Blk.lt {w : World} {b : Nat} {cs : Array Value} {t : TypeId} (h : Blk w b cs t) : b < w.heap.size := (Array.getElem?_eq_some_iff.1 h).1
theorem Blk.cell {w : World} {b : Nat} {cs : Array Value} {t : TypeId} (h : Blk w b cs t) (i : Nat) {v : Value} (hv : cs[i]? = some v) : w.cell? ⟨b, i, none⟩ = some v := by
  unfold Blk at h; simp [World.cell?, h, hv]
theorem Blk.free {w : World} {b : Nat} {cs : Array Value} {t : TypeId} (h : Blk w b cs t) (i : Nat) : w.frozen? ⟨b, i, none⟩ = false := by
  unfold Blk at h; simp [World.frozen?, h]
theorem Blk.set {w : World} {b : Nat} {cs : Array Value} {t : TypeId} (h : Blk w b cs t) (i : Nat) (v : Value) : Blk (w.setCell ⟨b, i, none⟩ v) b (cs.setIfInBounds i v) t := by
  unfold Blk at *; simp [World.setCell, Array.getElem?_modify, h]
theorem Blk.setOther {w : World} {b : Nat} {cs : Array Value} {t : TypeId} (h : Blk w b cs t) {a : Addr} (hne : b ≠ a.block) (v : Value) : Blk (w.setCell a v) b cs t :=
  (Below.heap_setCell w a v b hne).trans h
theorem Blk.alloc {w : World} {b : Nat} {cs : Array Value} {t : TypeId} (h : Blk w b cs t) (o : Obj) : Blk (w.alloc o) b cs t := (Below.heap_alloc w o b h.lt).trans h
theorem Blk.new (w : World) (cs : Array Value) (t : TypeId) : Blk (w.alloc (.cells cs t)) w.heap.size cs t := heap_alloc_new w _
theorem Blk.below {w w1 : World} {B b : Nat} {cs : Array Value} {t : TypeId} (h : Blk w b cs t) (hb : Below B w w1) (hlt : b < B) : Blk w1 b cs t := (hb.block b hlt).trans h
theorem Blk.drewN {w : World} {b : Nat} {cs : Array Value} {t : TypeId} (h : Blk w b cs t) (n : Nat) : Blk (w.drewN n) b cs t := h
theorem Blk.drew {w : World} {b : Nat} {cs : Array Value} {t : TypeId} (h : Blk w b cs t) : Blk w.drew b cs t := h
theorem Blk.drawn {w w1 : World} {b : Nat} {cs : Array Value} {t : TypeId} (h : Blk w b cs t) (hd : Drawn0 w w1) : Blk w1 b cs t := by obtain ⟨n, rfl⟩ := hd; exact h
theorem Blk.grown {w w1 : World} {b : Nat} {cs : Array Value} {t : TypeId} (h : Blk w b cs t) {row : Option Nat} (hg : w.grownBy w1 row) (hne : row ≠ some b) : Blk w1 b cs t :=
  (hg.block b h.lt (fun e => hne e.symm)).trans h
theorem Blk.iterAt {w : World} {b : Nat} {cs : Array Value} {t : TypeId} (h : Blk w b cs t) {k : Nat} (hne : b ≠ k) (s : ByteArray) (pos : Nat) : Blk (w.iterAt k s pos) b cs t :=
  (Lib.iterAt_other w k b s pos hne).trans h
theorem Below.iter' {B : Nat} {a w : World} (h : Below B a w) (hB : B ≤ w.heap.size) (s : ByteArray) (pos : Nat) : Below B a (w.iter s pos) := h.alloc hB _
end Go.Proofs.YtnaaomhmoamfpaaDoor.K
/- The Chinese rings: what the calls of rank, Unrank and Next come to. -/
namespace Go.Proofs.YtnaaomhmoamfpaaDoor.G
set_option linter.unusedVariables false
set_option linter.unusedSimpArgs false
set_option linter.unusedSectionVars false
open Go.Proofs.YtnaaomhmoamfpaaDoor.Q Go.Proofs.YtnaaomhmoamfpaaDoor.Hn Go.Proofs.YtnaaomhmoamfpaaDoor.K Go.Shelf
open Go.RowKit Go.Proofs.YtnaaomhmoamfpaaDoorW.PrintWords Go.Proofs.YtnaaomhmoamfpaaDoorW.PrintLast Go.Proofs.YtnaaomhmoamfpaaDoorW.PrintMore

theorem wraps_i64 (n : Int) (h₀ : 0 ≤ n) (h₁ : n < 2 ^ 62) : IntKind.i64.wrap n = n := by rw [IntKind.wrap_i64]; omega
theorem i64_or1 (O y : Int) (h0 : 0 ≤ O) (h1 : O < 2 ^ 61) (hy : y = 0 ∨ y = 1) : bits .or .i64 (O * 2) y = 2 * O + y := by
  rw [bits_join .i64 62 (by decide) wraps_i64 1 (O * 2) y (by omega) (by omega) (by omega) (by omega) (by omega) (by omega)]; omega

/-- the digit of a ring -/
def rg (s : ByteArray) (i : Nat) : Int := (s.data.toList.getD i 48).toNat - 48
def okR (s : ByteArray) : Prop := s.size ≤ 60 ∧ ∀ b, b ∈ s.data.toList → b = 48 ∨ b = 49
instance (s : ByteArray) : Decidable (okR s) := by unfold okR; infer_instance
def xr (b c : Int) : Int := if b = c then 0 else 1
theorem xr_01 (b c : Int) : xr b c = 0 ∨ xr b c = 1 := by unfold xr; split <;> simp
theorem i64_xr (d g : Int) (hd : d = 0 ∨ d = 1) (hg : g = 0 ∨ g = 1) : bits .xor .i64 d g = xr d g := by
  rcases hd with rfl | rfl <;> rcases hg with rfl | rfl <;> decide
def rk (c : Nat → Int) : Nat → Int → Int → Int
  | 0, _, o => o
  | i+1, b, o => rk c i (xr b (c i)) (2 * o + xr b (c i))
def hanoi_rank.f (s : ByteArray) : Option Int := if okR s then some (rk (rg s) s.size 0 0) else none

theorem rg_01 {s : ByteArray} (h : okR s) (i : Nat) : rg s i = 0 ∨ rg s i = 1 := by
  unfold rg
  by_cases hi : i < s.data.toList.length
  · rw [List.getD_eq_getElem?_getD, List.getElem?_eq_getElem hi]
    rcases h.2 _ (List.getElem_mem hi) with e | e <;> simp [e]
  · rw [List.getD_eq_getElem?_getD, List.getElem?_eq_none (by omega)]; simp

def rdigs (s : ByteArray) (pos : Nat) : Array Value := ((List.range s.size).map fun j => Value.int .i64 (if j < pos then rg s j else 0)).toArray
theorem rdigs_get (s : ByteArray) (pos j : Nat) (h : j < s.size) : (rdigs s pos)[j]? = some (.int .i64 (if j < pos then rg s j else 0)) := by simp [rdigs, h]
theorem rdigs_zero (s : ByteArray) : madeCells #[.int .i64 0] s.size = rdigs s 0 := by
  apply Array.ext_getElem?
  intro i
  by_cases h : i < s.size
  · rw [rdigs_get s 0 i h]; simp [madeCells, h, Nat.mod_one]
  · simp [madeCells, rdigs, h]
theorem rdigs_set (s : ByteArray) (pos : Nat) (h : pos < s.size) : (rdigs s pos).setIfInBounds pos (.int .i64 (rg s pos)) = rdigs s (pos + 1) := by
  apply Array.ext_getElem?
  intro i
  rw [Array.getElem?_setIfInBounds]
  by_cases hi : i < s.size
  · rw [rdigs_get s _ i hi, rdigs_get s _ i hi]
    by_cases e : pos = i
    · subst e; simp [rdigs, hi]
    · rw [if_neg e]
      by_cases h1 : i < pos
      · rw [if_pos h1, if_pos (by omega)]
      · rw [if_neg h1, if_neg (by omega)]
  · simp [rdigs, hi]; intro e; omega
theorem rg_byte {s : ByteArray} (h : okR s) (pos : Nat) (hp : pos < s.size) : (s[pos]'hp).toNat < 128 ∧ ((s[pos]'hp).toNat : Int) - 48 = rg s pos := by
  have hl : pos < s.data.toList.length := by simpa using hp
  have e : s[pos]'hp = s.data.toList[pos] := by simp [ByteArray.getElem_eq_getElem_data]
  have hm := h.2 _ (List.getElem_mem hl)
  refine ⟨?_, ?_⟩
  · rw [e]; rcases hm with q | q <;> rw [q] <;> decide
  · unfold rg; rw [List.getD_eq_getElem?_getD, List.getElem?_eq_getElem hl, e]; rfl

set_option maxHeartbeats 1000000 in
theorem hanoi_rank.calls (a0 : ByteArray) (r : Int) (w : World) (h : hanoi_rank.f a0 = some r) :
    Calls Tryd.prog 70 #[.string a0] w fun e w' => e = .returned (.int .i64 r) ∧ Below w.heap.size w w' := by
  unfold hanoi_rank.f at h
  split at h
  · rename_i hb
    injection h with h
    subst h
    have hn := hb.1
    have HB := Aside0.mk hb
    clear hb
    have hmk := print_make (P := Tryd.prog) 97 2 .i64 8 Tryd.underlying97 info2 (by omega) a0.size (by omega)
    go_enter Tryd.func70, Tryd.ntmps70
    go_wp2
    go_loopw [] (fun wr => ∃ pos : Nat, pos ≤ a0.size ∧ Blk wr w.heap.size (rdigs a0 pos) 2 ∧ wr.heap[w.heap.size + 1]? = some (.stringIter a0 pos) ∧ Below w.heap.size w wr) (fun wr => a0.size - wr.iterPos (w.heap.size + 1))
    case atStart =>
      refine ⟨0, by omega, ?_, ?_, ?_⟩
      · rw [rdigs_zero]; exact (Blk.new _ _ _).alloc _
      · have := World.iter_heap (w.alloc (.cells (madeCells #[.int .i64 0] a0.size) 2)) a0 0
        simpa using this
      · exact ((Below.refl _ w).alloc (Nat.le_refl _) _).alloc (by simp) _
    case round =>
      obtain ⟨pos, hpos, hblk, hit, hbw⟩ := hrel
      have hsz : w.heap.size + 1 < wr.heap.size := (Array.getElem?_eq_some_iff.1 hit).1
      by_cases hp : pos < a0.size
      · obtain ⟨hasc, hrg⟩ := rg_byte HB.out pos hp
        have hnx : ∀ ty, (Instr.next (.pointer (some ⟨w.heap.size + 1, 0, none⟩)) true ty).run Tryd.prog wr = _ := fun ty => Lib.run_next_ascii_at wr (w.heap.size + 1) a0 pos ty hit hp hasc
        have h01 := rg_01 HB.out pos
        have hblk2 := hblk.iterAt (show w.heap.size ≠ w.heap.size + 1 by omega) a0 (pos + 1)
        have hit2 := Lib.iterAt_heap wr (w.heap.size + 1) a0 pos (pos + 1) hit
        have hbw2 := Lib.below_iterAt hbw (k := w.heap.size + 1) (by omega) a0 (pos + 1)
        have hcell := hblk2.cell pos (rdigs_get a0 pos pos hp)
        have hfree := hblk2.free pos
        rw [if_neg (by omega)] at hcell
        obtain ⟨W1, hW1⟩ : ∃ W1, wr.iterAt (w.heap.size + 1) a0 (pos + 1) = W1 := ⟨_, rfl⟩
        rw [hW1] at hblk2 hit2 hbw2 hcell hfree hnx
        have hbl : ((a0[pos]'hp).toNat : Int) = rg a0 pos + 48 := by omega
        rw [hbl] at hnx
        have R := Aside0.mk (And.intro hblk2 (And.intro hit2 (And.intro hbw2 (And.intro hit hbl))))
        clear hblk hblk2 hit hit2 hbw hbw2 hrg hbl hW1 hasc
        obtain ⟨d, hdd⟩ : ∃ d, rg a0 pos = d := ⟨_, rfl⟩
        rw [hdd] at hnx h01
        have HD := Aside0.mk hdd
        clear hdd
        have hd : 0 ≤ d ∧ d ≤ 1 := by omega
        clear h01
        go_wp2
        go_roundw
        case rel =>
          obtain ⟨r1, r2, r3, r4, r5⟩ := R.out
          refine ⟨pos + 1, by omega, ?_, ?_, ?_⟩
          · have := r1.set pos (.int .i64 d)
            rw [← HD.out] at this ⊢
            rw [rdigs_set a0 pos hp] at this
            exact this
          · rw [Below.heap_setCell _ _ _ _ (by simp)]; exact r2
          · exact r3.setCell (p := ⟨w.heap.size, pos, none⟩) (Nat.le_refl _) _
        case measure =>
          obtain ⟨r1, r2, r3, r4, r5⟩ := R.out
          unfold World.iterPos
          rw [Below.heap_setCell _ _ _ _ (by simp), r2, r4]
          simp only
          omega
      · have hnx : ∀ ty, (Instr.next (.pointer (some ⟨w.heap.size + 1, 0, none⟩)) true ty).run Tryd.prog wr = _ := fun ty => Lib.run_next_end_at wr (w.heap.size + 1) a0 pos ty hit hp
        obtain rfl : pos = a0.size := by omega
        have RB := Aside0.mk hblk
        have RW := Aside0.mk hbw
        clear hblk hbw hit
        go_wp2
        go_loop [3, 4, 8] (fun o b i => ∃ (k : Nat) (O d : Int), k ≤ a0.size ∧ i = .int .i64 ((k : Int) - 1) ∧ o = .int .i64 O ∧ b = .int .i64 d ∧ (d = 0 ∨ d = 1) ∧ 0 ≤ O ∧ O < 2 ^ (a0.size - k) ∧ rk (rg a0) k d O = rk (rg a0) a0.size 0 0) (fun _ _ i => (intOf i + 1).toNat)
        case atStart => exact ⟨a0.size, 0, 0, by omega, rfl, rfl, rfl, by omega, by omega, by simp, rfl⟩
        case round =>
          obtain ⟨k, O, d, hk, rfl, rfl, rfl, hd, hO, hO2, hrk⟩ := hrel
          have HRK := Aside0.mk hrk
          clear hrk
          cases k with
          | zero =>
            go_wp2
            go_ret
            exact ⟨congrArg (fun z => Ending.returned (.int .i64 z)) HRK.out, RW.out⟩
          | succ k =>
            rw [show (((k + 1 : Nat) : Int) - 1) = (k : Int) by omega]
            have hcell := RB.out.cell k (rdigs_get a0 a0.size k (by omega))
            rw [if_pos (by omega)] at hcell
            have h01 := rg_01 HB.out k
            have hp2 : (2:Int) ^ (a0.size - (k+1)) ≤ 2 ^ 60 := pow_le (by omega)
            have hp3 : (2:Int) ^ (a0.size - k) = 2 ^ (a0.size - (k+1)) * 2 := by rw [show a0.size - k = a0.size - (k+1) + 1 by omega, Int.pow_succ]
            have HP := Aside0.mk hp3
            have e60 : (2:Int) ^ 60 = 1152921504606846976 := by decide
            have e61 : (2:Int) ^ 61 = 2305843009213693952 := by decide
            rw [e60] at hp2
            have hxr := i64_xr d (rg a0 k) hd h01
            have hx01 := xr_01 d (rg a0 k)
            have hor := i64_or1 O (xr d (rg a0 k)) hO (by rw [e61]; omega) hx01
            have HX := Aside0.mk hx01
            have hOb : O < 1152921504606846976 := by omega
            have HRK' := HRK.out
            rw [rk] at HRK'
            clear HRK
            have HRK := Aside0.mk HRK'
            clear HRK'
            have HO2 := Aside0.mk (And.intro hO2 hd)
            obtain ⟨g, hg⟩ : ∃ g, rg a0 k = g := ⟨_, rfl⟩
            rw [hg] at hcell hxr hor HX HRK
            clear hp3 e60 e61 hp2 hx01 hO2 hd h01 hg
            obtain ⟨X, hX⟩ : ∃ X, xr d g = X := ⟨_, rfl⟩
            rw [hX] at hxr hor HX HRK
            clear hX
            go_wp2
            go_round
            case rel =>
              have o2 := HO2.out
              have o3 := HX.out
              have o4 := HP.out
              exact ⟨k, 2 * O + X, X, by omega, rfl, rfl, rfl, o3, by omega, by rw [o4]; omega, HRK.out⟩
            case measure => simp [intOf]
  · cases h
end Go.Proofs.YtnaaomhmoamfpaaDoor.G
namespace Go.Proofs.YtnaaomhmoamfpaaDoor.G
end Go.Proofs.YtnaaomhmoamfpaaDoor.G
namespace Go.Proofs.YtnaaomhmoamfpaaDoor.Q
set_option linter.unusedVariables false
set_option linter.unusedSimpArgs false
set_option linter.unusedSectionVars false
open Go.Proofs.YtnaaomhmoamfpaaDoor.G
open Go.RowKit Go.Proofs.YtnaaomhmoamfpaaDoorW.PrintWords Go.Proofs.YtnaaomhmoamfpaaDoorW.PrintLast Go.Proofs.YtnaaomhmoamfpaaDoorW.PrintMore
attribute [local go_sem] max2_int min2_int max_two min_two max_three min_three max_four min_four   -- for this text's walks alone

/-! ### hanoi_Rank: function 33 -/
def hanoi_Rank.f (a0 : ByteArray) : Option (Int × Int) := (hanoi_CheckRings.f a0).bind fun t147 => (if t147 = 0 then ((hanoi_rank.f a0).bind fun t148 => (some (t148, 0))) else (some (0, t147)))
set_option maxHeartbeats 8000000 in
set_option maxRecDepth 100000 in
theorem hanoi_Rank.calls (a0 : ByteArray) (r1 : Int) (r2 : Int) (w : World) (h : hanoi_Rank.f a0 = some (r1, r2)) :
    Calls Tryd.prog 33 #[.string a0] w fun e w' => e = .returned (.tuple #[.int .i64 r1, .int .i64 r2]) ∧ Below w.heap.size w w' := by
  have HB := Aside0.mk (Below.refl w.heap.size w)
  have H : ((hanoi_CheckRings.f a0).bind fun t147 => (if t147 = 0 then ((hanoi_rank.f a0).bind fun t148 => (some (t148, 0))) else (some (0, t147)))) = some (r1, r2) := h
  clear h
  replace H := Option.bind_eq_some_iff.mp H
  obtain ⟨t147, A20, H⟩ := H
  replace H : (if t147 = 0 then ((hanoi_rank.f a0).bind fun t148 => (some (t148, 0))) else (some (0, t147))) = some (r1, r2) := H
  have A2 := Aside0.mk A20
  clear A20
  by_cases c3 : t147 = 0
  · rw [if_pos c3] at H
    have c3b0 : (t147 == 0) = true := beq_iff_eq.mpr c3
    have c3b1 : (t147 != 0) = false := bne_eq_false_iff_eq.mpr c3
    clear c3
    replace H := Option.bind_eq_some_iff.mp H
    obtain ⟨t148, A40, H⟩ := H
    replace H : (some (t148, 0)) = some (r1, r2) := H
    have A4 := Aside0.mk A40
    clear A40
    simp only [Option.some.injEq, Prod.mk.injEq] at H
    obtain ⟨rfl, rfl⟩ := H
    go_enter Tryd.func33, Tryd.ntmps33
    go_wp2_with (first | ((with_reducible refine gate_callee (f := 53) rfl ?_); refine goesL_ (some 6) rfl rfl Tryd.func53 (by kernel_rfl) rfl #[.string a0] rfl (by (try simp only [List.map_toArray, List.map_cons, List.map_nil]); first | done | rfl | (simp only [List.length_drop, List.length_take]; rfl)) ?_; (with_reducible refine (hanoi_CheckRings.calls a0 t147 _ A2.out).mono ?_); rintro e w5 ⟨rfl, hb⟩; refine ⟨_, rfl, ?_⟩; have n0_ := Aside0.mk (below_step (by repeat (first | (with_reducible first | exact HB.out | apply below_alloc | apply pw_below_drewN | apply below_drew1) | exact HB.out)) hb); clear HB; have HB := n0_; clear n0_; (try clear hb); (try clear hb2); (try clear hk); (try clear hi)) | ((with_reducible refine gate_callee (f := 70) rfl ?_); refine goesL_ (some 11) rfl rfl Tryd.func70 (by kernel_rfl) rfl #[.string a0] rfl (by (try simp only [List.map_toArray, List.map_cons, List.map_nil]); first | done | rfl | (simp only [List.length_drop, List.length_take]; rfl)) ?_; (with_reducible refine (hanoi_rank.calls a0 t148 _ A4.out).mono ?_); rintro e w6 ⟨rfl, hb⟩; refine ⟨_, rfl, ?_⟩; have n0_ := Aside0.mk (below_step (by repeat (first | (with_reducible first | exact HB.out | apply below_alloc | apply pw_below_drewN | apply below_drew1) | exact HB.out)) hb); clear HB; have HB := n0_; clear n0_; (try clear hb); (try clear hb2); (try clear hk); (try clear hi)))
    go_ret2
    exact ⟨by first | rfl | (simp [errW_none, errW_some] <;> rfl) | (simp [*, errW_none, errW_some] <;> rfl), by repeat (first | (with_reducible first | exact HB.out | apply below_alloc | apply pw_below_drewN | apply below_drew1) | exact HB.out)⟩
  · rw [if_neg c3] at H
    have c3b0 : (t147 == 0) = false := beq_eq_false_iff_ne.mpr c3
    have c3b1 : (t147 != 0) = true := bne_iff_ne.mpr c3
    simp only [Option.some.injEq, Prod.mk.injEq] at H
    obtain ⟨rfl, rfl⟩ := H
    go_enter Tryd.func33, Tryd.ntmps33
    go_wp2_with (first | ((with_reducible refine gate_callee (f := 53) rfl ?_); refine goesL_ (some 6) rfl rfl Tryd.func53 (by kernel_rfl) rfl #[.string a0] rfl (by (try simp only [List.map_toArray, List.map_cons, List.map_nil]); first | done | rfl | (simp only [List.length_drop, List.length_take]; rfl)) ?_; (with_reducible refine (hanoi_CheckRings.calls a0 t147 _ A2.out).mono ?_); rintro e w7 ⟨rfl, hb⟩; refine ⟨_, rfl, ?_⟩; have n0_ := Aside0.mk (below_step (by repeat (first | (with_reducible first | exact HB.out | apply below_alloc | apply pw_below_drewN | apply below_drew1) | exact HB.out)) hb); clear HB; have HB := n0_; clear n0_; (try clear hb); (try clear hb2); (try clear hk); (try clear hi)))
    go_ret2
    exact ⟨by first | rfl | (simp [errW_none, errW_some] <;> rfl) | (simp [*, errW_none, errW_some] <;> rfl), by repeat (first | (with_reducible first | exact HB.out | apply below_alloc | apply pw_below_drewN | apply below_drew1) | exact HB.out)⟩

end Go.Proofs.YtnaaomhmoamfpaaDoor.Q
namespace Go.Proofs.YtnaaomhmoamfpaaDoor.G
end Go.Proofs.YtnaaomhmoamfpaaDoor.G
namespace Go.Proofs.YtnaaomhmoamfpaaDoor.Q
set_option linter.unusedVariables false
set_option linter.unusedSimpArgs false
set_option linter.unusedSectionVars false
open Go.Proofs.YtnaaomhmoamfpaaDoor.G
open Go.RowKit Go.Proofs.YtnaaomhmoamfpaaDoorW.PrintWords Go.Proofs.YtnaaomhmoamfpaaDoorW.PrintLast Go.Proofs.YtnaaomhmoamfpaaDoorW.PrintMore
attribute [local go_sem] max2_int min2_int max_two min_two max_three min_three max_four min_four   -- for this text's walks alone

/-! ### slices_Min_int_int: function 103 -/
def slices_Min_int_int.l0 : Nat → List Int → Int → Int → Option (Int)
  | 0, _, _, _ => none
  | k + 1, x0, x3, x4 => if x4 < (x0.length : Int) then (if 0 ≤ x4 then (slices_Min_int_int.l0 k x0 (mn x3 (rd x0 x4)) (wrap64 (x4 + 1))) else (none)) else (some x3)
def slices_Min_int_int.f (k : Nat) (l0 : List Int) : Option (Int) := if (l0.length : Int) < 1 then (none) else (if 0 < (l0.length : Int) then (slices_Min_int_int.l0 k l0 (rd l0 0) 1) else (none))
theorem slices_Min_int_int.mono_l : ∀ k, (∀ y0 y1 y2, LeO (slices_Min_int_int.l0 k y0 y1 y2) (slices_Min_int_int.l0 (k + 1) y0 y1 y2))
  | 0 => fun _ _ _ r h => by simp [slices_Min_int_int.l0] at h
  | k + 1 => by
    have ih0 := slices_Min_int_int.mono_l k
    · intro y0 y1 y2
      unfold slices_Min_int_int.l0
      repeat' first
      | (with_reducible exact ih0 _ _ _)
      | (with_reducible exact LeO.refl _)
      | (with_reducible exact LeO.none _)
      | (with_reducible refine LeO.ite ?_ ?_)
      | (with_reducible refine LeO.bind ?_ (fun _ => ?_))
      | exact ih0 _ _ _
      | exact LeO.none _
      | refine LeO.ite ?_ ?_
      | refine LeO.bind ?_ (fun _ => ?_)
theorem slices_Min_int_int.mono : ∀ a0 k, LeO (slices_Min_int_int.f k a0) (slices_Min_int_int.f (k + 1) a0) := by
  intro a0 k
  have ih0 := slices_Min_int_int.mono_l k
  unfold slices_Min_int_int.f
  repeat' first
      | (with_reducible exact ih0 _ _ _)
      | (with_reducible exact LeO.refl _)
      | (with_reducible exact LeO.none _)
      | (with_reducible refine LeO.ite ?_ ?_)
      | (with_reducible refine LeO.bind ?_ (fun _ => ?_))
      | exact ih0 _ _ _
      | exact LeO.none _
      | refine LeO.ite ?_ ?_
      | refine LeO.bind ?_ (fun _ => ?_)
set_option maxHeartbeats 8000000 in
set_option maxRecDepth 100000 in
theorem slices_Min_int_int.calls (k : Nat) (A0 : Option Addr) (c0 : Nat) (l0 : List Int) (r : Int) (w : World) (hr0 : Kd.C (Kd.int .i64) w A0 l0.length l0) (hc0 : l0.length ≤ c0) (h : slices_Min_int_int.f k l0 = some r) :
    Calls Tryd.prog 103 #[.slice A0 l0.length c0] w fun e w' => e = .returned (.int .i64 r) ∧ Below w.heap.size w w' := by
  have HR0 := Aside0.mk hr0
  have HC0 := Aside0.mk hc0
  clear hr0 hc0
  have HB := Aside0.mk (Below.refl w.heap.size w)
  have H : (if (l0.length : Int) < 1 then (none) else (if 0 < (l0.length : Int) then (slices_Min_int_int.l0 k l0 (rd l0 0) 1) else (none))) = some r := h
  clear h
  by_cases c2 : (l0.length : Int) < 1
  · rw [if_pos c2] at H
    exact absurd H (by simp)
  · rw [if_neg c2] at H
    have c2b0 : decide ((l0.length : Int) < 1) = false := decide_eq_false c2
    have c2b1 : decide (l0.length < 1) = false := decide_eq_false (by omega)
    clear c2
    by_cases c3 : 0 < (l0.length : Int)
    · rw [if_pos c3] at H
      have c3b0 : decide (0 < (l0.length : Int)) = true := decide_eq_true c3
      have c3b1 : decide (0 < l0.length) = true := decide_eq_true (by omega)
      clear c3
      have H' := Aside0.mk H
      clear H
      have p227 : 0 ≤ (0 : Int) := (by omega)
      have q227 : 0 < (l0.length : Int) := of_decide_eq_true (by first | (with_reducible assumption) | assumption)
      obtain ⟨ad227, e227, hx227_0⟩ := Kd.at_int HR0.out 0 p227 q227
      cases e227
      have qi227 : (0 < l0.length) = True := eq_true (by omega)
      (try rw [show ((0 : Int)).toNat = 0 from rfl] at hx227_0)
      (try rw [Addr.add_zero'] at hx227_0)
      replace p227 := eq_true p227
      replace q227 := eq_true q227
      go_enter Tryd.func103, Tryd.ntmps103
      go_wp2
      go_loopg [3, 4] k (fun kq v3 v4 w' => ∃ (x3_1 : Int) (x4_1 : Int), v3 = .int .i64 x3_1 ∧ v4 = .int .i64 x4_1 ∧ Aside0 (slices_Min_int_int.l0 kq l0 x3_1 x4_1 = some r) ∧ Aside0 (kq ≤ k) ∧ Aside0 (Below w.heap.size w w'))
      case atStart => exact ⟨(rd l0 0), (1), (by first | rfl | (simp; done) | (simp [*]; done)), (by first | rfl | (simp; done) | (simp [*]; done)), H', ⟨Nat.le_refl _⟩, ⟨by repeat (first | (with_reducible first | exact HB.out | apply below_alloc | apply pw_below_drewN | apply below_drew1) | exact HB.out)⟩⟩
      case round =>
        clear H'
        try clear c1
        try clear c2
        try clear c2b0
        try clear c2b1
        try clear p2
        try clear q2
        try clear hx2
        try clear qi2
        try clear c3
        try clear c3b0
        try clear c3b1
        try clear hx227_0
        try clear p227
        try clear q227
        obtain ⟨x3_1, x4_1, rfl, rfl, HA, HK1, HB⟩ := hrel
        cases gk with
        | zero => exact absurd HA.out (by simp [slices_Min_int_int.l0])
        | succ k1 =>
          have H := HA.out
          clear HA
          simp only [slices_Min_int_int.l0] at H
          by_cases c4 : x4_1 < (l0.length : Int)
          · rw [if_pos c4] at H
            have c4b0 : decide (x4_1 < (l0.length : Int)) = true := decide_eq_true c4
            clear c4
            by_cases c5 : 0 ≤ x4_1
            · rw [if_pos c5] at H
              have c5b0 : decide (0 ≤ x4_1) = true := decide_eq_true c5
              clear c5
              obtain ⟨ji6, hji6⟩ : ∃ j_ : Int, (mn x3_1 (rd l0 x4_1)) = j_ := ⟨_, rfl⟩
              replace H : (slices_Min_int_int.l0 k1 l0 ji6 (wrap64 (x4_1 + 1))) = some r := by first | (rw [hji6] at H; exact H) | (simp only [hji6] at H ⊢; exact H)
              have hji6_ : (if (rd l0 x4_1) < x3_1 then (rd l0 x4_1) else x3_1) = ji6 := hji6
              have H' := Aside0.mk H
              clear H
              have p228 : 0 ≤ (x4_1 : Int) := of_decide_eq_true (by first | (with_reducible assumption) | assumption)
              have q228 : x4_1 < (l0.length : Int) := of_decide_eq_true (by first | (with_reducible assumption) | assumption)
              obtain ⟨ad228, e228, hx228_0⟩ := Kd.at_int HR0.out x4_1 p228 q228
              obtain rfl : ad227 = ad228 := (by injection e228)
              replace hx228_0 := (HB.out.cell (World.block_lt_of_cell? w _ hx228_0)).trans hx228_0
              replace p228 := eq_true p228
              replace q228 := eq_true q228
              go_wp2
              go_roundg k1
              case measure => have := HK1.out; omega
              case rel => exact ⟨(ji6), (wrap64 (x4_1 + 1)), (by first | rfl | (simp; done) | (simp only [← hji6] <;> (first | rfl | simp)) | (simp [*]; done)), (by first | rfl | (simp; done) | (simp [*]; done)), H', ⟨by have := HK1.out; omega⟩, ⟨by repeat (first | (with_reducible first | exact HB.out | apply below_alloc | apply pw_below_drewN | apply below_drew1) | exact HB.out)⟩⟩
            · rw [if_neg c5] at H
              exact absurd H (by simp)
          · rw [if_neg c4] at H
            have c4b0 : decide (x4_1 < (l0.length : Int)) = false := decide_eq_false c4
            clear c4
            obtain rfl := Option.some.inj H
            go_wp2
            go_ret
            exact ⟨by first | rfl | (simp [errW_none, errW_some] <;> rfl) | (simp [*, errW_none, errW_some] <;> rfl), by repeat (first | (with_reducible first | exact HB.out | apply below_alloc | apply pw_below_drewN | apply below_drew1) | exact HB.out)⟩
    · rw [if_neg c3] at H
      exact absurd H (by simp)

end Go.Proofs.YtnaaomhmoamfpaaDoor.Q
namespace Go.Proofs.YtnaaomhmoamfpaaDoor.G
end Go.Proofs.YtnaaomhmoamfpaaDoor.G
namespace Go.Proofs.YtnaaomhmoamfpaaDoor.Q
set_option linter.unusedVariables false
set_option linter.unusedSimpArgs false
set_option linter.unusedSectionVars false
open Go.Proofs.YtnaaomhmoamfpaaDoor.G
open Go.RowKit Go.Proofs.YtnaaomhmoamfpaaDoorW.PrintWords Go.Proofs.YtnaaomhmoamfpaaDoorW.PrintLast Go.Proofs.YtnaaomhmoamfpaaDoorW.PrintMore
attribute [local go_sem] max2_int min2_int max_two min_two max_three min_three max_four min_four   -- for this text's walks alone

/-! ### slices_Max_int_int: function 104 -/
def slices_Max_int_int.l0 : Nat → List Int → Int → Int → Option (Int)
  | 0, _, _, _ => none
  | k + 1, x0, x3, x4 => if x4 < (x0.length : Int) then (if 0 ≤ x4 then (slices_Max_int_int.l0 k x0 (mx x3 (rd x0 x4)) (wrap64 (x4 + 1))) else (none)) else (some x3)
def slices_Max_int_int.f (k : Nat) (l0 : List Int) : Option (Int) := if (l0.length : Int) < 1 then (none) else (if 0 < (l0.length : Int) then (slices_Max_int_int.l0 k l0 (rd l0 0) 1) else (none))
theorem slices_Max_int_int.mono_l : ∀ k, (∀ y0 y1 y2, LeO (slices_Max_int_int.l0 k y0 y1 y2) (slices_Max_int_int.l0 (k + 1) y0 y1 y2))
  | 0 => fun _ _ _ r h => by simp [slices_Max_int_int.l0] at h
  | k + 1 => by
    have ih0 := slices_Max_int_int.mono_l k
    · intro y0 y1 y2
      unfold slices_Max_int_int.l0
      repeat' first
      | (with_reducible exact ih0 _ _ _)
      | (with_reducible exact LeO.refl _)
      | (with_reducible exact LeO.none _)
      | (with_reducible refine LeO.ite ?_ ?_)
      | (with_reducible refine LeO.bind ?_ (fun _ => ?_))
      | exact ih0 _ _ _
      | exact LeO.none _
      | refine LeO.ite ?_ ?_
      | refine LeO.bind ?_ (fun _ => ?_)
theorem slices_Max_int_int.mono : ∀ a0 k, LeO (slices_Max_int_int.f k a0) (slices_Max_int_int.f (k + 1) a0) := by
  intro a0 k
  have ih0 := slices_Max_int_int.mono_l k
  unfold slices_Max_int_int.f
  repeat' first
      | (with_reducible exact ih0 _ _ _)
      | (with_reducible exact LeO.refl _)
      | (with_reducible exact LeO.none _)
      | (with_reducible refine LeO.ite ?_ ?_)
      | (with_reducible refine LeO.bind ?_ (fun _ => ?_))
      | exact ih0 _ _ _
      | exact LeO.none _
      | refine LeO.ite ?_ ?_
      | refine LeO.bind ?_ (fun _ => ?_)
set_option maxHeartbeats 8000000 in
set_option maxRecDepth 100000 in
theorem slices_Max_int_int.calls (k : Nat) (A0 : Option Addr) (c0 : Nat) (l0 : List Int) (r : Int) (w : World) (hr0 : Kd.C (Kd.int .i64) w A0 l0.length l0) (hc0 : l0.length ≤ c0) (h : slices_Max_int_int.f k l0 = some r) :
    Calls Tryd.prog 104 #[.slice A0 l0.length c0] w fun e w' => e = .returned (.int .i64 r) ∧ Below w.heap.size w w' := by
  have HR0 := Aside0.mk hr0
  have HC0 := Aside0.mk hc0
  clear hr0 hc0
  have HB := Aside0.mk (Below.refl w.heap.size w)
  have H : (if (l0.length : Int) < 1 then (none) else (if 0 < (l0.length : Int) then (slices_Max_int_int.l0 k l0 (rd l0 0) 1) else (none))) = some r := h
  clear h
  by_cases c2 : (l0.length : Int) < 1
  · rw [if_pos c2] at H
    exact absurd H (by simp)
  · rw [if_neg c2] at H
    have c2b0 : decide ((l0.length : Int) < 1) = false := decide_eq_false c2
    have c2b1 : decide (l0.length < 1) = false := decide_eq_false (by omega)
    clear c2
    by_cases c3 : 0 < (l0.length : Int)
    · rw [if_pos c3] at H
      have c3b0 : decide (0 < (l0.length : Int)) = true := decide_eq_true c3
      have c3b1 : decide (0 < l0.length) = true := decide_eq_true (by omega)
      clear c3
      have H' := Aside0.mk H
      clear H
      have p229 : 0 ≤ (0 : Int) := (by omega)
      have q229 : 0 < (l0.length : Int) := of_decide_eq_true (by first | (with_reducible assumption) | assumption)
      obtain ⟨ad229, e229, hx229_0⟩ := Kd.at_int HR0.out 0 p229 q229
      cases e229
      have qi229 : (0 < l0.length) = True := eq_true (by omega)
      (try rw [show ((0 : Int)).toNat = 0 from rfl] at hx229_0)
      (try rw [Addr.add_zero'] at hx229_0)
      replace p229 := eq_true p229
      replace q229 := eq_true q229
      go_enter Tryd.func104, Tryd.ntmps104
      go_wp2
      go_loopg [3, 4] k (fun kq v3 v4 w' => ∃ (x3_1 : Int) (x4_1 : Int), v3 = .int .i64 x3_1 ∧ v4 = .int .i64 x4_1 ∧ Aside0 (slices_Max_int_int.l0 kq l0 x3_1 x4_1 = some r) ∧ Aside0 (kq ≤ k) ∧ Aside0 (Below w.heap.size w w'))
      case atStart => exact ⟨(rd l0 0), (1), (by first | rfl | (simp; done) | (simp [*]; done)), (by first | rfl | (simp; done) | (simp [*]; done)), H', ⟨Nat.le_refl _⟩, ⟨by repeat (first | (with_reducible first | exact HB.out | apply below_alloc | apply pw_below_drewN | apply below_drew1) | exact HB.out)⟩⟩
      case round =>
        clear H'
        try clear c1
        try clear c2
        try clear c2b0
        try clear c2b1
        try clear p2
        try clear q2
        try clear hx2
        try clear qi2
        try clear c3
        try clear c3b0
        try clear c3b1
        try clear hx229_0
        try clear p229
        try clear q229
        obtain ⟨x3_1, x4_1, rfl, rfl, HA, HK1, HB⟩ := hrel
        cases gk with
        | zero => exact absurd HA.out (by simp [slices_Max_int_int.l0])
        | succ k1 =>
          have H := HA.out
          clear HA
          simp only [slices_Max_int_int.l0] at H
          by_cases c4 : x4_1 < (l0.length : Int)
          · rw [if_pos c4] at H
            have c4b0 : decide (x4_1 < (l0.length : Int)) = true := decide_eq_true c4
            clear c4
            by_cases c5 : 0 ≤ x4_1
            · rw [if_pos c5] at H
              have c5b0 : decide (0 ≤ x4_1) = true := decide_eq_true c5
              clear c5
              obtain ⟨ji6, hji6⟩ : ∃ j_ : Int, (mx x3_1 (rd l0 x4_1)) = j_ := ⟨_, rfl⟩
              replace H : (slices_Max_int_int.l0 k1 l0 ji6 (wrap64 (x4_1 + 1))) = some r := by first | (rw [hji6] at H; exact H) | (simp only [hji6] at H ⊢; exact H)
              have hji6_ : (if x3_1 < (rd l0 x4_1) then (rd l0 x4_1) else x3_1) = ji6 := hji6
              have H' := Aside0.mk H
              clear H
              have p230 : 0 ≤ (x4_1 : Int) := of_decide_eq_true (by first | (with_reducible assumption) | assumption)
              have q230 : x4_1 < (l0.length : Int) := of_decide_eq_true (by first | (with_reducible assumption) | assumption)
              obtain ⟨ad230, e230, hx230_0⟩ := Kd.at_int HR0.out x4_1 p230 q230
              obtain rfl : ad229 = ad230 := (by injection e230)
              replace hx230_0 := (HB.out.cell (World.block_lt_of_cell? w _ hx230_0)).trans hx230_0
              replace p230 := eq_true p230
              replace q230 := eq_true q230
              go_wp2
              go_roundg k1
              case measure => have := HK1.out; omega
              case rel => exact ⟨(ji6), (wrap64 (x4_1 + 1)), (by first | rfl | (simp; done) | (simp only [← hji6] <;> (first | rfl | simp)) | (simp [*]; done)), (by first | rfl | (simp; done) | (simp [*]; done)), H', ⟨by have := HK1.out; omega⟩, ⟨by repeat (first | (with_reducible first | exact HB.out | apply below_alloc | apply pw_below_drewN | apply below_drew1) | exact HB.out)⟩⟩
            · rw [if_neg c5] at H
              exact absurd H (by simp)
          · rw [if_neg c4] at H
            have c4b0 : decide (x4_1 < (l0.length : Int)) = false := decide_eq_false c4
            clear c4
            obtain rfl := Option.some.inj H
            go_wp2
            go_ret
            exact ⟨by first | rfl | (simp [errW_none, errW_some] <;> rfl) | (simp [*, errW_none, errW_some] <;> rfl), by repeat (first | (with_reducible first | exact HB.out | apply below_alloc | apply pw_below_drewN | apply below_drew1) | exact HB.out)⟩
    · rw [if_neg c3] at H
      exact absurd H (by simp)

end Go.Proofs.YtnaaomhmoamfpaaDoor.Q
namespace Go.Proofs.YtnaaomhmoamfpaaDoor.G
end Go.Proofs.YtnaaomhmoamfpaaDoor.G
namespace Go.Proofs.YtnaaomhmoamfpaaDoor.Q
set_option linter.unusedVariables false
set_option linter.unusedSimpArgs false
set_option linter.unusedSectionVars false
open Go.Proofs.YtnaaomhmoamfpaaDoor.G
open Go.RowKit Go.Proofs.YtnaaomhmoamfpaaDoorW.PrintWords Go.Proofs.YtnaaomhmoamfpaaDoorW.PrintLast Go.Proofs.YtnaaomhmoamfpaaDoorW.PrintMore
attribute [local go_sem] max2_int min2_int max_two min_two max_three min_three max_four min_four   -- for this text's walks alone

/-! ### hanoi_areDiscs: function 88 -/
def hanoi_areDiscs.f (k : Nat) (l0 : List Int) : Option (Bool) := if (l0.length : Int) > 0 then (if (l0.length : Int) ≤ 40 then ((slices_Min_int_int.f k l0).bind fun t231 => (if t231 ≥ 0 then ((slices_Max_int_int.f k l0).bind fun t232 => (some (decide (t232 < 3)))) else (some false))) else (some false)) else (some false)
theorem hanoi_areDiscs.mono : ∀ a0 k, LeO (hanoi_areDiscs.f k a0) (hanoi_areDiscs.f (k + 1) a0) := by
  intro a0 k
  unfold hanoi_areDiscs.f
  repeat' first
      | (with_reducible exact slices_Max_int_int.mono _ _)
      | (with_reducible exact slices_Min_int_int.mono _ _)
      | (with_reducible exact LeO.refl _)
      | (with_reducible exact LeO.none _)
      | (with_reducible refine LeO.ite ?_ ?_)
      | (with_reducible refine LeO.bind ?_ (fun _ => ?_))
      | exact slices_Max_int_int.mono _ _
      | exact slices_Min_int_int.mono _ _
      | exact LeO.none _
      | refine LeO.ite ?_ ?_
      | refine LeO.bind ?_ (fun _ => ?_)
set_option maxHeartbeats 8000000 in
set_option maxRecDepth 100000 in
theorem hanoi_areDiscs.calls (k : Nat) (A0 : Option Addr) (c0 : Nat) (l0 : List Int) (r : Bool) (w : World) (hr0 : Kd.C (Kd.int .i64) w A0 l0.length l0) (hc0 : l0.length ≤ c0) (h : hanoi_areDiscs.f k l0 = some r) :
    Calls Tryd.prog 88 #[.slice A0 l0.length c0] w fun e w' => e = .returned (.bool r) ∧ Below w.heap.size w w' := by
  have HR0 := Aside0.mk hr0
  have HC0 := Aside0.mk hc0
  clear hr0 hc0
  have HB := Aside0.mk (Below.refl w.heap.size w)
  have H : (if (l0.length : Int) > 0 then (if (l0.length : Int) ≤ 40 then ((slices_Min_int_int.f k l0).bind fun t231 => (if t231 ≥ 0 then ((slices_Max_int_int.f k l0).bind fun t232 => (some (decide (t232 < 3)))) else (some false))) else (some false)) else (some false)) = some r := h
  clear h
  by_cases c2 : (l0.length : Int) > 0
  · rw [if_pos c2] at H
    have c2b0 : decide (0 < (l0.length : Int)) = true := decide_eq_true c2
    have c2b1 : decide (0 < l0.length) = true := decide_eq_true (by omega)
    clear c2
    by_cases c3 : (l0.length : Int) ≤ 40
    · rw [if_pos c3] at H
      have c3b0 : decide ((l0.length : Int) ≤ 40) = true := decide_eq_true c3
      have c3b1 : decide (l0.length ≤ 40) = true := decide_eq_true (by omega)
      clear c3
      replace H := Option.bind_eq_some_iff.mp H
      obtain ⟨t231, A40, H⟩ := H
      replace H : (if t231 ≥ 0 then ((slices_Max_int_int.f k l0).bind fun t232 => (some (decide (t232 < 3)))) else (some false)) = some r := H
      have A4 := Aside0.mk A40
      clear A40
      by_cases c5 : t231 ≥ 0
      · rw [if_pos c5] at H
        have c5b0 : decide (0 ≤ t231) = true := decide_eq_true c5
        clear c5
        replace H := Option.bind_eq_some_iff.mp H
        obtain ⟨t232, A60, H⟩ := H
        replace H : (some (decide (t232 < 3))) = some r := H
        have A6 := Aside0.mk A60
        clear A60
        obtain rfl := Option.some.inj H
        go_enter Tryd.func88, Tryd.ntmps88
        go_wp2_with (first | (go_at_call 103; (with_reducible refine (slices_Min_int_int.calls k _ _ l0 t231 _ ?side1 ?side2 A4.out).mono ?_); (case side1 => repeat (first | exact HR0.out | (with_reducible refine Kd.C_alloc ?_ _) | (with_reducible refine Kd.C_drewN ?_ _) | (with_reducible refine Kd.C_drew ?_))); (case side2 => exact HC0.out); rintro e w7 ⟨rfl, hb⟩; have n0_ := Aside0.mk (below_step (by repeat (first | (with_reducible first | exact HB.out | apply below_alloc | apply pw_below_drewN | apply below_drew1) | exact HB.out)) hb); clear HB; have HB := n0_; clear n0_; (try clear hb); (try clear hb2); (try clear hk); (try clear hi)) | (go_at_call 104; (with_reducible refine (slices_Max_int_int.calls k _ _ l0 t232 _ ?side1 ?side2 A6.out).mono ?_); (case side1 => repeat (first | exact (Kd.C_below HR0.out HB.out) | (with_reducible refine Kd.C_alloc ?_ _) | (with_reducible refine Kd.C_drewN ?_ _) | (with_reducible refine Kd.C_drew ?_))); (case side2 => exact HC0.out); rintro e w8 ⟨rfl, hb⟩; have n0_ := Aside0.mk (below_step (by repeat (first | (with_reducible first | exact HB.out | apply below_alloc | apply pw_below_drewN | apply below_drew1) | exact HB.out)) hb); clear HB; have HB := n0_; clear n0_; (try clear hb); (try clear hb2); (try clear hk); (try clear hi)))
        go_ret
        exact ⟨by first | rfl | (simp [errW_none, errW_some] <;> rfl) | (simp [*, errW_none, errW_some] <;> rfl), by repeat (first | (with_reducible first | exact HB.out | apply below_alloc | apply pw_below_drewN | apply below_drew1) | exact HB.out)⟩
      · rw [if_neg c5] at H
        have c5b0 : decide (0 ≤ t231) = false := decide_eq_false c5
        clear c5
        obtain rfl := Option.some.inj H
        go_enter Tryd.func88, Tryd.ntmps88
        go_wp2_with (first | (go_at_call 103; (with_reducible refine (slices_Min_int_int.calls k _ _ l0 t231 _ ?side1 ?side2 A4.out).mono ?_); (case side1 => repeat (first | exact HR0.out | (with_reducible refine Kd.C_alloc ?_ _) | (with_reducible refine Kd.C_drewN ?_ _) | (with_reducible refine Kd.C_drew ?_))); (case side2 => exact HC0.out); rintro e w9 ⟨rfl, hb⟩; have n0_ := Aside0.mk (below_step (by repeat (first | (with_reducible first | exact HB.out | apply below_alloc | apply pw_below_drewN | apply below_drew1) | exact HB.out)) hb); clear HB; have HB := n0_; clear n0_; (try clear hb); (try clear hb2); (try clear hk); (try clear hi)))
        go_ret
        exact ⟨by first | rfl | (simp [errW_none, errW_some] <;> rfl) | (simp [*, errW_none, errW_some] <;> rfl), by repeat (first | (with_reducible first | exact HB.out | apply below_alloc | apply pw_below_drewN | apply below_drew1) | exact HB.out)⟩
    · rw [if_neg c3] at H
      have c3b0 : decide ((l0.length : Int) ≤ 40) = false := decide_eq_false c3
      have c3b1 : decide (l0.length ≤ 40) = false := decide_eq_false (by omega)
      clear c3
      obtain rfl := Option.some.inj H
      go_enter Tryd.func88, Tryd.ntmps88
      go_wp2
      go_ret
      exact ⟨by first | rfl | (simp [errW_none, errW_some] <;> rfl) | (simp [*, errW_none, errW_some] <;> rfl), by repeat (first | (with_reducible first | exact HB.out | apply below_alloc | apply pw_below_drewN | apply below_drew1) | exact HB.out)⟩
  · rw [if_neg c2] at H
    have c2b0 : decide (0 < (l0.length : Int)) = false := decide_eq_false c2
    have c2b1 : decide (0 < l0.length) = false := decide_eq_false (by omega)
    clear c2
    obtain rfl := Option.some.inj H
    go_enter Tryd.func88, Tryd.ntmps88
    go_wp2
    go_ret
    exact ⟨by first | rfl | (simp [errW_none, errW_some] <;> rfl) | (simp [*, errW_none, errW_some] <;> rfl), by repeat (first | (with_reducible first | exact HB.out | apply below_alloc | apply pw_below_drewN | apply below_drew1) | exact HB.out)⟩

end Go.Proofs.YtnaaomhmoamfpaaDoor.Q
namespace Go.Proofs.YtnaaomhmoamfpaaDoor.G
end Go.Proofs.YtnaaomhmoamfpaaDoor.G
namespace Go.Proofs.YtnaaomhmoamfpaaDoor.Q
set_option linter.unusedVariables false
set_option linter.unusedSimpArgs false
set_option linter.unusedSectionVars false
open Go.Proofs.YtnaaomhmoamfpaaDoor.G
open Go.RowKit Go.Proofs.YtnaaomhmoamfpaaDoorW.PrintWords Go.Proofs.YtnaaomhmoamfpaaDoorW.PrintLast Go.Proofs.YtnaaomhmoamfpaaDoorW.PrintMore
attribute [local go_sem] max2_int min2_int max_two min_two max_three min_three max_four min_four   -- for this text's walks alone

/-! ### hanoi_Check: function 62 -/
def hanoi_Check.f (k : Nat) (l0 : List Int) : Option (Int) := (hanoi_areDiscs.f k l0).bind fun t233 => (if t233 = true then (some 0) else (some 30))
theorem hanoi_Check.mono : ∀ a0 k, LeO (hanoi_Check.f k a0) (hanoi_Check.f (k + 1) a0) := by
  intro a0 k
  unfold hanoi_Check.f
  repeat' first
      | (with_reducible exact hanoi_areDiscs.mono _ _)
      | (with_reducible exact LeO.refl _)
      | (with_reducible exact LeO.none _)
      | (with_reducible refine LeO.ite ?_ ?_)
      | (with_reducible refine LeO.bind ?_ (fun _ => ?_))
      | exact hanoi_areDiscs.mono _ _
      | exact LeO.none _
      | refine LeO.ite ?_ ?_
      | refine LeO.bind ?_ (fun _ => ?_)
set_option maxHeartbeats 8000000 in
set_option maxRecDepth 100000 in
theorem hanoi_Check.calls (k : Nat) (A0 : Option Addr) (c0 : Nat) (l0 : List Int) (r : Int) (w : World) (hr0 : Kd.C (Kd.int .i64) w A0 l0.length l0) (hc0 : l0.length ≤ c0) (h : hanoi_Check.f k l0 = some r) :
    Calls Tryd.prog 62 #[.slice A0 l0.length c0] w fun e w' => e = .returned (.int .i64 r) ∧ Below w.heap.size w w' := by
  have HR0 := Aside0.mk hr0
  have HC0 := Aside0.mk hc0
  clear hr0 hc0
  have HB := Aside0.mk (Below.refl w.heap.size w)
  have H : ((hanoi_areDiscs.f k l0).bind fun t233 => (if t233 = true then (some 0) else (some 30))) = some r := h
  clear h
  replace H := Option.bind_eq_some_iff.mp H
  obtain ⟨t233, A20, H⟩ := H
  replace H : (if t233 = true then (some 0) else (some 30)) = some r := H
  have A2 := Aside0.mk A20
  clear A20
  by_cases c3 : t233 = true
  · subst c3
    have H1 : (some 0) = some r := by rw [if_pos rfl] at H; exact H
    clear H
    have H := H1
    clear H1
    obtain rfl := Option.some.inj H
    go_enter Tryd.func62, Tryd.ntmps62
    go_wp2_with (first | ((with_reducible refine gate_callee (f := 88) rfl ?_); refine goesL_ (some 4) rfl rfl Tryd.func88 (by kernel_rfl) rfl #[.slice A0 l0.length c0] rfl (by (try simp only [List.map_toArray, List.map_cons, List.map_nil]); first | done | rfl | (simp only [List.length_drop, List.length_take]; rfl)) ?_; (with_reducible refine (hanoi_areDiscs.calls k _ _ l0 true _ ?side1 ?side2 A2.out).mono ?_); (case side1 => repeat (first | exact HR0.out | (with_reducible refine Kd.C_alloc ?_ _) | (with_reducible refine Kd.C_drewN ?_ _) | (with_reducible refine Kd.C_drew ?_))); (case side2 => exact HC0.out); rintro e w4 ⟨rfl, hb⟩; refine ⟨_, rfl, ?_⟩; have n0_ := Aside0.mk (below_step (by repeat (first | (with_reducible first | exact HB.out | apply below_alloc | apply pw_below_drewN | apply below_drew1) | exact HB.out)) hb); clear HB; have HB := n0_; clear n0_; (try clear hb); (try clear hb2); (try clear hk); (try clear hi)))
    go_ret
    exact ⟨by first | rfl | (simp [errW_none, errW_some] <;> rfl) | (simp [*, errW_none, errW_some] <;> rfl), by repeat (first | (with_reducible first | exact HB.out | apply below_alloc | apply pw_below_drewN | apply below_drew1) | exact HB.out)⟩
  · replace c3 := Bool.eq_false_iff.mpr c3
    subst c3
    have H1 : (some 30) = some r := by rw [if_neg (show ¬ (false = true) by decide)] at H; exact H
    clear H
    have H := H1
    clear H1
    obtain rfl := Option.some.inj H
    go_enter Tryd.func62, Tryd.ntmps62
    go_wp2_with (first | ((with_reducible refine gate_callee (f := 88) rfl ?_); refine goesL_ (some 4) rfl rfl Tryd.func88 (by kernel_rfl) rfl #[.slice A0 l0.length c0] rfl (by (try simp only [List.map_toArray, List.map_cons, List.map_nil]); first | done | rfl | (simp only [List.length_drop, List.length_take]; rfl)) ?_; (with_reducible refine (hanoi_areDiscs.calls k _ _ l0 false _ ?side1 ?side2 A2.out).mono ?_); (case side1 => repeat (first | exact HR0.out | (with_reducible refine Kd.C_alloc ?_ _) | (with_reducible refine Kd.C_drewN ?_ _) | (with_reducible refine Kd.C_drew ?_))); (case side2 => exact HC0.out); rintro e w5 ⟨rfl, hb⟩; refine ⟨_, rfl, ?_⟩; have n0_ := Aside0.mk (below_step (by repeat (first | (with_reducible first | exact HB.out | apply below_alloc | apply pw_below_drewN | apply below_drew1) | exact HB.out)) hb); clear HB; have HB := n0_; clear n0_; (try clear hb); (try clear hb2); (try clear hk); (try clear hi)))
    go_ret
    exact ⟨by first | rfl | (simp [errW_none, errW_some] <;> rfl) | (simp [*, errW_none, errW_some] <;> rfl), by repeat (first | (with_reducible first | exact HB.out | apply below_alloc | apply pw_below_drewN | apply below_drew1) | exact HB.out)⟩

end Go.Proofs.YtnaaomhmoamfpaaDoor.Q
namespace Go.Proofs.YtnaaomhmoamfpaaDoor.G
end Go.Proofs.YtnaaomhmoamfpaaDoor.G
namespace Go.Proofs.YtnaaomhmoamfpaaDoor.Q
set_option linter.unusedVariables false
set_option linter.unusedSimpArgs false
set_option linter.unusedSectionVars false
open Go.Proofs.YtnaaomhmoamfpaaDoor.G
open Go.RowKit Go.Proofs.YtnaaomhmoamfpaaDoorW.PrintWords Go.Proofs.YtnaaomhmoamfpaaDoorW.PrintLast Go.Proofs.YtnaaomhmoamfpaaDoorW.PrintMore
attribute [local go_sem] max2_int min2_int max_two min_two max_three min_three max_four min_four   -- for this text's walks alone

/-! ### hanoi_open: function 74 -/
mutual
def hanoi_open.l0 : Nat → List (List Int) → List (List Int) → Int → Int → Option (Int)
  | 0, _, _, _, _ => none
  | k + 1, x0, x8, x9, x10 => if x10 < x9 then (if 0 ≤ x10 then (if x10 < (x8.length : Int) then ((hanoi_Check.f k (rd_L1 x8 x10)).bind fun t239 => (if t239 = 0 then (hanoi_open.l0 k x0 x8 x9 (wrap64 (x10 + 1))) else (some t239))) else (none)) else (none)) else (hanoi_open.l1 k x0 x0 (x0.length : Int) 0)
def hanoi_open.l1 : Nat → List (List Int) → List (List Int) → Int → Int → Option (Int)
  | 0, _, _, _, _ => none
  | k + 1, x0, x20, x21, x22 => if x22 < x21 then (if 0 ≤ x22 then (if x22 < (x20.length : Int) then (if 0 < (x0.length : Int) then (if ((rd_L1 x20 x22).length : Int) = ((rd_L1 x0 0).length : Int) then (hanoi_open.l1 k x0 x20 x21 (wrap64 (x22 + 1))) else (some 6)) else (none)) else (none)) else (none)) else (some 0)
end
def hanoi_open.f (k : Nat) (l0 : List (List Int)) : Option (Int) := hanoi_open.l0 k l0 l0 (l0.length : Int) 0
theorem hanoi_open.mono_l : ∀ k, (∀ y0 y1 y2 y3, LeO (hanoi_open.l0 k y0 y1 y2 y3) (hanoi_open.l0 (k + 1) y0 y1 y2 y3)) ∧ (∀ y0 y1 y2 y3, LeO (hanoi_open.l1 k y0 y1 y2 y3) (hanoi_open.l1 (k + 1) y0 y1 y2 y3))
  | 0 => ⟨fun _ _ _ _ r h => by simp [hanoi_open.l0] at h, fun _ _ _ _ r h => by simp [hanoi_open.l1] at h⟩
  | k + 1 => by
    obtain ⟨ih0, ih1⟩ := hanoi_open.mono_l k
    refine ⟨?_, ?_⟩
    · intro y0 y1 y2 y3
      unfold hanoi_open.l0
      repeat' first
      | (with_reducible exact ih0 _ _ _ _)
      | (with_reducible exact ih1 _ _ _ _)
      | (with_reducible exact hanoi_Check.mono _ _)
      | (with_reducible exact LeO.refl _)
      | (with_reducible exact LeO.none _)
      | (with_reducible refine LeO.ite ?_ ?_)
      | (with_reducible refine LeO.bind ?_ (fun _ => ?_))
      | exact ih0 _ _ _ _
      | exact ih1 _ _ _ _
      | exact hanoi_Check.mono _ _
      | exact LeO.none _
      | refine LeO.ite ?_ ?_
      | refine LeO.bind ?_ (fun _ => ?_)
    · intro y0 y1 y2 y3
      unfold hanoi_open.l1
      repeat' first
      | (with_reducible exact ih0 _ _ _ _)
      | (with_reducible exact ih1 _ _ _ _)
      | (with_reducible exact hanoi_Check.mono _ _)
      | (with_reducible exact LeO.refl _)
      | (with_reducible exact LeO.none _)
      | (with_reducible refine LeO.ite ?_ ?_)
      | (with_reducible refine LeO.bind ?_ (fun _ => ?_))
      | exact ih0 _ _ _ _
      | exact ih1 _ _ _ _
      | exact hanoi_Check.mono _ _
      | exact LeO.none _
      | refine LeO.ite ?_ ?_
      | refine LeO.bind ?_ (fun _ => ?_)
theorem hanoi_open.mono : ∀ a0 k, LeO (hanoi_open.f k a0) (hanoi_open.f (k + 1) a0) := by
  intro a0 k
  obtain ⟨ih0, ih1⟩ := hanoi_open.mono_l k
  unfold hanoi_open.f
  repeat' first
      | (with_reducible exact ih0 _ _ _ _)
      | (with_reducible exact ih1 _ _ _ _)
      | (with_reducible exact hanoi_Check.mono _ _)
      | (with_reducible exact LeO.refl _)
      | (with_reducible exact LeO.none _)
      | (with_reducible refine LeO.ite ?_ ?_)
      | (with_reducible refine LeO.bind ?_ (fun _ => ?_))
      | exact ih0 _ _ _ _
      | exact ih1 _ _ _ _
      | exact hanoi_Check.mono _ _
      | exact LeO.none _
      | refine LeO.ite ?_ ?_
      | refine LeO.bind ?_ (fun _ => ?_)
set_option maxHeartbeats 8000000 in
set_option maxRecDepth 100000 in
theorem hanoi_open.calls (k : Nat) (A0 : Option Addr) (c0 : Nat) (l0 : List (List Int)) (r : Int) (w : World) (hr0 : Kd.C (Kd.slice 3 (Kd.int .i64)) w A0 l0.length l0) (hc0 : l0.length ≤ c0) (h : hanoi_open.f k l0 = some r) :
    Calls Tryd.prog 74 #[.slice A0 l0.length c0] w fun e w' => e = .returned (.int .i64 r) ∧ Below w.heap.size w w' := by
  have HR0 := Aside0.mk hr0
  have HC0 := Aside0.mk hc0
  clear hr0 hc0
  have HB := Aside0.mk (Below.refl w.heap.size w)
  have H : (hanoi_open.l0 k l0 l0 (l0.length : Int) 0) = some r := h
  clear h
  have H' := Aside0.mk H
  clear H
  go_enter Tryd.func74, Tryd.ntmps74
  go_wp2
  go_loopg [10] k (fun kq v10 w' => ∃ (x10_1 : Int), v10 = .int .i64 x10_1 ∧ Aside0 (hanoi_open.l0 kq l0 l0 (l0.length : Int) x10_1 = some r) ∧ Aside0 (kq ≤ k) ∧ Aside0 (Below w.heap.size w w'))
  case atStart => exact ⟨(0), (by first | rfl | (simp; done) | (simp [*]; done)), H', ⟨Nat.le_refl _⟩, ⟨by repeat (first | (with_reducible first | exact HB.out | apply below_alloc | apply pw_below_drewN | apply below_drew1) | exact HB.out)⟩⟩
  case round =>
    clear H'
    obtain ⟨x10_1, rfl, HA, HK1, HB⟩ := hrel
    cases gk with
    | zero => exact absurd HA.out (by simp [hanoi_open.l0])
    | succ k1 =>
      have H := HA.out
      clear HA
      simp only [hanoi_open.l0] at H
      by_cases c2 : x10_1 < (l0.length : Int)
      · rw [if_pos c2] at H
        have c2b0 : decide (x10_1 < (l0.length : Int)) = true := decide_eq_true c2
        clear c2
        by_cases c3 : 0 ≤ x10_1
        · rw [if_pos c3] at H
          have c3b0 : decide (0 ≤ x10_1) = true := decide_eq_true c3
          clear c3
          by_cases c4 : x10_1 < (l0.length : Int)
          · rw [if_pos c4] at H
            have c4b0 : decide (x10_1 < (l0.length : Int)) = true := decide_eq_true c4
            clear c4
            replace H := Option.bind_eq_some_iff.mp H
            obtain ⟨t239, A50, H⟩ := H
            replace H : (if t239 = 0 then (hanoi_open.l0 k1 l0 l0 (l0.length : Int) (wrap64 (x10_1 + 1))) else (some t239)) = some r := H
            have A5 := Aside0.mk A50
            clear A50
            by_cases c6 : t239 = 0
            · rw [if_pos c6] at H
              have c6b0 : (t239 == 0) = true := beq_iff_eq.mpr c6
              have c6b1 : (t239 != 0) = false := bne_eq_false_iff_eq.mpr c6
              clear c6
              have H' := Aside0.mk H
              clear H
              have p238 : 0 ≤ (x10_1 : Int) := of_decide_eq_true (by first | (with_reducible assumption) | assumption)
              have q238 : x10_1 < (l0.length : Int) := of_decide_eq_true (by first | (with_reducible assumption) | assumption)
              obtain ⟨ad238, A238_0, c238_0, e238, hx238_0, hl238_0, hi238_0⟩ := at_L1 HR0.out x10_1 p238 q238
              cases e238
              replace hx238_0 := (HB.out.cell (World.block_lt_of_cell? w _ hx238_0)).trans hx238_0
              have HR238_0 := Aside0.mk hi238_0
              have HC238_0 := Aside0.mk hl238_0
              clear hi238_0 hl238_0
              replace p238 := eq_true p238
              replace q238 := eq_true q238
              go_wp2_with (first | ((with_reducible refine gate_callee (f := 62) rfl ?_); refine goesL_ (some 15) rfl rfl Tryd.func62 (by kernel_rfl) rfl #[.slice A238_0 (rd_L1 l0 x10_1).length c238_0] rfl (by (try simp only [List.map_toArray, List.map_cons, List.map_nil]); first | done | rfl | (simp only [List.length_drop, List.length_take]; rfl)) ?_; (with_reducible refine (hanoi_Check.calls k1 _ _ (rd_L1 l0 x10_1) t239 _ ?side1 ?side2 A5.out).mono ?_); (case side1 => repeat (first | exact (Kd.C_below HR238_0.out HB.out) | (with_reducible refine Kd.C_alloc ?_ _) | (with_reducible refine Kd.C_drewN ?_ _) | (with_reducible refine Kd.C_drew ?_))); (case side2 => exact HC238_0.out); rintro e w7 ⟨rfl, hb⟩; refine ⟨_, rfl, ?_⟩; have n0_ := Aside0.mk (below_step (by repeat (first | (with_reducible first | exact HB.out | apply below_alloc | apply pw_below_drewN | apply below_drew1) | exact HB.out)) hb); clear HB; have HB := n0_; clear n0_; (try clear hb); (try clear hb2); (try clear hk); (try clear hi)))
              go_roundg k1
              case measure => have := HK1.out; omega
              case rel => exact ⟨(wrap64 (x10_1 + 1)), (by first | rfl | (simp; done) | (simp [*]; done)), H', ⟨by have := HK1.out; omega⟩, ⟨by repeat (first | (with_reducible first | exact HB.out | apply below_alloc | apply pw_below_drewN | apply below_drew1) | exact HB.out)⟩⟩
            · rw [if_neg c6] at H
              have c6b0 : (t239 == 0) = false := beq_eq_false_iff_ne.mpr c6
              have c6b1 : (t239 != 0) = true := bne_iff_ne.mpr c6
              obtain rfl := Option.some.inj H
              have p238 : 0 ≤ (x10_1 : Int) := of_decide_eq_true (by first | (with_reducible assumption) | assumption)
              have q238 : x10_1 < (l0.length : Int) := of_decide_eq_true (by first | (with_reducible assumption) | assumption)
              obtain ⟨ad238, A238_0, c238_0, e238, hx238_0, hl238_0, hi238_0⟩ := at_L1 HR0.out x10_1 p238 q238
              cases e238
              replace hx238_0 := (HB.out.cell (World.block_lt_of_cell? w _ hx238_0)).trans hx238_0
              have HR238_0 := Aside0.mk hi238_0
              have HC238_0 := Aside0.mk hl238_0
              clear hi238_0 hl238_0
              replace p238 := eq_true p238
              replace q238 := eq_true q238
              go_wp2_with (first | ((with_reducible refine gate_callee (f := 62) rfl ?_); refine goesL_ (some 15) rfl rfl Tryd.func62 (by kernel_rfl) rfl #[.slice A238_0 (rd_L1 l0 x10_1).length c238_0] rfl (by (try simp only [List.map_toArray, List.map_cons, List.map_nil]); first | done | rfl | (simp only [List.length_drop, List.length_take]; rfl)) ?_; (with_reducible refine (hanoi_Check.calls k1 _ _ (rd_L1 l0 x10_1) t239 _ ?side1 ?side2 A5.out).mono ?_); (case side1 => repeat (first | exact (Kd.C_below HR238_0.out HB.out) | (with_reducible refine Kd.C_alloc ?_ _) | (with_reducible refine Kd.C_drewN ?_ _) | (with_reducible refine Kd.C_drew ?_))); (case side2 => exact HC238_0.out); rintro e w8 ⟨rfl, hb⟩; refine ⟨_, rfl, ?_⟩; have n0_ := Aside0.mk (below_step (by repeat (first | (with_reducible first | exact HB.out | apply below_alloc | apply pw_below_drewN | apply below_drew1) | exact HB.out)) hb); clear HB; have HB := n0_; clear n0_; (try clear hb); (try clear hb2); (try clear hk); (try clear hi)))
              go_ret
              exact ⟨by first | rfl | (simp [errW_none, errW_some] <;> rfl) | (simp [*, errW_none, errW_some] <;> rfl), by repeat (first | (with_reducible first | exact HB.out | apply below_alloc | apply pw_below_drewN | apply below_drew1) | exact HB.out)⟩
          · rw [if_neg c4] at H
            exact absurd H (by simp)
        · rw [if_neg c3] at H
          exact absurd H (by simp)
      · rw [if_neg c2] at H
        have c2b0 : decide (x10_1 < (l0.length : Int)) = false := decide_eq_false c2
        clear c2
        have H' := Aside0.mk H
        clear H
        go_wp2
        go_loopg [22] k1 (fun kq v22 w' => ∃ (x22_2 : Int), v22 = .int .i64 x22_2 ∧ Aside0 (hanoi_open.l1 kq l0 l0 (l0.length : Int) x22_2 = some r) ∧ Aside0 (kq ≤ k1) ∧ Aside0 (Below w.heap.size w w'))
        case atStart => exact ⟨(0), (by first | rfl | (simp; done) | (simp [*]; done)), H', ⟨Nat.le_refl _⟩, ⟨by repeat (first | (with_reducible first | exact HB.out | apply below_alloc | apply pw_below_drewN | apply below_drew1) | exact HB.out)⟩⟩
        case round =>
          clear H'
          try clear c2
          try clear c2b0
          try clear p2
          try clear q2
          try clear hx2
          try clear c3
          try clear c3b0
          try clear c4
          try clear c4b0
          try clear c6
          try clear c6b0
          try clear c6b1
          try clear p6
          try clear c7
          try clear hx238_0
          try clear p238
          try clear q238
          obtain ⟨x22_2, rfl, HA, HK2, HB⟩ := hrel
          cases gk with
          | zero => exact absurd HA.out (by simp [hanoi_open.l1])
          | succ k2 =>
            have H := HA.out
            clear HA
            simp only [hanoi_open.l1] at H
            by_cases c9 : x22_2 < (l0.length : Int)
            · rw [if_pos c9] at H
              have c9b0 : decide (x22_2 < (l0.length : Int)) = true := decide_eq_true c9
              clear c9
              by_cases c10 : 0 ≤ x22_2
              · rw [if_pos c10] at H
                have c10b0 : decide (0 ≤ x22_2) = true := decide_eq_true c10
                clear c10
                by_cases c11 : x22_2 < (l0.length : Int)
                · rw [if_pos c11] at H
                  have c11b0 : decide (x22_2 < (l0.length : Int)) = true := decide_eq_true c11
                  clear c11
                  by_cases c12 : 0 < (l0.length : Int)
                  · rw [if_pos c12] at H
                    have c12b0 : decide (0 < (l0.length : Int)) = true := decide_eq_true c12
                    have c12b1 : decide (0 < l0.length) = true := decide_eq_true (by omega)
                    clear c12
                    by_cases c13 : ((rd_L1 l0 x22_2).length : Int) = ((rd_L1 l0 0).length : Int)
                    · rw [if_pos c13] at H
                      have c13b0 : (((rd_L1 l0 x22_2).length : Int) == ((rd_L1 l0 0).length : Int)) = true := beq_iff_eq.mpr c13
                      have c13b1 : (((rd_L1 l0 x22_2).length : Int) != ((rd_L1 l0 0).length : Int)) = false := bne_eq_false_iff_eq.mpr c13
                      have c13b2 : ((rd_L1 l0 x22_2).length == (rd_L1 l0 0).length) = true := by first | simpa using c13 | (simp at c13 ⊢; omega)
                      clear c13
                      have H' := Aside0.mk H
                      clear H
                      have p240 : 0 ≤ (x22_2 : Int) := of_decide_eq_true (by first | (with_reducible assumption) | assumption)
                      have q240 : x22_2 < (l0.length : Int) := of_decide_eq_true (by first | (with_reducible assumption) | assumption)
                      obtain ⟨ad240, A240_0, c240_0, e240, hx240_0, hl240_0, hi240_0⟩ := at_L1 HR0.out x22_2 p240 q240
                      cases e240
                      replace hx240_0 := (HB.out.cell (World.block_lt_of_cell? w _ hx240_0)).trans hx240_0
                      have HR240_0 := Aside0.mk hi240_0
                      have HC240_0 := Aside0.mk hl240_0
                      clear hi240_0 hl240_0
                      replace p240 := eq_true p240
                      replace q240 := eq_true q240
                      have p241 : 0 ≤ (0 : Int) := (by omega)
                      have q241 : 0 < (l0.length : Int) := of_decide_eq_true (by first | (with_reducible assumption) | assumption)
                      obtain ⟨ad241, A241_0, c241_0, e241, hx241_0, hl241_0, hi241_0⟩ := at_L1 HR0.out 0 p241 q241
                      obtain rfl : ad240 = ad241 := (by injection e241)
                      have qi241 : (0 < l0.length) = True := eq_true (by omega)
                      (try rw [show ((0 : Int)).toNat = 0 from rfl] at hx241_0)
                      (try rw [Addr.add_zero'] at hx241_0)
                      replace hx241_0 := (HB.out.cell (World.block_lt_of_cell? w _ hx241_0)).trans hx241_0
                      have HR241_0 := Aside0.mk hi241_0
                      have HC241_0 := Aside0.mk hl241_0
                      clear hi241_0 hl241_0
                      replace p241 := eq_true p241
                      replace q241 := eq_true q241
                      go_wp2
                      go_roundg k2
                      case measure => have := HK1.out; have := HK2.out; omega
                      case rel => exact ⟨(wrap64 (x22_2 + 1)), (by first | rfl | (simp; done) | (simp [*]; done)), H', ⟨by have := HK1.out; have := HK2.out; omega⟩, ⟨by repeat (first | (with_reducible first | exact HB.out | apply below_alloc | apply pw_below_drewN | apply below_drew1) | exact HB.out)⟩⟩
                    · rw [if_neg c13] at H
                      have c13b0 : (((rd_L1 l0 x22_2).length : Int) == ((rd_L1 l0 0).length : Int)) = false := beq_eq_false_iff_ne.mpr c13
                      have c13b1 : (((rd_L1 l0 x22_2).length : Int) != ((rd_L1 l0 0).length : Int)) = true := bne_iff_ne.mpr c13
                      have c13b2 : ((rd_L1 l0 x22_2).length == (rd_L1 l0 0).length) = false := by first | simpa using c13 | (simp at c13 ⊢; omega)
                      obtain rfl := Option.some.inj H
                      have p240 : 0 ≤ (x22_2 : Int) := of_decide_eq_true (by first | (with_reducible assumption) | assumption)
                      have q240 : x22_2 < (l0.length : Int) := of_decide_eq_true (by first | (with_reducible assumption) | assumption)
                      obtain ⟨ad240, A240_0, c240_0, e240, hx240_0, hl240_0, hi240_0⟩ := at_L1 HR0.out x22_2 p240 q240
                      cases e240
                      replace hx240_0 := (HB.out.cell (World.block_lt_of_cell? w _ hx240_0)).trans hx240_0
                      have HR240_0 := Aside0.mk hi240_0
                      have HC240_0 := Aside0.mk hl240_0
                      clear hi240_0 hl240_0
                      replace p240 := eq_true p240
                      replace q240 := eq_true q240
                      have p241 : 0 ≤ (0 : Int) := (by omega)
                      have q241 : 0 < (l0.length : Int) := of_decide_eq_true (by first | (with_reducible assumption) | assumption)
                      obtain ⟨ad241, A241_0, c241_0, e241, hx241_0, hl241_0, hi241_0⟩ := at_L1 HR0.out 0 p241 q241
                      obtain rfl : ad240 = ad241 := (by injection e241)
                      have qi241 : (0 < l0.length) = True := eq_true (by omega)
                      (try rw [show ((0 : Int)).toNat = 0 from rfl] at hx241_0)
                      (try rw [Addr.add_zero'] at hx241_0)
                      replace hx241_0 := (HB.out.cell (World.block_lt_of_cell? w _ hx241_0)).trans hx241_0
                      have HR241_0 := Aside0.mk hi241_0
                      have HC241_0 := Aside0.mk hl241_0
                      clear hi241_0 hl241_0
                      replace p241 := eq_true p241
                      replace q241 := eq_true q241
                      go_wp2
                      go_ret
                      exact ⟨by first | rfl | (simp [errW_none, errW_some] <;> rfl) | (simp [*, errW_none, errW_some] <;> rfl), by repeat (first | (with_reducible first | exact HB.out | apply below_alloc | apply pw_below_drewN | apply below_drew1) | exact HB.out)⟩
                  · rw [if_neg c12] at H
                    exact absurd H (by simp)
                · rw [if_neg c11] at H
                  exact absurd H (by simp)
              · rw [if_neg c10] at H
                exact absurd H (by simp)
            · rw [if_neg c9] at H
              have c9b0 : decide (x22_2 < (l0.length : Int)) = false := decide_eq_false c9
              clear c9
              obtain rfl := Option.some.inj H
              go_wp2
              go_ret
              exact ⟨by first | rfl | (simp [errW_none, errW_some] <;> rfl) | (simp [*, errW_none, errW_some] <;> rfl), by repeat (first | (with_reducible first | exact HB.out | apply below_alloc | apply pw_below_drewN | apply below_drew1) | exact HB.out)⟩

end Go.Proofs.YtnaaomhmoamfpaaDoor.Q
namespace Go.Proofs.YtnaaomhmoamfpaaDoor.G
end Go.Proofs.YtnaaomhmoamfpaaDoor.G
namespace Go.Proofs.YtnaaomhmoamfpaaDoor.Q
set_option linter.unusedVariables false
set_option linter.unusedSimpArgs false
set_option linter.unusedSectionVars false
open Go.Proofs.YtnaaomhmoamfpaaDoor.G
open Go.RowKit Go.Proofs.YtnaaomhmoamfpaaDoorW.PrintWords Go.Proofs.YtnaaomhmoamfpaaDoorW.PrintLast Go.Proofs.YtnaaomhmoamfpaaDoorW.PrintMore
attribute [local go_sem] max2_int min2_int max_two min_two max_three min_three max_four min_four   -- for this text's walks alone

/-! ### slices_Equal_int_int: function 75 -/
def slices_Equal_int_int.l0 : Nat → List Int → List Int → Int → Int → Option (Bool)
  | 0, _, _, _, _ => none
  | k + 1, x0, x1, x12, x13 => if x13 < x12 then (if 0 ≤ x13 then (if x13 < (x0.length : Int) then (if x13 < (x1.length : Int) then (if (rd x0 x13) = (rd x1 x13) then (slices_Equal_int_int.l0 k x0 x1 x12 (wrap64 (x13 + 1))) else (some false)) else (none)) else (none)) else (none)) else (some true)
def slices_Equal_int_int.f (k : Nat) (l0 : List Int) (l1 : List Int) : Option (Bool) := if (l0.length : Int) = (l1.length : Int) then (slices_Equal_int_int.l0 k l0 l1 (l0.length : Int) 0) else (some false)
theorem slices_Equal_int_int.mono_l : ∀ k, (∀ y0 y1 y2 y3, LeO (slices_Equal_int_int.l0 k y0 y1 y2 y3) (slices_Equal_int_int.l0 (k + 1) y0 y1 y2 y3))
  | 0 => fun _ _ _ _ r h => by simp [slices_Equal_int_int.l0] at h
  | k + 1 => by
    have ih0 := slices_Equal_int_int.mono_l k
    · intro y0 y1 y2 y3
      unfold slices_Equal_int_int.l0
      repeat' first
      | (with_reducible exact ih0 _ _ _ _)
      | (with_reducible exact LeO.refl _)
      | (with_reducible exact LeO.none _)
      | (with_reducible refine LeO.ite ?_ ?_)
      | (with_reducible refine LeO.bind ?_ (fun _ => ?_))
      | exact ih0 _ _ _ _
      | exact LeO.none _
      | refine LeO.ite ?_ ?_
      | refine LeO.bind ?_ (fun _ => ?_)
theorem slices_Equal_int_int.mono : ∀ a0 a1 k, LeO (slices_Equal_int_int.f k a0 a1) (slices_Equal_int_int.f (k + 1) a0 a1) := by
  intro a0 a1 k
  have ih0 := slices_Equal_int_int.mono_l k
  unfold slices_Equal_int_int.f
  repeat' first
      | (with_reducible exact ih0 _ _ _ _)
      | (with_reducible exact LeO.refl _)
      | (with_reducible exact LeO.none _)
      | (with_reducible refine LeO.ite ?_ ?_)
      | (with_reducible refine LeO.bind ?_ (fun _ => ?_))
      | exact ih0 _ _ _ _
      | exact LeO.none _
      | refine LeO.ite ?_ ?_
      | refine LeO.bind ?_ (fun _ => ?_)
set_option maxHeartbeats 8000000 in
set_option maxRecDepth 100000 in
theorem slices_Equal_int_int.calls (k : Nat) (A0 : Option Addr) (c0 : Nat) (l0 : List Int) (A1 : Option Addr) (c1 : Nat) (l1 : List Int) (r : Bool) (w : World) (hr0 : Kd.C (Kd.int .i64) w A0 l0.length l0) (hc0 : l0.length ≤ c0) (hr1 : Kd.C (Kd.int .i64) w A1 l1.length l1) (hc1 : l1.length ≤ c1) (h : slices_Equal_int_int.f k l0 l1 = some r) :
    Calls Tryd.prog 75 #[.slice A0 l0.length c0, .slice A1 l1.length c1] w fun e w' => e = .returned (.bool r) ∧ Drawn0 w w' := by
  have HR0 := Aside0.mk hr0
  have HC0 := Aside0.mk hc0
  clear hr0 hc0
  have HR1 := Aside0.mk hr1
  have HC1 := Aside0.mk hc1
  clear hr1 hc1
  have H : (if (l0.length : Int) = (l1.length : Int) then (slices_Equal_int_int.l0 k l0 l1 (l0.length : Int) 0) else (some false)) = some r := h
  clear h
  by_cases c3 : (l0.length : Int) = (l1.length : Int)
  · rw [if_pos c3] at H
    have c3b0 : ((l0.length : Int) == (l1.length : Int)) = true := beq_iff_eq.mpr c3
    have c3b1 : ((l0.length : Int) != (l1.length : Int)) = false := bne_eq_false_iff_eq.mpr c3
    have c3b2 : (l0.length == l1.length) = true := by first | simpa using c3 | (simp at c3 ⊢; omega)
    clear c3
    have H' := Aside0.mk H
    clear H
    go_enter Tryd.func75, Tryd.ntmps75
    go_wp2
    repeat (go_quiet (fail); try go_wp2)
    go_loopg [13] k (fun kq v13 w' => ∃ (x13_1 : Int), v13 = .int .i64 x13_1 ∧ Aside0 (slices_Equal_int_int.l0 kq l0 l1 (l0.length : Int) x13_1 = some r) ∧ Aside0 (kq ≤ k) ∧ Drawn0 w w')
    case atStart => exact ⟨(0), (by first | rfl | (simp; done) | (simp [*]; done)), H', ⟨Nat.le_refl _⟩, by repeat (first | exact Drawn0.refl _ | apply Drawn0.step)⟩
    case round =>
      clear H'
      try clear c1
      try clear p2
      try clear c3
      try clear c3b0
      try clear c3b1
      try clear c3b2
      obtain ⟨x13_1, rfl, HA, HK1, ⟨m1, rfl⟩⟩ := hrel
      cases gk with
      | zero => exact absurd HA.out (by simp [slices_Equal_int_int.l0])
      | succ k1 =>
        have H := HA.out
        clear HA
        simp only [slices_Equal_int_int.l0] at H
        by_cases c4 : x13_1 < (l0.length : Int)
        · rw [if_pos c4] at H
          have c4b0 : decide (x13_1 < (l0.length : Int)) = true := decide_eq_true c4
          clear c4
          by_cases c5 : 0 ≤ x13_1
          · rw [if_pos c5] at H
            have c5b0 : decide (0 ≤ x13_1) = true := decide_eq_true c5
            clear c5
            by_cases c6 : x13_1 < (l0.length : Int)
            · rw [if_pos c6] at H
              have c6b0 : decide (x13_1 < (l0.length : Int)) = true := decide_eq_true c6
              clear c6
              by_cases c7 : x13_1 < (l1.length : Int)
              · rw [if_pos c7] at H
                have c7b0 : decide (x13_1 < (l1.length : Int)) = true := decide_eq_true c7
                clear c7
                by_cases c8 : (rd l0 x13_1) = (rd l1 x13_1)
                · rw [if_pos c8] at H
                  have c8b0 : ((rd l0 x13_1) == (rd l1 x13_1)) = true := beq_iff_eq.mpr c8
                  have c8b1 : ((rd l0 x13_1) != (rd l1 x13_1)) = false := bne_eq_false_iff_eq.mpr c8
                  clear c8
                  have H' := Aside0.mk H
                  clear H
                  have p242 : 0 ≤ (x13_1 : Int) := of_decide_eq_true (by first | (with_reducible assumption) | assumption)
                  have q242 : x13_1 < (l0.length : Int) := of_decide_eq_true (by first | (with_reducible assumption) | assumption)
                  obtain ⟨ad242, e242, hx242_0⟩ := Kd.at_int HR0.out x13_1 p242 q242
                  cases e242
                  replace p242 := eq_true p242
                  replace q242 := eq_true q242
                  have p243 : 0 ≤ (x13_1 : Int) := of_decide_eq_true (by first | (with_reducible assumption) | assumption)
                  have q243 : x13_1 < (l1.length : Int) := of_decide_eq_true (by first | (with_reducible assumption) | assumption)
                  obtain ⟨ad243, e243, hx243_0⟩ := Kd.at_int HR1.out x13_1 p243 q243
                  cases e243
                  replace p243 := eq_true p243
                  replace q243 := eq_true q243
                  go_wp2
                  repeat (go_quiet (fail); try go_wp2)
                  go_roundg k1
                  case measure => have := HK1.out; omega
                  case rel => exact ⟨(wrap64 (x13_1 + 1)), (by first | rfl | (simp; done) | (simp [*]; done)), H', ⟨by have := HK1.out; omega⟩, by repeat (first | exact Drawn0.refl _ | apply Drawn0.step)⟩
                · rw [if_neg c8] at H
                  have c8b0 : ((rd l0 x13_1) == (rd l1 x13_1)) = false := beq_eq_false_iff_ne.mpr c8
                  have c8b1 : ((rd l0 x13_1) != (rd l1 x13_1)) = true := bne_iff_ne.mpr c8
                  obtain rfl := Option.some.inj H
                  have p242 : 0 ≤ (x13_1 : Int) := of_decide_eq_true (by first | (with_reducible assumption) | assumption)
                  have q242 : x13_1 < (l0.length : Int) := of_decide_eq_true (by first | (with_reducible assumption) | assumption)
                  obtain ⟨ad242, e242, hx242_0⟩ := Kd.at_int HR0.out x13_1 p242 q242
                  cases e242
                  replace p242 := eq_true p242
                  replace q242 := eq_true q242
                  have p243 : 0 ≤ (x13_1 : Int) := of_decide_eq_true (by first | (with_reducible assumption) | assumption)
                  have q243 : x13_1 < (l1.length : Int) := of_decide_eq_true (by first | (with_reducible assumption) | assumption)
                  obtain ⟨ad243, e243, hx243_0⟩ := Kd.at_int HR1.out x13_1 p243 q243
                  cases e243
                  replace p243 := eq_true p243
                  replace q243 := eq_true q243
                  go_wp2
                  repeat (go_quiet (fail); try go_wp2)
                  go_ret
                  exact ⟨by first | rfl | (simp; done) | (simp [*]; done), by repeat (first | exact Drawn0.refl _ | apply Drawn0.step)⟩
              · rw [if_neg c7] at H
                exact absurd H (by simp)
            · rw [if_neg c6] at H
              exact absurd H (by simp)
          · rw [if_neg c5] at H
            exact absurd H (by simp)
        · rw [if_neg c4] at H
          have c4b0 : decide (x13_1 < (l0.length : Int)) = false := decide_eq_false c4
          clear c4
          obtain rfl := Option.some.inj H
          go_wp2
          repeat (go_quiet (fail); try go_wp2)
          go_ret
          exact ⟨by first | rfl | (simp; done) | (simp [*]; done), by repeat (first | exact Drawn0.refl _ | apply Drawn0.step)⟩
  · rw [if_neg c3] at H
    have c3b0 : ((l0.length : Int) == (l1.length : Int)) = false := beq_eq_false_iff_ne.mpr c3
    have c3b1 : ((l0.length : Int) != (l1.length : Int)) = true := bne_iff_ne.mpr c3
    have c3b2 : (l0.length == l1.length) = false := by first | simpa using c3 | (simp at c3 ⊢; omega)
    obtain rfl := Option.some.inj H
    go_enter Tryd.func75, Tryd.ntmps75
    go_wp2
    repeat (go_quiet (fail); try go_wp2)
    go_ret
    exact ⟨by first | rfl | (simp; done) | (simp [*]; done), by repeat (first | exact Drawn0.refl _ | apply Drawn0.step)⟩

end Go.Proofs.YtnaaomhmoamfpaaDoor.Q
