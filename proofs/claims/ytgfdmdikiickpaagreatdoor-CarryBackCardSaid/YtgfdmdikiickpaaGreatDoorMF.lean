/-
  Texts for the laws of this seat, merged: Shelf, Strs, State, Memb, Membs, OwnS, StateB, StateE, StateJ.
-/
import Derived.Shelf.Strings.Builder1
import Derived.Shelf.Strings.Builder2
import Derived.Shelf.Strings.OnBuilder
import Derived.Shelf.Strings.Trim
import Derived.Shelf.Small.Utf8
import Derived.Shelf.Small.Strs
import Derived.Shelf.Utf8.RuneCount
import Derived.Shelf.Strings.Search1
import Derived.Shelf.Strings.Search2
import Derived.Shelf.Strings.Search3
import Derived.Shelf.Strings.Cut
import Derived.Shelf.Strings.Count
import Derived.Shelf.LaysM
import Derived.Shelf.Strings.Shaped
import Derived.Shelf.Strings.Split
import Derived.Shelf.Strings.SplitShaped
import Derived.Shelf.Unicode.Decode
import Derived.Shelf.Strings.Runes
import Derived.Shelf.Strings.RuneCount
import Derived.Shelf.Strings.AsciiSet
import Derived.Shelf.Strings.Explode
import Derived.Shelf.Unicode.DecodeSlow
import Derived.Shelf.Unicode.DecodeAny
import Derived.Shelf.Unicode.DecodeLast
import Derived.Test.YtgfdmdikiickpaaGreatDoorProg
import Derived.Shelf.Strings.SlTrimAscii
import Derived.Laws.AppendOwn
import Derived.Deep.DeepFit
import Derived.Test.YtgfdmdikiickpaaGreatDoorMA
/-! Shelf -/
namespace Go.Proofs
open Go.Shelf
def Tryz.lays156_ren : Go.Shelf.Ren := ⟨fun | 156 => 58 | 165 => 96 | 166 => 97 | 169 => 98 | 240 => 125 | 241 => 126 | 276 => 136 | 277 => 137 | n => n, fun | 31 => 41 | 9 => 9 | 3 => 3 | 4 => 4 | 0 => 0 | 20 => 20 | 72 => 144 | 76 => 148 | 70 => 142 | 37 => 117 | 75 => 147 | 127 => 180 | 164 => 187 | 5 => 5 | 80 => 150 | n => n, fun | n => n⟩
theorem Tryz.lays156 : Go.Proofs.Lays.n156 Tryz.prog Tryz.lays156_ren := {
  mixed := by kernel_rfl
  f156 := Tryz.func58.trans (congrArg some (by kernel_rfl))
  f165 := Tryz.func96.trans (congrArg some (by kernel_rfl))
  f166 := Tryz.func97.trans (congrArg some (by kernel_rfl))
  f169 := Tryz.func98.trans (congrArg some (by kernel_rfl))
  f240 := Tryz.func125.trans (congrArg some (by kernel_rfl))
  f241 := Tryz.func126.trans (congrArg some (by kernel_rfl))
  f276 := Tryz.func136.trans (congrArg some (by kernel_rfl))
  f277 := Tryz.func137.trans (congrArg some (by kernel_rfl))
  t0 := Tryz.underlying0
  a0 := Tryz.isAgg0
  z0 := Tryz.sizeOf0
  v0 := Tryz.zeroValue0
  t3 := Tryz.underlying3
  a3 := Tryz.isAgg3
  z3 := Tryz.sizeOf3
  v3 := Tryz.zeroValue3
  t4 := Tryz.underlying4
  a4 := Tryz.isAgg4
  z4 := Tryz.sizeOf4
  v4 := Tryz.zeroValue4
  t9 := Tryz.underlying9
  a9 := Tryz.isAgg9
  z9 := Tryz.sizeOf9
  v9 := Tryz.zeroValue9
  t20 := Tryz.underlying20
  a20 := Tryz.isAgg20
  z20 := Tryz.sizeOf20
  v20 := Tryz.zeroValue20
  t31 := Tryz.underlying41
  a31 := Tryz.isAgg41
  z31 := Tryz.sizeOf41
  v31 := Tryz.zeroValue41
  t37 := Tryz.underlying117
  a37 := Tryz.isAgg117
  z37 := Tryz.sizeOf117
  v37 := Tryz.zeroValue117
  t70 := Tryz.underlying142
  a70 := Tryz.isAgg142
  z70 := Tryz.sizeOf142
  v70 := Tryz.zeroValue142
  t72 := Tryz.underlying144
  a72 := Tryz.isAgg144
  z72 := Tryz.sizeOf144
  v72 := Tryz.zeroValue144
  t75 := Tryz.underlying147
  a75 := Tryz.isAgg147
  z75 := Tryz.sizeOf147
  v75 := Tryz.zeroValue147
  t76 := Tryz.underlying148
  a76 := Tryz.isAgg148
  z76 := Tryz.sizeOf148
  v76 := Tryz.zeroValue148
  t127 := Tryz.underlying180
  a127 := Tryz.isAgg180
  z127 := Tryz.sizeOf180
  v127 := Tryz.zeroValue180
  t164 := Tryz.underlying187
  a164 := Tryz.isAgg187
  z164 := Tryz.sizeOf187
  v164 := Tryz.zeroValue187 }
theorem Tryz.Builder_Extra_156 : Builder.Extra Tryz.prog Tryz.lays156_ren := {
  sizeBuilder := by kernel_rfl
  liesBuilder := by kernel_rfl
  t5 := Tryz.underlying5
  a5 := Tryz.isAgg5
  z5 := Tryz.sizeOf5
  v5 := Tryz.zeroValue5
  infoByte := by kernel_rfl
  cellsByte := by kernel_rfl
  sizeByte := by kernel_rfl
  neB5 := by decide }
def Tryz.lays160_ren : Go.Shelf.Ren := ⟨fun | 160 => 91 | 232 => 111 | 231 => 110 | 227 => 112 | 234 => 114 | 233 => 113 | 236 => 116 | 235 => 115 | 228 => 131 | 271 => 134 | 151 => 133 | 197 => 132 | 120 => 142 | 152 => 141 | 260 => 140 | 137 => 147 | 119 => 148 | 224 => 145 | 225 => 144 | 217 => 143 | 266 => 149 | n => n, fun | 9 => 9 | 4 => 4 | 3 => 3 | 5 => 5 | 117 => 171 | 116 => 170 | 0 => 0 | 124 => 174 | 21 => 21 | 105 => 184 | 46 => 181 | 119 => 192 | 139 => 195 | 138 => 194 | n => n, fun | 3 => 1 | 4 => 2 | n => n⟩
theorem Tryz.lays160 : Go.Proofs.Lays.n160 Tryz.prog Tryz.lays160_ren := {
  mixed := by kernel_rfl
  f119 := Tryz.func148.trans (congrArg some (by kernel_rfl))
  f120 := Tryz.func142.trans (congrArg some (by kernel_rfl))
  f137 := Tryz.func147.trans (congrArg some (by kernel_rfl))
  f151 := Tryz.func133.trans (congrArg some (by kernel_rfl))
  f152 := Tryz.func141.trans (congrArg some (by kernel_rfl))
  f160 := Tryz.func91.trans (congrArg some (by kernel_rfl))
  f197 := Tryz.func132.trans (congrArg some (by kernel_rfl))
  f217 := Tryz.func143.trans (congrArg some (by kernel_rfl))
  f224 := Tryz.func145.trans (congrArg some (by kernel_rfl))
  f225 := Tryz.func144.trans (congrArg some (by kernel_rfl))
  f227 := Tryz.func112.trans (congrArg some (by kernel_rfl))
  f228 := Tryz.func131.trans (congrArg some (by kernel_rfl))
  f231 := Tryz.func110.trans (congrArg some (by kernel_rfl))
  f232 := Tryz.func111.trans (congrArg some (by kernel_rfl))
  f233 := Tryz.func113.trans (congrArg some (by kernel_rfl))
  f234 := Tryz.func114.trans (congrArg some (by kernel_rfl))
  f235 := Tryz.func115.trans (congrArg some (by kernel_rfl))
  f236 := Tryz.func116.trans (congrArg some (by kernel_rfl))
  f260 := Tryz.func140.trans (congrArg some (by kernel_rfl))
  f266 := Tryz.func149.trans (congrArg some (by kernel_rfl))
  f271 := Tryz.func134.trans (congrArg some (by kernel_rfl))
  t0 := Tryz.underlying0
  a0 := Tryz.isAgg0
  z0 := Tryz.sizeOf0
  v0 := Tryz.zeroValue0
  t3 := Tryz.underlying3
  a3 := Tryz.isAgg3
  z3 := Tryz.sizeOf3
  v3 := Tryz.zeroValue3
  t4 := Tryz.underlying4
  a4 := Tryz.isAgg4
  z4 := Tryz.sizeOf4
  v4 := Tryz.zeroValue4
  t5 := Tryz.underlying5
  a5 := Tryz.isAgg5
  z5 := Tryz.sizeOf5
  v5 := Tryz.zeroValue5
  t9 := Tryz.underlying9
  a9 := Tryz.isAgg9
  z9 := Tryz.sizeOf9
  v9 := Tryz.zeroValue9
  t21 := Tryz.underlying21
  a21 := Tryz.isAgg21
  z21 := Tryz.sizeOf21
  v21 := Tryz.zeroValue21
  t46 := Tryz.underlying181
  a46 := Tryz.isAgg181
  z46 := Tryz.sizeOf181
  v46 := Tryz.zeroValue181
  t105 := Tryz.underlying184
  a105 := Tryz.isAgg184
  z105 := Tryz.sizeOf184
  v105 := Tryz.zeroValue184
  t116 := Tryz.underlying170
  a116 := Tryz.isAgg170
  z116 := Tryz.sizeOf170
  t117 := Tryz.underlying171
  a117 := Tryz.isAgg171
  z117 := Tryz.sizeOf171
  v117 := Tryz.zeroValue171
  t119 := Tryz.underlying192
  a119 := Tryz.isAgg192
  z119 := Tryz.sizeOf192
  t124 := Tryz.underlying174
  a124 := Tryz.isAgg174
  z124 := Tryz.sizeOf174
  v124 := Tryz.zeroValue174
  t138 := Tryz.underlying194
  a138 := Tryz.isAgg194
  z138 := Tryz.sizeOf194
  v138 := Tryz.zeroValue194
  t139 := Tryz.underlying195
  a139 := Tryz.isAgg195
  z139 := Tryz.sizeOf195
  v139 := Tryz.zeroValue195
  g3 := by kernel_rfl
  g4 := by kernel_rfl }
def Tryz.lays219_ren : Go.Shelf.Ren := ⟨fun | 219 => 135 | 217 => 143 | 225 => 144 | 224 => 145 | 267 => 146 | 266 => 149 | 314 => 150 | n => n, fun | 9 => 9 | 3 => 3 | 4 => 4 | 5 => 5 | 46 => 181 | 146 => 198 | 51 => 197 | n => n, fun | 1 => 0 | n => n⟩
theorem Tryz.lays219 : Go.Proofs.Lays.n219 Tryz.prog Tryz.lays219_ren := {
  mixed := by kernel_rfl
  f217 := Tryz.func143.trans (congrArg some (by kernel_rfl))
  f219 := Tryz.func135.trans (congrArg some (by kernel_rfl))
  f224 := Tryz.func145.trans (congrArg some (by kernel_rfl))
  f225 := Tryz.func144.trans (congrArg some (by kernel_rfl))
  f266 := Tryz.func149.trans (congrArg some (by kernel_rfl))
  f267 := Tryz.func146.trans (congrArg some (by kernel_rfl))
  f314 := Tryz.func150.trans (congrArg some (by kernel_rfl))
  t3 := Tryz.underlying3
  a3 := Tryz.isAgg3
  z3 := Tryz.sizeOf3
  v3 := Tryz.zeroValue3
  t4 := Tryz.underlying4
  a4 := Tryz.isAgg4
  z4 := Tryz.sizeOf4
  v4 := Tryz.zeroValue4
  t5 := Tryz.underlying5
  a5 := Tryz.isAgg5
  z5 := Tryz.sizeOf5
  v5 := Tryz.zeroValue5
  t9 := Tryz.underlying9
  a9 := Tryz.isAgg9
  z9 := Tryz.sizeOf9
  v9 := Tryz.zeroValue9
  t46 := Tryz.underlying181
  a46 := Tryz.isAgg181
  z46 := Tryz.sizeOf181
  v46 := Tryz.zeroValue181
  t51 := Tryz.underlying197
  a51 := Tryz.isAgg197
  z51 := Tryz.sizeOf197
  v51 := Tryz.zeroValue197
  t146 := Tryz.underlying198
  a146 := Tryz.isAgg198
  z146 := Tryz.sizeOf198
  v146 := Tryz.zeroValue198
  g1 := by kernel_rfl }
def Tryz.lays143_ren : Go.Shelf.Ren := ⟨fun | 143 => 130 | 219 => 135 | 217 => 143 | 225 => 144 | 224 => 145 | 267 => 146 | 266 => 149 | 314 => 150 | n => n, fun | 9 => 9 | 3 => 3 | 4 => 4 | 5 => 5 | 46 => 181 | 146 => 198 | 51 => 197 | n => n, fun | 1 => 0 | n => n⟩
theorem Tryz.lays143 : Go.Proofs.Lays.n143 Tryz.prog Tryz.lays143_ren := {
  mixed := by kernel_rfl
  f143 := Tryz.func130.trans (congrArg some (by kernel_rfl))
  f217 := Tryz.func143.trans (congrArg some (by kernel_rfl))
  f219 := Tryz.func135.trans (congrArg some (by kernel_rfl))
  f224 := Tryz.func145.trans (congrArg some (by kernel_rfl))
  f225 := Tryz.func144.trans (congrArg some (by kernel_rfl))
  f266 := Tryz.func149.trans (congrArg some (by kernel_rfl))
  f267 := Tryz.func146.trans (congrArg some (by kernel_rfl))
  f314 := Tryz.func150.trans (congrArg some (by kernel_rfl))
  t3 := Tryz.underlying3
  a3 := Tryz.isAgg3
  z3 := Tryz.sizeOf3
  v3 := Tryz.zeroValue3
  t4 := Tryz.underlying4
  a4 := Tryz.isAgg4
  z4 := Tryz.sizeOf4
  v4 := Tryz.zeroValue4
  t5 := Tryz.underlying5
  a5 := Tryz.isAgg5
  z5 := Tryz.sizeOf5
  v5 := Tryz.zeroValue5
  t9 := Tryz.underlying9
  a9 := Tryz.isAgg9
  z9 := Tryz.sizeOf9
  v9 := Tryz.zeroValue9
  t46 := Tryz.underlying181
  a46 := Tryz.isAgg181
  z46 := Tryz.sizeOf181
  v46 := Tryz.zeroValue181
  t51 := Tryz.underlying197
  a51 := Tryz.isAgg197
  z51 := Tryz.sizeOf197
  v51 := Tryz.zeroValue197
  t146 := Tryz.underlying198
  a146 := Tryz.isAgg198
  z146 := Tryz.sizeOf198
  v146 := Tryz.zeroValue198
  g1 := by kernel_rfl }
def Tryz.lays138_ren : Go.Shelf.Ren := ⟨fun | 138 => 129 | 195 => 138 | 218 => 139 | 143 => 130 | 219 => 135 | 217 => 143 | 225 => 144 | 224 => 145 | 267 => 146 | 266 => 149 | 314 => 150 | n => n, fun | 9 => 9 | 3 => 3 | 4 => 4 | 5 => 5 | 0 => 0 | 46 => 181 | 146 => 198 | 51 => 197 | n => n, fun | 1 => 0 | n => n⟩
theorem Tryz.lays138 : Go.Proofs.Lays.n138 Tryz.prog Tryz.lays138_ren := {
  mixed := by kernel_rfl
  f138 := Tryz.func129.trans (congrArg some (by kernel_rfl))
  f143 := Tryz.func130.trans (congrArg some (by kernel_rfl))
  f195 := Tryz.func138.trans (congrArg some (by kernel_rfl))
  f217 := Tryz.func143.trans (congrArg some (by kernel_rfl))
  f218 := Tryz.func139.trans (congrArg some (by kernel_rfl))
  f219 := Tryz.func135.trans (congrArg some (by kernel_rfl))
  f224 := Tryz.func145.trans (congrArg some (by kernel_rfl))
  f225 := Tryz.func144.trans (congrArg some (by kernel_rfl))
  f266 := Tryz.func149.trans (congrArg some (by kernel_rfl))
  f267 := Tryz.func146.trans (congrArg some (by kernel_rfl))
  f314 := Tryz.func150.trans (congrArg some (by kernel_rfl))
  t0 := Tryz.underlying0
  a0 := Tryz.isAgg0
  z0 := Tryz.sizeOf0
  v0 := Tryz.zeroValue0
  t3 := Tryz.underlying3
  a3 := Tryz.isAgg3
  z3 := Tryz.sizeOf3
  v3 := Tryz.zeroValue3
  t4 := Tryz.underlying4
  a4 := Tryz.isAgg4
  z4 := Tryz.sizeOf4
  v4 := Tryz.zeroValue4
  t5 := Tryz.underlying5
  a5 := Tryz.isAgg5
  z5 := Tryz.sizeOf5
  v5 := Tryz.zeroValue5
  t9 := Tryz.underlying9
  a9 := Tryz.isAgg9
  z9 := Tryz.sizeOf9
  v9 := Tryz.zeroValue9
  t46 := Tryz.underlying181
  a46 := Tryz.isAgg181
  z46 := Tryz.sizeOf181
  v46 := Tryz.zeroValue181
  t51 := Tryz.underlying197
  a51 := Tryz.isAgg197
  z51 := Tryz.sizeOf197
  v51 := Tryz.zeroValue197
  t146 := Tryz.underlying198
  a146 := Tryz.isAgg198
  z146 := Tryz.sizeOf198
  v146 := Tryz.zeroValue198
  g1 := by kernel_rfl }
def Tryz.lays221_ren : Go.Shelf.Ren := ⟨fun | 221 => 109 | 268 => 128 | 138 => 129 | 143 => 130 | 195 => 138 | 197 => 132 | 218 => 139 | 219 => 135 | 260 => 140 | 217 => 143 | 225 => 144 | 224 => 145 | 267 => 146 | 266 => 149 | 314 => 150 | n => n, fun | 9 => 9 | 3 => 3 | 31 => 41 | 4 => 4 | 0 => 0 | 105 => 184 | 21 => 21 | 5 => 5 | 46 => 181 | 119 => 192 | 139 => 195 | 138 => 194 | 146 => 198 | 51 => 197 | n => n, fun | 1 => 0 | 3 => 1 | 4 => 2 | n => n⟩
theorem Tryz.lays221 : Go.Proofs.Lays.n221 Tryz.prog Tryz.lays221_ren := {
  mixed := by kernel_rfl
  f138 := Tryz.func129.trans (congrArg some (by kernel_rfl))
  f143 := Tryz.func130.trans (congrArg some (by kernel_rfl))
  f195 := Tryz.func138.trans (congrArg some (by kernel_rfl))
  f197 := Tryz.func132.trans (congrArg some (by kernel_rfl))
  f217 := Tryz.func143.trans (congrArg some (by kernel_rfl))
  f218 := Tryz.func139.trans (congrArg some (by kernel_rfl))
  f219 := Tryz.func135.trans (congrArg some (by kernel_rfl))
  f221 := Tryz.func109.trans (congrArg some (by kernel_rfl))
  f224 := Tryz.func145.trans (congrArg some (by kernel_rfl))
  f225 := Tryz.func144.trans (congrArg some (by kernel_rfl))
  f260 := Tryz.func140.trans (congrArg some (by kernel_rfl))
  f266 := Tryz.func149.trans (congrArg some (by kernel_rfl))
  f267 := Tryz.func146.trans (congrArg some (by kernel_rfl))
  f268 := Tryz.func128.trans (congrArg some (by kernel_rfl))
  f314 := Tryz.func150.trans (congrArg some (by kernel_rfl))
  t0 := Tryz.underlying0
  a0 := Tryz.isAgg0
  z0 := Tryz.sizeOf0
  v0 := Tryz.zeroValue0
  t3 := Tryz.underlying3
  a3 := Tryz.isAgg3
  z3 := Tryz.sizeOf3
  v3 := Tryz.zeroValue3
  t4 := Tryz.underlying4
  a4 := Tryz.isAgg4
  z4 := Tryz.sizeOf4
  v4 := Tryz.zeroValue4
  t5 := Tryz.underlying5
  a5 := Tryz.isAgg5
  z5 := Tryz.sizeOf5
  v5 := Tryz.zeroValue5
  t9 := Tryz.underlying9
  a9 := Tryz.isAgg9
  z9 := Tryz.sizeOf9
  v9 := Tryz.zeroValue9
  t21 := Tryz.underlying21
  a21 := Tryz.isAgg21
  z21 := Tryz.sizeOf21
  v21 := Tryz.zeroValue21
  t31 := Tryz.underlying41
  a31 := Tryz.isAgg41
  z31 := Tryz.sizeOf41
  v31 := Tryz.zeroValue41
  t46 := Tryz.underlying181
  a46 := Tryz.isAgg181
  z46 := Tryz.sizeOf181
  v46 := Tryz.zeroValue181
  t51 := Tryz.underlying197
  a51 := Tryz.isAgg197
  z51 := Tryz.sizeOf197
  v51 := Tryz.zeroValue197
  t105 := Tryz.underlying184
  a105 := Tryz.isAgg184
  z105 := Tryz.sizeOf184
  v105 := Tryz.zeroValue184
  t119 := Tryz.underlying192
  a119 := Tryz.isAgg192
  z119 := Tryz.sizeOf192
  t138 := Tryz.underlying194
  a138 := Tryz.isAgg194
  z138 := Tryz.sizeOf194
  v138 := Tryz.zeroValue194
  t139 := Tryz.underlying195
  a139 := Tryz.isAgg195
  z139 := Tryz.sizeOf195
  v139 := Tryz.zeroValue195
  t146 := Tryz.underlying198
  a146 := Tryz.isAgg198
  z146 := Tryz.sizeOf198
  v146 := Tryz.zeroValue198
  g1 := by kernel_rfl
  g3 := by kernel_rfl
  g4 := by kernel_rfl }
end Go.Proofs

/-! Strs -/
namespace Go.Proofs.YtgfdmdikiickpaaGreatDoor
open Go.RowKit

theorem indexByte_find (c : UInt8) : ∀ l : List UInt8, Lib.indexByte l c = if findN c l = l.length then -1 else (findN c l : Int)
  | [] => rfl
  | b :: l => by
    have ih := indexByte_find c l
    have hle := findN_le c l
    rw [Lib.indexByte, findN]
    by_cases h : b = c
    · subst h
      rw [if_pos (by simp), if_pos rfl, if_neg (by simp)]
      rfl
    · rw [if_neg (by simpa using h), if_neg h, ih]
      by_cases e : findN c l = l.length
      · rw [if_pos e, if_pos (show findN c l + 1 = (b :: l).length by simp [e])]
        rfl
      · rw [if_neg e]
        rw [if_neg (by rw [beq_iff_eq]; omega), if_neg (by simp only [List.length_cons]; omega)]
        omega
theorem slindex_any (s : List UInt8) (c : UInt8) (w : World) :
    Calls Tryz.prog 135 #[Sv s, Sv [c]] w fun e w' => e = .returned (.int .i64 (if findN c s = s.length then -1 else (findN c s : Int))) ∧ w' = w := by
  rw [← indexByte_find]
  exact Any.stringslite_Index_one Tryz.lays219 ⟨s.toArray⟩ c w
theorem sindex_any (s : List UInt8) (c : UInt8) (w : World) :
    Calls Tryz.prog 130 #[Sv s, Sv [c]] w fun e w' => e = .returned (.int .i64 (if findN c s = s.length then -1 else (findN c s : Int))) ∧ w' = w := by
  rw [← indexByte_find]
  exact Any.strings_Index_one Tryz.lays143 ⟨s.toArray⟩ c w
/-- What strings.Cut gives at one byte. -/
def cutOut (c : UInt8) (s : List UInt8) : Value := .tuple #[Sv (s.take (findN c s)), Sv (s.drop (findN c s + 1)), .bool (decide (findN c s < s.length))]
set_option maxRecDepth 100000 in
set_option maxHeartbeats 1000000 in
theorem slcut_any (s : List UInt8) (c : UInt8) (w : World) (hs : s.length ≤ 4611686018427387904) :
    Calls Tryz.prog 117 #[Sv s, Sv [c]] w fun e w' => e = .returned (cutOut c s) ∧ Below w.heap.size w w' := by
  have hle := findN_le c s
  by_cases h : findN c s = s.length
  · have HO := hid (show cutOut c s = .tuple #[Sv s, Sv [], .bool false] by
      unfold cutOut
      rw [h, List.take_length, List.drop_eq_nil_of_le (by omega), show decide (s.length < s.length) = false by simp])
    have hix := slindex_any s c
    rw [if_pos h] at hix
    clear h
    go_enter Tryz.func117, Tryz.ntmps117
    go_wp2_with fail
    refine (hix _).mono ?_; rintro e w1 ⟨rfl, rfl⟩
    go_wp2_with fail
    refine bodyPost_ret (results_tmp3 rfl _ _ _) rfl ?_
    exact ⟨by rw [HO.out]; rfl, Below.refl _ _⟩
  · obtain ⟨k, hk⟩ : ∃ k, findN c s = k := ⟨_, rfl⟩
    have HO := hid (show cutOut c s = .tuple #[Sv (s.take k), Sv (s.drop (k + 1)), .bool true] by
      unfold cutOut
      rw [hk, show decide (k < s.length) = true by simp; omega])
    have hix := slindex_any s c
    rw [if_neg h, hk] at hix
    have hkl : k < s.length := by omega
    clear h hk hle
    go_enter Tryz.func117, Tryz.ntmps117
    go_wp2_with fail
    refine (hix _).mono ?_; rintro e w1 ⟨rfl, rfl⟩
    go_wp2_with fail
    go_region
    go_wp2_with fail
    refine bodyPost_ret (results_tmp3 rfl _ _ _) rfl ?_
    exact ⟨by rw [HO.out]; rfl, below_drewN (Below.refl _ _) _⟩
set_option maxRecDepth 100000 in
set_option maxHeartbeats 1000000 in
theorem scut_any (s : List UInt8) (c : UInt8) (w : World) (hs : s.length ≤ 4611686018427387904) :
    Calls Tryz.prog 92 #[Sv s, Sv [c]] w fun e w' => e = .returned (cutOut c s) ∧ Below w.heap.size w w' := by
  have h := slcut_any s c
  unfold cutOut at h ⊢
  go_enter Tryz.func92, Tryz.ntmps92
  go_wp2_with fail
  refine (h _ hs).mono ?_; rintro e w1 ⟨rfl, hb⟩
  go_wp2_with fail
  refine bodyPost_ret (results_tmp3 rfl _ _ _) rfl ?_
  exact ⟨rfl, hb⟩
theorem scount_any (s : ByteArray) (c : UInt8) (w : World) :
    Calls Tryz.prog 129 #[.string s, .string ⟨#[c]⟩] w fun e w' => e = .returned (.int .i64 (Lib.countB s ⟨#[c]⟩)) ∧ w' = w := by
  refine Calls.mono (Any.strings_Count_one Tryz.lays138 s c w) fun e w' ⟨he, hw⟩ => ⟨?_, hw⟩
  rw [he]
  show _ = Ending.returned (Value.int .i64 ((Lib.count s.data.toList [c] : Nat) : Int))
  rw [Lib.count_one]
  rfl
theorem sgen_any (s : ByteArray) (c : UInt8) (w : World) (hs : s.size < 4294967281) :
    Calls Tryz.prog 109 #[.string s, .string ⟨#[c]⟩, .int .i64 0, .int .i64 (-1)] w fun e w' =>
      e = .returned (.slice (some ⟨w.heap.size, 0, none⟩) (Lib.countB s ⟨#[c]⟩ + 1) (Lib.countB s ⟨#[c]⟩ + 1)) ∧ w' = w.alloc (.cells ((Lib.splitB ⟨#[c]⟩ 0 (Lib.countB s ⟨#[c]⟩) s).map Value.string).toArray 9) := by
  have h1 : 1 ≤ (⟨#[c]⟩ : ByteArray).size := Nat.le_refl _
  have hle := Lib.countB_le ⟨#[c]⟩ h1 s.size s (Nat.le_refl _)
  have hlen := Lib.splitB_all ⟨#[c]⟩ h1 0 _ s rfl
  have q := Any.strings_genSplit_core Tryz.lays221 (by kernel_rfl) s ⟨#[c]⟩ 0 (-1) (Lib.countB s ⟨#[c]⟩ + 1) w hs h1 (Nat.zero_le _)
    (fun x cs _ => Calls.mono (Any.strings_Index_one Tryz.lays143 x c _) (fun e w' ⟨he, hw⟩ => ⟨by
      rw [he]
      have e1 : Lib.indexByte x.data.toList c = Lib.indexB x ⟨#[c]⟩ := (indexByte_find c _).trans (index_find c _).symm
      rw [e1], hw⟩))
    (scount_any s c w) (by decide) (by decide) (by rw [if_pos (by decide)]; omega)
  rw [Nat.add_sub_cancel, hlen] at q
  have e2 : Lib.cellsOf (Lib.splitB ⟨#[c]⟩ 0 (Lib.countB s ⟨#[c]⟩) s) (Lib.countB s ⟨#[c]⟩ + 1) = ((Lib.splitB ⟨#[c]⟩ 0 (Lib.countB s ⟨#[c]⟩) s).map Value.string).toArray := by rw [← hlen]; exact Lib.cellsOf_full _
  rw [e2] at q
  exact q
theorem map_Sv (L : List ByteArray) : L.map Value.string = (L.map (·.data.toList)).map Sv := by
  rw [List.map_map]
  rfl
set_option maxRecDepth 100000 in
set_option maxHeartbeats 1000000 in
set_option maxRecDepth 100000 in
/-- strings.Split, at one byte. -/
theorem ssplit_any (s : List UInt8) (c : UInt8) (w : World) (hs : s.length < 4294967281) :
    Calls Tryz.prog 90 #[Sv s, Sv [c]] w fun e w' => e = .returned (.slice (some ⟨w.heap.size, 0, none⟩) (cutB c s).length (cutB c s).length) ∧ w' = w.alloc (.cells ((cutB c s).map Sv).toArray 9) := by
  have q := sgen_any ⟨s.toArray⟩ c w (by simpa [ByteArray.size] using hs)
  have e1 : (Lib.splitB ⟨#[c]⟩ 0 (Lib.countB ⟨s.toArray⟩ ⟨#[c]⟩) ⟨s.toArray⟩).map (·.data.toList) = cutB c s := splitB_cut c ⟨s.toArray⟩
  have e2 : Lib.countB ⟨s.toArray⟩ ⟨#[c]⟩ + 1 = (cutB c s).length := by
    rw [← e1, List.length_map]
    exact (Lib.splitB_all ⟨#[c]⟩ (Nat.le_refl _) 0 _ ⟨s.toArray⟩ rfl).symm
  rw [map_Sv, e1, e2] at q
  clear e1 e2 hs
  have q' : Calls Tryz.prog 109 #[Sv s, Sv [c], .int .i64 0, .int .i64 (-1)] w fun e w' => e = .returned (.slice (some ⟨w.heap.size, 0, none⟩) (cutB c s).length (cutB c s).length) ∧ w' = w.alloc (.cells ((cutB c s).map Sv).toArray 9) := q
  generalize (cutB c s).length = n at q' ⊢
  generalize ((cutB c s).map Sv).toArray = cs at q' ⊢
  clear q
  go_enter Tryz.func90, Tryz.ntmps90
  go_wp2_with fail
  refine q'.mono ?_; rintro e w1 ⟨rfl, hw⟩
  rw [hw]
  go_wp2_with fail
  go_ret
  exact ⟨rfl, rfl⟩
/-- strings.Trim at blanks. -/
theorem strim_any (s : List UInt8) (w : World) (hs : s.length ≤ 9223372036854775807) :
    Calls Tryz.prog 91 #[Sv s, Sv [32, 9]] w fun e w' => e = .returned (Sv (trimB s)) ∧ Below w.heap.size w w' := by
  have q := Any.strings_Trim_laid Tryz.lays160 (by kernel_rfl) ⟨s.toArray⟩ ⟨#[32, 9]⟩ w (by simpa [ByteArray.size] using hs) (by decide) (fun j b hb => by
    have : b ∈ ([32, 9] : List UInt8) := List.mem_of_getElem? hb
    simp only [List.mem_cons, List.not_mem_nil, or_false] at this
    rcases this with rfl | rfl <;> decide)
  rw [← trimS_eq]
  exact q
/-- strings.Join. -/
theorem sjoin_any (g cap : Nat) (xs : List (List UInt8)) (sep : List UInt8) (w : World) (hc : ∀ (j : Nat) x, xs[j]? = some x → w.cell? ⟨g, j, none⟩ = some (Sv x)) (hg : g < w.heap.size) (hN : xs.length ≤ 140737488355328) (hcap : xs.length ≤ cap) (hlen : (Lib.join xs sep).length ≤ 140737488355328) :
    Calls Tryz.prog 58 #[.slice (some ⟨g, 0, none⟩) xs.length cap, Sv sep] w fun e w' => e = .returned (Sv (Lib.join xs sep)) ∧ Below w.heap.size w w' := by
  have e0 : (xs.map fun x => (⟨x.toArray⟩ : ByteArray)).map (·.data.toList) = xs := by
    rw [List.map_map]
    exact List.map_id'' (fun _ => rfl) xs
  have q := Any.strings_Join Tryz.lays156 Tryz.Builder_Extra_156 g 0 cap (xs.map fun x => ⟨x.toArray⟩) ⟨sep.toArray⟩ w (fun j x hx => by
    rw [List.getElem?_map] at hx
    cases hj : xs[j]? with
    | none => rw [hj] at hx; cases hx
    | some y =>
      rw [hj] at hx
      obtain rfl := Option.some.inj hx
      rw [Nat.zero_add]
      exact hc j y hj) hg (by simpa using hN) (by simpa using hcap) (by rw [e0]; exact hlen)
  rw [e0, List.length_map] at q
  exact q
theorem sjoin_none (a : Option Addr) (cap : Nat) (sep : List UInt8) (w : World) :
    Calls Tryz.prog 58 #[.slice a 0 cap, Sv sep] w fun e w' => e = .returned (Sv []) ∧ w' = w := Any.strings_Join_none Tryz.lays156 Tryz.Builder_Extra_156 a cap ⟨sep.toArray⟩ w
end Go.Proofs.YtgfdmdikiickpaaGreatDoor

/-! State -/
namespace Go.Proofs.YtgfdmdikiickpaaGreatDoor
open Go.RowKit

set_option maxRecDepth 100000 in
theorem lower_any (b : Int) (w : World) : Calls Tryz.prog 120 #[.int .u8 b] w fun e w' => e = .returned (.bool (lowK b)) ∧ w = w' := by
  by_cases h : 97 ≤ b
  · have HO := hid (show lowK b = decide (b ≤ 122) by simp [lowK, h])
    go_enter Tryz.func120, Tryz.ntmps120
    go_wp2_with fail
    go_ret
    exact ⟨by rw [HO.out]; rfl, rfl⟩
  · have HO := hid (show lowK b = false by simp [lowK, h])
    go_enter Tryz.func120, Tryz.ntmps120
    go_wp2_with fail
    go_ret
    exact ⟨by rw [HO.out]; rfl, rfl⟩
set_option maxRecDepth 100000 in
theorem digit_any (b : Int) (w : World) : Calls Tryz.prog 121 #[.int .u8 b] w fun e w' => e = .returned (.bool (numK b)) ∧ w = w' := by
  by_cases h : 48 ≤ b
  · have HO := hid (show numK b = decide (b ≤ 57) by simp [numK, h])
    go_enter Tryz.func121, Tryz.ntmps121
    go_wp2_with fail
    go_ret
    exact ⟨by rw [HO.out]; rfl, rfl⟩
  · have HO := hid (show numK b = false by simp [numK, h])
    go_enter Tryz.func121, Tryz.ntmps121
    go_wp2_with fail
    go_ret
    exact ⟨by rw [HO.out]; rfl, rfl⟩
set_option maxRecDepth 100000 in
theorem inkey_any (b : Int) (w : World) : Calls Tryz.prog 118 #[.int .u8 b] w fun e w' => e = .returned (.bool (inKeyB b)) ∧ w = w' := by
  have hl := fun u => lower_any b u
  have hd := fun u => digit_any b u
  have HO := hid (show inKeyB b = (lowK b || (numK b || (b == 95 || (b == 45 || (b == 42 || b == 47))))) from rfl)
  generalize lowK b = L at hl HO
  generalize numK b = D at hd HO
  go_enter Tryz.func118, Tryz.ntmps118
  cases L with
  | true =>
    go_wp2_with ((go_at_call 120; refine (hl _).mono ?_; rintro e w' ⟨rfl, rfl⟩))
    go_ret
    exact ⟨by rw [HO.out]; rfl, rfl⟩
  | false =>
    cases D with
    | true =>
      go_wp2_with (first
        | (go_at_call 120; refine (hl _).mono ?_; rintro e w' ⟨rfl, rfl⟩)
        | (go_at_call 121; refine (hd _).mono ?_; rintro e w' ⟨rfl, rfl⟩))
      go_ret
      exact ⟨by rw [HO.out]; rfl, rfl⟩
    | false =>
      go_wp2_with (first
        | (go_at_call 120; refine (hl _).mono ?_; rintro e w' ⟨rfl, rfl⟩)
        | (go_at_call 121; refine (hd _).mono ?_; rintro e w' ⟨rfl, rfl⟩))
      all_goals go_ret
      all_goals exact ⟨by rw [HO.out]; first | (simp [*, Bool.or_assoc]; done) | (simp [*, Bool.or_assoc]; omega), rfl⟩
set_option maxRecDepth 100000 in
theorem inval_any (b : Int) (w : World) : Calls Tryz.prog 122 #[.int .u8 b] w fun e w' => e = .returned (.bool (inValB b)) ∧ w = w' := by
  have HO := hid (show inValB b = (decide (32 ≤ b) && (decide (b ≤ 126) && (!(b == 44) && !(b == 61)))) from rfl)
  go_enter Tryz.func122, Tryz.ntmps122
  go_wp2_with fail
  all_goals go_ret
  all_goals exact ⟨by rw [HO.out]; first | (simp [*, bne]; done) | (simp [*]; intros; omega), rfl⟩
def fnv (f : FuncId) : Value := .func (.func f) #[] #[]
def AllRel (w : World) (f : FuncId) (p : Int → Bool) (s : List UInt8) (i : Value) (wr : World) : Prop := ∃ k : Nat, i = .int .i64 (k : Int) ∧ k ≤ s.length ∧ Hid (allP p s = allP p (s.drop k)) ∧ Hid (Blk wr w.heap.size 176 #[fnv f] ∧ Below w.heap.size w wr)
set_option maxRecDepth 100000 in
theorem all_any (f : FuncId) (p : Int → Bool) (hcall : ∀ (b : Int) (u : World), (callFunc f #[.int .u8 b]).run Tryz.prog u = .ok (.enter f #[.int .u8 b]) u) (hf : ∀ (b : Int) (u : World), Calls Tryz.prog f #[.int .u8 b] u fun e w' => e = .returned (.bool (p b)) ∧ u = w') (s : List UInt8) (n : Int) (w : World) (hs : s.length ≤ 9223372036854775806) :
    Calls Tryz.prog 119 #[Sv s, .agg #[fnv f], .int .i64 n] w fun e w' => e = .returned (.bool (allB p s n)) ∧ Below w.heap.size w w' := by
  have HB := hid (⟨Blk.new w _ _, ext_alloc w _⟩ : Blk (w.alloc (.cells #[fnv f] 176)) w.heap.size 176 #[fnv f] ∧ Below w.heap.size w (w.alloc (.cells #[fnv f] 176)))
  by_cases h0 : s = []
  · subst h0
    have HO := hid (show allB p [] n = false by simp [allB])
    unfold fnv
    go_enter Tryz.func119, Tryz.ntmps119
    go_wp2_with fail
    go_ret
    exact ⟨by rw [HO.out]; rfl, HB.out.2⟩
  · have hne : (s == []) = false := by simpa using h0
    have hpos : 1 ≤ s.length := by cases s with | nil => exact absurd rfl h0 | cons _ _ => simp
    by_cases hn : n < (s.length : Int)
    · have HO := hid (show allB p s n = false by simp [allB]; omega)
      unfold fnv
      go_enter Tryz.func119, Tryz.ntmps119
      go_wp2_with fail
      go_ret
      exact ⟨by rw [HO.out]; rfl, HB.out.2⟩
    · have HO := hid (show allB p s n = allP p s by simp [allB]; omega)
      have HF := hid hf
      clear hf
      go_enter Tryz.func119, Tryz.ntmps119
      go_wp2_with fail
      go_loopw [18] (fun i wr => AllRel w f p s i wr) (fun i _ => s.length - (intOf i).toNat)
      case atStart => exact ⟨0, rfl, Nat.zero_le _, hid rfl, HB⟩
      case round =>
        obtain ⟨k, rfl, hk, HP, HR⟩ := hrel
        by_cases hlt : k < s.length
        · have HD := hid (allP_drop p s k hlt)
          have qi : (0 : Int) ≤ (k : Int) ∧ (k : Int) < (s.length : Int) := by omega
          have hc := fun u => HF.out (byteAt s k) u
          obtain ⟨b, hb⟩ : ∃ b, p (byteAt s k) = b := ⟨_, rfl⟩
          rw [hb] at HD
          simp only [hb] at hc
          clear hb
          go_upto_region 6 with fail
          refine region_steady (fun u => Blk u w.heap.size 176 #[fnv f] ∧ Below w.heap.size w u) (by kernel_rfl) (by kernel_rfl) ⟨HR.out.1.drew, HR.out.2.trans (ext_drew wr |>.mono HR.out.2.size)⟩ ?_
          repeat (first
            | (refine steady_off (by rfl) ?_; try simp only [Act.put, List.setIfInBounds_toArray, List.set_cons_zero, List.set_cons_succ])
            | (refine steady_pure (v := ?_) (by rfl) ?_ ?_; rotate_left; (focus (intro u; go_simp; with_reducible rfl)); try simp only [Act.put, List.setIfInBounds_toArray, List.set_cons_zero, List.set_cons_succ]))
          refine steady_load (v := fnv f) _ (.tmp 21) rfl (by rfl) (fun u h => by have := h.1.cell 0; unfold fnv at *; go_simp) ?_
          try simp only [Act.put, List.setIfInBounds_toArray, List.set_cons_zero, List.set_cons_succ]
          repeat (first
            | (refine steady_off (by rfl) ?_; try simp only [Act.put, List.setIfInBounds_toArray, List.set_cons_zero, List.set_cons_succ])
            | (refine steady_pure (v := ?_) (by rfl) ?_ ?_; rotate_left; (focus (intro u; go_simp; with_reducible rfl)); try simp only [Act.put, List.setIfInBounds_toArray, List.set_cons_zero, List.set_cons_succ]))
          refine steady_call (fun u h => (hc u).mono fun e w' ⟨he, hw⟩ => ⟨he, hw ▸ h⟩) (by rfl) (fun u => by have := hcall (byteAt s k) u; unfold fnv; go_simp) ?_
          try simp only [Act.put, List.setIfInBounds_toArray, List.set_cons_zero, List.set_cons_succ]
          repeat (first
            | (refine steady_off (by rfl) ?_; try simp only [Act.put, List.setIfInBounds_toArray, List.set_cons_zero, List.set_cons_succ])
            | (refine steady_pure (v := ?_) (by rfl) ?_ ?_; rotate_left; (focus (intro u; go_simp; with_reducible rfl)); try simp only [Act.put, List.setIfInBounds_toArray, List.set_cons_zero, List.set_cons_succ]))
          refine steady_nil (fun w1 h1 => ?_)
          have H1 := hid h1
          clear h1 hc
          cases b with
          | false =>
            have HO2 := hid (show allB p s n = false by rw [HO.out, HP.out, HD.out]; rfl)
            go_wp2_with fail
            go_ret
            exact ⟨by rw [HO2.out]; rfl, H1.out.2⟩
          | true =>
            have HP2 := hid (show allP p s = allP p (s.drop (k + 1)) by rw [HP.out, HD.out]; rfl)
            go_wp2_with fail
            refine ⟨⟨k + 1, by go_num, hlt, HP2, H1⟩, by simp [intOf] <;> omega⟩
        · obtain rfl : k = s.length := by omega
          have HO2 := hid (show allB p s n = true by rw [HO.out, HP.out, List.drop_length]; rfl)
          go_wp2_with fail
          go_ret
          exact ⟨by rw [HO2.out]; rfl, HR.out.2⟩
theorem allkey_any (s : List UInt8) (n : Int) (w : World) (hs : s.length ≤ 9223372036854775806) :
    Calls Tryz.prog 119 #[Sv s, .agg #[.func (.func 118) #[] #[]], .int .i64 n] w fun e w' => e = .returned (.bool (allB inKeyB s n)) ∧ Below w.heap.size w w' :=
  all_any 118 inKeyB (fun b u => by go_simp) inkey_any s n w hs
theorem allval_any (s : List UInt8) (n : Int) (w : World) (hs : s.length ≤ 9223372036854775806) :
    Calls Tryz.prog 119 #[Sv s, .agg #[.func (.func 122) #[] #[]], .int .i64 n] w fun e w' => e = .returned (.bool (allB inValB s n)) ∧ Below w.heap.size w w' :=
  all_any 122 inValB (fun b u => by go_simp) inval_any s n w hs
theorem allB_pos {f : Int → Bool} {s : List UInt8} {n : Int} (h : allB f s n = true) : 1 ≤ s.length := (allB_of h).2.1
set_option maxRecDepth 100000 in
theorem svalue_any (s : List UInt8) (w : World) (hs : s.length ≤ 9223372036854775806) :
    Calls Tryz.prog 94 #[Sv s] w fun e w' => e = .returned (.bool (valB s)) ∧ Below w.heap.size w w' := by
  have ha := fun u => allval_any s 256 u hs
  have HO := hid (show valB s = (allB inValB s 256 && !(byteAt s (s.length - 1) == 32)) from rfl)
  obtain ⟨b, hb⟩ : ∃ b, allB inValB s 256 = b := ⟨_, rfl⟩
  rw [hb] at HO
  simp only [hb] at ha
  go_enter Tryz.func94, Tryz.ntmps94
  cases b with
  | false =>
    clear hb
    go_wp2_with ((go_at_call 119; refine (ha _).mono ?_; rintro e w1 ⟨rfl, hb1⟩; have HB := hid hb1; clear hb1))
    go_ret
    exact ⟨by rw [HO.out]; rfl, HB.out⟩
  | true =>
    have h1 := allB_pos hb
    clear hb
    go_wp2_with ((go_at_call 119; refine (ha _).mono ?_; rintro e w1 ⟨rfl, hb1⟩; have HB := hid hb1; clear hb1))
    go_ret
    exact ⟨by rw [HO.out]; first | rfl | simp [bne], HB.out⟩
end Go.Proofs.YtgfdmdikiickpaaGreatDoor

/-! Memb -/
namespace Go.Proofs.YtgfdmdikiickpaaGreatDoor
open Go.RowKit

def mcs (m : Mb) : Array Value := #[Sv m.1, Sv m.2]
def flatM (L : List Mb) : List Value := (L.map (fun m => (mcs m).toList)).flatten
def OwnM (w : World) (B : Nat) (T : TypeId) (v : Value) (L : List Mb) : Prop := w.ownsRow B T 2 v L.length (flatM L)
theorem flatM_snoc (L : List Mb) (m : Mb) : flatM (L ++ [m]) = flatM L ++ (mcs m).toList := by simp [flatM]
theorem flatM_len : ∀ L : List Mb, (flatM L).length = L.length * 2
  | [] => rfl
  | m :: L => by
    have := flatM_len L
    have e : flatM (m :: L) = (mcs m).toList ++ flatM L := rfl
    rw [e, List.length_append, this, List.length_cons]
    show 2 + L.length * 2 = _
    omega
theorem OwnM.nil (w : World) (B : Nat) (T : TypeId) : OwnM w B T (.slice none 0 0) [] := ⟨rfl, .inl ⟨rfl, rfl⟩⟩
theorem mcs_one (m : Mb) : ∀ u ∈ (mcs m).toList, u.oneCell' = true := by
  intro u hu
  simp only [mcs] at hu
  simp at hu
  rcases hu with rfl | rfl <;> rfl
def zM : Value := .agg #[.string ByteArray.empty, .string ByteArray.empty]
theorem wpList_appM {w : World} {ops : Array Oper} {rest : List Oper} {o : Oper} {a : Act} {Q : Exit → Act → World → Prop} (hgd : o.guard = none) (s x : Operand) (Ts T : TypeId)
    (hT : Tryz.prog.underlying Ts = some (.slice T)) (hI : (Tryz.prog.info? T).map (fun i => (i.zero, i.size, i.bytes)) = some (some zM, 2, 32))
    (ho : o.op = .call { callee := .builtin .append, args := #[s, x], argTypes := #[Ts, Ts] })
    (base : Nat) (v : Value) (L : List Mb) (hs : a.eval s = v) (hown : OwnM w base T v L)
    (g c : Nat) (T' : TypeId) (m : Mb) (hx : a.eval x = .slice (some ⟨g, 0, none⟩) 1 c) (hg : Blk w g T' (mcs m)) (hl : L.length ≤ 1000000) (hbase : base ≤ w.heap.size)
    (h : ∀ v' w', OwnM w' base T v' (L ++ [m]) → w.grownBy w' v.ownBlock → wpList Tryz.prog ops Q rest (a.put o.dst v') w') : wpList Tryz.prog ops Q (o :: rest) a w := by
  refine wpList_plain hgd fun K hK => ?_
  obtain ⟨i0, hi, hz0, hz1, hz2⟩ := info_parts hI
  refine wp_append_own (w := w) s x _ ho base T i0 _ 2 32 hT hi hz0 hz1 hz2 rfl (by omega) v L.length (flatM L) hs hown ⟨g, 0, none⟩ 1 c (mcs m).toList hx (by rfl)
    (fun j u hu => by rw [add_zero_off, hg.cell j, ← hu]; simp) (mcs_one m) (by unfold maxLen; omega) (by omega) hbase ?_
  intro v' w' h1 h2 _
  refine hK _ _ (h v' w' ?_ h2)
  unfold OwnM
  rw [flatM_snoc, List.length_append]
  exact h1
theorem info_sm : (Tryz.prog.info? 82).map (fun i => (i.zero, i.size, i.bytes)) = some (some zM, 2, 32) := by kernel_rfl
theorem info_rm : (Tryz.prog.info? 81).map (fun i => (i.zero, i.size, i.bytes)) = some (some zM, 2, 32) := by kernel_rfl
theorem OwnM.ext {w w' : World} {B : Nat} {T : TypeId} {v : Value} {L : List Mb} (h : OwnM w B T v L) (hb : Below w.heap.size w w') : OwnM w' B T v L :=
  World.ownsRow.kept h (only_of_below hb none) (by cases v.ownBlock <;> simp)
theorem OwnM.form {w : World} {B : Nat} {T : TypeId} {v : Value} {L : List Mb} (h : OwnM w B T v L) : (L = [] ∧ v = .slice none 0 0) ∨ ∃ g cap, v = .slice (some ⟨g, 0, none⟩) L.length cap ∧ B ≤ g ∧ L.length ≤ cap ∧ cap ≤ maxLen := by
  rcases h.2 with ⟨hn, h0⟩ | ⟨g, cap, cur, hv, hg, _, h1, h2, _⟩
  · exact .inl ⟨List.eq_nil_of_length_eq_zero h0, hn⟩
  · exact .inr ⟨g, cap, hv, hg, h1, h2⟩
/-- A list of members as it is read. -/
def ReadsM (w : World) (v : Value) (L : List Mb) : Prop := (L = [] ∧ ∃ a c, v = .slice a 0 c) ∨ ∃ A c, v = .slice (some A) L.length c ∧ ∀ j m, L[j]? = some m → w.cell? (A.add (2 * j)) = some (Sv m.1) ∧ w.cell? (A.add (2 * j + 1)) = some (Sv m.2)
theorem flatM_at : ∀ (L : List Mb) (j : Nat) (m : Mb), L[j]? = some m → (flatM L)[2 * j]? = some (Sv m.1) ∧ (flatM L)[2 * j + 1]? = some (Sv m.2)
  | [], _, _, h => by simp at h
  | x :: L, 0, m, h => by
    obtain rfl : x = m := by simpa using h
    exact ⟨rfl, rfl⟩
  | x :: L, j + 1, m, h => by
    have ih := flatM_at L j m (by simpa using h)
    have e : flatM (x :: L) = Sv x.1 :: Sv x.2 :: flatM L := rfl
    rw [e, show 2 * (j + 1) = 2 * j + 1 + 1 by omega]
    simpa using ih
theorem OwnM.reads {w : World} {B : Nat} {T : TypeId} {v : Value} {L : List Mb} (h : OwnM w B T v L) : ReadsM w v L := by
  rcases h.form with ⟨hL, hv⟩ | ⟨g, cap, hv, _, _, _⟩
  · exact .inl ⟨hL, none, 0, hv⟩
  · subst hv
    refine .inr ⟨⟨g, 0, none⟩, cap, rfl, fun j m hj => ?_⟩
    have hlt : j < L.length := by
      rcases Nat.lt_or_ge j L.length with q | q
      · exact q
      · rw [List.getElem?_eq_none q] at hj; cases hj
    obtain ⟨h1, h2⟩ := flatM_at L j m hj
    rw [add_zero_off, add_zero_off, World.ownsRow.cellAt h (2 * j) (by omega), World.ownsRow.cellAt h (2 * j + 1) (by omega)]
    exact ⟨h1, h2⟩
theorem ReadsM.len {w : World} {v : Value} {L : List Mb} (h : ReadsM w v L) : ∃ a c, v = .slice a L.length c := by
  rcases h with ⟨rfl, a, c, rfl⟩ | ⟨A, c, rfl, _⟩
  · exact ⟨a, c, rfl⟩
  · exact ⟨some A, c, rfl⟩
end Go.Proofs.YtgfdmdikiickpaaGreatDoor

/-! Membs -/
namespace Go.Proofs.YtgfdmdikiickpaaGreatDoor
open Go.RowKit

def Mbs (w : World) (B : Nat) (A : Option Addr) (L : List Mb) : Prop :=
  ∀ (k : Nat) m, L[k]? = some m → ∃ ad : Addr, A = some ad ∧ ad.block < B ∧ ∀ (q : Nat) u, (mcs m)[q]? = some u → w.cell? (ad.add (k * 2 + q)) = some u
theorem Mbs.below {w w' : World} {B : Nat} {A : Option Addr} {L : List Mb} (h : Mbs w B A L) (hb : Below B w w') : Mbs w' B A L := fun k m hm => by
  obtain ⟨ad, e, hlt, hc⟩ := h k m hm
  exact ⟨ad, e, hlt, fun q u hu => (hb.cell (by rw [block_of_add]; exact hlt)).trans (hc q u hu)⟩
theorem Mbs.mono_ {w : World} {B B' : Nat} {A : Option Addr} {L : List Mb} (h : Mbs w B A L) (hB : B ≤ B') : Mbs w B' A L := fun k m hm => by
  obtain ⟨ad, e, hlt, hc⟩ := h k m hm
  exact ⟨ad, e, Nat.lt_of_lt_of_le hlt hB, hc⟩
theorem Mbs.ext {w w' : World} {A : Option Addr} {L : List Mb} (h : Mbs w w.heap.size A L) (hb : Below w.heap.size w w') : Mbs w' w'.heap.size A L := (h.below hb).mono_ hb.size
theorem Mbs.nil (w : World) (B : Nat) (A : Option Addr) : Mbs w B A [] := fun k m hm => by simp at hm
theorem Mbs.at_ {w : World} {B : Nat} {A : Option Addr} {L : List Mb} (h : Mbs w B A L) {k : Nat} {m : Mb} (hm : L[k]? = some m) :
    ∃ ad : Addr, A = some ad ∧ w.cell? (ad.add (k * 2)) = some (Sv m.1) ∧ w.cell? ⟨(ad.add (k * 2)).block, (ad.add (k * 2)).off + 1, none⟩ = some (Sv m.2) := by
  obtain ⟨ad, e, _, hc⟩ := h k m hm
  have q0 := hc 0 _ rfl
  have q1 := hc 1 _ rfl
  rw [← add_of_add] at q1
  exact ⟨ad, e, q0, q1⟩
theorem OwnM.mbs {w : World} {B : Nat} {T : TypeId} {v : Value} {L : List Mb} (h : OwnM w B T v L) : ∃ A c, v = .slice A L.length c ∧ Mbs w w.heap.size A L := by
  rcases h.form with ⟨hL, hv⟩ | ⟨g, cap, hv, _, _, _⟩
  · subst hL hv
    exact ⟨none, 0, rfl, Mbs.nil _ _ _⟩
  · subst hv
    refine ⟨some ⟨g, 0, none⟩, cap, rfl, fun k m hm => ⟨⟨g, 0, none⟩, rfl, (World.ownsRow.lt h g rfl).2, fun q u hu => ?_⟩⟩
    have hlt : k < L.length := by
      rcases Nat.lt_or_ge k L.length with q | q
      · exact q
      · rw [List.getElem?_eq_none q] at hm; cases hm
    obtain ⟨h1, h2⟩ := flatM_at L k m hm
    have hq : q < 2 := by
      rcases Nat.lt_or_ge q 2 with r | r
      · exact r
      · rw [Array.getElem?_eq_none (by simpa [mcs] using r)] at hu; cases hu
    rw [add_zero_off, World.ownsRow.cellAt h (k * 2 + q) (by omega)]
    rw [Nat.mul_comm 2 k] at h1 h2
    match q, hu with
    | 0, hu => rw [show u = Sv m.1 from (Option.some.inj hu).symm]; exact h1
    | 1, hu => rw [show u = Sv m.2 from (Option.some.inj hu).symm]; exact h2
theorem Mbs.take_ {w : World} {B : Nat} {A : Option Addr} {L : List Mb} (h : Mbs w B A L) (n : Nat) : Mbs w B A (L.take n) := fun k m hm => by
  refine h k m ?_
  rw [List.getElem?_take] at hm
  split at hm
  · exact hm
  · cases hm
theorem OwnM.mbs_ {w : World} {B n c : Nat} {A : Option Addr} {T : TypeId} {L : List Mb} (h : OwnM w B T (.slice A n c) L) : Mbs w w.heap.size A L := by
  obtain ⟨A', c', e, hm⟩ := h.mbs
  injection e with e1 _ _
  rw [e1]; exact hm
theorem OwnM.one (w : World) (B : Nat) (hB : B ≤ w.heap.size) (T : TypeId) (m : Mb) : OwnM (w.alloc (.cells #[Sv m.1, Sv m.2] T)) B T (.slice (some ⟨w.heap.size, 0, none⟩) 1 1) [m] :=
  ⟨rfl, .inr ⟨w.heap.size, 1, #[Sv m.1, Sv m.2], rfl, hB, Blk.new w _ _, Nat.le_refl _, by decide, rfl, rfl⟩⟩
theorem OwnM.len {w : World} {B : Nat} {T : TypeId} {v : Value} {L : List Mb} (h : OwnM w B T v L) : ∃ A c, v = .slice A L.length c := by
  obtain ⟨A, c, e, _⟩ := h.mbs
  exact ⟨A, c, e⟩
theorem OwnM.mono_ {w : World} {B B' : Nat} {T : TypeId} {v : Value} {L : List Mb} (h : OwnM w B T v L) (hB : B' ≤ B) : OwnM w B' T v L := by
  refine ⟨h.1, ?_⟩
  rcases h.2 with hn | ⟨g, cap, cur, hv, hg, rest⟩
  · exact .inl hn
  · exact .inr ⟨g, cap, cur, hv, by omega, rest⟩
end Go.Proofs.YtgfdmdikiickpaaGreatDoor

/-! OwnS -/
namespace Go.Proofs.YtgfdmdikiickpaaGreatDoor
open Go.RowKit

def OwnS (w : World) (B : Nat) (v : Value) (L : List (List UInt8)) : Prop := w.ownsRow B 9 1 v L.length (L.map Sv)
theorem OwnS.nil (w : World) (B : Nat) : OwnS w B (.slice none 0 0) [] := ⟨rfl, .inl ⟨rfl, rfl⟩⟩
theorem OwnS.below {w w' : World} {B C : Nat} {v : Value} {L : List (List UInt8)} (h : OwnS w B v L) (hb : Below C w w') (hC : w.heap.size ≤ C) : OwnS w' B v L := by
  refine ⟨h.1, ?_⟩
  rcases h.2 with hn | ⟨g, cap, cur, hv, hg, hh, rest⟩
  · exact .inl hn
  · refine .inr ⟨g, cap, cur, hv, hg, ?_, rest⟩
    have hlt : g < w.heap.size := by
      rcases Nat.lt_or_ge g w.heap.size with q | q
      · exact q
      · rw [Array.getElem?_eq_none q] at hh; cases hh
    rw [hb.block g (by omega)]
    exact hh
theorem OwnS.ext {w w' : World} {B : Nat} {v : Value} {L : List (List UInt8)} (h : OwnS w B v L) (hb : Below w.heap.size w w') : OwnS w' B v L := h.below hb (Nat.le_refl _)
theorem OwnS.form {w : World} {B : Nat} {v : Value} {L : List (List UInt8)} (h : OwnS w B v L) : (L = [] ∧ v = .slice none 0 0) ∨ ∃ g cap, v = .slice (some ⟨g, 0, none⟩) L.length cap ∧ B ≤ g ∧ L.length ≤ cap ∧ cap ≤ maxLen := by
  rcases h.2 with ⟨hn, h0⟩ | ⟨g, cap, cur, hv, hg, _, h1, h2, _⟩
  · exact .inl ⟨List.eq_nil_of_length_eq_zero h0, hn⟩
  · exact .inr ⟨g, cap, hv, hg, h1, h2⟩
theorem OwnS.at_ {w : World} {B g cap n : Nat} {L : List (List UInt8)} (h : OwnS w B (.slice (some ⟨g, 0, none⟩) n cap) L) (hn : n = L.length) {k : Nat} {s : List UInt8} (hk : L[k]? = some s) : w.cell? ⟨g, k, none⟩ = some (Sv s) := by
  subst hn
  have hlt : k < L.length := by
    rcases Nat.lt_or_ge k L.length with q | q
    · exact q
    · rw [List.getElem?_eq_none q] at hk; cases hk
  rw [World.ownsRow.cellAt h k (by omega)]
  simp [hk]
theorem OwnS.one (w : World) (B : Nat) (hB : B ≤ w.heap.size) (s : List UInt8) : OwnS (w.alloc (.cells #[Sv s] 9)) B (.slice (some ⟨w.heap.size, 0, none⟩) 1 1) [s] :=
  ⟨rfl, .inr ⟨w.heap.size, 1, #[Sv s], rfl, hB, Blk.new w _ _, Nat.le_refl _, by decide, rfl, rfl⟩⟩
theorem info_strs : (Tryz.prog.info? 9).map (fun i => (i.zero, i.size, i.bytes)) = some (some (.string ByteArray.empty), 1, 16) := by kernel_rfl
theorem sv_one (L : List (List UInt8)) : ∀ u ∈ L.map Sv, u.oneCell' = true := by
  intro u hu
  obtain ⟨s, _, rfl⟩ := List.mem_map.1 hu
  rfl
theorem wpList_appS {w : World} {ops : Array Oper} {rest : List Oper} {o : Oper} {a : Act} {Q : Exit → Act → World → Prop} (hgd : o.guard = none) {s x : Operand}
    (ho : o.op = .call { callee := .builtin .append, args := #[s, x], argTypes := #[41, 41] })
    (base : Nat) (v : Value) (L : List (List UInt8)) (hs : a.eval s = v) (hown : OwnS w base v L)
    {g c : Nat} (q : List UInt8) (hx : a.eval x = .slice (some ⟨g, 0, none⟩) 1 c) (hg : w.cell? ⟨g, 0, none⟩ = some (Sv q)) (hl : L.length + 1 ≤ 8796093022208) (hbase : base ≤ w.heap.size)
    (h : ∀ v' w', OwnS w' base v' (L ++ [q]) → w.grownBy w' v.ownBlock → wpList Tryz.prog ops Q rest (a.put o.dst v') w') : wpList Tryz.prog ops Q (o :: rest) a w := by
  refine wpList_plain hgd fun K hK => ?_
  obtain ⟨i0, hi, hz0, hz1, hz2⟩ := info_parts info_strs
  refine wp_append_own (w := w) s x _ ho base 9 i0 _ 1 16 Tryz.underlying41 hi hz0 hz1 hz2 rfl (by omega) v L.length (L.map Sv) hs hown ⟨g, 0, none⟩ 1 c [Sv q] hx (by rfl)
    (fun j u hu => by
      cases j with
      | zero => obtain rfl : u = Sv q := (Option.some.inj hu).symm; exact hg
      | succ j => simp at hu) (fun u hu => by obtain rfl := List.mem_singleton.1 hu; rfl) (by unfold maxLen; omega) (by omega) hbase ?_
  intro v' w' h1 h2 _
  refine hK _ _ (h v' w' ?_ h2)
  unfold OwnS
  rw [List.map_append, List.length_append]
  exact h1
end Go.Proofs.YtgfdmdikiickpaaGreatDoor

/-! StateB -/
namespace Go.Proofs.YtgfdmdikiickpaaGreatDoor
open Go.RowKit

theorem below_cell45 {B : Nat} {a w : World} (h : Below B a w) {g : Nat} (hg : B ≤ g) (o : Nat) (v : Value) : Below B a (w.setCell ⟨g, o, none⟩ v) := by
  have hg' : B ≤ (⟨g, o, none⟩ : Addr).block := hg
  with_reducible exact Below.setCell h hg' v
set_option maxRecDepth 100000 in
theorem skey_any (s : List UInt8) (w : World) (hs : s.length ≤ 4611686018427387904) :
    Calls Tryz.prog 93 #[Sv s] w fun e w' => e = .returned (.bool (keyB s)) ∧ Below w.heap.size w w' := by
  have hle := findN_le 64 s
  have hcut := fun u => scut_any s 64 u hs
  unfold cutOut at hcut
  obtain ⟨K, hK⟩ : ∃ K, keyB s = K := ⟨_, rfl⟩
  rw [hK]
  unfold keyB at hK
  have HO := hid hK.symm
  clear hK
  obtain ⟨k, hk⟩ : ∃ k, findN 64 s = k := ⟨_, rfl⟩
  rw [hk] at HO hle
  simp only [hk] at hcut
  clear hk
  have c0 : (w.alloc (.cells #[.nilFunc] 176)).cell? ⟨w.heap.size, 0, none⟩ = some .nilFunc := (Blk.new w 176 #[.nilFunc]).cell 0
  have f0 : (w.alloc (.cells #[.nilFunc] 176)).frozen? ⟨w.heap.size, 0, none⟩ = false := (Blk.new w 176 #[.nilFunc]).frozen 0
  obtain ⟨W1, hW1⟩ : ∃ W1, (w.alloc (.cells #[.nilFunc] 176)).setCell ⟨w.heap.size, 0, none⟩ (fnv 118) = W1 := ⟨_, rfl⟩
  have HB := hid (show Blk W1 w.heap.size 176 #[fnv 118] from hW1 ▸ (Blk.new w 176 #[.nilFunc]).set_ 0 _)
  have HW := hid (show Below w.heap.size w W1 from hW1 ▸ below_cell45 (ext_alloc w _) (Nat.le_refl _) 0 _)
  have hst : (store ⟨w.heap.size, 0, none⟩ (.func (.func 118) #[] #[])).run Tryz.prog (w.alloc (.cells #[.nilFunc] 176)) = .ok () W1 := by
    rw [run_store _ _ _ _ _ rfl, c0, f0, ← hW1]
    rfl
  clear hW1 c0 f0
  unfold fnv at HB
  have hlt : w.heap.size < W1.heap.size := HB.out.lt
  go_enter Tryz.func93, Tryz.ntmps93
  go_upto_region 2 with fail
  clear hst
  have hb := HB.out
  have cell2 : ∀ u, Below W1.heap.size W1 u → u.cell? ⟨w.heap.size, 0, none⟩ = some (.func (.func 118) #[] #[]) := fun u hu => ((hb.below hu hlt).cell 0)
  have CELL := hid cell2
  have BEL := hid (fun u (hu : Below W1.heap.size W1 u) => HW.out.trans (hu.mono HW.out.size))
  clear cell2 hb HB HW
  by_cases h : k = s.length
  · subst h
    rw [if_pos rfl] at HO
    simp only [Nat.lt_irrefl, decide_false] at hcut
    have ha := fun u => allkey_any s 256 u (by omega)
    generalize s.take s.length = A at hcut
    generalize s.drop (s.length + 1) = D at hcut
    obtain ⟨b, hb⟩ : ∃ b, allB inKeyB s 256 = b := ⟨_, rfl⟩
    rw [hb] at HO
    simp only [hb] at ha
    cases b with
    | false =>
      clear hb
      go_wp2_with (first
        | (go_at_call 92; refine (hcut _).mono ?_; rintro e w2 ⟨rfl, hb2⟩; have c2 := CELL.out _ hb2; have HB2 := hid hb2; clear hb2)
        | (go_at_call 119; refine (ha _).mono ?_; rintro e w3 ⟨rfl, hb3⟩; have HB3 := hid (HB2.out.trans (hb3.mono HB2.out.size)); clear hb3))
      go_ret
      exact ⟨by rw [HO.out]; rfl, BEL.out _ HB3.out⟩
    | true =>
      have h1 := allB_pos hb
      clear hb
      go_wp2_with (first
        | (go_at_call 92; refine (hcut _).mono ?_; rintro e w2 ⟨rfl, hb2⟩; have c2 := CELL.out _ hb2; have HB2 := hid hb2; clear hb2)
        | (go_at_call 119; refine (ha _).mono ?_; rintro e w3 ⟨rfl, hb3⟩; have HB3 := hid (HB2.out.trans (hb3.mono HB2.out.size)); clear hb3)
        | (go_at_call 120; refine (lower_any _ _).mono ?_; rintro e w4 ⟨rfl, rfl⟩))
      go_ret
      exact ⟨by rw [HO.out]; rfl, BEL.out _ HB3.out⟩
  · rw [if_neg h] at HO
    rw [show decide (k < s.length) = true by simp; omega] at hcut
    have hA : (s.take k).length ≤ s.length := by simp only [List.length_take]; omega
    have hD : (s.drop (k + 1)).length ≤ s.length := by simp only [List.length_drop]; omega
    generalize s.take k = A at *
    generalize s.drop (k + 1) = D at *
    have ha := fun u => allkey_any A 241 u (by omega)
    have hd := fun u => allkey_any D 14 u (by omega)
    clear h hle
    obtain ⟨b, hb⟩ : ∃ b, allB inKeyB A 241 = b := ⟨_, rfl⟩
    obtain ⟨d, hd0⟩ : ∃ d, allB inKeyB D 14 = d := ⟨_, rfl⟩
    rw [hb, hd0] at HO
    simp only [hb] at ha
    simp only [hd0] at hd
    cases b with
    | false =>
      clear hb hd0 hd
      go_wp2_with (first
        | (go_at_call 92; refine (hcut _).mono ?_; rintro e w2 ⟨rfl, hb2⟩; have c2 := CELL.out _ hb2; have HB2 := hid hb2; clear hb2)
        | (go_at_call 119; refine (ha _).mono ?_; rintro e w3 ⟨rfl, hb3⟩; have HB3 := hid (HB2.out.trans (hb3.mono HB2.out.size)); clear hb3))
      go_ret
      exact ⟨by rw [HO.out]; rfl, BEL.out _ HB3.out⟩
    | true =>
      have h1 := allB_pos hb
      clear hb
      obtain ⟨l, hl⟩ : ∃ l, lowK (byteAt A 0) = l := ⟨_, rfl⟩
      obtain ⟨q, hq⟩ : ∃ q, numK (byteAt A 0) = q := ⟨_, rfl⟩
      have hlo := fun u => lower_any (byteAt A 0) u
      have hdi := fun u => digit_any (byteAt A 0) u
      rw [hl, hq] at HO
      simp only [hl] at hlo
      simp only [hq] at hdi
      clear hl hq
      by_cases hlq : l = false ∧ q = false
      · obtain ⟨rfl, rfl⟩ := hlq
        clear hd0 hd
        go_wp2_with (first
          | (go_at_call 92; refine (hcut _).mono ?_; rintro e w2 ⟨rfl, hb2⟩; have c2 := CELL.out _ hb2; have HB2 := hid hb2; clear hb2)
          | (go_at_call 119; refine (ha _).mono ?_; rintro e w3 ⟨rfl, hb3⟩; have c3 := CELL.out _ (HB2.out.trans (hb3.mono HB2.out.size)); have HB3 := hid (HB2.out.trans (hb3.mono HB2.out.size)); clear hb3)
          | (go_at_call 120; refine (hlo _).mono ?_; rintro e w4 ⟨rfl, rfl⟩)
          | (go_at_call 121; refine (hdi _).mono ?_; rintro e w4 ⟨rfl, rfl⟩))
        go_ret
        exact ⟨by rw [HO.out]; rfl, BEL.out _ HB3.out⟩
      · have hor : (l || q) = true := by cases l <;> cases q <;> simp at hlq ⊢
        rw [hor] at HO
        have HD := hid (fun h => allB_pos (hd0.trans h))
        clear hlq
        cases l with
        | true =>
          cases d with
          | false =>
            clear hd0
            go_wp2_with (first
              | (go_at_call 92; refine (hcut _).mono ?_; rintro e w2 ⟨rfl, hb2⟩; have c2 := CELL.out _ hb2; have HB2 := hid hb2; clear hb2)
              | (go_at_call 119; (with_reducible refine (ha _).mono ?_); rintro e w3 ⟨rfl, hb3⟩; have c3 := CELL.out _ (HB2.out.trans (hb3.mono HB2.out.size)); have HB3 := hid (HB2.out.trans (hb3.mono HB2.out.size)); clear hb3)
              | (go_at_call 120; refine (hlo _).mono ?_; rintro e w4 ⟨rfl, rfl⟩)
              | (go_at_call 119; (with_reducible refine (hd _).mono ?_); rintro e w5 ⟨rfl, hb5⟩; have HB5 := hid (HB3.out.trans (hb5.mono HB3.out.size)); clear hb5))
            go_ret
            exact ⟨by rw [HO.out]; rfl, BEL.out _ HB5.out⟩
          | true =>
            have h2 := HD.out rfl
            clear hd0
            go_wp2_with (first
              | (go_at_call 92; refine (hcut _).mono ?_; rintro e w2 ⟨rfl, hb2⟩; have c2 := CELL.out _ hb2; have HB2 := hid hb2; clear hb2)
              | (go_at_call 119; (with_reducible refine (ha _).mono ?_); rintro e w3 ⟨rfl, hb3⟩; have c3 := CELL.out _ (HB2.out.trans (hb3.mono HB2.out.size)); have HB3 := hid (HB2.out.trans (hb3.mono HB2.out.size)); clear hb3)
              | (go_at_call 120; (with_reducible refine (hlo _).mono ?_); rintro e w4 ⟨rfl, rfl⟩)
              | (go_at_call 119; (with_reducible refine (hd _).mono ?_); rintro e w5 ⟨rfl, hb5⟩; have HB5 := hid (HB3.out.trans (hb5.mono HB3.out.size)); clear hb5)
              | (go_at_call 120; refine (lower_any _ _).mono ?_; rintro e w6 ⟨rfl, rfl⟩))
            go_ret
            exact ⟨by rw [HO.out]; rfl, BEL.out _ HB5.out⟩
        | false =>
          obtain rfl : q = true := by simpa using hor
          cases d with
          | false =>
            clear hd0
            go_wp2_with (first
              | (go_at_call 92; refine (hcut _).mono ?_; rintro e w2 ⟨rfl, hb2⟩; have c2 := CELL.out _ hb2; have HB2 := hid hb2; clear hb2)
              | (go_at_call 119; (with_reducible refine (ha _).mono ?_); rintro e w3 ⟨rfl, hb3⟩; have c3 := CELL.out _ (HB2.out.trans (hb3.mono HB2.out.size)); have HB3 := hid (HB2.out.trans (hb3.mono HB2.out.size)); clear hb3)
              | (go_at_call 120; refine (hlo _).mono ?_; rintro e w4 ⟨rfl, rfl⟩)
              | (go_at_call 121; refine (hdi _).mono ?_; rintro e w4 ⟨rfl, rfl⟩)
              | (go_at_call 119; (with_reducible refine (hd _).mono ?_); rintro e w5 ⟨rfl, hb5⟩; have HB5 := hid (HB3.out.trans (hb5.mono HB3.out.size)); clear hb5))
            go_ret
            exact ⟨by rw [HO.out]; rfl, BEL.out _ HB5.out⟩
          | true =>
            have h2 := HD.out rfl
            clear hd0
            go_wp2_with (first
              | (go_at_call 92; refine (hcut _).mono ?_; rintro e w2 ⟨rfl, hb2⟩; have c2 := CELL.out _ hb2; have HB2 := hid hb2; clear hb2)
              | (go_at_call 119; (with_reducible refine (ha _).mono ?_); rintro e w3 ⟨rfl, hb3⟩; have c3 := CELL.out _ (HB2.out.trans (hb3.mono HB2.out.size)); have HB3 := hid (HB2.out.trans (hb3.mono HB2.out.size)); clear hb3)
              | (go_at_call 120; (with_reducible refine (hlo _).mono ?_); rintro e w4 ⟨rfl, rfl⟩)
              | (go_at_call 121; refine (hdi _).mono ?_; rintro e w4 ⟨rfl, rfl⟩)
              | (go_at_call 119; (with_reducible refine (hd _).mono ?_); rintro e w5 ⟨rfl, hb5⟩; have HB5 := hid (HB3.out.trans (hb5.mono HB3.out.size)); clear hb5)
              | (go_at_call 120; refine (lower_any _ _).mono ?_; rintro e w6 ⟨rfl, rfl⟩))
            go_ret
            exact ⟨by rw [HO.out]; rfl, BEL.out _ HB5.out⟩
end Go.Proofs.YtgfdmdikiickpaaGreatDoor

/-! StateE -/
namespace Go.Proofs.YtgfdmdikiickpaaGreatDoor
open Go.RowKit

set_option maxRecDepth 100000 in
theorem hasc_any (m : Mb) (key : List UInt8) (p : Addr) (w : World) (hp : w.cell? p = some (Sv key)) (hlt : p.block < w.heap.size) :
    Calls Tryz.prog 124 #[.agg #[Sv m.1, Sv m.2], .pointer (some p)] w fun e w' => e = .returned (.bool (m.1 == key)) ∧ Below w.heap.size w w' := by
  have c1 : (w.alloc (.cells #[Sv m.1, Sv m.2] 82)).cell? ⟨w.heap.size, 0, none⟩ = some (Sv m.1) := (Blk.new w 82 #[Sv m.1, Sv m.2]).cell 0
  have c2 : (w.alloc (.cells #[Sv m.1, Sv m.2] 82)).cell? p = some (Sv key) := (Below.cell (ext_alloc w _) hlt).trans hp
  go_enter Tryz.func124, Tryz.ntmps124
  go_wp2_with fail
  go_ret
  exact ⟨rfl, ext_alloc w _⟩
def IdxRel (w : World) (L : List Mb) (key : List UInt8) (i : Value) (wr : World) : Prop := ∃ k : Nat, i = .int .i64 (k : Int) ∧ k ≤ L.length ∧ Hid (hasM (L.take k) key = false) ∧ Hid (Below w.heap.size w wr)
set_option maxRecDepth 100000 in
set_option maxHeartbeats 1000000 in
theorem idxfunc_any (A : Option Addr) (cap : Nat) (L : List Mb) (key : List UInt8) (p : Addr) (w : World) (h : Mbs w w.heap.size A L) (hl : L.length ≤ 1000000) (hp : w.cell? p = some (Sv key)) (hlt : p.block < w.heap.size) :
    Calls Tryz.prog 123 #[.slice A L.length cap, .func (.func 124) #[] #[.pointer (some p)]] w fun e w' => e = .returned (.int .i64 (idxM L key)) ∧ Below w.heap.size w w' := by
  have HO := hid h
  have HP := hid hp
  clear h hp
  go_enter Tryz.func123, Tryz.ntmps123
  go_wp2_with fail
  go_loopw [8] (fun i wr => IdxRel w L key i wr) (fun i _ => L.length - (intOf i).toNat)
  case atStart => exact ⟨0, rfl, Nat.zero_le _, hid rfl, hid (Below.refl _ _)⟩
  case round =>
    obtain ⟨k, rfl, hk, HN, HB⟩ := hrel
    by_cases hlk : k < L.length
    · obtain ⟨m, hm⟩ := get_lt hlk
      obtain ⟨ad, hA, p0, p1⟩ := (HO.out.below HB.out).at_ hm
      have HM := hid hm
      clear hm
      subst hA
      have qi : (0 : Int) ≤ (k : Int) ∧ (k : Int) < (L.length : Int) := by omega
      have hcall := hasc_any m key p wr ((HB.out.cell hlt).trans HP.out) (Nat.lt_of_lt_of_le hlt HB.out.size)
      obtain ⟨b, hb⟩ : ∃ b, (m.1 == key) = b := ⟨_, rfl⟩
      rw [hb] at hcall
      have HBB := hid hb
      clear hb
      cases b with
      | true =>
        have HR := hid (idxM_hit HM.out HBB.out HN.out).1
        go_wp2_with fail
        refine hcall.mono ?_; rintro e w2 ⟨rfl, hb2⟩
        have HB2 := hid (HB.out.trans (hb2.mono HB.out.size))
        clear hb2 hcall
        go_wp2_with fail
        go_ret
        exact ⟨by rw [HR.out]; rfl, HB2.out⟩
      | false =>
        have HN2 := hid (show hasM (L.take (k + 1)) key = false by rw [take_snoc_at HM.out, hasM_snoc, HN.out, HBB.out]; rfl)
        go_wp2_with fail
        refine hcall.mono ?_; rintro e w2 ⟨rfl, hb2⟩
        have HB2 := hid (HB.out.trans (hb2.mono HB.out.size))
        clear hb2 hcall
        go_wp2_with fail
        refine ⟨⟨k + 1, by go_num, hlk, HN2, HB2⟩, by simp [intOf] <;> omega⟩
    · obtain rfl : k = L.length := by omega
      have HR := hid (idxM_miss (L := L) (key := key) (by have := HN.out; rwa [List.take_length] at this)).1
      go_wp2_with fail
      go_ret
      exact ⟨by rw [HR.out]; rfl, HB.out⟩
set_option maxRecDepth 100000 in
theorem has_any (A : Option Addr) (cap : Nat) (L : List Mb) (key : List UInt8) (w : World) (h : Mbs w w.heap.size A L) (hl : L.length ≤ 1000000) :
    Calls Tryz.prog 95 #[.slice A L.length cap, Sv key] w fun e w' => e = .returned (.int .i64 (idxM L key)) ∧ Below w.heap.size w w' := by
  have hcon := idxfunc_any A cap L key ⟨w.heap.size, 0, none⟩ (w.alloc (.cells #[Sv key] 9)) (h.ext (ext_alloc w _)) hl ((Blk.new w 9 #[Sv key]).cell 0) (by simp)
  generalize idxM L key = r at hcon ⊢
  clear h
  go_enter Tryz.func95, Tryz.ntmps95
  go_wp2_with fail
  refine hcon.mono ?_; rintro e w2 ⟨rfl, hb2⟩
  have HB := hid (ext_trans (ext_alloc w _) hb2)
  clear hb2 hcon
  go_wp2_with fail
  go_ret
  exact ⟨rfl, HB.out⟩
end Go.Proofs.YtgfdmdikiickpaaGreatDoor

/-! StateJ -/
namespace Go.Proofs.YtgfdmdikiickpaaGreatDoor
open Go.RowKit

def ReadRel44 (w : World) (s : List UInt8) (ps : List (List UInt8)) (v i : Value) (wr : World) : Prop := ∃ (v' : Value) (k : Nat) (acc : List Mb), v' = v ∧ i = .int .i64 (k : Int) ∧ k ≤ ps.length ∧ acc.length ≤ 32 ∧ Hid (OwnM wr (w.heap.size + 1) 82 v' acc) ∧ Hid (readS s = readP (ps.drop k) acc) ∧ Hid (Below w.heap.size w wr ∧ Blk wr w.heap.size 9 (ps.map Sv).toArray)
theorem part_cell {w : World} {g : Nat} {ps : List (List UInt8)} (h : Blk w g 9 (ps.map Sv).toArray) {k : Nat} {p : List UInt8} (hp : ps[k]? = some p) : w.cell? ⟨g, k, none⟩ = some (Sv p) :=
  (h.cell k).trans (by simp [hp])
set_option maxRecDepth 100000 in
set_option maxHeartbeats 8000000 in
theorem sread_any (s : List UInt8) (w : World) (hs : s.length ≤ 4000000000) :
    Calls Tryz.prog 57 #[Sv s] w fun e w' => ∃ v, e = .returned (.tuple #[v, .int .i64 (readS s).2]) ∧ OwnM w' w.heap.size 82 v (readS s).1 ∧ Below w.heap.size w w' := by
  have hsp := fun u => ssplit_any s 44 u (by omega)
  have HPS := hid (show readS s = readP (cutB 44 s) [] from rfl)
  have HFL := hid (cutB_flat 44 s)
  have hcl := cutB_length 44 s
  generalize cutB 44 s = ps at hsp HPS HFL hcl
  have HB0 := hid (show Below w.heap.size w (w.alloc (.cells (ps.map Sv).toArray 9)) ∧ Blk (w.alloc (.cells (ps.map Sv).toArray 9)) w.heap.size 9 (ps.map Sv).toArray from ⟨ext_alloc w _, Blk.new w _ _⟩)
  obtain ⟨W1, hW1⟩ : ∃ W1, w.alloc (.cells (ps.map Sv).toArray 9) = W1 := ⟨_, rfl⟩
  rw [hW1] at HB0
  have HW1 := hid hW1
  clear hW1
  go_enter Tryz.func57, Tryz.ntmps57
  go_wp2_with fail
  refine (hsp _).mono ?_; rintro e w1 ⟨rfl, hw1⟩
  rw [HW1.out] at hw1
  subst hw1
  clear HW1 hsp
  go_wp2_with fail
  go_loopw [4, 13] (fun v i wr => ReadRel44 w s ps v i wr) (fun _ i _ => ps.length - (intOf i).toNat)
  case atStart => exact ⟨_, 0, [], rfl, rfl, Nat.zero_le _, by simp, OwnM.nil _ _ _, hid (by rw [HPS.out, List.drop_zero]), HB0⟩
  case round =>
    obtain ⟨v', k, acc, hv, rfl, hk, hacc, HW, HP, HB⟩ := hrel
    subst hv
    obtain ⟨A1, c1, hform⟩ := HW.out.len
    subst hform
    by_cases hlt : k < ps.length
    · obtain ⟨p, hp⟩ := get_lt hlt
      have hpl : p.length ≤ s.length := HFL.out p (List.mem_of_getElem? hp)
      have c0 := part_cell HB.out.2 hp
      have HP2 := hid (HP.out.trans (readP_at hp acc))
      clear hp
      have qi : (0 : Int) ≤ (k : Int) ∧ (k : Int) < (ps.length : Int) := by omega
      have htrim := fun u => strim_any p u (by omega)
      have htl := trimB_len p
      have HS1 := hid (step_skip (acc := acc) (p := p))
      have HS2 := hid (step_form (acc := acc) (p := p))
      have HS3 := hid (step_rest (acc := acc) (p := p))
      generalize trimB p = tp at htrim htl HS1 HS2 HS3
      by_cases h0 : tp = []
      · subst h0
        have HN := hid (show readS s = readP (ps.drop (k + 1)) acc by rw [HP2.out, HS1.out rfl, if_pos rfl])
        clear HS1 HS2 HS3 HP2
        go_wp2_with ((go_at_call 91; refine (htrim _).mono ?_; rintro e w2 ⟨rfl, hb2⟩; have HR2 := hid hb2; clear hb2))
        refine ⟨⟨_, k + 1, acc, rfl, by go_num, hlt, hacc, hid (HW.out.ext HR2.out), HN, hid ⟨HB.out.1.trans (HR2.out.mono HB.out.1.size), HB.out.2.below HR2.out HB.out.2.lt⟩⟩, by simp [intOf] <;> omega⟩
      · have h0' : (tp == []) = false := by simpa using h0
        have hcut := fun u => scut_any tp 61 u (by omega)
        unfold cutOut at hcut
        have HS2' := hid (HS2.out h0)
        have HS3' := hid (HS3.out h0)
        clear HS1 HS2 HS3 h0
        have hkl : (tp.take (findN 61 tp)).length ≤ tp.length := by rw [List.length_take]; omega
        have hvl : (tp.drop (findN 61 tp + 1)).length ≤ tp.length := by rw [List.length_drop]; omega
        obtain ⟨is, his⟩ : ∃ is, decide (findN 61 tp < tp.length) = is := ⟨_, rfl⟩
        rw [← decide_eq_true_eq (p := findN 61 tp < tp.length), his] at HS2' HS3'
        simp only [his] at hcut
        clear his
        generalize tp.take (findN 61 tp) = key at *
        generalize tp.drop (findN 61 tp + 1) = value at *
        have hkey := fun u => skey_any key u (by omega)
        have hval := fun u => svalue_any value u (by omega)
        obtain ⟨K, hK⟩ : ∃ K, keyB key = K := ⟨_, rfl⟩
        obtain ⟨V, hV⟩ : ∃ V, valB value = V := ⟨_, rfl⟩
        rw [hK, hV] at HS2' HS3'
        simp only [hK] at hkey
        simp only [hV] at hval
        clear hK hV
        by_cases hall : is = true ∧ K = true ∧ V = true
        · obtain ⟨rfl, rfl, rfl⟩ := hall
          have HS := hid (HS3'.out rfl rfl rfl)
          clear HS2' HS3'
          have hhas := fun u (hu : Below wr.heap.size wr u) => has_any A1 c1 acc key u ((HW.out.ext hu).mbs_) (by omega)
          rcases idx_neg (L := acc) (key := key) with ⟨hh, hi⟩ | ⟨hh, hi⟩
          · have HE := hid (show readS s = ([], 8) by rw [HP2.out, HS.out, if_pos hh]; rfl)
            clear HP2 HS hh
            generalize idxM acc key = ix at hhas hi
            have HHAS := hid hhas
            clear hhas
            go_wp2_with (first
              | (go_at_call 91; refine (htrim _).mono ?_; rintro e w2 ⟨rfl, hb2⟩; have HR2 := hid hb2; clear hb2)
              | (go_at_call 92; refine (hcut _).mono ?_; rintro e w3 ⟨rfl, hb3⟩; have HR3 := hid (ext_trans HR2.out hb3); clear hb3)
              | (go_at_call 93; refine (hkey _).mono ?_; rintro e w4 ⟨rfl, hb4⟩; have HR4 := hid (ext_trans HR3.out hb4); clear hb4)
              | (go_at_call 94; refine (hval _).mono ?_; rintro e w5 ⟨rfl, hb5⟩; have HR5 := hid (ext_trans HR4.out hb5); clear hb5)
              | (go_at_call 95; refine (HHAS.out _ HR5.out).mono ?_; rintro e w6 ⟨rfl, hb6⟩; have HR6 := hid (ext_trans HR5.out hb6); clear hb6))
            go_ret2
            exact ⟨_, by rw [HE.out]; rfl, by rw [HE.out]; exact OwnM.nil _ _ _, HB.out.1.trans (HR6.out.mono HB.out.1.size)⟩
          · rw [hi] at hhas
            have HHAS := hid hhas
            clear hhas hi
            have HS' := hid (show stepS acc p = if acc.length = 32 then ([], 34) else (acc ++ [(key, value)], 0) by rw [HS.out, if_neg (by rw [hh]; simp)])
            clear HS hh
            by_cases h32 : acc.length = 32
            · have HE := hid (show readS s = ([], 34) by rw [HP2.out, HS'.out, if_pos h32]; rfl)
              clear HP2 HS'
              have q32 : ((acc.length : Int) == 32) = true := by rw [h32]; rfl
              have HH32 := hid h32
              clear h32
              go_wp2_with (first
                | (go_at_call 91; refine (htrim _).mono ?_; rintro e w2 ⟨rfl, hb2⟩; have HR2 := hid hb2; clear hb2)
                | (go_at_call 92; refine (hcut _).mono ?_; rintro e w3 ⟨rfl, hb3⟩; have HR3 := hid (ext_trans HR2.out hb3); clear hb3)
                | (go_at_call 93; refine (hkey _).mono ?_; rintro e w4 ⟨rfl, hb4⟩; have HR4 := hid (ext_trans HR3.out hb4); clear hb4)
                | (go_at_call 94; refine (hval _).mono ?_; rintro e w5 ⟨rfl, hb5⟩; have HR5 := hid (ext_trans HR4.out hb5); clear hb5)
                | (go_at_call 95; refine (HHAS.out _ HR5.out).mono ?_; rintro e w6 ⟨rfl, hb6⟩; have HR6 := hid (ext_trans HR5.out hb6); clear hb6))
              go_ret2
              exact ⟨_, by rw [HE.out]; rfl, by rw [HE.out]; exact OwnM.nil _ _ _, HB.out.1.trans (HR6.out.mono HB.out.1.size)⟩
            · have HN := hid (show readS s = readP (ps.drop (k + 1)) (acc ++ [(key, value)]) by rw [HP2.out, HS'.out, if_neg h32, if_pos rfl])
              clear HP2 HS'
              have q32 : ((acc.length : Int) == 32) = false := by rw [beq_eq_false_iff_ne]; omega
              have hal : acc.length ≤ 31 := by omega
              have hkl2 : acc.length ≤ 1000000 := by omega
              clear h32
              go_wp2_with (first
                | (go_at_call 91; refine (htrim _).mono ?_; rintro e w2 ⟨rfl, hb2⟩; have HR2 := hid hb2; clear hb2)
                | (go_at_call 92; refine (hcut _).mono ?_; rintro e w3 ⟨rfl, hb3⟩; have HR3 := hid (ext_trans HR2.out hb3); clear hb3)
                | (go_at_call 93; refine (hkey _).mono ?_; rintro e w4 ⟨rfl, hb4⟩; have HR4 := hid (ext_trans HR3.out hb4); clear hb4)
                | (go_at_call 94; refine (hval _).mono ?_; rintro e w5 ⟨rfl, hb5⟩; have HR5 := hid (ext_trans HR4.out hb5); clear hb5)
                | (go_at_call 95; refine (HHAS.out _ HR5.out).mono ?_; rintro e w6 ⟨rfl, hb6⟩; have HR6 := hid (ext_trans HR5.out hb6); clear hb6
                   have HO7 := hid (HW.out.ext (ext_trans HR6.out (ext_alloc w6 (.cells #[Sv key, Sv value] 82))))
                   have HBK := hid (Blk.new w6 82 (mcs (key, value)))
                   have HB6 := hid (HB.out.1.trans (HR6.out.mono HB.out.1.size))
                   have HB7 := hid (HB6.out.alloc HB6.out.size (.cells #[Sv key, Sv value] 82))
                   have HBL := hid (HB.out.2.below (ext_trans HR6.out (ext_alloc w6 (.cells #[Sv key, Sv value] 82))) HB.out.2.lt))
                | (refine wpList_appM rfl _ _ _ _ Tryz.underlying32 info_sm rfl (w.heap.size + 1) (.slice A1 acc.length c1) acc rfl HO7.out w6.heap.size 1 82 (key, value) rfl HBK.out hkl2 HBL.out.lt ?_; intro v8 w8 hown8 hg8; have HO8 := hid hown8; have HG8 := hid hg8; clear hown8 hg8))
              refine ⟨⟨v8, k + 1, acc ++ [(key, value)], rfl, by go_num, hlt, by simp; omega, HO8, HN, hid ⟨Below.grown HB7.out HG8.out HB7.out.size (fun k hk => by have := (World.ownsRow.lt HO7.out k hk).1; omega), HBL.out.grown HG8.out (fun e => by have := (World.ownsRow.lt HO7.out _ e.symm).1; omega)⟩⟩, by simp [intOf] <;> omega⟩
        · have HE := hid (show readS s = ([], 3) by rw [HP2.out, HS2'.out hall]; rfl)
          clear HP2 HS2' HS3'
          cases is with
          | false =>
            go_wp2_with (first
            | (go_at_call 91; refine (htrim _).mono ?_; rintro e w2 ⟨rfl, hb2⟩; have HR2 := hid hb2; clear hb2)
            | (go_at_call 92; refine (hcut _).mono ?_; rintro e w3 ⟨rfl, hb3⟩; have HR3 := hid (ext_trans HR2.out hb3); clear hb3)
            | (go_at_call 93; refine (hkey _).mono ?_; rintro e w4 ⟨rfl, hb4⟩; have HR4 := hid (ext_trans HR3.out hb4); clear hb4)
            | (go_at_call 94; refine (hval _).mono ?_; rintro e w5 ⟨rfl, hb5⟩; have HR5 := hid (ext_trans HR4.out hb5); clear hb5))
            go_ret2
            exact ⟨_, by rw [HE.out]; rfl, by rw [HE.out]; exact OwnM.nil _ _ _, HB.out.1.trans (HR3.out.mono HB.out.1.size)⟩
          | true =>
            cases K with
            | false =>
              go_wp2_with (first
              | (go_at_call 91; refine (htrim _).mono ?_; rintro e w2 ⟨rfl, hb2⟩; have HR2 := hid hb2; clear hb2)
              | (go_at_call 92; refine (hcut _).mono ?_; rintro e w3 ⟨rfl, hb3⟩; have HR3 := hid (ext_trans HR2.out hb3); clear hb3)
              | (go_at_call 93; refine (hkey _).mono ?_; rintro e w4 ⟨rfl, hb4⟩; have HR4 := hid (ext_trans HR3.out hb4); clear hb4)
              | (go_at_call 94; refine (hval _).mono ?_; rintro e w5 ⟨rfl, hb5⟩; have HR5 := hid (ext_trans HR4.out hb5); clear hb5))
              go_ret2
              exact ⟨_, by rw [HE.out]; rfl, by rw [HE.out]; exact OwnM.nil _ _ _, HB.out.1.trans (HR4.out.mono HB.out.1.size)⟩
            | true =>
              cases V with
              | false =>
                go_wp2_with (first
                | (go_at_call 91; refine (htrim _).mono ?_; rintro e w2 ⟨rfl, hb2⟩; have HR2 := hid hb2; clear hb2)
                | (go_at_call 92; refine (hcut _).mono ?_; rintro e w3 ⟨rfl, hb3⟩; have HR3 := hid (ext_trans HR2.out hb3); clear hb3)
                | (go_at_call 93; refine (hkey _).mono ?_; rintro e w4 ⟨rfl, hb4⟩; have HR4 := hid (ext_trans HR3.out hb4); clear hb4)
                | (go_at_call 94; refine (hval _).mono ?_; rintro e w5 ⟨rfl, hb5⟩; have HR5 := hid (ext_trans HR4.out hb5); clear hb5))
                go_ret2
                exact ⟨_, by rw [HE.out]; rfl, by rw [HE.out]; exact OwnM.nil _ _ _, HB.out.1.trans (HR5.out.mono HB.out.1.size)⟩
              | true => exact absurd ⟨rfl, rfl, rfl⟩ hall
    · obtain rfl : k = ps.length := by omega
      have HE := hid (show readS s = (acc, 0) by rw [HP.out, readP_end])
      go_wp2_with fail
      go_ret2
      exact ⟨_, by rw [HE.out]; rfl, by rw [HE.out]; exact HW.out.mono_ (by omega), HB.out.1⟩
end Go.Proofs.YtgfdmdikiickpaaGreatDoor
