/- The table of types. MADE BY PROGRAM (wip/gen/gentt.py). -/
import Derived.Test.YtcleiaibcfocdaaAm17
import Derived.Test.YtcleiaibcfocdaaProg
set_option linter.unusedVariables false
set_option linter.unusedSimpArgs false
namespace Go.Proofs.Ytcleiaibcfocdaa.Am
open Go Go.RowKit

def T3 : TS := ⟨.int .i64, 1, 8, [.int .i64 0]⟩
def T4 : TS := ⟨.oth, 1, 1, [.bool false]⟩
def T5 : TS := ⟨.int .u8, 1, 1, [.int .u8 0]⟩
def T9 : TS := ⟨.str, 1, 16, [.string ⟨#[]⟩]⟩
def T20 : TS := ⟨.oth, 1, 16, [.nilIface]⟩
def T22 : TS := ⟨.sl 5, 1, 24, [.slice none 0 0]⟩
def T25 : TS := ⟨.sl 37, 1, 24, [.slice none 0 0]⟩
def T26 : TS := ⟨.sl 60, 1, 24, [.slice none 0 0]⟩
def T27 : TS := ⟨.sl 131, 1, 24, [.slice none 0 0]⟩
def T28 : TS := ⟨.sl 123, 1, 24, [.slice none 0 0]⟩
def T29 : TS := ⟨.sl 3, 1, 24, [.slice none 0 0]⟩
def T31 : TS := ⟨.st [(0, 3), (1, 4), (2, 3), (3, 3), (4, 25), (5, 26), (6, 27), (7, 3), (8, 3), (9, 28), (10, 29), (11, 3), (12, 3)], 13, 184, [.int .i64 0, .bool false, .int .i64 0, .int .i64 0, .slice none 0 0, .slice none 0 0, .slice none 0 0, .int .i64 0, .int .i64 0, .slice none 0 0, .slice none 0 0, .int .i64 0, .int .i64 0]⟩
def T34 : TS := ⟨.st [(0, 3), (1, 3), (2, 3)], 3, 24, [.int .i64 0, .int .i64 0, .int .i64 0]⟩
def T35 : TS := ⟨.sl 154, 1, 24, [.slice none 0 0]⟩
def T37 : TS := ⟨.st [(0, 3), (1, 34), (4, 35)], 5, 56, [.int .i64 0, .int .i64 0, .int .i64 0, .int .i64 0, .slice none 0 0]⟩
def T42 : TS := ⟨.st [(0, 3), (1, 3), (2, 3), (3, 3), (4, 3), (5, 3), (6, 3), (7, 29), (8, 29), (9, 26), (10, 27)], 11, 152, [.int .i64 0, .int .i64 0, .int .i64 0, .int .i64 0, .int .i64 0, .int .i64 0, .int .i64 0, .slice none 0 0, .slice none 0 0, .slice none 0 0, .slice none 0 0]⟩
def T53 : TS := ⟨.oth, 1, 8, [.pointer none]⟩
def T55 : TS := ⟨.sl 34, 1, 24, [.slice none 0 0]⟩
def T57 : TS := ⟨.st [(0, 3), (1, 3), (2, 3), (3, 3), (4, 55), (5, 26), (6, 27)], 7, 104, [.int .i64 0, .int .i64 0, .int .i64 0, .int .i64 0, .slice none 0 0, .slice none 0 0, .slice none 0 0]⟩
def T60 : TS := ⟨.st [(0, 3), (1, 3), (2, 3), (3, 3), (4, 3), (5, 3), (6, 3)], 7, 56, [.int .i64 0, .int .i64 0, .int .i64 0, .int .i64 0, .int .i64 0, .int .i64 0, .int .i64 0]⟩
def T63 : TS := ⟨.oth, 1, 8, [.pointer none]⟩
def T65 : TS := ⟨.sl 35, 1, 24, [.slice none 0 0]⟩
def T66 : TS := ⟨.mp 3 123, 1, 8, [.map none]⟩
def T68 : TS := ⟨.st [(0, 57), (7, 4), (8, 65), (9, 3), (10, 66), (11, 29), (12, 3), (13, 3)], 14, 192, [.int .i64 0, .int .i64 0, .int .i64 0, .int .i64 0, .slice none 0 0, .slice none 0 0, .slice none 0 0, .bool false, .slice none 0 0, .int .i64 0, .map none, .slice none 0 0, .int .i64 0, .int .i64 0]⟩
def T76 : TS := ⟨.oth, 1, 8, [.pointer none]⟩
def T78 : TS := ⟨.st [(0, 22), (1, 3), (2, 4)], 3, 40, [.slice none 0 0, .int .i64 0, .bool false]⟩
def T80 : TS := ⟨.oth, 1, 8, [.pointer none]⟩
def T82 : TS := ⟨.oth, 1, 16, [.nilIface]⟩
def T84 : TS := ⟨.st [(0, 22), (1, 3), (2, 82)], 3, 48, [.slice none 0 0, .int .i64 0, .nilIface]⟩
def T85 : TS := ⟨.oth, 1, 8, [.pointer none]⟩
def T86 : TS := ⟨.sl 85, 1, 24, [.slice none 0 0]⟩
def T91 : TS := ⟨.int .i64, 1, 8, [.int .i64 0]⟩
def T97 : TS := ⟨.sl 5, 1, 24, [.slice none 0 0]⟩
def T109 : TS := ⟨.st [(0, 22), (1, 3)], 2, 32, [.slice none 0 0, .int .i64 0]⟩
def T110 : TS := ⟨.oth, 1, 8, [.nilFunc]⟩
def T111 : TS := ⟨.sl 116, 1, 24, [.slice none 0 0]⟩
def T113 : TS := ⟨.st [(0, 111), (1, 110)], 2, 32, [.slice none 0 0, .nilFunc]⟩
def T114 : TS := ⟨.mp 116 3, 1, 8, [.map none]⟩
def T116 : TS := ⟨.arr 7 3, 7, 56, [.int .i64 0, .int .i64 0, .int .i64 0, .int .i64 0, .int .i64 0, .int .i64 0, .int .i64 0]⟩
def T123 : TS := ⟨.st [(0, 3), (1, 3), (2, 26)], 3, 40, [.int .i64 0, .int .i64 0, .slice none 0 0]⟩
def T131 : TS := ⟨.st [(0, 3), (1, 3), (2, 3), (3, 3), (4, 3)], 5, 40, [.int .i64 0, .int .i64 0, .int .i64 0, .int .i64 0, .int .i64 0]⟩
def T135 : TS := ⟨.int .u64, 1, 8, [.int .u64 0]⟩
def T145 : TS := ⟨.oth, 1, 8, [.pointer none]⟩
def T146 : TS := ⟨.int .u64, 1, 8, [.int .u64 0]⟩
def T150 : TS := ⟨.oth, 1, 8, [.pointer none]⟩
def T154 : TS := ⟨.st [(0, 60), (7, 34), (10, 26), (11, 27)], 12, 128, [.int .i64 0, .int .i64 0, .int .i64 0, .int .i64 0, .int .i64 0, .int .i64 0, .int .i64 0, .int .i64 0, .int .i64 0, .int .i64 0, .slice none 0 0, .slice none 0 0]⟩
def T157 : TS := ⟨.st [(0, 3), (1, 82)], 2, 24, [.int .i64 0, .nilIface]⟩
def T161 : TS := ⟨.oth, 1, 16, [.nilIface]⟩
def T164 : TS := ⟨.oth, 1, 16, [.nilIface]⟩
def T166 : TS := ⟨.oth, 1, 16, [.nilIface]⟩
def T167 : TS := ⟨.sl 82, 1, 24, [.slice none 0 0]⟩
def T169 : TS := ⟨.arr 5 3, 5, 40, [.int .i64 0, .int .i64 0, .int .i64 0, .int .i64 0, .int .i64 0]⟩
def tt : TT := fun t => match t with
  | 3 => some T3
  | 4 => some T4
  | 5 => some T5
  | 9 => some T9
  | 20 => some T20
  | 22 => some T22
  | 25 => some T25
  | 26 => some T26
  | 27 => some T27
  | 28 => some T28
  | 29 => some T29
  | 31 => some T31
  | 34 => some T34
  | 35 => some T35
  | 37 => some T37
  | 42 => some T42
  | 53 => some T53
  | 55 => some T55
  | 57 => some T57
  | 60 => some T60
  | 63 => some T63
  | 65 => some T65
  | 66 => some T66
  | 68 => some T68
  | 76 => some T76
  | 78 => some T78
  | 80 => some T80
  | 82 => some T82
  | 84 => some T84
  | 85 => some T85
  | 86 => some T86
  | 91 => some T91
  | 97 => some T97
  | 109 => some T109
  | 110 => some T110
  | 111 => some T111
  | 113 => some T113
  | 114 => some T114
  | 116 => some T116
  | 123 => some T123
  | 131 => some T131
  | 135 => some T135
  | 145 => some T145
  | 146 => some T146
  | 150 => some T150
  | 154 => some T154
  | 157 => some T157
  | 161 => some T161
  | 164 => some T164
  | 166 => some T166
  | 167 => some T167
  | 169 => some T169
  | _ => none
theorem tt_3 : tt 3 = some T3 := rfl
theorem tt_4 : tt 4 = some T4 := rfl
theorem tt_5 : tt 5 = some T5 := rfl
theorem tt_9 : tt 9 = some T9 := rfl
theorem tt_20 : tt 20 = some T20 := rfl
theorem tt_22 : tt 22 = some T22 := rfl
theorem tt_25 : tt 25 = some T25 := rfl
theorem tt_26 : tt 26 = some T26 := rfl
theorem tt_27 : tt 27 = some T27 := rfl
theorem tt_28 : tt 28 = some T28 := rfl
theorem tt_29 : tt 29 = some T29 := rfl
theorem tt_31 : tt 31 = some T31 := rfl
theorem tt_34 : tt 34 = some T34 := rfl
theorem tt_35 : tt 35 = some T35 := rfl
theorem tt_37 : tt 37 = some T37 := rfl
theorem tt_42 : tt 42 = some T42 := rfl
theorem tt_53 : tt 53 = some T53 := rfl
theorem tt_55 : tt 55 = some T55 := rfl
theorem tt_57 : tt 57 = some T57 := rfl
theorem tt_60 : tt 60 = some T60 := rfl
theorem tt_63 : tt 63 = some T63 := rfl
theorem tt_65 : tt 65 = some T65 := rfl
theorem tt_66 : tt 66 = some T66 := rfl
theorem tt_68 : tt 68 = some T68 := rfl
theorem tt_76 : tt 76 = some T76 := rfl
theorem tt_78 : tt 78 = some T78 := rfl
theorem tt_80 : tt 80 = some T80 := rfl
theorem tt_82 : tt 82 = some T82 := rfl
theorem tt_84 : tt 84 = some T84 := rfl
theorem tt_85 : tt 85 = some T85 := rfl
theorem tt_86 : tt 86 = some T86 := rfl
theorem tt_91 : tt 91 = some T91 := rfl
theorem tt_97 : tt 97 = some T97 := rfl
theorem tt_109 : tt 109 = some T109 := rfl
theorem tt_110 : tt 110 = some T110 := rfl
theorem tt_111 : tt 111 = some T111 := rfl
theorem tt_113 : tt 113 = some T113 := rfl
theorem tt_114 : tt 114 = some T114 := rfl
theorem tt_116 : tt 116 = some T116 := rfl
theorem tt_123 : tt 123 = some T123 := rfl
theorem tt_131 : tt 131 = some T131 := rfl
theorem tt_135 : tt 135 = some T135 := rfl
theorem tt_145 : tt 145 = some T145 := rfl
theorem tt_146 : tt 146 = some T146 := rfl
theorem tt_150 : tt 150 = some T150 := rfl
theorem tt_154 : tt 154 = some T154 := rfl
theorem tt_157 : tt 157 = some T157 := rfl
theorem tt_161 : tt 161 = some T161 := rfl
theorem tt_164 : tt 164 = some T164 := rfl
theorem tt_166 : tt 166 = some T166 := rfl
theorem tt_167 : tt 167 = some T167 := rfl
theorem tt_169 : tt 169 = some T169 := rfl
theorem za_3 : T3.zero.map AV.pv = [.pv (.int .i64 0)] := rfl
theorem za_4 : T4.zero.map AV.pv = [.pv (.bool false)] := rfl
theorem za_5 : T5.zero.map AV.pv = [.pv (.int .u8 0)] := rfl
theorem za_9 : T9.zero.map AV.pv = [.pv (.string ⟨#[]⟩)] := rfl
theorem za_20 : T20.zero.map AV.pv = [.pv (.nilIface)] := rfl
theorem za_22 : T22.zero.map AV.pv = [.pv (.slice none 0 0)] := rfl
theorem za_25 : T25.zero.map AV.pv = [.pv (.slice none 0 0)] := rfl
theorem za_26 : T26.zero.map AV.pv = [.pv (.slice none 0 0)] := rfl
theorem za_27 : T27.zero.map AV.pv = [.pv (.slice none 0 0)] := rfl
theorem za_28 : T28.zero.map AV.pv = [.pv (.slice none 0 0)] := rfl
theorem za_29 : T29.zero.map AV.pv = [.pv (.slice none 0 0)] := rfl
theorem za_31 : T31.zero.map AV.pv = [.pv (.int .i64 0), .pv (.bool false), .pv (.int .i64 0), .pv (.int .i64 0), .pv (.slice none 0 0), .pv (.slice none 0 0), .pv (.slice none 0 0), .pv (.int .i64 0), .pv (.int .i64 0), .pv (.slice none 0 0), .pv (.slice none 0 0), .pv (.int .i64 0), .pv (.int .i64 0)] := rfl
theorem za_34 : T34.zero.map AV.pv = [.pv (.int .i64 0), .pv (.int .i64 0), .pv (.int .i64 0)] := rfl
theorem za_35 : T35.zero.map AV.pv = [.pv (.slice none 0 0)] := rfl
theorem za_37 : T37.zero.map AV.pv = [.pv (.int .i64 0), .pv (.int .i64 0), .pv (.int .i64 0), .pv (.int .i64 0), .pv (.slice none 0 0)] := rfl
theorem za_42 : T42.zero.map AV.pv = [.pv (.int .i64 0), .pv (.int .i64 0), .pv (.int .i64 0), .pv (.int .i64 0), .pv (.int .i64 0), .pv (.int .i64 0), .pv (.int .i64 0), .pv (.slice none 0 0), .pv (.slice none 0 0), .pv (.slice none 0 0), .pv (.slice none 0 0)] := rfl
theorem za_53 : T53.zero.map AV.pv = [.pv (.pointer none)] := rfl
theorem za_55 : T55.zero.map AV.pv = [.pv (.slice none 0 0)] := rfl
theorem za_57 : T57.zero.map AV.pv = [.pv (.int .i64 0), .pv (.int .i64 0), .pv (.int .i64 0), .pv (.int .i64 0), .pv (.slice none 0 0), .pv (.slice none 0 0), .pv (.slice none 0 0)] := rfl
theorem za_60 : T60.zero.map AV.pv = [.pv (.int .i64 0), .pv (.int .i64 0), .pv (.int .i64 0), .pv (.int .i64 0), .pv (.int .i64 0), .pv (.int .i64 0), .pv (.int .i64 0)] := rfl
theorem za_63 : T63.zero.map AV.pv = [.pv (.pointer none)] := rfl
theorem za_65 : T65.zero.map AV.pv = [.pv (.slice none 0 0)] := rfl
theorem za_66 : T66.zero.map AV.pv = [.pv (.map none)] := rfl
theorem za_68 : T68.zero.map AV.pv = [.pv (.int .i64 0), .pv (.int .i64 0), .pv (.int .i64 0), .pv (.int .i64 0), .pv (.slice none 0 0), .pv (.slice none 0 0), .pv (.slice none 0 0), .pv (.bool false), .pv (.slice none 0 0), .pv (.int .i64 0), .pv (.map none), .pv (.slice none 0 0), .pv (.int .i64 0), .pv (.int .i64 0)] := rfl
theorem za_76 : T76.zero.map AV.pv = [.pv (.pointer none)] := rfl
theorem za_78 : T78.zero.map AV.pv = [.pv (.slice none 0 0), .pv (.int .i64 0), .pv (.bool false)] := rfl
theorem za_80 : T80.zero.map AV.pv = [.pv (.pointer none)] := rfl
theorem za_82 : T82.zero.map AV.pv = [.pv (.nilIface)] := rfl
theorem za_84 : T84.zero.map AV.pv = [.pv (.slice none 0 0), .pv (.int .i64 0), .pv (.nilIface)] := rfl
theorem za_85 : T85.zero.map AV.pv = [.pv (.pointer none)] := rfl
theorem za_86 : T86.zero.map AV.pv = [.pv (.slice none 0 0)] := rfl
theorem za_91 : T91.zero.map AV.pv = [.pv (.int .i64 0)] := rfl
theorem za_97 : T97.zero.map AV.pv = [.pv (.slice none 0 0)] := rfl
theorem za_109 : T109.zero.map AV.pv = [.pv (.slice none 0 0), .pv (.int .i64 0)] := rfl
theorem za_110 : T110.zero.map AV.pv = [.pv (.nilFunc)] := rfl
theorem za_111 : T111.zero.map AV.pv = [.pv (.slice none 0 0)] := rfl
theorem za_113 : T113.zero.map AV.pv = [.pv (.slice none 0 0), .pv (.nilFunc)] := rfl
theorem za_114 : T114.zero.map AV.pv = [.pv (.map none)] := rfl
theorem za_116 : T116.zero.map AV.pv = [.pv (.int .i64 0), .pv (.int .i64 0), .pv (.int .i64 0), .pv (.int .i64 0), .pv (.int .i64 0), .pv (.int .i64 0), .pv (.int .i64 0)] := rfl
theorem za_123 : T123.zero.map AV.pv = [.pv (.int .i64 0), .pv (.int .i64 0), .pv (.slice none 0 0)] := rfl
theorem za_131 : T131.zero.map AV.pv = [.pv (.int .i64 0), .pv (.int .i64 0), .pv (.int .i64 0), .pv (.int .i64 0), .pv (.int .i64 0)] := rfl
theorem za_135 : T135.zero.map AV.pv = [.pv (.int .u64 0)] := rfl
theorem za_145 : T145.zero.map AV.pv = [.pv (.pointer none)] := rfl
theorem za_146 : T146.zero.map AV.pv = [.pv (.int .u64 0)] := rfl
theorem za_150 : T150.zero.map AV.pv = [.pv (.pointer none)] := rfl
theorem za_154 : T154.zero.map AV.pv = [.pv (.int .i64 0), .pv (.int .i64 0), .pv (.int .i64 0), .pv (.int .i64 0), .pv (.int .i64 0), .pv (.int .i64 0), .pv (.int .i64 0), .pv (.int .i64 0), .pv (.int .i64 0), .pv (.int .i64 0), .pv (.slice none 0 0), .pv (.slice none 0 0)] := rfl
theorem za_157 : T157.zero.map AV.pv = [.pv (.int .i64 0), .pv (.nilIface)] := rfl
theorem za_161 : T161.zero.map AV.pv = [.pv (.nilIface)] := rfl
theorem za_164 : T164.zero.map AV.pv = [.pv (.nilIface)] := rfl
theorem za_166 : T166.zero.map AV.pv = [.pv (.nilIface)] := rfl
theorem za_167 : T167.zero.map AV.pv = [.pv (.slice none 0 0)] := rfl
theorem za_169 : T169.zero.map AV.pv = [.pv (.int .i64 0), .pv (.int .i64 0), .pv (.int .i64 0), .pv (.int .i64 0), .pv (.int .i64 0)] := rfl
theorem ttOK : TTOk Try.prog tt := by
  intro t s h
  unfold tt at h
  split at h
  · cases h; exact .of (by kernel_rfl) (by kernel_rfl) trivial
  · cases h; exact .of (by kernel_rfl) (by kernel_rfl) trivial
  · cases h; exact .of (by kernel_rfl) (by kernel_rfl) trivial
  · cases h; exact .of (by kernel_rfl) (by kernel_rfl) trivial
  · cases h; exact .of (by kernel_rfl) (by kernel_rfl) trivial
  · cases h; exact .of (by kernel_rfl) (by kernel_rfl) trivial
  · cases h; exact .of (by kernel_rfl) (by kernel_rfl) trivial
  · cases h; exact .of (by kernel_rfl) (by kernel_rfl) trivial
  · cases h; exact .of (by kernel_rfl) (by kernel_rfl) trivial
  · cases h; exact .of (by kernel_rfl) (by kernel_rfl) trivial
  · cases h; exact .of (by kernel_rfl) (by kernel_rfl) trivial
  · cases h; exact .of (by kernel_rfl) (by kernel_rfl) trivial
  · cases h; exact .of (by kernel_rfl) (by kernel_rfl) trivial
  · cases h; exact .of (by kernel_rfl) (by kernel_rfl) trivial
  · cases h; exact .of (by kernel_rfl) (by kernel_rfl) trivial
  · cases h; exact .of (by kernel_rfl) (by kernel_rfl) trivial
  · cases h; exact .of (by kernel_rfl) (by kernel_rfl) trivial
  · cases h; exact .of (by kernel_rfl) (by kernel_rfl) trivial
  · cases h; exact .of (by kernel_rfl) (by kernel_rfl) trivial
  · cases h; exact .of (by kernel_rfl) (by kernel_rfl) trivial
  · cases h; exact .of (by kernel_rfl) (by kernel_rfl) trivial
  · cases h; exact .of (by kernel_rfl) (by kernel_rfl) trivial
  · cases h; exact .of (by kernel_rfl) (by kernel_rfl) trivial
  · cases h; exact .of (by kernel_rfl) (by kernel_rfl) trivial
  · cases h; exact .of (by kernel_rfl) (by kernel_rfl) trivial
  · cases h; exact .of (by kernel_rfl) (by kernel_rfl) trivial
  · cases h; exact .of (by kernel_rfl) (by kernel_rfl) trivial
  · cases h; exact .of (by kernel_rfl) (by kernel_rfl) trivial
  · cases h; exact .of (by kernel_rfl) (by kernel_rfl) trivial
  · cases h; exact .of (by kernel_rfl) (by kernel_rfl) trivial
  · cases h; exact .of (by kernel_rfl) (by kernel_rfl) trivial
  · cases h; exact .of (by kernel_rfl) (by kernel_rfl) trivial
  · cases h; exact .of (by kernel_rfl) (by kernel_rfl) trivial
  · cases h; exact .of (by kernel_rfl) (by kernel_rfl) trivial
  · cases h; exact .of (by kernel_rfl) (by kernel_rfl) trivial
  · cases h; exact .of (by kernel_rfl) (by kernel_rfl) trivial
  · cases h; exact .of (by kernel_rfl) (by kernel_rfl) trivial
  · cases h; exact .of (by kernel_rfl) (by kernel_rfl) trivial
  · cases h; exact .of (by kernel_rfl) (by kernel_rfl) trivial
  · cases h; exact .of (by kernel_rfl) (by kernel_rfl) trivial
  · cases h; exact .of (by kernel_rfl) (by kernel_rfl) trivial
  · cases h; exact .of (by kernel_rfl) (by kernel_rfl) trivial
  · cases h; exact .of (by kernel_rfl) (by kernel_rfl) trivial
  · cases h; exact .of (by kernel_rfl) (by kernel_rfl) trivial
  · cases h; exact .of (by kernel_rfl) (by kernel_rfl) trivial
  · cases h; exact .of (by kernel_rfl) (by kernel_rfl) trivial
  · cases h; exact .of (by kernel_rfl) (by kernel_rfl) trivial
  · cases h; exact .of (by kernel_rfl) (by kernel_rfl) trivial
  · cases h; exact .of (by kernel_rfl) (by kernel_rfl) trivial
  · cases h; exact .of (by kernel_rfl) (by kernel_rfl) trivial
  · cases h; exact .of (by kernel_rfl) (by kernel_rfl) trivial
  · cases h; exact .of (by kernel_rfl) (by kernel_rfl) trivial
  · cases h
theorem mixed : Try.prog.follows .mixedOrders = true := by kernel_rfl
end Go.Proofs.Ytcleiaibcfocdaa.Am
