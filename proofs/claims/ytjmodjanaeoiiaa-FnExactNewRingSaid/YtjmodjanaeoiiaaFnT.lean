/- The seat's types, as the plain steps want them. -/
import Derived.Test.YtjmodjanaeoiiaaBvM4
import Derived.Test.YtjmodjanaeoiiaaProg
namespace Go.Proofs.Ytjmodjanaeoiiaa
open Go Go.RowKit Go.Bv
set_option linter.unusedSimpArgs false
set_option linter.unusedVariables false
noncomputable abbrev P := Go.Proofs.Try.prog
theorem mixed : P.follows .mixedOrders = true := by rfl
noncomputable abbrev G : Tab := tabOf P
theorem hT : TabOk P G := tabOf_ok P mixed
theorem kind3 : G.kind 3 = .int .i64 := kind_eq Go.Proofs.Try.type3 Go.Proofs.Try.underlying3
theorem size3 : G.size 3 = 1 := by rw [size_eq Go.Proofs.Try.type3]; rfl
theorem bytes3 : G.bytes 3 = 8 := by rw [bytes_eq Go.Proofs.Try.type3]; rfl
theorem kind4 : G.kind 4 = .bool := kind_eq Go.Proofs.Try.type4 Go.Proofs.Try.underlying4
theorem size4 : G.size 4 = 1 := by rw [size_eq Go.Proofs.Try.type4]; rfl
theorem bytes4 : G.bytes 4 = 1 := by rw [bytes_eq Go.Proofs.Try.type4]; rfl
theorem kind5 : G.kind 5 = .int .u8 := kind_eq Go.Proofs.Try.type5 Go.Proofs.Try.underlying5
theorem size5 : G.size 5 = 1 := by rw [size_eq Go.Proofs.Try.type5]; rfl
theorem bytes5 : G.bytes 5 = 1 := by rw [bytes_eq Go.Proofs.Try.type5]; rfl
theorem kind9 : G.kind 9 = .str := kind_eq Go.Proofs.Try.type9 Go.Proofs.Try.underlying9
theorem size9 : G.size 9 = 1 := by rw [size_eq Go.Proofs.Try.type9]; rfl
theorem bytes9 : G.bytes 9 = 16 := by rw [bytes_eq Go.Proofs.Try.type9]; rfl
theorem kind21 : G.kind 21 = .int .i32 := kind_eq Go.Proofs.Try.type21 Go.Proofs.Try.underlying21
theorem size21 : G.size 21 = 1 := by rw [size_eq Go.Proofs.Try.type21]; rfl
theorem bytes21 : G.bytes 21 = 4 := by rw [bytes_eq Go.Proofs.Try.type21]; rfl
theorem kind22 : G.kind 22 = .sl 87 := kind_eq Go.Proofs.Try.type22 Go.Proofs.Try.underlying22
theorem size22 : G.size 22 = 1 := by rw [size_eq Go.Proofs.Try.type22]; rfl
theorem bytes22 : G.bytes 22 = 24 := by rw [bytes_eq Go.Proofs.Try.type22]; rfl
theorem kind25 : G.kind 25 = .sl 89 := kind_eq Go.Proofs.Try.type25 Go.Proofs.Try.underlying25
theorem size25 : G.size 25 = 1 := by rw [size_eq Go.Proofs.Try.type25]; rfl
theorem bytes25 : G.bytes 25 = 24 := by rw [bytes_eq Go.Proofs.Try.type25]; rfl
theorem kind34 : G.kind 34 = .sl 54 := kind_eq Go.Proofs.Try.type34 Go.Proofs.Try.underlying34
theorem size34 : G.size 34 = 1 := by rw [size_eq Go.Proofs.Try.type34]; rfl
theorem bytes34 : G.bytes 34 = 24 := by rw [bytes_eq Go.Proofs.Try.type34]; rfl
theorem kind35 : G.kind 35 = .sl 57 := kind_eq Go.Proofs.Try.type35 Go.Proofs.Try.underlying35
theorem size35 : G.size 35 = 1 := by rw [size_eq Go.Proofs.Try.type35]; rfl
theorem bytes35 : G.bytes 35 = 24 := by rw [bytes_eq Go.Proofs.Try.type35]; rfl
theorem kind36 : G.kind 36 = .sl 3 := kind_eq Go.Proofs.Try.type36 Go.Proofs.Try.underlying36
theorem size36 : G.size 36 = 1 := by rw [size_eq Go.Proofs.Try.type36]; rfl
theorem bytes36 : G.bytes 36 = 24 := by rw [bytes_eq Go.Proofs.Try.type36]; rfl
theorem kind38 : G.kind 38 = .st [3, 3, 34, 3, 35, 36, 36, 4] := kind_eq Go.Proofs.Try.type38 Go.Proofs.Try.underlying38
theorem size38 : G.size 38 = 8 := by rw [size_eq Go.Proofs.Try.type38]; rfl
theorem bytes38 : G.bytes 38 = 128 := by rw [bytes_eq Go.Proofs.Try.type38]; rfl
theorem off38_0 : G.off 38 0 = 0 := by rw [off_eq (f := 0) Go.Proofs.Try.underlying38 rfl]; rfl
theorem off38_1 : G.off 38 1 = 1 := by rw [off_eq (f := 1) Go.Proofs.Try.underlying38 rfl]; rfl
theorem off38_2 : G.off 38 2 = 2 := by rw [off_eq (f := 2) Go.Proofs.Try.underlying38 rfl]; rfl
theorem off38_3 : G.off 38 3 = 3 := by rw [off_eq (f := 3) Go.Proofs.Try.underlying38 rfl]; rfl
theorem off38_4 : G.off 38 4 = 4 := by rw [off_eq (f := 4) Go.Proofs.Try.underlying38 rfl]; rfl
theorem off38_5 : G.off 38 5 = 5 := by rw [off_eq (f := 5) Go.Proofs.Try.underlying38 rfl]; rfl
theorem off38_6 : G.off 38 6 = 6 := by rw [off_eq (f := 6) Go.Proofs.Try.underlying38 rfl]; rfl
theorem off38_7 : G.off 38 7 = 7 := by rw [off_eq (f := 7) Go.Proofs.Try.underlying38 rfl]; rfl
theorem kind44 : G.kind 44 = .sl 5 := kind_eq Go.Proofs.Try.type44 Go.Proofs.Try.underlying44
theorem size44 : G.size 44 = 1 := by rw [size_eq Go.Proofs.Try.type44]; rfl
theorem bytes44 : G.bytes 44 = 24 := by rw [bytes_eq Go.Proofs.Try.type44]; rfl
theorem kind54 : G.kind 54 = .st [3, 3, 9] := kind_eq Go.Proofs.Try.type54 Go.Proofs.Try.underlying54
theorem size54 : G.size 54 = 3 := by rw [size_eq Go.Proofs.Try.type54]; rfl
theorem bytes54 : G.bytes 54 = 32 := by rw [bytes_eq Go.Proofs.Try.type54]; rfl
theorem off54_0 : G.off 54 0 = 0 := by rw [off_eq (f := 0) Go.Proofs.Try.underlying54 rfl]; rfl
theorem off54_1 : G.off 54 1 = 1 := by rw [off_eq (f := 1) Go.Proofs.Try.underlying54 rfl]; rfl
theorem off54_2 : G.off 54 2 = 2 := by rw [off_eq (f := 2) Go.Proofs.Try.underlying54 rfl]; rfl
theorem kind57 : G.kind 57 = .st [3, 3, 3, 3, 3, 3, 25] := kind_eq Go.Proofs.Try.type57 Go.Proofs.Try.underlying57
theorem size57 : G.size 57 = 7 := by rw [size_eq Go.Proofs.Try.type57]; rfl
theorem bytes57 : G.bytes 57 = 72 := by rw [bytes_eq Go.Proofs.Try.type57]; rfl
theorem off57_0 : G.off 57 0 = 0 := by rw [off_eq (f := 0) Go.Proofs.Try.underlying57 rfl]; rfl
theorem off57_1 : G.off 57 1 = 1 := by rw [off_eq (f := 1) Go.Proofs.Try.underlying57 rfl]; rfl
theorem off57_2 : G.off 57 2 = 2 := by rw [off_eq (f := 2) Go.Proofs.Try.underlying57 rfl]; rfl
theorem off57_3 : G.off 57 3 = 3 := by rw [off_eq (f := 3) Go.Proofs.Try.underlying57 rfl]; rfl
theorem off57_4 : G.off 57 4 = 4 := by rw [off_eq (f := 4) Go.Proofs.Try.underlying57 rfl]; rfl
theorem off57_5 : G.off 57 5 = 5 := by rw [off_eq (f := 5) Go.Proofs.Try.underlying57 rfl]; rfl
theorem off57_6 : G.off 57 6 = 6 := by rw [off_eq (f := 6) Go.Proofs.Try.underlying57 rfl]; rfl
theorem kind61 : G.kind 61 = .st [3, 54, 3, 3] := kind_eq Go.Proofs.Try.type61 Go.Proofs.Try.underlying61
theorem size61 : G.size 61 = 6 := by rw [size_eq Go.Proofs.Try.type61]; rfl
theorem bytes61 : G.bytes 61 = 56 := by rw [bytes_eq Go.Proofs.Try.type61]; rfl
theorem off61_0 : G.off 61 0 = 0 := by rw [off_eq (f := 0) Go.Proofs.Try.underlying61 rfl]; rfl
theorem off61_1 : G.off 61 1 = 1 := by rw [off_eq (f := 1) Go.Proofs.Try.underlying61 rfl]; rfl
theorem off61_2 : G.off 61 2 = 4 := by rw [off_eq (f := 2) Go.Proofs.Try.underlying61 rfl]; rfl
theorem off61_3 : G.off 61 3 = 5 := by rw [off_eq (f := 3) Go.Proofs.Try.underlying61 rfl]; rfl
theorem kind68 : G.kind 68 = .st [3, 3, 9] := kind_eq Go.Proofs.Try.type68 Go.Proofs.Try.underlying68
theorem size68 : G.size 68 = 3 := by rw [size_eq Go.Proofs.Try.type68]; rfl
theorem bytes68 : G.bytes 68 = 32 := by rw [bytes_eq Go.Proofs.Try.type68]; rfl
theorem off68_0 : G.off 68 0 = 0 := by rw [off_eq (f := 0) Go.Proofs.Try.underlying68 rfl]; rfl
theorem off68_1 : G.off 68 1 = 1 := by rw [off_eq (f := 1) Go.Proofs.Try.underlying68 rfl]; rfl
theorem off68_2 : G.off 68 2 = 2 := by rw [off_eq (f := 2) Go.Proofs.Try.underlying68 rfl]; rfl
theorem kind70 : G.kind 70 = .st [68, 3, 4, 36, 36] := kind_eq Go.Proofs.Try.type70 Go.Proofs.Try.underlying70
theorem size70 : G.size 70 = 7 := by rw [size_eq Go.Proofs.Try.type70]; rfl
theorem bytes70 : G.bytes 70 = 96 := by rw [bytes_eq Go.Proofs.Try.type70]; rfl
theorem off70_0 : G.off 70 0 = 0 := by rw [off_eq (f := 0) Go.Proofs.Try.underlying70 rfl]; rfl
theorem off70_1 : G.off 70 1 = 3 := by rw [off_eq (f := 1) Go.Proofs.Try.underlying70 rfl]; rfl
theorem off70_2 : G.off 70 2 = 4 := by rw [off_eq (f := 2) Go.Proofs.Try.underlying70 rfl]; rfl
theorem off70_3 : G.off 70 3 = 5 := by rw [off_eq (f := 3) Go.Proofs.Try.underlying70 rfl]; rfl
theorem off70_4 : G.off 70 4 = 6 := by rw [off_eq (f := 4) Go.Proofs.Try.underlying70 rfl]; rfl
theorem kind73 : G.kind 73 = .st [54, 3, 4, 36, 36] := kind_eq Go.Proofs.Try.type73 Go.Proofs.Try.underlying73
theorem size73 : G.size 73 = 7 := by rw [size_eq Go.Proofs.Try.type73]; rfl
theorem bytes73 : G.bytes 73 = 96 := by rw [bytes_eq Go.Proofs.Try.type73]; rfl
theorem off73_0 : G.off 73 0 = 0 := by rw [off_eq (f := 0) Go.Proofs.Try.underlying73 rfl]; rfl
theorem off73_1 : G.off 73 1 = 3 := by rw [off_eq (f := 1) Go.Proofs.Try.underlying73 rfl]; rfl
theorem off73_2 : G.off 73 2 = 4 := by rw [off_eq (f := 2) Go.Proofs.Try.underlying73 rfl]; rfl
theorem off73_3 : G.off 73 3 = 5 := by rw [off_eq (f := 3) Go.Proofs.Try.underlying73 rfl]; rfl
theorem off73_4 : G.off 73 4 = 6 := by rw [off_eq (f := 4) Go.Proofs.Try.underlying73 rfl]; rfl
theorem kind87 : G.kind 87 = .st [3, 3, 9] := kind_eq Go.Proofs.Try.type87 Go.Proofs.Try.underlying87
theorem size87 : G.size 87 = 3 := by rw [size_eq Go.Proofs.Try.type87]; rfl
theorem bytes87 : G.bytes 87 = 32 := by rw [bytes_eq Go.Proofs.Try.type87]; rfl
theorem off87_0 : G.off 87 0 = 0 := by rw [off_eq (f := 0) Go.Proofs.Try.underlying87 rfl]; rfl
theorem off87_1 : G.off 87 1 = 1 := by rw [off_eq (f := 1) Go.Proofs.Try.underlying87 rfl]; rfl
theorem off87_2 : G.off 87 2 = 2 := by rw [off_eq (f := 2) Go.Proofs.Try.underlying87 rfl]; rfl
theorem kind89 : G.kind 89 = .st [3, 3, 9] := kind_eq Go.Proofs.Try.type89 Go.Proofs.Try.underlying89
theorem size89 : G.size 89 = 3 := by rw [size_eq Go.Proofs.Try.type89]; rfl
theorem bytes89 : G.bytes 89 = 32 := by rw [bytes_eq Go.Proofs.Try.type89]; rfl
theorem off89_0 : G.off 89 0 = 0 := by rw [off_eq (f := 0) Go.Proofs.Try.underlying89 rfl]; rfl
theorem off89_1 : G.off 89 1 = 1 := by rw [off_eq (f := 1) Go.Proofs.Try.underlying89 rfl]; rfl
theorem off89_2 : G.off 89 2 = 2 := by rw [off_eq (f := 2) Go.Proofs.Try.underlying89 rfl]; rfl
theorem kind103 : G.kind 103 = .ptr := kind_eq Go.Proofs.Try.type103 Go.Proofs.Try.underlying103
theorem size103 : G.size 103 = 1 := by rw [size_eq Go.Proofs.Try.type103]; rfl
theorem bytes103 : G.bytes 103 = 8 := by rw [bytes_eq Go.Proofs.Try.type103]; rfl
theorem kind118 : G.kind 118 = .sl 9 := kind_eq Go.Proofs.Try.type118 Go.Proofs.Try.underlying118
theorem size118 : G.size 118 = 1 := by rw [size_eq Go.Proofs.Try.type118]; rfl
theorem bytes118 : G.bytes 118 = 24 := by rw [bytes_eq Go.Proofs.Try.type118]; rfl
theorem kind127 : G.kind 127 = .sl 25 := kind_eq Go.Proofs.Try.type127 Go.Proofs.Try.underlying127
theorem size127 : G.size 127 = 1 := by rw [size_eq Go.Proofs.Try.type127]; rfl
theorem bytes127 : G.bytes 127 = 24 := by rw [bytes_eq Go.Proofs.Try.type127]; rfl
theorem kind131 : G.kind 131 = .st [44, 3, 3] := kind_eq Go.Proofs.Try.type131 Go.Proofs.Try.underlying131
theorem size131 : G.size 131 = 3 := by rw [size_eq Go.Proofs.Try.type131]; rfl
theorem bytes131 : G.bytes 131 = 40 := by rw [bytes_eq Go.Proofs.Try.type131]; rfl
theorem off131_0 : G.off 131 0 = 0 := by rw [off_eq (f := 0) Go.Proofs.Try.underlying131 rfl]; rfl
theorem off131_1 : G.off 131 1 = 1 := by rw [off_eq (f := 1) Go.Proofs.Try.underlying131 rfl]; rfl
theorem off131_2 : G.off 131 2 = 2 := by rw [off_eq (f := 2) Go.Proofs.Try.underlying131 rfl]; rfl
theorem kind142 : G.kind 142 = .sl 4 := kind_eq Go.Proofs.Try.type142 Go.Proofs.Try.underlying142
theorem size142 : G.size 142 = 1 := by rw [size_eq Go.Proofs.Try.type142]; rfl
theorem bytes142 : G.bytes 142 = 24 := by rw [bytes_eq Go.Proofs.Try.type142]; rfl
theorem kind144 : G.kind 144 = .ptr := kind_eq Go.Proofs.Try.type144 Go.Proofs.Try.underlying144
theorem size144 : G.size 144 = 1 := by rw [size_eq Go.Proofs.Try.type144]; rfl
theorem bytes144 : G.bytes 144 = 8 := by rw [bytes_eq Go.Proofs.Try.type144]; rfl
theorem kind146 : G.kind 146 = .ptr := kind_eq Go.Proofs.Try.type146 Go.Proofs.Try.underlying146
theorem size146 : G.size 146 = 1 := by rw [size_eq Go.Proofs.Try.type146]; rfl
theorem bytes146 : G.bytes 146 = 8 := by rw [bytes_eq Go.Proofs.Try.type146]; rfl
theorem kind148 : G.kind 148 = .st [146, 44] := kind_eq Go.Proofs.Try.type148 Go.Proofs.Try.underlying148
theorem size148 : G.size 148 = 2 := by rw [size_eq Go.Proofs.Try.type148]; rfl
theorem bytes148 : G.bytes 148 = 32 := by rw [bytes_eq Go.Proofs.Try.type148]; rfl
theorem off148_0 : G.off 148 0 = 0 := by rw [off_eq (f := 0) Go.Proofs.Try.underlying148 rfl]; rfl
theorem off148_1 : G.off 148 1 = 1 := by rw [off_eq (f := 1) Go.Proofs.Try.underlying148 rfl]; rfl
theorem kind162 : G.kind 162 = .ptr := kind_eq Go.Proofs.Try.type162 Go.Proofs.Try.underlying162
theorem size162 : G.size 162 = 1 := by rw [size_eq Go.Proofs.Try.type162]; rfl
theorem bytes162 : G.bytes 162 = 8 := by rw [bytes_eq Go.Proofs.Try.type162]; rfl
theorem kind165 : G.kind 165 = .sl 36 := kind_eq Go.Proofs.Try.type165 Go.Proofs.Try.underlying165
theorem size165 : G.size 165 = 1 := by rw [size_eq Go.Proofs.Try.type165]; rfl
theorem bytes165 : G.bytes 165 = 24 := by rw [bytes_eq Go.Proofs.Try.type165]; rfl
theorem kind172 : G.kind 172 = .int .u32 := kind_eq Go.Proofs.Try.type172 Go.Proofs.Try.underlying172
theorem size172 : G.size 172 = 1 := by rw [size_eq Go.Proofs.Try.type172]; rfl
theorem bytes172 : G.bytes 172 = 4 := by rw [bytes_eq Go.Proofs.Try.type172]; rfl
theorem kindOf3 : kindOf P 3 = .int .i64 := kindOf_eq Go.Proofs.Try.type3 Go.Proofs.Try.underlying3
theorem kindOf4 : kindOf P 4 = .bool := kindOf_eq Go.Proofs.Try.type4 Go.Proofs.Try.underlying4
theorem kindOf5 : kindOf P 5 = .int .u8 := kindOf_eq Go.Proofs.Try.type5 Go.Proofs.Try.underlying5
theorem kindOf9 : kindOf P 9 = .str := kindOf_eq Go.Proofs.Try.type9 Go.Proofs.Try.underlying9
theorem kindOf21 : kindOf P 21 = .int .i32 := kindOf_eq Go.Proofs.Try.type21 Go.Proofs.Try.underlying21
theorem kindOf22 : kindOf P 22 = .sl 87 := kindOf_eq Go.Proofs.Try.type22 Go.Proofs.Try.underlying22
theorem kindOf25 : kindOf P 25 = .sl 89 := kindOf_eq Go.Proofs.Try.type25 Go.Proofs.Try.underlying25
theorem kindOf34 : kindOf P 34 = .sl 54 := kindOf_eq Go.Proofs.Try.type34 Go.Proofs.Try.underlying34
theorem kindOf35 : kindOf P 35 = .sl 57 := kindOf_eq Go.Proofs.Try.type35 Go.Proofs.Try.underlying35
theorem kindOf36 : kindOf P 36 = .sl 3 := kindOf_eq Go.Proofs.Try.type36 Go.Proofs.Try.underlying36
theorem kindOf38 : kindOf P 38 = .st [3, 3, 34, 3, 35, 36, 36, 4] := kindOf_eq Go.Proofs.Try.type38 Go.Proofs.Try.underlying38
theorem kindOf44 : kindOf P 44 = .sl 5 := kindOf_eq Go.Proofs.Try.type44 Go.Proofs.Try.underlying44
theorem kindOf54 : kindOf P 54 = .st [3, 3, 9] := kindOf_eq Go.Proofs.Try.type54 Go.Proofs.Try.underlying54
theorem kindOf57 : kindOf P 57 = .st [3, 3, 3, 3, 3, 3, 25] := kindOf_eq Go.Proofs.Try.type57 Go.Proofs.Try.underlying57
theorem kindOf61 : kindOf P 61 = .st [3, 54, 3, 3] := kindOf_eq Go.Proofs.Try.type61 Go.Proofs.Try.underlying61
theorem kindOf68 : kindOf P 68 = .st [3, 3, 9] := kindOf_eq Go.Proofs.Try.type68 Go.Proofs.Try.underlying68
theorem kindOf70 : kindOf P 70 = .st [68, 3, 4, 36, 36] := kindOf_eq Go.Proofs.Try.type70 Go.Proofs.Try.underlying70
theorem kindOf73 : kindOf P 73 = .st [54, 3, 4, 36, 36] := kindOf_eq Go.Proofs.Try.type73 Go.Proofs.Try.underlying73
theorem kindOf87 : kindOf P 87 = .st [3, 3, 9] := kindOf_eq Go.Proofs.Try.type87 Go.Proofs.Try.underlying87
theorem kindOf89 : kindOf P 89 = .st [3, 3, 9] := kindOf_eq Go.Proofs.Try.type89 Go.Proofs.Try.underlying89
theorem kindOf103 : kindOf P 103 = .ptr := kindOf_eq Go.Proofs.Try.type103 Go.Proofs.Try.underlying103
theorem kindOf118 : kindOf P 118 = .sl 9 := kindOf_eq Go.Proofs.Try.type118 Go.Proofs.Try.underlying118
theorem kindOf127 : kindOf P 127 = .sl 25 := kindOf_eq Go.Proofs.Try.type127 Go.Proofs.Try.underlying127
theorem kindOf131 : kindOf P 131 = .st [44, 3, 3] := kindOf_eq Go.Proofs.Try.type131 Go.Proofs.Try.underlying131
theorem kindOf142 : kindOf P 142 = .sl 4 := kindOf_eq Go.Proofs.Try.type142 Go.Proofs.Try.underlying142
theorem kindOf144 : kindOf P 144 = .ptr := kindOf_eq Go.Proofs.Try.type144 Go.Proofs.Try.underlying144
theorem kindOf146 : kindOf P 146 = .ptr := kindOf_eq Go.Proofs.Try.type146 Go.Proofs.Try.underlying146
theorem kindOf148 : kindOf P 148 = .st [146, 44] := kindOf_eq Go.Proofs.Try.type148 Go.Proofs.Try.underlying148
theorem kindOf162 : kindOf P 162 = .ptr := kindOf_eq Go.Proofs.Try.type162 Go.Proofs.Try.underlying162
theorem kindOf165 : kindOf P 165 = .sl 36 := kindOf_eq Go.Proofs.Try.type165 Go.Proofs.Try.underlying165
theorem kindOf172 : kindOf P 172 = .int .u32 := kindOf_eq Go.Proofs.Try.type172 Go.Proofs.Try.underlying172
theorem tagOf3 : tagOf P 3 = 0 := tagOf_no kindOf3 (by simp)
theorem tagOf4 : tagOf P 4 = 0 := tagOf_no kindOf4 (by simp)
theorem tagOf5 : tagOf P 5 = 0 := tagOf_no kindOf5 (by simp)
theorem tagOf9 : tagOf P 9 = 0 := tagOf_no kindOf9 (by simp)
theorem tagOf21 : tagOf P 21 = 0 := tagOf_no kindOf21 (by simp)
theorem tagOf22 : tagOf P 22 = 3 := tagOf_eq kindOf22 Go.Proofs.Try.type87
theorem tagOf25 : tagOf P 25 = 3 := tagOf_eq kindOf25 Go.Proofs.Try.type89
theorem tagOf34 : tagOf P 34 = 3 := tagOf_eq kindOf34 Go.Proofs.Try.type54
theorem tagOf35 : tagOf P 35 = 7 := tagOf_eq kindOf35 Go.Proofs.Try.type57
theorem tagOf36 : tagOf P 36 = 1 := tagOf_eq kindOf36 Go.Proofs.Try.type3
theorem tagOf44 : tagOf P 44 = 1 := tagOf_eq kindOf44 Go.Proofs.Try.type5
theorem tagOf103 : tagOf P 103 = 0 := tagOf_no kindOf103 (by simp)
theorem tagOf118 : tagOf P 118 = 1 := tagOf_eq kindOf118 Go.Proofs.Try.type9
theorem tagOf127 : tagOf P 127 = 1 := tagOf_eq kindOf127 Go.Proofs.Try.type25
theorem tagOf142 : tagOf P 142 = 1 := tagOf_eq kindOf142 Go.Proofs.Try.type4
theorem tagOf144 : tagOf P 144 = 0 := tagOf_no kindOf144 (by simp)
theorem tagOf146 : tagOf P 146 = 0 := tagOf_no kindOf146 (by simp)
theorem tagOf162 : tagOf P 162 = 0 := tagOf_no kindOf162 (by simp)
theorem tagOf165 : tagOf P 165 = 1 := tagOf_eq kindOf165 Go.Proofs.Try.type36
theorem tagOf172 : tagOf P 172 = 0 := tagOf_no kindOf172 (by simp)
theorem zero3 : G.zero 3 = some (.int .i64 0) := zero_eq Go.Proofs.Try.type3 rfl rfl (by simp only [zread, zreads, zread1, kindOf3, tagOf3]; rfl)
theorem zero4 : G.zero 4 = some (.bool false) := zero_eq Go.Proofs.Try.type4 rfl rfl (by simp only [zread, zreads, zread1, kindOf4, tagOf4]; rfl)
theorem zero5 : G.zero 5 = some (.int .u8 0) := zero_eq Go.Proofs.Try.type5 rfl rfl (by simp only [zread, zreads, zread1, kindOf5, tagOf5]; rfl)
theorem zero9 : G.zero 9 = some (.str { data := #[] }) := zero_eq Go.Proofs.Try.type9 rfl rfl (by simp only [zread, zreads, zread1, kindOf9, tagOf9]; rfl)
theorem zero21 : G.zero 21 = some (.int .i32 0) := zero_eq Go.Proofs.Try.type21 rfl rfl (by simp only [zread, zreads, zread1, kindOf21, tagOf21]; rfl)
theorem zero22 : G.zero 22 = some (.lst true 3 []) := zero_eq Go.Proofs.Try.type22 rfl rfl (by simp only [zread, zreads, zread1, kindOf3, kindOf9, kindOf22, kindOf87, tagOf3, tagOf9, tagOf22]; rfl)
theorem zero25 : G.zero 25 = some (.lst true 3 []) := zero_eq Go.Proofs.Try.type25 rfl rfl (by simp only [zread, zreads, zread1, kindOf3, kindOf9, kindOf25, kindOf89, tagOf3, tagOf9, tagOf25]; rfl)
theorem zero34 : G.zero 34 = some (.lst true 3 []) := zero_eq Go.Proofs.Try.type34 rfl rfl (by simp only [zread, zreads, zread1, kindOf3, kindOf9, kindOf34, kindOf54, tagOf3, tagOf9, tagOf34]; rfl)
theorem zero35 : G.zero 35 = some (.lst true 7 []) := zero_eq Go.Proofs.Try.type35 rfl rfl (by simp only [zread, zreads, zread1, kindOf3, kindOf9, kindOf25, kindOf35, kindOf57, kindOf89, tagOf3, tagOf9, tagOf25, tagOf35]; rfl)
theorem zero36 : G.zero 36 = some (.lst true 1 []) := zero_eq Go.Proofs.Try.type36 rfl rfl (by simp only [zread, zreads, zread1, kindOf3, kindOf36, tagOf3, tagOf36]; rfl)
theorem zero38 : G.zero 38 = some (.agg [.int .i64 0, .int .i64 0, .lst true 3 [], .int .i64 0, .lst true 7 [], .lst true 1 [], .lst true 1 [], .bool false]) := zero_eq Go.Proofs.Try.type38 rfl rfl (by simp only [zread, zreads, zread1, kindOf3, kindOf4, kindOf9, kindOf25, kindOf34, kindOf35, kindOf36, kindOf38, kindOf54, kindOf57, kindOf89, tagOf3, tagOf4, tagOf9, tagOf25, tagOf34, tagOf35, tagOf36]; rfl)
theorem zero44 : G.zero 44 = some (.lst true 1 []) := zero_eq Go.Proofs.Try.type44 rfl rfl (by simp only [zread, zreads, zread1, kindOf5, kindOf44, tagOf5, tagOf44]; rfl)
theorem zero54 : G.zero 54 = some (.agg [.int .i64 0, .int .i64 0, .str { data := #[] }]) := zero_eq Go.Proofs.Try.type54 rfl rfl (by simp only [zread, zreads, zread1, kindOf3, kindOf9, kindOf54, tagOf3, tagOf9]; rfl)
theorem zero57 : G.zero 57 = some (.agg [.int .i64 0, .int .i64 0, .int .i64 0, .int .i64 0, .int .i64 0, .int .i64 0, .lst true 3 []]) := zero_eq Go.Proofs.Try.type57 rfl rfl (by simp only [zread, zreads, zread1, kindOf3, kindOf9, kindOf25, kindOf57, kindOf89, tagOf3, tagOf9, tagOf25]; rfl)
theorem zero61 : G.zero 61 = some (.agg [.int .i64 0, .agg [.int .i64 0, .int .i64 0, .str { data := #[] }], .int .i64 0, .int .i64 0]) := zero_eq Go.Proofs.Try.type61 rfl rfl (by simp only [zread, zreads, zread1, kindOf3, kindOf9, kindOf54, kindOf61, tagOf3, tagOf9]; rfl)
theorem zero68 : G.zero 68 = some (.agg [.int .i64 0, .int .i64 0, .str { data := #[] }]) := zero_eq Go.Proofs.Try.type68 rfl rfl (by simp only [zread, zreads, zread1, kindOf3, kindOf9, kindOf68, tagOf3, tagOf9]; rfl)
theorem zero70 : G.zero 70 = some (.agg [.agg [.int .i64 0, .int .i64 0, .str { data := #[] }], .int .i64 0, .bool false, .lst true 1 [], .lst true 1 []]) := zero_eq Go.Proofs.Try.type70 rfl rfl (by simp only [zread, zreads, zread1, kindOf3, kindOf4, kindOf9, kindOf36, kindOf68, kindOf70, tagOf3, tagOf4, tagOf9, tagOf36]; rfl)
theorem zero73 : G.zero 73 = some (.agg [.agg [.int .i64 0, .int .i64 0, .str { data := #[] }], .int .i64 0, .bool false, .lst true 1 [], .lst true 1 []]) := zero_eq Go.Proofs.Try.type73 rfl rfl (by simp only [zread, zreads, zread1, kindOf3, kindOf4, kindOf9, kindOf36, kindOf54, kindOf73, tagOf3, tagOf4, tagOf9, tagOf36]; rfl)
theorem zero87 : G.zero 87 = some (.agg [.int .i64 0, .int .i64 0, .str { data := #[] }]) := zero_eq Go.Proofs.Try.type87 rfl rfl (by simp only [zread, zreads, zread1, kindOf3, kindOf9, kindOf87, tagOf3, tagOf9]; rfl)
theorem zero89 : G.zero 89 = some (.agg [.int .i64 0, .int .i64 0, .str { data := #[] }]) := zero_eq Go.Proofs.Try.type89 rfl rfl (by simp only [zread, zreads, zread1, kindOf3, kindOf9, kindOf89, tagOf3, tagOf9]; rfl)
theorem zero118 : G.zero 118 = some (.lst true 1 []) := zero_eq Go.Proofs.Try.type118 rfl rfl (by simp only [zread, zreads, zread1, kindOf9, kindOf118, tagOf9, tagOf118]; rfl)
theorem zero127 : G.zero 127 = some (.lst true 1 []) := zero_eq Go.Proofs.Try.type127 rfl rfl (by simp only [zread, zreads, zread1, kindOf3, kindOf9, kindOf25, kindOf89, kindOf127, tagOf3, tagOf9, tagOf25, tagOf127]; rfl)
theorem zero131 : G.zero 131 = some (.agg [.lst true 1 [], .int .i64 0, .int .i64 0]) := zero_eq Go.Proofs.Try.type131 rfl rfl (by simp only [zread, zreads, zread1, kindOf3, kindOf5, kindOf44, kindOf131, tagOf3, tagOf5, tagOf44]; rfl)
theorem zero142 : G.zero 142 = some (.lst true 1 []) := zero_eq Go.Proofs.Try.type142 rfl rfl (by simp only [zread, zreads, zread1, kindOf4, kindOf142, tagOf4, tagOf142]; rfl)
theorem zero165 : G.zero 165 = some (.lst true 1 []) := zero_eq Go.Proofs.Try.type165 rfl rfl (by simp only [zread, zreads, zread1, kindOf3, kindOf36, kindOf165, tagOf3, tagOf36, tagOf165]; rfl)
theorem zero172 : G.zero 172 = some (.int .u32 0) := zero_eq Go.Proofs.Try.type172 rfl rfl (by simp only [zread, zreads, zread1, kindOf172, tagOf172]; rfl)
attribute [go_sem] kind3 size3 bytes3 kind4 size4 bytes4 kind5 size5 bytes5 kind9 size9 bytes9 kind21 size21 bytes21 kind22 size22 bytes22 kind25 size25 bytes25 kind34 size34 bytes34 kind35 size35 bytes35 kind36 size36 bytes36 kind38 size38 bytes38 off38_0 off38_1 off38_2 off38_3 off38_4 off38_5 off38_6
attribute [go_sem] off38_7 kind44 size44 bytes44 kind54 size54 bytes54 off54_0 off54_1 off54_2 kind57 size57 bytes57 off57_0 off57_1 off57_2 off57_3 off57_4 off57_5 off57_6 kind61 size61 bytes61 off61_0 off61_1 off61_2 off61_3 kind68 size68 bytes68 off68_0 off68_1 off68_2 kind70 size70 bytes70 off70_0 off70_1 off70_2 off70_3
attribute [go_sem] off70_4 kind73 size73 bytes73 off73_0 off73_1 off73_2 off73_3 off73_4 kind87 size87 bytes87 off87_0 off87_1 off87_2 kind89 size89 bytes89 off89_0 off89_1 off89_2 kind103 size103 bytes103 kind118 size118 bytes118 kind127 size127 bytes127 kind131 size131 bytes131 off131_0 off131_1 off131_2 kind142 size142 bytes142 kind144
attribute [go_sem] size144 bytes144 kind146 size146 bytes146 kind148 size148 bytes148 off148_0 off148_1 kind162 size162 bytes162 kind165 size165 bytes165 kind172 size172 bytes172 zero3 zero4 zero5 zero9 zero21 zero22 zero25 zero34 zero35 zero36 zero38 zero44 zero54 zero57 zero61 zero68 zero70 zero73 zero87 zero89 zero118
attribute [go_sem] zero127 zero131 zero142 zero165 zero172
end Go.Proofs.Ytjmodjanaeoiiaa
